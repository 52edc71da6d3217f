/- The contract of Parse: the loop over the pieces. -/
import Derived.Test.YtgkebfeggekkgaaDoorHq
set_option linter.unusedVariables false
set_option linter.unusedSimpArgs false
namespace Go.Proofs.YtgkebfeggekkgaaDoor.Given
open Go.RowKit Go.Proofs.YtgkebfeggekkgaaDoor.PT Go.Proofs.YtgkebfeggekkgaaDoorW.PrintWords Go.Proofs.YtgkebfeggekkgaaDoorW.PrintLast Go.Proofs.YtgkebfeggekkgaaDoorW.PrintMore

/-- a part's block stands, and all that is older than it -/
def SX (w2 : World) (n : Int) (W : World) : Prop := Below (w2.heap.size + 1) (w2.alloc (.cells #[.int .i64 n, .int .i64 0, .int .i64 0] 31)) W
theorem SX.of {w2 W : World} {n : Int} (h : Below (w2.alloc (.cells #[.int .i64 n, .int .i64 0, .int .i64 0] 31)).heap.size (w2.alloc (.cells #[.int .i64 n, .int .i64 0, .int .i64 0] 31)) W) : SX w2 n W := h.mono (by simp)
theorem SX.size {w2 W : World} {n : Int} (h : SX w2 n W) : w2.heap.size + 1 ≤ W.heap.size := by have := Below.size h; simp at this; exact this
theorem SX.keep {w2 W W' : World} {n : Int} (h : SX w2 n W) (hb : Below W.heap.size W W') : SX w2 n W' := Below.trans h (hb.mono h.size)
theorem SX.below {w2 W : World} {n : Int} (h : SX w2 n W) : Below w2.heap.size w2 W := ((Below.refl _ _).alloc (Nat.le_refl _) _).trans (Below.mono h (by omega))
set_option maxRecDepth 100000 in
theorem SX.facts {w2 W : World} {n : Int} (h : SX w2 n W) : W.cell? ⟨w2.heap.size, 0, none⟩ = some (.int .i64 n) ∧ W.cell? ⟨w2.heap.size, 1, none⟩ = some (.int .i64 0) ∧ W.cell? ⟨w2.heap.size, 2, none⟩ = some (.int .i64 0) ∧
    W.frozen? ⟨w2.heap.size, 0, none⟩ = false ∧ W.frozen? ⟨w2.heap.size, 1, none⟩ = false ∧ W.frozen? ⟨w2.heap.size, 2, none⟩ = false := by
  have h : Below (w2.heap.size + 1) (w2.alloc (.cells #[.int .i64 n, .int .i64 0, .int .i64 0] 31)) W := h
  have e0 : (w2.alloc (Obj.cells #[Value.int IntKind.i64 n, Value.int IntKind.i64 0, Value.int IntKind.i64 0] 31)).cell? { block := w2.heap.size, off := 0 } = some (.int .i64 n) := by simp [go_sem]
  have e1 : (w2.alloc (Obj.cells #[Value.int IntKind.i64 n, Value.int IntKind.i64 0, Value.int IntKind.i64 0] 31)).cell? { block := w2.heap.size, off := 1 } = some (.int .i64 0) := by simp [go_sem]
  have e2 : (w2.alloc (Obj.cells #[Value.int IntKind.i64 n, Value.int IntKind.i64 0, Value.int IntKind.i64 0] 31)).cell? { block := w2.heap.size, off := 2 } = some (.int .i64 0) := by simp [go_sem]
  have f0 : (w2.alloc (Obj.cells #[Value.int IntKind.i64 n, Value.int IntKind.i64 0, Value.int IntKind.i64 0] 31)).frozen? { block := w2.heap.size, off := 0 } = false := by simp [go_sem]
  have f1 : (w2.alloc (Obj.cells #[Value.int IntKind.i64 n, Value.int IntKind.i64 0, Value.int IntKind.i64 0] 31)).frozen? { block := w2.heap.size, off := 1 } = false := by simp [go_sem]
  have f2 : (w2.alloc (Obj.cells #[Value.int IntKind.i64 n, Value.int IntKind.i64 0, Value.int IntKind.i64 0] 31)).frozen? { block := w2.heap.size, off := 2 } = false := by simp [go_sem]
  exact ⟨(bcell h (by omega)).trans e0, (bcell h (by omega)).trans e1, (bcell h (by omega)).trans e2, (bfrozen h (by omega)).trans f0, (bfrozen h (by omega)).trans f1, (bfrozen h (by omega)).trans f2⟩
theorem cut_at {w0 : World} (hG : LaidG w0) (t : ByteArray) (c : UInt8) (ht : t.size < 4294967281) : ∃ d0 d1 : ByteArray, d0.data.toList = (Lib.cut t.data.toList [c]).1 ∧ d1.data.toList = (Lib.cut t.data.toList [c]).2.1 ∧ d1.size ≤ t.size ∧
    ∀ W, Below w0.heap.size w0 W → Calls Tryd.prog 81 #[.string t, .string ⟨#[c]⟩] W fun e w' => e = .returned (.tuple #[.string d0, .string d1, .bool (Lib.cut t.data.toList [c]).2.2]) ∧ Below W.heap.size W w' := by
  refine ⟨⟨(Lib.cut t.data.toList [c]).1.toArray⟩, ⟨(Lib.cut t.data.toList [c]).2.1.toArray⟩, rfl, rfl, ?_, fun W hb => cut_calls hG t ⟨#[c]⟩ ht W hb⟩
  have h1 := cut_le2 t.data.toList [c]
  have e : t.data.toList.length = t.size := by rw [Array.length_toList]; rfl
  show (Lib.cut t.data.toList [c]).2.1.toArray.size ≤ t.size
  rw [List.size_toArray, ← e]
  exact h1
theorem num_none {d : ByteArray} (h : numV d.data.toList = none) (W : World) : Calls Tryd.prog 82 #[.string d] W fun e w' => e = .panicked (failE 7) ∧ Below W.heap.size W w' :=
  (number_calls d W).mono fun e w' h1 => by unfold NumPost at h1; rw [h] at h1; exact h1
theorem num_some {d : ByteArray} {n : Nat} (h : numV d.data.toList = some n) (W : World) : Calls Tryd.prog 82 #[.string d] W fun e w' => e = .returned (.int .i64 (n : Int)) ∧ Below W.heap.size W w' :=
  (number_calls d W).mono fun e w' h1 => by unfold NumPost at h1; rw [h] at h1; exact h1
theorem PW.set2 {w w2 W : World} {ps : List ByteArray} {v : Value} {xs : List S31} (h : PW w w2 ps v xs) (hb : Below w2.heap.size w2 W) (x y : Value) : PW w ((W.setCell ⟨w2.heap.size, 1, none⟩ x).setCell ⟨w2.heap.size, 2, none⟩ y) ps v xs := by
  have hz := h.2.2.2
  obtain ⟨h1, h2, h3, h4⟩ := h
  have hB : Below w2.heap.size w2 ((W.setCell ⟨w2.heap.size, 1, none⟩ x).setCell ⟨w2.heap.size, 2, none⟩ y) := (hb.setCell (p := ⟨w2.heap.size, 1, none⟩) (Nat.le_refl _) x).setCell (p := ⟨w2.heap.size, 2, none⟩) (Nat.le_refl _) y
  refine ⟨h1.keep hB (Nat.le_refl _), fun j hj => (bcell hB (by omega)).trans (h2 j hj), ?_, Nat.le_trans h4 hB.size⟩
  have r1 := Kd.R_below (Kd.R_bound h3) hb
  have r2 := Kd.R_far r1 (p := ⟨w2.heap.size, 1, none⟩) (fun k hk => by have := hk.2.2; simp only; omega) x
  exact Kd.R_mono (Kd.R_far r2 (p := ⟨w2.heap.size, 2, none⟩) (fun k hk => by have := hk.2.2; simp only; omega) y) (fun _ _ => trivial)
def ParsePost (r : Option (List S31)) (w : World) (e : Ending) (w' : World) : Prop := match r with | some l => PatsPost w l 0 e w' | none => PatsPost w [] 7 e w'
theorem parts_step {L : List (List UInt8)} {k : Nat} (hk : k < L.length) {xs : List S31} (h : partsV L = (partsV (L.drop k)).map (xs ++ ·)) :
    (partV L[k] = none → partsV L = none) ∧ ∀ x, partV L[k] = some x → partsV L = (partsV (L.drop (k + 1))).map ((xs ++ [x]) ++ ·) := by
  rw [List.drop_eq_getElem_cons hk, partsV] at h
  constructor
  · intro hn
    rw [hn] at h
    exact h
  · intro x hx
    rw [hx] at h
    rw [h]
    cases partsV (L.drop (k + 1)) with
    | none => rfl
    | some r => simp
set_option maxRecDepth 100000 in
set_option maxHeartbeats 2000000 in
theorem parse_walk (s : ByteArray) (w : World) (hG : LaidG w) (hs : s.size < 4294967281) (hn : ¬ s.data.toList = objectL) (h40 : (piecesB s).length ≤ 40) : Calls Tryd.prog 45 #[.string s] w (ParsePost (partsV ((piecesB s).map fun x => x.data.toList)) w) := by
  have HSP : Aside0 (Calls Tryd.prog 80 #[.string s, .string ⟨#[47]⟩] ((w.alloc (.cells #[.slice none 0 0] 24)).alloc (.cells #[.int .i64 0] 25)) fun e w' => e = .returned (.slice (some ⟨w.heap.size + 1 + 1, 0, none⟩) (piecesB s).length (piecesB s).length) ∧ PW w w' (piecesB s) (.slice none 0 0) []) :=
    ⟨(split_calls hG s hs _ (wD_below (.slice none 0 0) 24 w)).mono fun e w' ⟨h1, h2⟩ => ⟨by simpa [wD] using h1, by rw [h2]; exact PW.start _⟩⟩
  have he : (s.toList == [111, 98, 106, 101, 99, 116]) = false := by
    rw [beq_eq_false_iff_ne, ByteArray.toList_eq]
    exact hn
  have HSZ : Aside0 (∀ x ∈ piecesB s, x.size < 4294967281) := ⟨fun x hx => Nat.lt_of_le_of_lt (splitB_le _ _ _ x hx) hs⟩
  have HG := Aside0.mk hG
  have hu24 := Tryd.underlying24
  have hu25 := Tryd.underlying25
  have hu31 := Tryd.underlying31
  generalize piecesB s = ps at HSP h40 HSZ
  have d1 : decide (40 < (ps.length : Int)) = false := decide_eq_false (by omega)
  clear hn hs hG
  go_enter_defers Tryd.func45, Tryd.ntmps45
  go_wp2_with (first | (go_at_call 80; (with_reducible refine HSP.out.mono ?_); rintro e w1 ⟨rfl, hb1⟩; have HB1 := Aside0.mk hb1; clear hb1) | (go_at_call 51; (with_reducible refine (fail_false _ _).mono ?_); rintro e w2 ⟨rfl, rfl⟩))
  go_loopw [24] (fun i W => ∃ (k : Nat) (v : Value) (xs : List S31), k ≤ ps.length ∧ i = .int .i64 k ∧ Aside0 (PW w W ps v xs) ∧ Aside0 (xs.length = k) ∧ Aside0 (partsV (ps.map fun x => x.data.toList) = (partsV ((ps.map fun x => x.data.toList).drop k)).map (xs ++ ·))) (fun i _ => ps.length - (intOf i).toNat)
  case atStart => exact ⟨0, .slice none 0 0, [], Nat.zero_le _, rfl, HB1, ⟨rfl⟩, ⟨by rw [List.drop_zero]; cases partsV (ps.map fun x => x.data.toList) <;> simp⟩⟩
  case round =>
    obtain ⟨k, v, xs, hk, rfl, hPW, hxl, hpv⟩ := hrel
    by_cases hlt : k < ps.length
    · have hc := hPW.out.2.1 k hlt
      have hts := HSZ.out ps[k] (List.getElem_mem _)
      have hst := parts_step (L := ps.map fun x => x.data.toList) (by simpa using hlt) hpv.out
      rw [List.getElem_map] at hst
      generalize ps[k] = t at hc hts hst
      obtain ⟨q0, q1, e0, e1, e2, HC1⟩ := cut_at HG.out t 64 hts
      have HC1 := Aside0.mk (HC1 wr hPW.out.1.1)
      have HST := Aside0.mk hst
      have HPV : Aside0 (partV t.data.toList = match numV q0.data.toList with
          | none => none
          | some n =>
            if (Lib.cut t.data.toList [64]).2.2 = true then
              (if (Lib.cut q1.data.toList [46]).2.2 = true then
                match numV (Lib.cut q1.data.toList [46]).1 with
                | none => none
                | some a => match numV (Lib.cut q1.data.toList [46]).2.1 with
                  | none => none
                  | some b => if a = 0 then none else some ⟨n, a, b⟩
              else none)
            else some ⟨n, 0, 0⟩) := ⟨by rw [e0, e1]; rfl⟩
      generalize (Lib.cut t.data.toList [64]).2.2 = has at HC1 HPV
      obtain ⟨A6, c6, rfl, hc6, hC6⟩ := Kd.R_reads hPW.out.2.2.1
      have hz0 := hPW.out.2.2.2
      clear hC6
      have hq1 : q1.size < 4294967281 := by omega
      have hlen : xs.length ≤ 40 := by have := hxl.out; omega
      have HLN := Aside0.mk hlen
      clear e0 e1 e2 hst hts hpv hlen
      cases hn0 : numV q0.data.toList with
      | none =>
        have HNO := Aside0.mk (HST.out.1 (by rw [HPV.out, hn0]))
        have HN0 := Aside0.mk (num_none hn0)
        clear hn0
        go_wp2_with (first | (go_at_call 81; (with_reducible refine HC1.out.mono ?_); rintro e w1 ⟨rfl, hb1⟩; have HB1 := Aside0.mk hb1; clear hb1) | (go_at_call 82; (with_reducible refine (HN0.out _).mono ?_); rintro e w2 ⟨rfl, hb2⟩; have HB2 := Aside0.mk (HB1.out.trans (hb2.mono HB1.out.size)); clear hb2))
        rw [HNO.out]
        exact door_fails (fn := Tryd.f45) (p := 2) (q := 3) gin49 guardPats_fails res45 (fun w' hb => ⟨_, rfl, Kd.R_nil _ _ _ _ _, hb⟩) (Nat.le_refl _) (hPW.out.keep HB2.out).1 rfl rfl rfl
      | some n =>
        have HN0 := Aside0.mk (num_some hn0)
        cases has with
        | false =>
          have HYES := Aside0.mk (HST.out.2 ⟨n, 0, 0⟩ (by rw [HPV.out, hn0]; rfl))
          clear hn0
          go_wp2_with (first | (go_at_call 81; (with_reducible refine HC1.out.mono ?_); rintro e w1 ⟨rfl, hb1⟩; have HB1 := Aside0.mk hb1; clear hb1) | (go_at_call 82; (with_reducible refine (HN0.out _).mono ?_); rintro e w2 ⟨rfl, hb2⟩; have HB2 := Aside0.mk (HB1.out.trans (hb2.mono HB1.out.size)); have hrd := (hPW.out.keep HB2.out).1; have hz2 := (hPW.out.keep HB2.out).2.2.2; obtain ⟨hqb, y0, y1, y2, y3⟩ := hrd; have n1 : w.heap.size < w2.heap.size := (by omega); have n2 : w.heap.size + 1 < w2.heap.size := (by omega); clear hb2 hqb) | ((with_reducible refine gate_builtin (b := .append) (xs := #[.tmp 57, .tmp 59]) rfl ?_); at_builtin; refine Kd.R_append k31 (w0 := wr) (w.heap.size + 1 + 1 + 1) rfl (.tmp 57) (.tmp 59) 24 31 (.agg #[(.int .i64 0), (.int .i64 0), (.int .i64 0)]) 24 rfl Tryd.underlying24 info31 rfl (by decide) (by omega) (.slice A6 xs.length c6) xs (⟨(n : Int), 0, 0⟩ : S31) [.int .i64 (n : Int), .int .i64 0, .int .i64 0] (fun _ => True) (fun _ => False) rfl (Eq.trans (b := Value.slice (some ⟨w2.heap.size + 1, 0, none⟩) 1 1) rfl (by simp)) ?aP (fun _ hk => hk.elim) ?aF ?aO ?aB ?aS ?aL ?_; (case aP => exact k31_mkM _ _ _ (⟨(n : Int), 0, 0⟩ : S31)); (case aB => exact ((HB2.out.mono hz0).alloc hz2 _)); (case aF => exact (fun _ _ => trivial)); (case aO => exact Kd.R_alloc (hPW.out.keep HB2.out).2.2.1 _); (case aS => first | omega | (simp; omega)); (case aL => have := HLN.out; omega); intro v1 w9 ho hb hg hat; obtain ⟨A9, c9, rfl, hc9, hC9⟩ := Kd.R_reads ho; have HO := Aside0.mk ho; have HB9 := Aside0.mk hb; obtain ⟨_, z0, z1, z2, z3⟩ := hPW.out.1.keep2 (hb.mono (by omega)); clear ho hb hg hat hC9 hc9))
          exact ⟨⟨k + 1, _, xs ++ [⟨n, 0, 0⟩], by omega, by first | rfl | simp, ⟨hPW.out.set HB9.out (by have h := HO.out; rw [List.length_append] at h; exact h)⟩, ⟨by rw [List.length_append, hxl.out]; rfl⟩, HYES⟩, by simp [intOf]; omega⟩
        | true =>
          obtain ⟨o0, o1, e0, e1, e2, HC2⟩ := cut_at HG.out q1 46 hq1
          have HC2 := fun W (hb : Below wr.heap.size wr W) => HC2 W (hPW.out.1.1.trans (hb.mono (by omega)))
          rw [← e0, ← e1] at HPV
          generalize (Lib.cut q1.data.toList [46]).2.2 = point at HC2 HPV
          clear e0 e1 e2
          have HC2 := Aside0.mk HC2
          cases point with
          | false =>
            have HNO := Aside0.mk (HST.out.1 (by rw [HPV.out, hn0]; rfl))
            clear hn0
            go_wp2_with (first | (go_at_call 81; (with_reducible refine HC1.out.mono ?_); rintro e w1 ⟨rfl, hb1⟩; have HB1 := Aside0.mk hb1; clear hb1) | (go_at_call 82; (with_reducible refine (HN0.out _).mono ?_); rintro e w2 ⟨rfl, hb2⟩; have HB2 := Aside0.mk (HB1.out.trans (hb2.mono HB1.out.size)); have hrd := (hPW.out.keep HB2.out).1; have hz2 := (hPW.out.keep HB2.out).2.2.2; obtain ⟨hqb, y0, y1, y2, y3⟩ := hrd; have n1 : w.heap.size < w2.heap.size := (by omega); have n2 : w.heap.size + 1 < w2.heap.size := (by omega); clear hb2 hqb) | (go_at_call 81; (with_reducible refine (HC2.out _ (HB2.out.alloc HB2.out.size _)).mono ?_); rintro e w3 ⟨rfl, hb3⟩; have HX3 := Aside0.mk (SX.of hb3); clear hb3) | (go_at_call 51; (with_reducible refine (fail_true _ _).mono ?_); rintro e w4 ⟨rfl, rfl⟩))
            rw [HNO.out]
            exact door_fails (fn := Tryd.f45) (p := 2) (q := 3) gin49 guardPats_fails res45 (fun w' hb => ⟨_, rfl, Kd.R_nil _ _ _ _ _, hb⟩) (Nat.le_refl _) ((hPW.out.keep HB2.out).keep HX3.out.below).1 rfl rfl rfl
          | true =>
            cases hn1 : numV o0.data.toList with
            | none =>
              have HNO := Aside0.mk (HST.out.1 (by rw [HPV.out, hn0, hn1]; rfl))
              have HN1 := Aside0.mk (num_none hn1)
              clear hn0 hn1
              go_wp2_with (first | (go_at_call 81; (with_reducible refine HC1.out.mono ?_); rintro e w1 ⟨rfl, hb1⟩; have HB1 := Aside0.mk hb1; clear hb1) | (go_at_call 82; (with_reducible refine (HN0.out _).mono ?_); rintro e w2 ⟨rfl, hb2⟩; have HB2 := Aside0.mk (HB1.out.trans (hb2.mono HB1.out.size)); have hrd := (hPW.out.keep HB2.out).1; have hz2 := (hPW.out.keep HB2.out).2.2.2; obtain ⟨hqb, y0, y1, y2, y3⟩ := hrd; have n1 : w.heap.size < w2.heap.size := (by omega); have n2 : w.heap.size + 1 < w2.heap.size := (by omega); clear hb2 hqb) | (go_at_call 81; (with_reducible refine (HC2.out _ (HB2.out.alloc HB2.out.size _)).mono ?_); rintro e w3 ⟨rfl, hb3⟩; have HX3 := Aside0.mk (SX.of hb3); clear hb3) | (go_at_call 51; (with_reducible refine (fail_false _ _).mono ?_); rintro e w4 ⟨rfl, rfl⟩) | (go_at_call 82; (with_reducible refine (HN1.out _).mono ?_); rintro e w5 ⟨rfl, hb5⟩; have HX5 := Aside0.mk (HX3.out.keep hb5); clear hb5))
              rw [HNO.out]
              exact door_fails (fn := Tryd.f45) (p := 2) (q := 3) gin49 guardPats_fails res45 (fun w' hb => ⟨_, rfl, Kd.R_nil _ _ _ _ _, hb⟩) (Nat.le_refl _) ((hPW.out.keep HB2.out).keep HX5.out.below).1 rfl rfl rfl
            | some a =>
              have HN1 := Aside0.mk (num_some hn1)
              cases hn2 : numV o1.data.toList with
              | none =>
                have HNO := Aside0.mk (HST.out.1 (by rw [HPV.out, hn0, hn1, hn2]; rfl))
                have HN2 := Aside0.mk (num_none hn2)
                clear hn0 hn1 hn2
                go_wp2_with (first | (go_at_call 81; (with_reducible refine HC1.out.mono ?_); rintro e w1 ⟨rfl, hb1⟩; have HB1 := Aside0.mk hb1; clear hb1) | (go_at_call 82; (with_reducible refine (HN0.out _).mono ?_); rintro e w2 ⟨rfl, hb2⟩; have HB2 := Aside0.mk (HB1.out.trans (hb2.mono HB1.out.size)); have hrd := (hPW.out.keep HB2.out).1; have hz2 := (hPW.out.keep HB2.out).2.2.2; obtain ⟨hqb, y0, y1, y2, y3⟩ := hrd; have n1 : w.heap.size < w2.heap.size := (by omega); have n2 : w.heap.size + 1 < w2.heap.size := (by omega); clear hb2 hqb) | (go_at_call 81; (with_reducible refine (HC2.out _ (HB2.out.alloc HB2.out.size _)).mono ?_); rintro e w3 ⟨rfl, hb3⟩; have HX3 := Aside0.mk (SX.of hb3); clear hb3) | (go_at_call 51; (with_reducible refine (fail_false _ _).mono ?_); rintro e w4 ⟨rfl, rfl⟩) | (go_at_call 82; (with_reducible refine (HN1.out _).mono ?_); rintro e w5 ⟨rfl, hb5⟩; have HX5 := Aside0.mk (HX3.out.keep hb5); clear hb5) | (go_at_call 82; (with_reducible refine (HN2.out _).mono ?_); rintro e w6 ⟨rfl, hb6⟩; have HX6 := Aside0.mk (HX5.out.keep hb6); obtain ⟨x0, x1, x2, f0, f1, f2⟩ := HX6.out.facts; have HPX := Aside0.mk ((hPW.out.keep HB2.out).keep HX6.out.below); obtain ⟨_, v0, v1, v2, v3⟩ := HPX.out.1; have hz6 := HX6.out.size; clear hb6))
                rw [HNO.out]
                exact door_fails (fn := Tryd.f45) (p := 2) (q := 3) gin49 guardPats_fails res45 (fun w' hb => ⟨_, rfl, Kd.R_nil _ _ _ _ _, hb⟩) (Nat.le_refl _) ((hPW.out.keep HB2.out).keep HX6.out.below).1 rfl rfl rfl
              | some b =>
                have HN2 := Aside0.mk (num_some hn2)
                by_cases ha : a = 0
                · subst ha
                  have HNO := Aside0.mk (HST.out.1 (by rw [HPV.out, hn0, hn1, hn2]; rfl))
                  clear hn0 hn1 hn2
                  go_wp2_with (first | (go_at_call 81; (with_reducible refine HC1.out.mono ?_); rintro e w1 ⟨rfl, hb1⟩; have HB1 := Aside0.mk hb1; clear hb1) | (go_at_call 82; (with_reducible refine (HN0.out _).mono ?_); rintro e w2 ⟨rfl, hb2⟩; have HB2 := Aside0.mk (HB1.out.trans (hb2.mono HB1.out.size)); have hrd := (hPW.out.keep HB2.out).1; have hz2 := (hPW.out.keep HB2.out).2.2.2; obtain ⟨hqb, y0, y1, y2, y3⟩ := hrd; have n1 : w.heap.size < w2.heap.size := (by omega); have n2 : w.heap.size + 1 < w2.heap.size := (by omega); clear hb2 hqb) | (go_at_call 81; (with_reducible refine (HC2.out _ (HB2.out.alloc HB2.out.size _)).mono ?_); rintro e w3 ⟨rfl, hb3⟩; have HX3 := Aside0.mk (SX.of hb3); clear hb3) | (go_at_call 51; (with_reducible refine (fail_false _ _).mono ?_); rintro e w4 ⟨rfl, rfl⟩) | (go_at_call 82; (with_reducible refine (HN1.out _).mono ?_); rintro e w5 ⟨rfl, hb5⟩; have HX5 := Aside0.mk (HX3.out.keep hb5); clear hb5) | (go_at_call 82; (with_reducible refine (HN2.out _).mono ?_); rintro e w6 ⟨rfl, hb6⟩; have HX6 := Aside0.mk (HX5.out.keep hb6); obtain ⟨x0, x1, x2, f0, f1, f2⟩ := HX6.out.facts; have HPX := Aside0.mk ((hPW.out.keep HB2.out).keep HX6.out.below); obtain ⟨_, v0, v1, v2, v3⟩ := HPX.out.1; have hz6 := HX6.out.size; clear hb6) | (go_at_call 51; (with_reducible refine (fail_true _ _).mono ?_); rintro e w4 ⟨rfl, rfl⟩))
                  rw [HNO.out]
                  exact door_fails (fn := Tryd.f45) (p := 2) (q := 3) gin49 guardPats_fails res45 (fun w' hb => ⟨_, rfl, Kd.R_nil _ _ _ _ _, hb⟩) (Nat.le_refl _) ((hPW.out.keep HB2.out).set2 HX6.out.below _ _).1 rfl rfl rfl
                · have HYES := Aside0.mk (HST.out.2 ⟨n, a, b⟩ (by rw [HPV.out, hn0, hn1, hn2]; exact if_neg ha))
                  have da : ((a : Int) == 0) = false := by rw [beq_eq_false_iff_ne]; omega
                  have daN : (a == 0) = false := by rw [beq_eq_false_iff_ne]; omega
                  clear hn0 hn1 hn2 ha
                  go_wp2_with (first | (go_at_call 81; (with_reducible refine HC1.out.mono ?_); rintro e w1 ⟨rfl, hb1⟩; have HB1 := Aside0.mk hb1; clear hb1) | (go_at_call 82; (with_reducible refine (HN0.out _).mono ?_); rintro e w2 ⟨rfl, hb2⟩; have HB2 := Aside0.mk (HB1.out.trans (hb2.mono HB1.out.size)); have hrd := (hPW.out.keep HB2.out).1; have hz2 := (hPW.out.keep HB2.out).2.2.2; obtain ⟨hqb, y0, y1, y2, y3⟩ := hrd; have n1 : w.heap.size < w2.heap.size := (by omega); have n2 : w.heap.size + 1 < w2.heap.size := (by omega); clear hb2 hqb) | (go_at_call 81; (with_reducible refine (HC2.out _ (HB2.out.alloc HB2.out.size _)).mono ?_); rintro e w3 ⟨rfl, hb3⟩; have HX3 := Aside0.mk (SX.of hb3); clear hb3) | (go_at_call 51; (with_reducible refine (fail_false _ _).mono ?_); rintro e w4 ⟨rfl, rfl⟩) | (go_at_call 82; (with_reducible refine (HN1.out _).mono ?_); rintro e w5 ⟨rfl, hb5⟩; have HX5 := Aside0.mk (HX3.out.keep hb5); clear hb5) | (go_at_call 82; (with_reducible refine (HN2.out _).mono ?_); rintro e w6 ⟨rfl, hb6⟩; have HX6 := Aside0.mk (HX5.out.keep hb6); obtain ⟨x0, x1, x2, f0, f1, f2⟩ := HX6.out.facts; have HPX := Aside0.mk ((hPW.out.keep HB2.out).keep HX6.out.below); obtain ⟨_, v0, v1, v2, v3⟩ := HPX.out.1; have hz6 := HX6.out.size; clear hb6) | ((with_reducible refine gate_builtin (b := .append) (xs := #[.tmp 57, .tmp 59]) rfl ?_); at_builtin; refine Kd.R_append k31 (w0 := wr) (w.heap.size + 1 + 1 + 1) rfl (.tmp 57) (.tmp 59) 24 31 (.agg #[(.int .i64 0), (.int .i64 0), (.int .i64 0)]) 24 rfl Tryd.underlying24 info31 rfl (by decide) (by omega) (.slice A6 xs.length c6) xs (⟨(n : Int), (a : Int), (b : Int)⟩ : S31) [.int .i64 (n : Int), .int .i64 (a : Int), .int .i64 (b : Int)] (fun _ => True) (fun _ => False) rfl (Eq.trans (b := Value.slice (some ⟨w6.heap.size, 0, none⟩) 1 1) rfl (by simp)) ?aP (fun _ hk => hk.elim) ?aF ?aO ?aB ?aS ?aL ?_; (case aP => exact k31_mkM _ _ _ (⟨(n : Int), (a : Int), (b : Int)⟩ : S31)); (case aB => exact (((((HB2.out.trans (HX6.out.below.mono HB2.out.size)).mono hz0)).setCell (p := ⟨w2.heap.size, 1, none⟩) hz2 _).setCell (p := ⟨w2.heap.size, 2, none⟩) hz2 _)); (case aF => exact (fun _ _ => trivial)); (case aO => exact ((hPW.out.keep HB2.out).set2 HX6.out.below _ _).2.2.1); (case aS => first | omega | (simp; omega)); (case aL => have := HLN.out; omega); intro v1 w9 ho hb hg hat; obtain ⟨A9, c9, rfl, hc9, hC9⟩ := Kd.R_reads ho; have HO := Aside0.mk ho; have HB9 := Aside0.mk hb; obtain ⟨_, z0, z1, z2, z3⟩ := hPW.out.1.keep2 (hb.mono (by omega)); clear ho hb hg hat hC9 hc9))
                  exact ⟨⟨k + 1, _, xs ++ [⟨n, a, b⟩], by omega, by first | rfl | simp, ⟨hPW.out.set HB9.out (by have h := HO.out; rw [List.length_append] at h; exact h)⟩, ⟨by rw [List.length_append, hxl.out]; rfl⟩, HYES⟩, by simp [intOf]; omega⟩
    · have hke : k = ps.length := by omega
      subst hke
      have HYES := Aside0.mk (show partsV (ps.map fun x => x.data.toList) = some xs by
        have h := hpv.out
        rw [List.drop_of_length_le (by simp)] at h
        rw [h]
        simp [partsV])
      obtain ⟨A6, c6, rfl, hc6, hC6⟩ := Kd.R_reads hPW.out.2.2.1
      obtain ⟨_, y0, y1, y2, y3⟩ := hPW.out.1
      clear hC6 hpv
      go_wp2_with (fail)
      rw [HYES.out]
      exact door_stored' (fn := Tryd.f45) (p := 2) (q := 3) gin49 guardPats_idle res45 hPW.out.1 (fun hb => ⟨_, rfl, R_stored hPW.out.2.2.1 (by omega), hb⟩) rfl rfl rfl
def pattern_Parse.f (s : ByteArray) : Option (List S31 × Int) := if s.size < 4294967281 then some (parseV s) else none
theorem pattern_Parse.calls (s : ByteArray) (r1 : List S31) (r2 : Int) (w : World) (hG : LaidG w) (h : pattern_Parse.f s = some (r1, r2)) :
    Calls Tryd.prog 45 #[.string s] w fun e w' => ∃ v0_ : Value, e = .returned (.tuple #[v0_, .int .i64 r2]) ∧ Kd.R k31 31 w' w.heap.size (fun _ => True) v0_ r1 ∧ Below w.heap.size w w' := by
  unfold pattern_Parse.f at h
  split at h
  · rename_i hs
    have h' := Option.some.inj h
    unfold parseV at h'
    by_cases h0 : s.data.toList = objectL
    · rw [if_pos h0] at h'
      cases h'
      exact parse_obj s w h0
    · rw [if_neg h0] at h'
      by_cases h40 : 40 < (piecesB s).length
      · rw [if_pos h40] at h'
        cases h'
        exact parse_long s w hG hs h0 h40
      · rw [if_neg h40] at h'
        have hw := parse_walk s w hG hs h0 (by omega)
        cases hp : partsV ((piecesB s).map fun x => x.data.toList) with
        | none => rw [hp] at h' hw; cases h'; exact hw
        | some l => rw [hp] at h' hw; cases h'; exact hw
  · cases h
end Go.Proofs.YtgkebfeggekkgaaDoor.Given
