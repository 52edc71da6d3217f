/- The contract of number: it reads at most 18 digits, without unnecessary zeros. -/
import Derived.Test.YtgkebfeggekkgaaDoorHm
import Derived.Lib.ConvBytes
section
set_option linter.unusedVariables false
set_option linter.unusedSimpArgs false
namespace Go.Proofs.YtgkebfeggekkgaaDoor.Given
open Go.RowKit Go.Proofs.YtgkebfeggekkgaaDoor.PT Go.Proofs.YtgkebfeggekkgaaDoorW.PrintWords Go.Proofs.YtgkebfeggekkgaaDoorW.PrintLast Go.Proofs.YtgkebfeggekkgaaDoorW.PrintMore

/-- a digit -/
def digB (b : UInt8) : Bool := decide (48 ≤ b.toNat) && decide (b.toNat ≤ 57)
/-- the number of digits, behind a number so far -/
def digV : Nat → List UInt8 → Option Nat
  | n, [] => some n
  | n, b :: r => if digB b = true then digV (10 * n + (b.toNat - 48)) r else none
/-- what number reads -/
def numV (l : List UInt8) : Option Nat := if l = [] ∨ 18 < l.length ∨ (1 < l.length ∧ l.head? = some 48) then none else digV 0 l
def NumPost (r : Option Nat) (w : World) (e : Ending) (w' : World) : Prop := (match r with | some n => e = .returned (.int .i64 (n : Int)) | none => e = .panicked (failE 7)) ∧ Below w.heap.size w w'
theorem below_bytesW (w : World) (s : ByteArray) : Below w.heap.size w (Lib.bytesWorld w 5 s) :=
  ⟨rfl, rfl, rfl, by rw [Lib.bytesWorld_size]; omega, fun j hj => Lib.bytesWorld_at_old w 5 s j hj⟩
theorem digV_cons (n : Nat) (b : UInt8) (r : List UInt8) : digV n (b :: r) = if digB b = true then digV (10 * n + (b.toNat - 48)) r else none := rfl
theorem pow17 (k n : Nat) (hk : k < 18) (h : n < 10 ^ k) : n < 100000000000000000 :=
  Nat.lt_of_lt_of_le h (Nat.le_trans (Nat.pow_le_pow_right (by decide) (show k ≤ 17 by omega)) (by decide))
theorem pow_step (k n d : Nat) (hd : d ≤ 9) (h : n < 10 ^ k) : 10 * n + d < 10 ^ (k + 1) := by
  rw [Nat.pow_succ]
  omega
set_option maxRecDepth 100000 in
set_option maxHeartbeats 1000000 in
theorem number_loop (s : ByteArray) (w : World) (h0 : 0 < s.size) (h18 : s.size ≤ 18) (hz : s.size = 1 ∨ (1 < s.size ∧ s[0] ≠ 48)) :
    Calls Tryd.prog 82 #[.string s] w (NumPost (digV 0 s.data.toList) w) := by
  obtain ⟨w1, c1, hconv, hb1, hsz1, hcell1⟩ : ∃ w1 c1, (convert 9 119 (.string s)).run Tryd.prog w = .ok (.slice (some ⟨w.heap.size, 0, none⟩) s.size c1) w1 ∧ Aside0 (Below w.heap.size w w1) ∧ w1.heap.size = w.heap.size + 1 ∧
      Aside0 (∀ j < s.size, w1.cell? ⟨w.heap.size, j, none⟩ = some (.int .u8 (s.data.toList.getD j 0).toNat)) :=
    ⟨_, _, Lib.run_convert_string_bytes w 9 119 5 s Tryd.underlying9 Tryd.underlying119 Tryd.underlying5, ⟨below_bytesW w s⟩, Lib.bytesWorld_size w 5 s, ⟨fun j hj => Lib.bytesWorld_cell w 5 s j hj⟩⟩
  have hne : s.toList.isEmpty = false := by
    rw [List.isEmpty_eq_false_iff, ← List.length_pos_iff, ByteArray.toList_eq]
    simpa using h0
  have hsl : s.data.toList.length = s.size := by simp
  have d18 : decide (18 < (s.size : Int)) = false := decide_eq_false (by omega)
  have hd : decide (1 < (s.size : Int)) = false ∨ (decide (1 < (s.size : Int)) = true ∧ ((s[0].toNat : Int) == 48) = false) := by
    rcases hz with hz | ⟨hz, hx⟩
    · exact .inl (decide_eq_false (by omega))
    · refine .inr ⟨decide_eq_true (by omega), ?_⟩
      rw [beq_eq_false_iff_ne]
      intro h
      have h48 : (48 : UInt8).toNat = 48 := rfl
      exact hx (UInt8.toNat_inj.1 (by omega))
  clear hz
  rcases hd with d1 | ⟨d1, d0⟩
  all_goals
    go_enter Tryd.func82, Tryd.ntmps82
    go_wp2_with (first | (go_at_call 51; (with_reducible refine (fail_false _ _).mono ?_); rintro e w2 ⟨rfl, rfl⟩))
    go_loopw [3, 27] (fun v i wr => ∃ k n : Nat, k ≤ s.size ∧ i = .int .i64 k ∧ v = .int .i64 n ∧ Aside0 (digV 0 s.data.toList = digV n (s.data.toList.drop k)) ∧ Aside0 (n < 10 ^ k) ∧ Aside0 (Below (w.heap.size + 1) w1 wr)) (fun _ i _ => s.size - (intOf i).toNat)
    case atStart => exact ⟨0, 0, Nat.zero_le _, rfl, rfl, ⟨rfl⟩, ⟨by decide⟩, ⟨Below.refl _ _⟩⟩
    case round =>
      obtain ⟨k, n, hk, rfl, rfl, hdv, hpw, hbel⟩ := hrel
      have hBl := Aside0.mk (hb1.out.trans (hbel.out.mono (by omega)))
      by_cases hlt : k < s.size
      · have hc : wr.cell? ⟨w.heap.size, k, none⟩ = some (.int .u8 (s.data.toList.getD k 0).toNat) := (bcell hbel.out (by omega)).trans (hcell1.out k hlt)
        have hdr : s.data.toList.drop k = s.data.toList.getD k 0 :: s.data.toList.drop (k + 1) := by
          rw [List.drop_eq_getElem_cons (by omega), List.getD_eq_getElem?_getD, List.getElem?_eq_getElem (by omega)]
          rfl
        have hdv2 := Aside0.mk (hdv.out.trans (by rw [hdr, digV_cons]))
        have hn17 := pow17 k n (by omega) hpw.out
        have hsz := hbel.out.size
        generalize s.data.toList.getD k 0 = b at hc hdv2
        have hb256 := b.toNat_lt
        clear hdr hdv
        by_cases hdg : 48 ≤ b.toNat ∧ b.toNat ≤ 57
        · have hdB : digB b = true := by unfold digB; rw [decide_eq_true hdg.1, decide_eq_true hdg.2]; rfl
          have hdv3 := Aside0.mk (hdv2.out.trans (if_pos hdB))
          have hpw3 := Aside0.mk (pow_step k n (b.toNat - 48) (by omega) hpw.out)
          clear hdv2 hdB
          generalize b.toNat = x at hc hdv3 hpw3 hb256 hdg
          have e1 : decide ((x : Int) < 48) = false := decide_eq_false (by omega)
          have e2 : decide (57 < (x : Int)) = false := decide_eq_false (by omega)
          have e3 : IntKind.u8.wrap ((x : Int) - 48) = ((x - 48 : Nat) : Int) := by rw [IntWalk.u8_in _ (by omega)]; omega
          have e4 : IntKind.i64.wrap (10 * (n : Int)) = ((10 * n : Nat) : Int) := by rw [IntWalk.i64_in _ (by omega)]; omega
          have e5 : IntKind.i64.wrap (((10 * n : Nat) : Int) + ((x - 48 : Nat) : Int)) = ((10 * n + (x - 48) : Nat) : Int) := by rw [IntWalk.i64_in _ (by omega)]; omega
          go_wp2_with (first | (go_at_call 51; (with_reducible refine (fail_false _ _).mono ?_); rintro e w2 ⟨rfl, rfl⟩))
          exact ⟨⟨k + 1, 10 * n + (x - 48), by omega, by first | rfl | simp, by first | rfl | simp, hdv3, hpw3, hbel⟩, by simp [intOf]; omega⟩
        · have hdB : ¬ digB b = true := by
            unfold digB
            rw [Bool.and_eq_true, decide_eq_true_iff, decide_eq_true_iff]
            exact hdg
          have hdv3 := Aside0.mk (hdv2.out.trans (if_neg hdB))
          clear hdv2 hdB
          generalize b.toNat = x at hc hb256 hdg
          by_cases hd1 : 48 ≤ x
          · have e1 : decide ((x : Int) < 48) = false := decide_eq_false (by omega)
            have e2 : decide (57 < (x : Int)) = true := decide_eq_true (by omega)
            clear hdg hd1
            go_wp2_with (first | (go_at_call 51; (with_reducible refine (fail_true _ _).mono ?_); rintro e w2 ⟨rfl, rfl⟩))
            exact ⟨rfl, by rw [hdv3.out], hBl.out⟩
          · have e1 : decide ((x : Int) < 48) = true := decide_eq_true (by omega)
            clear hdg hd1
            go_wp2_with (first | (go_at_call 51; (with_reducible refine (fail_true _ _).mono ?_); rintro e w2 ⟨rfl, rfl⟩))
            exact ⟨rfl, by rw [hdv3.out], hBl.out⟩
      · have hdv2 := Aside0.mk (show digV 0 s.data.toList = some n from hdv.out.trans (by rw [List.drop_of_length_le (by omega), digV]))
        go_wp2_with (first | (go_at_call 51; (with_reducible refine (fail_false _ _).mono ?_); rintro e w2 ⟨rfl, rfl⟩))
        go_ret
        exact ⟨by rw [hdv2.out]; exact rfl, hBl.out⟩
set_option maxRecDepth 100000 in
theorem number_empty (w : World) : Calls Tryd.prog 82 #[.string ⟨#[]⟩] w (NumPost none w) := by
  go_enter Tryd.func82, Tryd.ntmps82
  go_wp2_with (first | (go_at_call 51; (with_reducible refine (fail_true _ _).mono ?_); rintro e w2 ⟨rfl, rfl⟩))
  exact ⟨rfl, rfl, Below.refl _ _⟩
set_option maxRecDepth 100000 in
theorem number_long (s : ByteArray) (w : World) (h18 : 18 < s.size) : Calls Tryd.prog 82 #[.string s] w (NumPost none w) := by
  have hne : s.toList.isEmpty = false := by
    rw [List.isEmpty_eq_false_iff, ← List.length_pos_iff, ByteArray.toList_eq]
    simp
    omega
  have d18 : decide (18 < (s.size : Int)) = true := decide_eq_true (by omega)
  clear h18
  go_enter Tryd.func82, Tryd.ntmps82
  go_wp2_with (first | (go_at_call 51; (with_reducible refine (fail_true _ _).mono ?_); rintro e w2 ⟨rfl, rfl⟩))
  exact ⟨rfl, rfl, Below.refl _ _⟩
set_option maxRecDepth 100000 in
theorem number_zero (s : ByteArray) (w : World) (h0 : 0 < s.size) (h18 : s.size ≤ 18) (h1 : 1 < s.size) (hx : s[0] = 48) : Calls Tryd.prog 82 #[.string s] w (NumPost none w) := by
  have hne : s.toList.isEmpty = false := by
    rw [List.isEmpty_eq_false_iff, ← List.length_pos_iff, ByteArray.toList_eq]
    simpa using h0
  have d18 : decide (18 < (s.size : Int)) = false := decide_eq_false (by omega)
  have d1 : decide (1 < (s.size : Int)) = true := decide_eq_true (by omega)
  have d0 : ((s[0].toNat : Int) == 48) = true := by rw [hx]; rfl
  clear h18 h1 hx
  go_enter Tryd.func82, Tryd.ntmps82
  go_wp2_with (first | (go_at_call 51; (with_reducible refine (fail_true _ _).mono ?_); rintro e w2 ⟨rfl, rfl⟩))
  exact ⟨rfl, rfl, Below.refl _ _⟩
theorem number_calls (s : ByteArray) (w : World) : Calls Tryd.prog 82 #[.string s] w (NumPost (numV s.data.toList) w) := by
  have hsl : s.data.toList.length = s.size := by simp
  unfold numV
  by_cases h0 : s.size = 0
  · have : s = ⟨#[]⟩ := by
      obtain ⟨⟨l⟩⟩ := s
      cases l with
      | nil => rfl
      | cons a b => simp [ByteArray.size] at h0
    subst this
    rw [if_pos (.inl rfl)]
    exact number_empty w
  · have hne : s.data.toList ≠ [] := by rw [← List.length_pos_iff]; omega
    by_cases h18 : 18 < s.size
    · rw [if_pos (.inr (.inl (by omega)))]
      exact number_long s w h18
    · have hh : s.data.toList.head? = some (s[0]'(by omega)) := by
        rw [List.head?_eq_getElem?, List.getElem?_eq_getElem (by omega)]
        rfl
      by_cases h1 : 1 < s.size ∧ s[0]'(by omega) = 48
      · rw [if_pos (.inr (.inr ⟨by omega, by rw [hh, h1.2]⟩))]
        exact number_zero s w (by omega) (by omega) h1.1 h1.2
      · rw [if_neg]
        · exact number_loop s w (by omega) (by omega) (by
            by_cases h2 : s.size = 1
            · exact .inl h2
            · exact .inr ⟨by omega, fun h => h1 ⟨by omega, h⟩⟩)
        · rintro (h | h | ⟨h, h'⟩)
          · exact hne h
          · omega
          · rw [hh] at h'
            exact h1 ⟨by omega, Option.some.inj h'⟩
end Go.Proofs.YtgkebfeggekkgaaDoor.Given
end
section
/- The contract of Parse. -/
set_option linter.unusedVariables false
set_option linter.unusedSimpArgs false
namespace Go.Proofs.YtgkebfeggekkgaaDoor.Given
open Go.RowKit Go.Proofs.YtgkebfeggekkgaaDoor.PT Go.Proofs.YtgkebfeggekkgaaDoorW.PrintWords Go.Proofs.YtgkebfeggekkgaaDoorW.PrintLast Go.Proofs.YtgkebfeggekkgaaDoorW.PrintMore

/-- the part that a piece of text is -/
def partV (t : List UInt8) : Option S31 :=
  match numV (Lib.cut t [64]).1 with
  | none => none
  | some n =>
    if (Lib.cut t [64]).2.2 = true then
      (if (Lib.cut (Lib.cut t [64]).2.1 [46]).2.2 = true then
        match numV (Lib.cut (Lib.cut t [64]).2.1 [46]).1 with
        | none => none
        | some a => match numV (Lib.cut (Lib.cut t [64]).2.1 [46]).2.1 with
          | none => none
          | some b => if a = 0 then none else some ⟨n, a, b⟩
      else none)
    else some ⟨n, 0, 0⟩
def partsV : List (List UInt8) → Option (List S31)
  | [] => some []
  | t :: r => match partV t with
    | none => none
    | some x => (partsV r).map (x :: ·)
def slashB : ByteArray := ⟨#[47]⟩
def piecesB (s : ByteArray) : List ByteArray := Lib.splitB slashB 0 (Lib.countB s slashB) s
def objectL : List UInt8 := [111, 98, 106, 101, 99, 116]
def parseV (s : ByteArray) : List S31 × Int :=
  if s.data.toList = objectL then ([], 0) else if 40 < (piecesB s).length then ([], 7) else match partsV ((piecesB s).map fun x => x.data.toList) with | some l => (l, 0) | none => ([], 7)
theorem gin49' : GuardIn 49 := gin49
theorem res45 : DoorResults Tryd.f45 2 3 := by
  intro t W g x u h2 h3 c0 c1
  have hu24 := Tryd.underlying24
  have hu25 := Tryd.underlying25
  have e2 : t[2]?.getD undef = .pointer (some ⟨g, 0, none⟩) := by simpa [Array.getD_eq_getD_getElem?] using h2
  have e3 : t[3]?.getD undef = .pointer (some ⟨g + 1, 0, none⟩) := by simpa [Array.getD_eq_getD_getElem?] using h3
  simp [results, Tryd.results45, go_sem, e2, e3, c0, c1]
theorem cut_calls {w0 : World} (hG : LaidG w0) (s sep : ByteArray) (hs : s.size < 4294967281) (W : World) (hb : Below w0.heap.size w0 W) :
    Calls Tryd.prog 81 #[.string s, .string sep] W fun e w' => e = .returned (.tuple #[.string ⟨(Lib.cut s.data.toList sep.data.toList).1.toArray⟩, .string ⟨(Lib.cut s.data.toList sep.data.toList).2.1.toArray⟩, .bool (Lib.cut s.data.toList sep.data.toList).2.2]) ∧ Below W.heap.size W w' := by
  obtain ⟨m, hm⟩ := (hG.keep W hb).2
  exact (Tryd.strings_Cut s sep m W hs hm).mono fun e w' ⟨h1, q, h2⟩ => ⟨h1, by rw [h2]; exact pw_below_drewN (Below.refl _ _) q⟩
theorem cut_le2 (s sep : List UInt8) : (Lib.cut s sep).2.1.length ≤ s.length := by
  unfold Lib.cut
  split
  · simp
  · simp
theorem splitB_le (sep : ByteArray) : ∀ (k : Nat) (s : ByteArray), ∀ x ∈ Lib.splitB sep 0 k s, x.size ≤ s.size
  | 0, s, x, h => by
    rw [Lib.splitB_zero, List.mem_singleton] at h
    rw [h]
    exact Nat.le_refl _
  | k + 1, s, x, h => by
    unfold Lib.splitB at h
    split at h
    · rw [List.mem_singleton] at h
      rw [h]
      exact Nat.le_refl _
    · rcases List.mem_cons.1 h with rfl | h
      · rw [ByteArray.size_extract]
        omega
      · have := splitB_le sep k _ x h
        rw [ByteArray.size_extract] at this
        omega
/-- the world while the parts are read -/
def PW (w W : World) (ps : List ByteArray) (v : Value) (xs : List S31) : Prop :=
  Rd w.heap.size w W v (.int .i64 0) ∧ (∀ (j : Nat) (h : j < ps.length), W.cell? ⟨w.heap.size + 1 + 1, j, none⟩ = some (.string ps[j])) ∧ Kd.R k31 31 W (w.heap.size + 1 + 1 + 1) (fun _ => True) v xs ∧ w.heap.size + 1 + 1 + 1 ≤ W.heap.size
theorem PW.keep {w W W' : World} {ps : List ByteArray} {v : Value} {xs : List S31} (h : PW w W ps v xs) (hb : Below W.heap.size W W') : PW w W' ps v xs := by
  obtain ⟨h1, h2, h3, h4⟩ := h
  exact ⟨h1.keep hb (Nat.le_refl _), fun j hj => (bcell hb (by omega)).trans (h2 j hj), Kd.R_below h3 hb, Nat.le_trans h4 hb.size⟩
theorem PW.set {w W W' : World} {ps : List ByteArray} {v v' : Value} {xs ys : List S31} (h : PW w W ps v xs) (hb : Below (w.heap.size + 1 + 1 + 1) W W') (hR : Kd.R k31 31 W' (w.heap.size + 1 + 1 + 1) (fun _ => True) v' ys) : PW w (W'.setCell ⟨w.heap.size, 0, none⟩ v') ps v' ys := by
  obtain ⟨h1, h2, h3, h4⟩ := h
  have hrd : Rd w.heap.size w W' v (.int .i64 0) := h1.keep2 (hb.mono (by omega))
  refine ⟨hrd.set0 v', fun j hj => ?_, ?_, ?_⟩
  · refine (World.cell?_setCell_far _ _ _ _ (by simp; omega)).trans ((bcell hb (by omega)).trans (h2 j hj))
  · have h1 := Kd.R_bound hR
    exact Kd.R_mono (Kd.R_far h1 (p := ⟨w.heap.size, 0, none⟩) (fun k hk => by have := hk.2.1; simp only; omega) v') (fun _ _ => trivial)
  · have := hb.size
    simp
    omega
theorem PW.start {w : World} (ps : List ByteArray) : PW w ((wD (.slice none 0 0) 24 w).alloc (.cells (ps.map Value.string).toArray 9)) ps (.slice none 0 0) [] := by
  refine ⟨Rd_of ((Below.refl _ _).alloc (by simp [wD]) _), fun j hj => ?_, Kd.R_nil _ _ _ _ _, by simp [wD]⟩
  simp [wD, go_sem, hj]
/-! PARSEWALK -/
set_option maxRecDepth 100000 in
set_option maxHeartbeats 1000000 in
theorem parse_obj (s : ByteArray) (w : World) (hs : s.data.toList = objectL) : Calls Tryd.prog 45 #[.string s] w (PatsPost w [] 0) := by
  have hu24 := Tryd.underlying24
  have hu25 := Tryd.underlying25
  have HRD := Aside0.mk (Rd_of (Below.refl _ (wD (.slice none 0 0) 24 w)))
  have he : (s.toList == [111, 98, 106, 101, 99, 116]) = true := by rw [ByteArray.toList_eq, hs]; rfl
  clear hs
  go_enter_defers Tryd.func45, Tryd.ntmps45
  go_wp2_with (fail)
  show Leaves _ _ _ _ (defsG 49 w.heap.size) _ _
  exact door_ends gin49 guardPats_idle res45 (x := .slice none 0 0) (u := .int .i64 0) (by simp [go_sem]) (by simp [go_sem]) rfl rfl ⟨_, rfl, Kd.R_nil _ _ _ _ _, ((Below.refl _ _).alloc (Nat.le_refl _) _).alloc (by simp) _⟩
theorem split_calls {w0 : World} (hG : LaidG w0) (s : ByteArray) (hs : s.size < 4294967281) (W : World) (hb : Below w0.heap.size w0 W) :
    Calls Tryd.prog 80 #[.string s, .string ⟨#[47]⟩] W fun e w' => e = .returned (.slice (some ⟨W.heap.size, 0, none⟩) (piecesB s).length (piecesB s).length) ∧ w' = W.alloc (.cells ((piecesB s).map Value.string).toArray 9) := by
  obtain ⟨m, hm⟩ := (hG.keep W hb).2
  have hl : (piecesB s).length = Lib.countB s slashB + 1 := Lib.splitB_all slashB (by decide) 0 _ s rfl
  rw [hl]
  exact Tryd.strings_Split s slashB m W hs hm (by decide)
set_option maxRecDepth 100000 in
set_option maxHeartbeats 1000000 in
theorem parse_long (s : ByteArray) (w : World) (hG : LaidG w) (hs : s.size < 4294967281) (hn : ¬ s.data.toList = objectL) (h40 : 40 < (piecesB s).length) : Calls Tryd.prog 45 #[.string s] w (PatsPost w [] 7) := by
  have HSP : Aside0 (Calls Tryd.prog 80 #[.string s, .string ⟨#[47]⟩] ((w.alloc (.cells #[.slice none 0 0] 24)).alloc (.cells #[.int .i64 0] 25)) fun e w' => e = .returned (.slice (some ⟨w.heap.size + 1 + 1, 0, none⟩) (piecesB s).length (piecesB s).length) ∧ PW w w' (piecesB s) (.slice none 0 0) []) :=
    ⟨(split_calls hG s hs _ (wD_below (.slice none 0 0) 24 w)).mono fun e w' ⟨h1, h2⟩ => ⟨by simpa [wD] using h1, by rw [h2]; exact PW.start _⟩⟩
  have he : (s.toList == [111, 98, 106, 101, 99, 116]) = false := by
    rw [beq_eq_false_iff_ne, ByteArray.toList_eq]
    exact hn
  generalize (piecesB s).length = N at HSP h40
  have d1 : decide (40 < (N : Int)) = true := decide_eq_true (by omega)
  clear h40
  go_enter_defers Tryd.func45, Tryd.ntmps45
  go_wp2_with (first | (go_at_call 80; (with_reducible refine HSP.out.mono ?_); rintro e w1 ⟨rfl, hb1⟩; have HB1 := Aside0.mk hb1; clear hb1) | (go_at_call 51; (with_reducible refine (fail_true _ _).mono ?_); rintro e w2 ⟨rfl, rfl⟩))
  exact door_fails (fn := Tryd.f45) (p := 2) (q := 3) gin49 guardPats_fails res45 (fun w' hb => ⟨_, rfl, Kd.R_nil _ _ _ _ _, hb⟩) (Nat.le_refl _) HB1.out.1 rfl rfl rfl
end Go.Proofs.YtgkebfeggekkgaaDoor.Given
end
