/- The contract of Parse. -/
import Derived.Test.YtgkebfeggekkgaaDoorHo
set_option linter.unusedVariables false
set_option linter.unusedSimpArgs false
namespace Go.Proofs.YtgkebfeggekkgaaDoor.Given
open Go.RowKit Go.Proofs.YtgkebfeggekkgaaDoor.PT Go.Proofs.YtgkebfeggekkgaaDoorW.PrintWords Go.Proofs.YtgkebfeggekkgaaDoorW.PrintLast Go.Proofs.YtgkebfeggekkgaaDoorW.PrintMore

/-- the part that a piece of text is -/
def partV (t : List UInt8) : Option S31 :=
  match numV (Lib.cut t [64]).1 with
  | none => none
  | some n =>
    if (Lib.cut t [64]).2.2 = true then
      (if (Lib.cut (Lib.cut t [64]).2.1 [46]).2.2 = true then
        match numV (Lib.cut (Lib.cut t [64]).2.1 [46]).1 with
        | none => none
        | some a => match numV (Lib.cut (Lib.cut t [64]).2.1 [46]).2.1 with
          | none => none
          | some b => if a = 0 then none else some ⟨n, a, b⟩
      else none)
    else some ⟨n, 0, 0⟩
def partsV : List (List UInt8) → Option (List S31)
  | [] => some []
  | t :: r => match partV t with
    | none => none
    | some x => (partsV r).map (x :: ·)
def slashB : ByteArray := ⟨#[47]⟩
def piecesB (s : ByteArray) : List ByteArray := Lib.splitB slashB 0 (Lib.countB s slashB) s
def objectL : List UInt8 := [111, 98, 106, 101, 99, 116]
def parseV (s : ByteArray) : List S31 × Int :=
  if s.data.toList = objectL then ([], 0) else if 40 < (piecesB s).length then ([], 7) else match partsV ((piecesB s).map fun x => x.data.toList) with | some l => (l, 0) | none => ([], 7)
theorem gin49' : GuardIn 49 := gin49
theorem res45 : DoorResults Tryd.f45 2 3 := by
  intro t W g x u h2 h3 c0 c1
  have hu24 := Tryd.underlying24
  have hu25 := Tryd.underlying25
  have e2 : t[2]?.getD undef = .pointer (some ⟨g, 0, none⟩) := by simpa [Array.getD_eq_getD_getElem?] using h2
  have e3 : t[3]?.getD undef = .pointer (some ⟨g + 1, 0, none⟩) := by simpa [Array.getD_eq_getD_getElem?] using h3
  simp [results, Tryd.results45, go_sem, e2, e3, c0, c1]
theorem cut_calls {w0 : World} (hG : LaidG w0) (s sep : ByteArray) (hs : s.size < 4294967281) (W : World) (hb : Below w0.heap.size w0 W) :
    Calls Tryd.prog 81 #[.string s, .string sep] W fun e w' => e = .returned (.tuple #[.string ⟨(Lib.cut s.data.toList sep.data.toList).1.toArray⟩, .string ⟨(Lib.cut s.data.toList sep.data.toList).2.1.toArray⟩, .bool (Lib.cut s.data.toList sep.data.toList).2.2]) ∧ Below W.heap.size W w' := by
  obtain ⟨m, hm⟩ := (hG.keep W hb).2
  exact (Tryd.strings_Cut s sep m W hs hm).mono fun e w' ⟨h1, q, h2⟩ => ⟨h1, by rw [h2]; exact pw_below_drewN (Below.refl _ _) q⟩
theorem cut_le2 (s sep : List UInt8) : (Lib.cut s sep).2.1.length ≤ s.length := by
  unfold Lib.cut
  split
  · simp
  · simp
theorem splitB_le (sep : ByteArray) : ∀ (k : Nat) (s : ByteArray), ∀ x ∈ Lib.splitB sep 0 k s, x.size ≤ s.size
  | 0, s, x, h => by
    rw [Lib.splitB_zero, List.mem_singleton] at h
    rw [h]
    exact Nat.le_refl _
  | k + 1, s, x, h => by
    unfold Lib.splitB at h
    split at h
    · rw [List.mem_singleton] at h
      rw [h]
      exact Nat.le_refl _
    · rcases List.mem_cons.1 h with rfl | h
      · rw [ByteArray.size_extract]
        omega
      · have := splitB_le sep k _ x h
        rw [ByteArray.size_extract] at this
        omega
/-- the world while the parts are read -/
def PW (w W : World) (ps : List ByteArray) (v : Value) (xs : List S31) : Prop :=
  Rd w.heap.size w W v (.int .i64 0) ∧ (∀ (j : Nat) (h : j < ps.length), W.cell? ⟨w.heap.size + 1 + 1, j, none⟩ = some (.string ps[j])) ∧ Kd.R k31 31 W (w.heap.size + 1 + 1 + 1) (fun _ => True) v xs ∧ w.heap.size + 1 + 1 + 1 ≤ W.heap.size
theorem PW.keep {w W W' : World} {ps : List ByteArray} {v : Value} {xs : List S31} (h : PW w W ps v xs) (hb : Below W.heap.size W W') : PW w W' ps v xs := by
  obtain ⟨h1, h2, h3, h4⟩ := h
  exact ⟨h1.keep hb (Nat.le_refl _), fun j hj => (bcell hb (by omega)).trans (h2 j hj), Kd.R_below h3 hb, Nat.le_trans h4 hb.size⟩
theorem PW.set {w W W' : World} {ps : List ByteArray} {v v' : Value} {xs ys : List S31} (h : PW w W ps v xs) (hb : Below (w.heap.size + 1 + 1 + 1) W W') (hR : Kd.R k31 31 W' (w.heap.size + 1 + 1 + 1) (fun _ => True) v' ys) : PW w (W'.setCell ⟨w.heap.size, 0, none⟩ v') ps v' ys := by
  obtain ⟨h1, h2, h3, h4⟩ := h
  have hrd : Rd w.heap.size w W' v (.int .i64 0) := h1.keep2 (hb.mono (by omega))
  refine ⟨hrd.set0 v', fun j hj => ?_, ?_, ?_⟩
  · refine (World.cell?_setCell_far _ _ _ _ (by simp; omega)).trans ((bcell hb (by omega)).trans (h2 j hj))
  · have h1 := Kd.R_bound hR
    exact Kd.R_mono (Kd.R_far h1 (p := ⟨w.heap.size, 0, none⟩) (fun k hk => by have := hk.2.1; simp only; omega) v') (fun _ _ => trivial)
  · have := hb.size
    simp
    omega
theorem PW.start {w : World} (ps : List ByteArray) : PW w ((wD (.slice none 0 0) 24 w).alloc (.cells (ps.map Value.string).toArray 9)) ps (.slice none 0 0) [] := by
  refine ⟨Rd_of ((Below.refl _ _).alloc (by simp [wD]) _), fun j hj => ?_, Kd.R_nil _ _ _ _ _, by simp [wD]⟩
  simp [wD, go_sem, hj]
/-! PARSEWALK -/
set_option maxRecDepth 100000 in
set_option maxHeartbeats 1000000 in
theorem parse_obj (s : ByteArray) (w : World) (hs : s.data.toList = objectL) : Calls Tryd.prog 45 #[.string s] w (PatsPost w [] 0) := by
  have hu24 := Tryd.underlying24
  have hu25 := Tryd.underlying25
  have HRD := Aside0.mk (Rd_of (Below.refl _ (wD (.slice none 0 0) 24 w)))
  have he : (s.toList == [111, 98, 106, 101, 99, 116]) = true := by rw [ByteArray.toList_eq, hs]; rfl
  clear hs
  go_enter_defers Tryd.func45, Tryd.ntmps45
  go_wp2_with (fail)
  show Leaves _ _ _ _ (defsG 49 w.heap.size) _ _
  exact door_ends gin49 guardPats_idle res45 (x := .slice none 0 0) (u := .int .i64 0) (by simp [go_sem]) (by simp [go_sem]) rfl rfl ⟨_, rfl, Kd.R_nil _ _ _ _ _, ((Below.refl _ _).alloc (Nat.le_refl _) _).alloc (by simp) _⟩
theorem split_calls {w0 : World} (hG : LaidG w0) (s : ByteArray) (hs : s.size < 4294967281) (W : World) (hb : Below w0.heap.size w0 W) :
    Calls Tryd.prog 80 #[.string s, .string ⟨#[47]⟩] W fun e w' => e = .returned (.slice (some ⟨W.heap.size, 0, none⟩) (piecesB s).length (piecesB s).length) ∧ w' = W.alloc (.cells ((piecesB s).map Value.string).toArray 9) := by
  obtain ⟨m, hm⟩ := (hG.keep W hb).2
  have hl : (piecesB s).length = Lib.countB s slashB + 1 := Lib.splitB_all slashB (by decide) 0 _ s rfl
  rw [hl]
  exact Tryd.strings_Split s slashB m W hs hm (by decide)
set_option maxRecDepth 100000 in
set_option maxHeartbeats 1000000 in
theorem parse_long (s : ByteArray) (w : World) (hG : LaidG w) (hs : s.size < 4294967281) (hn : ¬ s.data.toList = objectL) (h40 : 40 < (piecesB s).length) : Calls Tryd.prog 45 #[.string s] w (PatsPost w [] 7) := by
  have HSP : Aside0 (Calls Tryd.prog 80 #[.string s, .string ⟨#[47]⟩] ((w.alloc (.cells #[.slice none 0 0] 24)).alloc (.cells #[.int .i64 0] 25)) fun e w' => e = .returned (.slice (some ⟨w.heap.size + 1 + 1, 0, none⟩) (piecesB s).length (piecesB s).length) ∧ PW w w' (piecesB s) (.slice none 0 0) []) :=
    ⟨(split_calls hG s hs _ (wD_below (.slice none 0 0) 24 w)).mono fun e w' ⟨h1, h2⟩ => ⟨by simpa [wD] using h1, by rw [h2]; exact PW.start _⟩⟩
  have he : (s.toList == [111, 98, 106, 101, 99, 116]) = false := by
    rw [beq_eq_false_iff_ne, ByteArray.toList_eq]
    exact hn
  generalize (piecesB s).length = N at HSP h40
  have d1 : decide (40 < (N : Int)) = true := decide_eq_true (by omega)
  clear h40
  go_enter_defers Tryd.func45, Tryd.ntmps45
  go_wp2_with (first | (go_at_call 80; (with_reducible refine HSP.out.mono ?_); rintro e w1 ⟨rfl, hb1⟩; have HB1 := Aside0.mk hb1; clear hb1) | (go_at_call 51; (with_reducible refine (fail_true _ _).mono ?_); rintro e w2 ⟨rfl, rfl⟩))
  exact door_fails (fn := Tryd.f45) (p := 2) (q := 3) gin49 guardPats_fails res45 (fun w' hb => ⟨_, rfl, Kd.R_nil _ _ _ _ _, hb⟩) (Nat.le_refl _) HB1.out.1 rfl rfl rfl
end Go.Proofs.YtgkebfeggekkgaaDoor.Given
