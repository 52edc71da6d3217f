/- The plain law behind TextPlaces: for every text and two numbers, what the printed function computes is true. -/
import Derived.Test.YtdcemnmbfblmiaaDoorPTx23
import Derived.Test.YtdcemnmbfblmiaaDoorLLin
set_option linter.unusedVariables false
set_option linter.unusedSimpArgs false
namespace Go.Proofs.YtdcemnmbfblmiaaDoor.PT
open Go.RowKit Go.Proofs.YtdcemnmbfblmiaaDoor.Given Go.Proofs.YtdcemnmbfblmiaaDoorW.PrintWords Go.Proofs.YtdcemnmbfblmiaaDoorW.PrintLast Go.Proofs.YtdcemnmbfblmiaaDoorW.PrintMore

theorem bt_at (s : ByteArray) (i : Nat) (h : i < s.size) : bt s i = ((s.data.toList.getD i 0).toNat : Int) := by
  unfold bt
  simp [h, List.getD_eq_getElem?_getD, ByteArray.getElem_eq_getElem_data]
theorem rplace_loop (s : ByteArray) (a : Nat) (ha : a ≤ s.size) (hs : s.size ≤ 1048576) : ∀ (d i k : Nat), i + d = a → d < k →
    mjolnerref03_Place.l0 k s (a : Int) (lineOf s.data.toList i : Int) (colOf s.data.toList i : Int) (i : Int) = some ((lineOf s.data.toList a : Int), (colOf s.data.toList a : Int), 0) := by
  intro d
  induction d with
  | zero =>
    intro i k hi hk
    obtain ⟨k, rfl⟩ : ∃ m, k = m + 1 := ⟨k - 1, by omega⟩
    obtain rfl : i = a := by omega
    rw [mjolnerref03_Place.l0, if_neg (by omega)]
  | succ d ih =>
    intro i k hi hk
    obtain ⟨k, rfl⟩ : ∃ m, k = m + 1 := ⟨k - 1, by omega⟩
    have l1 := lineOf_le s.data.toList i
    have l2 := colOf_le s.data.toList i
    have e1 : lineOf s.data.toList (i + 1) = if s.data.toList.getD i 0 = 10 then lineOf s.data.toList i + 1 else lineOf s.data.toList i := rfl
    have e2 : colOf s.data.toList (i + 1) = if s.data.toList.getD i 0 = 10 then 1 else colOf s.data.toList i + 1 := rfl
    have h := ih (i + 1) k (by omega) (by omega)
    rw [e1, e2] at h
    rw [mjolnerref03_Place.l0, if_pos (by omega), if_pos (by omega), if_pos (by omega), bt_at s i (by omega), show wrap64 ((i : Int) + 1) = ((i + 1 : Nat) : Int) by rw [IntWalk.wrap64_in _ (by omega)]; omega,
      show wrap64 ((lineOf s.data.toList i : Int) + 1) = ((lineOf s.data.toList i + 1 : Nat) : Int) by rw [IntWalk.wrap64_in _ (by omega)]; omega, show wrap64 ((colOf s.data.toList i : Int) + 1) = ((colOf s.data.toList i + 1 : Nat) : Int) by rw [IntWalk.wrap64_in _ (by omega)]; omega]
    by_cases hx : s.data.toList.getD i 0 = 10
    · rw [if_pos hx, if_pos hx] at h
      rw [if_pos ((toNat10 _).2 hx)]
      exact h
    · rw [if_neg hx, if_neg hx] at h
      rw [if_neg (fun e => hx ((toNat10 _).1 e))]
      exact h
theorem rplace_f (s : ByteArray) (i : Nat) (hi : i ≤ s.size) (hs : s.size ≤ 1048576) (k : Nat) (hk : s.size + 3 ≤ k) : mjolnerref03_Place.f k s i = some ((lineOf s.data.toList i : Int), (colOf s.data.toList i : Int), 0) := by
  obtain ⟨k, rfl⟩ : ∃ m, k = m + 1 := ⟨k - 1, by omega⟩
  unfold mjolnerref03_Place.f
  rw [if_neg (by omega), show decide ((i : Int) > (s.size : Int)) = false from decide_eq_false (by omega), mjolnerref03_Place.j0, if_neg (by decide)]
  exact rplace_loop s i hi hs i 0 k (by omega) (by omega)
theorem rplace_no (s : ByteArray) (i : Int) (hi : ¬ (0 ≤ i ∧ i ≤ s.size)) (k : Nat) : mjolnerref03_Place.f (k + 1) s i = some (0, 0, 3) := by
  unfold mjolnerref03_Place.f
  by_cases h : i < 0
  · rw [if_pos h]; rfl
  · rw [if_neg h, show decide (i > (s.size : Int)) = true from decide_eq_true (by omega)]; rfl
theorem roffset_loop (s : ByteArray) (l c : Int) (hs : s.size ≤ 1048576) : ∀ (d i k : Nat), i + d = s.size → 2 * d + 3 < k → (∀ j, j < i → ¬ ((lineOf s.data.toList j : Int) = l ∧ (colOf s.data.toList j : Int) = c)) →
    Found s.data.toList l c (mjolnerref03_Offset.l0 k s l c (lineOf s.data.toList i : Int) (colOf s.data.toList i : Int) (i : Int)) := by
  have hl := len_list s
  -- one round: found here, or not
  have round : ∀ (i k : Nat) (K : Option (Int × Int)), i ≤ s.size → mjolnerref03_Offset.j1 k s l c (lineOf s.data.toList i : Int) (colOf s.data.toList i : Int) (i : Int) true = some ((i : Int), 0) →
      mjolnerref03_Offset.j1 k s l c (lineOf s.data.toList i : Int) (colOf s.data.toList i : Int) (i : Int) false = K →
      (¬ ((lineOf s.data.toList i : Int) = l ∧ (colOf s.data.toList i : Int) = c) → Found s.data.toList l c K) → Found s.data.toList l c (mjolnerref03_Offset.l0 (k + 1) s l c (lineOf s.data.toList i : Int) (colOf s.data.toList i : Int) (i : Int)) := by
    intro i k K hi h1 h2 h3
    rw [mjolnerref03_Offset.l0, if_pos (by omega)]
    by_cases q1 : (lineOf s.data.toList i : Int) = l
    · rw [if_pos q1]
      by_cases q2 : (colOf s.data.toList i : Int) = c
      · rw [beq_iff_eq.2 q2, h1]
        exact .inl ⟨i, by omega, q1, q2, rfl⟩
      · rw [beq_eq_false_iff_ne.2 q2, h2]
        exact h3 (fun h => q2 h.2)
    · rw [if_neg q1, h2]
      exact h3 (fun h => q1 h.1)
  have found : ∀ (k : Nat) (x y : Int) (i : Nat), mjolnerref03_Offset.j1 (k + 1) s l c x y (i : Int) true = some ((i : Int), 0) := by
    intro k x y i
    rw [mjolnerref03_Offset.j1, if_pos rfl]
  intro d
  induction d with
  | zero =>
    intro i k hi hk hno
    obtain ⟨k, rfl⟩ : ∃ m, k = m + 1 + 1 + 1 := ⟨k - 3, by omega⟩
    refine round i (k + 1 + 1) (some (0, 5)) (by omega) (found _ _ _ _) ?_ (fun hn => .inr ⟨fun j hj => ?_, rfl⟩)
    · rw [mjolnerref03_Offset.j1, if_neg (by decide), if_neg (by omega), mjolnerref03_Offset.l0, if_neg (by rw [IntWalk.wrap64_in _ (by omega)]; omega)]
    · rcases Nat.lt_or_ge j i with h | h
      · exact hno j h
      · rw [show j = i by omega]
        exact hn
  | succ d ih =>
    intro i k hi hk hno
    obtain ⟨k, rfl⟩ : ∃ m, k = m + 1 + 1 := ⟨k - 2, by omega⟩
    have l1 := lineOf_le s.data.toList i
    have l2 := colOf_le s.data.toList i
    have e1 : lineOf s.data.toList (i + 1) = if s.data.toList.getD i 0 = 10 then lineOf s.data.toList i + 1 else lineOf s.data.toList i := rfl
    have e2 : colOf s.data.toList (i + 1) = if s.data.toList.getD i 0 = 10 then 1 else colOf s.data.toList i + 1 := rfl
    refine round i (k + 1) (mjolnerref03_Offset.l0 k s l c (lineOf s.data.toList (i + 1) : Int) (colOf s.data.toList (i + 1) : Int) ((i + 1 : Nat) : Int)) (by omega) (found _ _ _ _) ?_ (fun hn => ih (i + 1) k (by omega) (by omega) (fun j hj => ?_))
    · rw [mjolnerref03_Offset.j1, if_neg (by decide), if_pos (by omega), if_pos (by omega), bt_at s i (by omega), show wrap64 ((i : Int) + 1) = ((i + 1 : Nat) : Int) by rw [IntWalk.wrap64_in _ (by omega)]; omega,
        show wrap64 ((lineOf s.data.toList i : Int) + 1) = ((lineOf s.data.toList i + 1 : Nat) : Int) by rw [IntWalk.wrap64_in _ (by omega)]; omega, show wrap64 ((colOf s.data.toList i : Int) + 1) = ((colOf s.data.toList i + 1 : Nat) : Int) by rw [IntWalk.wrap64_in _ (by omega)]; omega, e1, e2]
      by_cases hx : s.data.toList.getD i 0 = 10
      · rw [if_pos ((toNat10 _).2 hx), if_pos hx, if_pos hx]
        rfl
      · rw [if_neg (fun e => hx ((toNat10 _).1 e)), if_neg hx, if_neg hx]
    · rcases Nat.lt_or_ge j i with h | h
      · exact hno j h
      · rw [show j = i by omega]
        exact hn
theorem roffset_f (s : ByteArray) (l c : Int) (hs : s.size ≤ 1048576) (k : Nat) (hk : 2 * s.size + 4 ≤ k) : Found s.data.toList l c (mjolnerref03_Offset.f k s l c) :=
  roffset_loop s l c hs s.size 0 k (by omega) (by omega) (fun j hj => absurd hj (by omega))
theorem TextPlaces_any (s : ByteArray) (n m : Int) (hs : s.size ≤ 1048576) (k : Nat) (hk : 2 * s.size + 10 ≤ k) : mjolnerlaw03_TextPlaces.f k s n m = some true := by
  obtain ⟨k, rfl⟩ : ∃ m, k = m + 1 := ⟨k - 1, by omega⟩
  have hp : text_Place.f (k + 1) s n = mjolnerref03_Place.f (k + 1) s n := by
    by_cases hn : 0 ≤ n ∧ n ≤ s.size
    · obtain ⟨n, rfl⟩ : ∃ j : Nat, n = j := ⟨n.toNat, by omega⟩
      rw [place_f s n (by omega) hs _ (by omega), rplace_f s n (by omega) hs _ (by omega)]
    · rw [place_no s n hn, rplace_no s n hn]
  have hp2 : ∃ a b c, text_Place.f (k + 1) s n = some (a, b, c) := by
    by_cases hn : 0 ≤ n ∧ n ≤ s.size
    · obtain ⟨n, rfl⟩ : ∃ j : Nat, n = j := ⟨n.toNat, by omega⟩
      exact ⟨_, _, _, place_f s n (by omega) hs _ (by omega)⟩
    · exact ⟨_, _, _, place_no s n hn k⟩
  have ho := found_same (offset_f s n m hs (k + 1) (by omega)) (roffset_f s n m hs (k + 1) (by omega))
  have ho2 : ∃ a b, text_Offset.f (k + 1) s n m = some (a, b) := by
    rcases offset_f s n m hs (k + 1) (by omega) with ⟨i, _, _, _, h⟩ | ⟨_, h⟩ <;> exact ⟨_, _, h⟩
  obtain ⟨a, b, c, h1⟩ := hp2
  obtain ⟨d, e, h2⟩ := ho2
  unfold mjolnerlaw03_TextPlaces.f mjolnerlaw03_sane.f
  rw [← hp, ← ho, h1, h2]
  simp
theorem TextPlaces_law (s : ByteArray) (n m : Int) (hs : s.size ≤ 1048576) : ∃ k, mjolnerlaw03_TextPlaces.f k s n m = some true := ⟨_, TextPlaces_any s n m hs _ (Nat.le_refl _)⟩
end Go.Proofs.YtdcemnmbfblmiaaDoor.PT
