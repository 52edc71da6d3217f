/- The plain law behind TextMatchesReference: for all texts and numbers, what the printed function computes is true. -/
import Derived.Test.YtdcemnmbfblmiaaDoorPTx13
import Derived.Test.YtdcemnmbfblmiaaDoorLOcc
set_option linter.unusedVariables false
set_option linter.unusedSimpArgs false
namespace Go.Proofs.YtdcemnmbfblmiaaDoor.PT
open Go.RowKit Go.Proofs.YtdcemnmbfblmiaaDoor.Given Go.Proofs.YtdcemnmbfblmiaaDoorW.PrintWords Go.Proofs.YtdcemnmbfblmiaaDoorW.PrintLast Go.Proofs.YtdcemnmbfblmiaaDoorW.PrintMore

theorem rfind_some (s p : ByteArray) (hs : s.size ≤ 1048576) (hp : p.size ≤ 1048576) (m : Nat) (hm : m ≤ s.size) (ho : Lib.occAt s.data.toList p.data.toList m = true) :
    ∀ (d i k : Nat), i + d = m → d < k → (∀ j, i ≤ j → j < m → Lib.occAt s.data.toList p.data.toList j = false) → mjolnerref03_Find.l0 k s p (i : Int) = some ((m : Int), 0) := by
  intro d
  induction d with
  | zero =>
    intro i k hi hk hno
    obtain ⟨k, rfl⟩ : ∃ m, k = m + 1 := ⟨k - 1, by omega⟩
    obtain rfl : i = m := by omega
    rw [mjolnerref03_Find.l0, if_pos (by omega), occurs_f s p i hm hs hp, ho]
    rfl
  | succ d ih =>
    intro i k hi hk hno
    obtain ⟨k, rfl⟩ : ∃ m, k = m + 1 := ⟨k - 1, by omega⟩
    rw [mjolnerref03_Find.l0, if_pos (by omega), occurs_f s p i (by omega) hs hp, hno i (Nat.le_refl _) (by omega)]
    simp only [Option.bind_some]
    rw [if_neg (by decide), w64 (n := i + 1) (by omega) (by omega)]
    exact ih (i + 1) k (by omega) (by omega) (fun j hj => hno j (by omega))
theorem rfind_none (s p : ByteArray) (hs : s.size ≤ 1048576) (hp : p.size ≤ 1048576) :
    ∀ (d i k : Nat), i + d = s.size + 1 → d < k → (∀ j, i ≤ j → j ≤ s.size → Lib.occAt s.data.toList p.data.toList j = false) → mjolnerref03_Find.l0 k s p (i : Int) = some (0, 5) := by
  intro d
  induction d with
  | zero =>
    intro i k hi hk hno
    obtain ⟨k, rfl⟩ : ∃ m, k = m + 1 := ⟨k - 1, by omega⟩
    rw [mjolnerref03_Find.l0, if_neg (by omega)]
  | succ d ih =>
    intro i k hi hk hno
    obtain ⟨k, rfl⟩ : ∃ m, k = m + 1 := ⟨k - 1, by omega⟩
    rw [mjolnerref03_Find.l0, if_pos (by omega), occurs_f s p i (by omega) hs hp, hno i (Nat.le_refl _) (by omega)]
    simp only [Option.bind_some]
    rw [if_neg (by decide), w64 (n := i + 1) (by omega) (by omega)]
    exact ih (i + 1) k (by omega) (by omega) (fun j hj => hno j (by omega))
theorem rfind_no (s p : ByteArray) (a : Int) (h : ¬ (0 ≤ a ∧ a ≤ s.size)) (k : Nat) : mjolnerref03_Find.f (k + 1) s p a = some (0, 3) := by
  unfold mjolnerref03_Find.f
  by_cases h1 : a < 0
  · rw [if_pos h1]; rfl
  · rw [if_neg h1, show decide (a > (s.size : Int)) = true from decide_eq_true (by omega)]; rfl
theorem rfind_f (s p : ByteArray) (n : Nat) (hn : n ≤ s.size) (hs : s.size ≤ 1048576) (hp : p.size ≤ 1048576) (k : Nat) (hk : s.size + 5 ≤ k) : mjolnerref03_Find.f k s p n = findR s.data.toList p.data.toList n := by
  obtain ⟨k, rfl⟩ : ∃ m, k = m + 1 := ⟨k - 1, by omega⟩
  have hl := len_list s
  unfold mjolnerref03_Find.f findR
  rw [if_neg (by omega), show decide ((n : Int) > (s.size : Int)) = false from decide_eq_false (by omega), mjolnerref03_Find.j0, if_neg (by decide)]
  rcases Lib.index_spec (s.data.toList.drop n) p.data.toList with ⟨e1, e2⟩ | ⟨i, e1, e2, e3, e4⟩
  · rw [e1, if_pos (by decide)]
    refine rfind_none s p hs hp (s.size + 1 - n) n k (by omega) (by omega) (fun j hj hr => ?_)
    have := e2 (j - n) (by rw [List.length_drop]; omega)
    rw [occ_off, show n + (j - n) = j by omega] at this
    exact this
  · rw [e1, if_neg (by omega), show (n : Int) + i = ((n + i : Nat) : Int) by omega]
    rw [List.length_drop] at e2
    rw [occ_off] at e3
    refine rfind_some s p hs hp (n + i) (by omega) e3 i n k rfl (by omega) (fun j hj hlt => ?_)
    have := e4 (j - n) (by omega)
    rw [occ_off, show n + (j - n) = j by omega] at this
    exact this
theorem bt_drop (s : ByteArray) (i : Nat) (h : i < s.size) : ∃ c : UInt8, bt s i = (c.toNat : Int) ∧ s.data.toList.drop i = c :: s.data.toList.drop (i + 1) := by
  have hl := len_list s
  refine ⟨s.data.toList[i]'(by omega), ?_, List.drop_eq_getElem_cons (by omega)⟩
  unfold bt
  simp [h, ByteArray.getElem_eq_getElem_data]
theorem rcmp_loop (a b : ByteArray) (ha : a.size ≤ 1048576) (hb : b.size ≤ 1048576) : ∀ (d i k : Nat), i + d = a.size → 2 * d + 1 < k → i ≤ b.size →
    mjolnerref03_Compare.l0 k a b (i : Int) = some (Lib.compareBytes (a.data.toList.drop i) (b.data.toList.drop i)) := by
  have hla := len_list a
  have hlb := len_list b
  intro d
  induction d with
  | zero =>
    intro i k hi hk hib
    obtain ⟨k, rfl⟩ : ∃ m, k = m + 1 + 1 := ⟨k - 2, by omega⟩
    rw [mjolnerref03_Compare.l0, if_neg (by omega), mjolnerref03_Compare.j1, if_neg (by decide), List.drop_of_length_le (show a.data.toList.length ≤ i by omega)]
    by_cases h : i < b.size
    · obtain ⟨c, _, hc⟩ := bt_drop b i h
      rw [if_pos (by omega), hc]
      rfl
    · rw [if_neg (by omega), if_neg (by omega), List.drop_of_length_le (show b.data.toList.length ≤ i by omega)]
      rfl
  | succ d ih =>
    intro i k hi hk hib
    obtain ⟨k, rfl⟩ : ∃ m, k = m + 1 + 1 := ⟨k - 2, by omega⟩
    obtain ⟨x, hx1, hx2⟩ := bt_drop a i (by omega)
    rw [mjolnerref03_Compare.l0, if_pos (by omega), hx2]
    by_cases h : i < b.size
    · obtain ⟨y, hy1, hy2⟩ := bt_drop b i h
      rw [show decide ((i : Int) < (b.size : Int)) = true from decide_eq_true (by omega), mjolnerref03_Compare.j1, if_pos rfl, if_pos (by omega), if_pos (by omega), if_pos (by omega), hx1, hy1, hy2]
      unfold Lib.compareBytes
      simp only [UInt8.lt_iff_toNat_lt]
      by_cases h1 : x.toNat < y.toNat
      · rw [if_pos (by omega), if_pos h1]
      · rw [if_neg (by omega), if_neg h1]
        by_cases h2 : y.toNat < x.toNat
        · rw [if_pos (by omega), if_pos h2]
        · rw [if_neg (by omega), if_neg h2, w64 (n := i + 1) (by omega) (by omega)]
          exact ih (i + 1) k (by omega) (by omega) (by omega)
    · rw [show decide ((i : Int) < (b.size : Int)) = false from decide_eq_false (by omega), mjolnerref03_Compare.j1, if_neg (by decide), if_neg (by omega), if_pos (by omega), List.drop_of_length_le (show b.data.toList.length ≤ i by omega)]
      rfl
theorem rcmp_f (a b : ByteArray) (ha : a.size ≤ 1048576) (hb : b.size ≤ 1048576) (k : Nat) (hk : 2 * a.size + 2 ≤ k) : mjolnerref03_Compare.f k a b = text_Compare.f a b :=
  rcmp_loop a b ha hb a.size 0 k (by omega) (by omega) (by omega)
theorem rcat_f (a b : ByteArray) (ha : a.size ≤ 1048576) (hb : b.size ≤ 1048576) : mjolnerref03_Cat.f a b = text_Cat.f a b := by
  unfold mjolnerref03_Cat.f text_Cat.f text_valid.f mjolnerref03_Valid.f mjolnerref03_value.f text_ranged.f mjolnerref03_Valid.f text_Valid.f
  simp only [Option.bind_some]
  by_cases h1 : a.size ≤ 4000
  · rw [decide_eq_true (by omega), if_pos rfl]
    by_cases h2 : b.size ≤ 4000
    · rw [decide_eq_true (by omega), if_pos rfl, show ([a, b].all fun s => decide (s.size ≤ 4000)) = true by simp [h1, h2], if_pos rfl]
    · rw [decide_eq_false (by omega), if_neg (by decide), show ([a, b].all fun s => decide (s.size ≤ 4000)) = false by simp; omega, if_neg (by decide)]
  · rw [decide_eq_false (by omega), if_neg (by decide), show ([a, b].all fun s => decide (s.size ≤ 4000)) = false by simp; omega, if_neg (by decide)]
theorem cat_some (a b : ByteArray) (ha : a.size ≤ 1048576) (hb : b.size ≤ 1048576) : ∃ x e, text_Cat.f a b = some (x, e) := by
  unfold text_Cat.f text_valid.f text_ranged.f text_Valid.f
  simp only [Option.bind_some]
  split
  · rw [if_pos (by omega)]
    split <;> exact ⟨_, _, rfl⟩
  · exact ⟨_, _, rfl⟩
theorem at_some (a : ByteArray) (n : Int) : ∃ x e, text_At.f a n = some (x, e) := by
  unfold text_At.f
  by_cases h1 : n < 0
  · rw [if_pos h1]; exact ⟨_, _, rfl⟩
  · rw [if_neg h1]
    by_cases h2 : n ≥ (a.size : Int)
    · rw [if_pos h2]; exact ⟨_, _, rfl⟩
    · rw [if_neg h2, if_pos (by omega), if_pos (by omega)]; exact ⟨_, _, rfl⟩
theorem cut_some (a : ByteArray) (n m : Int) : ∃ x e, text_Cut.f a n m = some (x, e) := by
  unfold text_Cut.f
  by_cases h1 : n < 0
  · rw [if_pos h1]; exact ⟨_, _, rfl⟩
  · rw [if_neg h1]
    by_cases h2 : n > m
    · rw [if_pos h2]; exact ⟨_, _, rfl⟩
    · rw [if_neg h2]
      by_cases h3 : m > (a.size : Int)
      · rw [if_pos h3]; exact ⟨_, _, rfl⟩
      · rw [if_neg h3, if_pos (by omega), if_pos (by omega), if_pos (by omega)]; exact ⟨_, _, rfl⟩
theorem TextMatchesReference_any (a b : ByteArray) (n m : Int) (ha : a.size ≤ 1048576) (hb : b.size ≤ 1048576) (k : Nat) (hk : 2 * a.size + 10 ≤ k) : mjolnerlaw03_TextMatchesReference.f k a b n m = some true := by
  obtain ⟨k, rfl⟩ : ∃ m, k = m + 1 + 1 := ⟨k - 2, by omega⟩
  obtain ⟨c, e, h1⟩ := cat_some a b ha hb
  obtain ⟨g, h, h2⟩ := at_some a n
  obtain ⟨q, r, h3⟩ := cut_some a n m
  have hr1 : mjolnerref03_Cat.f a b = some (c, e) := by rw [rcat_f a b ha hb, h1]
  have hr2 : mjolnerref03_At.f a n = some (g, h) := h2
  have hr3 : mjolnerref03_Cut.f a n m = some (q, r) := h3
  have hf : text_Find.f (k + 1) a b n = mjolnerref03_Find.f (k + 1) a b n ∧ ∃ x y, text_Find.f (k + 1) a b n = some (x, y) := by
    by_cases hn : 0 ≤ n ∧ n ≤ a.size
    · obtain ⟨n, rfl⟩ : ∃ i : Nat, n = i := ⟨n.toNat, by omega⟩
      rw [find_f a b n (by omega) ha hb, rfind_f a b n (by omega) ha hb (k + 1) (by omega)]
      refine ⟨rfl, ?_⟩
      unfold findR
      split <;> exact ⟨_, _, rfl⟩
    · rw [find_no a b n hn, rfind_no a b n hn]
      exact ⟨rfl, _, _, rfl⟩
  obtain ⟨hf1, x, y, hf2⟩ := hf
  have hc1 : text_Compare.f a b = some (Lib.compareBytes a.data.toList b.data.toList) := rfl
  unfold mjolnerlaw03_TextMatchesReference.f
  rw [h1, hr1, h2, hr2, rcmp_f a b ha hb _ (by omega), hc1]
  unfold text_Valid.f mjolnerref03_Valid.f
  simp only [Option.bind_some, if_true, bne_self_eq_false, if_false, Bool.false_eq_true]
  rw [mjolnerlaw03_TextMatchesReference.j0, if_neg (by decide), h3, hr3, ← hf1, hf2]
  unfold mjolnerlaw03_sane.f
  simp
theorem TextMatchesReference_law (a b : ByteArray) (n m : Int) (ha : a.size ≤ 1048576) (hb : b.size ≤ 1048576) : ∃ k, mjolnerlaw03_TextMatchesReference.f k a b n m = some true := ⟨_, TextMatchesReference_any a b n m ha hb _ (Nat.le_refl _)⟩
end Go.Proofs.YtdcemnmbfblmiaaDoor.PT
