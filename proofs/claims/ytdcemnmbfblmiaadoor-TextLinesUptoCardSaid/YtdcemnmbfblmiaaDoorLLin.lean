/- The plain law behind TextLines: for every text and two places, what the printed function computes is true; and what Place and Offset return, by lines and columns. -/
import Derived.Test.YtdcemnmbfblmiaaDoorPTx35
import Derived.Test.YtdcemnmbfblmiaaDoorLEdit
import Derived.Lib.IndexLaws
set_option linter.unusedVariables false
set_option linter.unusedSimpArgs false
namespace Go.Proofs.YtdcemnmbfblmiaaDoor.PT
open Go.RowKit Go.Proofs.YtdcemnmbfblmiaaDoor.Given Go.Proofs.YtdcemnmbfblmiaaDoorW.PrintWords Go.Proofs.YtdcemnmbfblmiaaDoorW.PrintLast Go.Proofs.YtdcemnmbfblmiaaDoorW.PrintMore

/-- the line of a place -/
def lineOf (S : List UInt8) : Nat → Nat
  | 0 => 1
  | i + 1 => if S.getD i 0 = 10 then lineOf S i + 1 else lineOf S i
/-- the column of a place -/
def colOf (S : List UInt8) : Nat → Nat
  | 0 => 1
  | i + 1 => if S.getD i 0 = 10 then 1 else colOf S i + 1
theorem lineOf_pos (S : List UInt8) : ∀ i, 1 ≤ lineOf S i
  | 0 => Nat.le_refl _
  | i + 1 => by have := lineOf_pos S i; unfold lineOf; split <;> omega
theorem colOf_pos (S : List UInt8) : ∀ i, 1 ≤ colOf S i
  | 0 => Nat.le_refl _
  | i + 1 => by have := colOf_pos S i; unfold colOf; split <;> omega
theorem lineOf_le (S : List UInt8) : ∀ i, lineOf S i ≤ i + 1
  | 0 => Nat.le_refl _
  | i + 1 => by have := lineOf_le S i; unfold lineOf; split <;> omega
theorem colOf_le (S : List UInt8) : ∀ i, colOf S i ≤ i + 1
  | 0 => Nat.le_refl _
  | i + 1 => by have := colOf_le S i; unfold colOf; split <;> omega
/-- a later place comes later -/
theorem line_lt (S : List UInt8) (i : Nat) : ∀ d, lineOf S i < lineOf S (i + (d + 1)) ∨ (lineOf S i = lineOf S (i + (d + 1)) ∧ colOf S i < colOf S (i + (d + 1)))
  | 0 => by
    have e1 : lineOf S (i + (0 + 1)) = if S.getD i 0 = 10 then lineOf S i + 1 else lineOf S i := rfl
    have e2 : colOf S (i + (0 + 1)) = if S.getD i 0 = 10 then 1 else colOf S i + 1 := rfl
    rw [e1, e2]
    split
    · exact .inl (by omega)
    · exact .inr ⟨rfl, by omega⟩
  | d + 1 => by
    have ih := line_lt S i d
    have e1 : lineOf S (i + (d + 1 + 1)) = if S.getD (i + (d + 1)) 0 = 10 then lineOf S (i + (d + 1)) + 1 else lineOf S (i + (d + 1)) := rfl
    have e2 : colOf S (i + (d + 1 + 1)) = if S.getD (i + (d + 1)) 0 = 10 then 1 else colOf S (i + (d + 1)) + 1 := rfl
    rw [e1, e2]
    split
    · exact .inl (by omega)
    · rcases ih with h | ⟨h1, h2⟩
      · exact .inl h
      · exact .inr ⟨h1, by omega⟩
theorem line_mono {S : List UInt8} {i j : Nat} (h : i < j) : lineOf S i < lineOf S j ∨ (lineOf S i = lineOf S j ∧ colOf S i < colOf S j) := by
  obtain ⟨d, rfl⟩ : ∃ d, j = i + (d + 1) := ⟨j - i - 1, by omega⟩
  exact line_lt S i d
theorem line_inj {S : List UInt8} {i j : Nat} (h1 : lineOf S i = lineOf S j) (h2 : colOf S i = colOf S j) : i = j := by
  rcases Nat.lt_trichotomy i j with h | h | h
  · rcases line_mono (S := S) h with k | ⟨_, k⟩ <;> omega
  · exact h
  · rcases line_mono (S := S) h with k | ⟨_, k⟩ <;> omega
theorem lineOf_count (S : List UInt8) : ∀ i, i ≤ S.length → lineOf S i = 1 + (S.take i).count 10
  | 0, _ => by simp [lineOf]
  | i + 1, h => by
    have ih := lineOf_count S i (by omega)
    have hg : S.getD i 0 = S[i] := by rw [List.getD_eq_getElem?_getD, List.getElem?_eq_getElem (by omega)]; rfl
    rw [List.take_succ_eq_append_getElem (by omega), List.count_append, lineOf, ih, hg]
    by_cases hx : S[i] = 10
    · rw [if_pos hx, hx]; simp
      omega
    · rw [if_neg hx]
      simp [hx]
theorem bt_take (s : ByteArray) (a i : Nat) (ha : a ≤ s.size) (hi : i < a) : bt (s.extract 0 a) i = ((s.data.toList.getD i 0).toNat : Int) := by
  have hl := len_list s
  have hsz : (s.extract 0 a).size = a := by rw [ex_size _ _ _ ha]; omega
  have h1 : (s.extract 0 a)[i]'(by omega) = s.data.toList.getD i 0 := by
    have e1 : (s.extract 0 a).data.toList[i]? = some ((s.extract 0 a)[i]'(by omega)) := by simp [hsz, hi, ByteArray.getElem_eq_getElem_data]
    rw [ex_list, List.drop_zero, Nat.sub_zero, List.getElem?_take_of_lt hi, List.getElem?_eq_getElem (by omega)] at e1
    rw [List.getD_eq_getElem?_getD, List.getElem?_eq_getElem (by omega)]
    exact (Option.some.inj e1).symm
  unfold bt
  simp only [Int.toNat_natCast]
  rw [dif_pos (by omega), h1]
theorem toNat10 (c : UInt8) : ((c.toNat : Int) = 10) ↔ c = 10 := by
  constructor
  · intro h; exact UInt8.toNat_inj.1 (by show c.toNat = 10; omega)
  · intro h; subst h; rfl
theorem last_byte (s : ByteArray) (a : Nat) (ha : a ≤ s.size) (hs : s.size ≤ 1048576) : ∀ (i k : Nat), i ≤ a → i < k →
    bytealg_LastIndexByteString.l0 k (s.extract 0 a) 10 ((i : Int) - 1) = some ((i : Int) - colOf s.data.toList i)
  | 0, k, _, hk => by
    obtain ⟨k, rfl⟩ : ∃ m, k = m + 1 := ⟨k - 1, by omega⟩
    rw [bytealg_LastIndexByteString.l0, if_neg (by omega)]
    rfl
  | i + 1, k, hi, hk => by
    obtain ⟨k, rfl⟩ : ∃ m, k = m + 1 := ⟨k - 1, by omega⟩
    have hsz : (s.extract 0 a).size = a := by rw [ex_size _ _ _ ha]; omega
    rw [bytealg_LastIndexByteString.l0, show ((i + 1 : Nat) : Int) - 1 = (i : Int) by omega, if_pos (by omega), if_pos (by omega), if_pos (by rw [hsz]; omega), bt_take s a i ha (by omega)]
    have e2 : colOf s.data.toList (i + 1) = if s.data.toList.getD i 0 = 10 then 1 else colOf s.data.toList i + 1 := rfl
    by_cases hx : s.data.toList.getD i 0 = 10
    · rw [if_pos ((toNat10 _).2 hx), e2, if_pos hx]
      congr 1
      omega
    · rw [if_neg (fun h => hx ((toNat10 _).1 h)), e2, if_neg hx, show wrap64 ((i : Int) - 1) = (i : Int) - 1 from IntWalk.wrap64_in _ (by omega), last_byte s a ha hs i k (by omega) (by omega)]
      congr 1
      omega
theorem place_f (s : ByteArray) (i : Nat) (hi : i ≤ s.size) (hs : s.size ≤ 1048576) (k : Nat) (hk : s.size + 3 ≤ k) : text_Place.f k s i = some ((lineOf s.data.toList i : Int), (colOf s.data.toList i : Int), 0) := by
  obtain ⟨k, rfl⟩ : ∃ m, k = m + 1 := ⟨k - 1, by omega⟩
  have hl := len_list s
  have hsz : (s.extract 0 i).size = i := by rw [ex_size _ _ _ hi]; omega
  unfold text_Place.f
  rw [if_neg (by omega), show decide ((i : Int) > (s.size : Int)) = false from decide_eq_false (by omega), text_Place.j0, if_neg (by decide), if_pos (by omega), if_pos (by omega), Int.toNat_natCast]
  have hc : strings_Count.f (s.extract 0 i) (⟨#[10]⟩ : ByteArray) = some (((s.data.toList.take i).count 10 : Nat) : Int) := by
    unfold strings_Count.f
    rw [if_pos (show (⟨#[10]⟩ : ByteArray).size = 1 from rfl), ex_list, List.drop_zero, Nat.sub_zero]
    rfl
  have hlb : strings_LastIndexByte.f k (s.extract 0 i) 10 = some ((i : Int) - colOf s.data.toList i) := by
    unfold strings_LastIndexByte.f bytealg_LastIndexByteString.f
    rw [hsz, show wrap64 ((i : Int) - 1) = (i : Int) - 1 from IntWalk.wrap64_in _ (by omega), last_byte s i hi hs i k (Nat.le_refl _) (by omega)]
    rfl
  rw [hc, hlb]
  simp only [Option.bind_some]
  have h1 := lineOf_count s.data.toList i (by omega)
  have h2 := lineOf_le s.data.toList i
  have h3 := colOf_le s.data.toList i
  rw [IntWalk.wrap64_in _ (by omega), IntWalk.wrap64_in _ (by omega)]
  congr 2
  · omega
  · congr 1
    omega
theorem place_no (s : ByteArray) (i : Int) (hi : ¬ (0 ≤ i ∧ i ≤ s.size)) (k : Nat) : text_Place.f (k + 1) s i = some (0, 0, 3) := by
  unfold text_Place.f
  by_cases h : i < 0
  · rw [if_pos h]; rfl
  · rw [if_neg h, show decide (i > (s.size : Int)) = true from decide_eq_true (by omega)]; rfl
/-- what a search for a line and a column may return -/
def Found (S : List UInt8) (l c : Int) : Option (Int × Int) → Prop := fun r => (∃ i : Nat, i ≤ S.length ∧ (lineOf S i : Int) = l ∧ (colOf S i : Int) = c ∧ r = some ((i : Int), 0)) ∨ ((∀ i : Nat, i ≤ S.length → ¬ ((lineOf S i : Int) = l ∧ (colOf S i : Int) = c)) ∧ r = some (0, 5))
theorem found_same {S : List UInt8} {l c : Int} {r r' : Option (Int × Int)} (h : Found S l c r) (h' : Found S l c r') : r = r' := by
  rcases h with ⟨i, hi, h1, h2, rfl⟩ | ⟨h1, rfl⟩
  · rcases h' with ⟨j, hj, g1, g2, rfl⟩ | ⟨g1, rfl⟩
    · rw [line_inj (S := S) (i := i) (j := j) (by omega) (by omega)]
    · exact absurd ⟨h1, h2⟩ (g1 i hi)
  · rcases h' with ⟨j, hj, g1, g2, rfl⟩ | ⟨g1, rfl⟩
    · exact absurd ⟨g1, g2⟩ (h1 j hj)
    · rfl
theorem found_at {S : List UInt8} {i : Nat} {r : Option (Int × Int)} (hi : i ≤ S.length) (h : Found S (lineOf S i) (colOf S i) r) : r = some ((i : Int), 0) :=
  found_same h (.inl ⟨i, hi, rfl, rfl, rfl⟩)
/-- on a line nothing changes but the column -/
theorem on_line {S : List UInt8} {x : Nat} : ∀ d, (∀ j, j < d → S.getD (x + j) 0 ≠ 10) → lineOf S (x + d) = lineOf S x ∧ colOf S (x + d) = colOf S x + d
  | 0, _ => ⟨rfl, rfl⟩
  | d + 1, h => by
    obtain ⟨h1, h2⟩ := on_line d (fun j hj => h j (by omega))
    have hx := h d (by omega)
    constructor
    · show (if S.getD (x + d) 0 = 10 then lineOf S (x + d) + 1 else lineOf S (x + d)) = _
      rw [if_neg hx, h1]
    · show (if S.getD (x + d) 0 = 10 then 1 else colOf S (x + d) + 1) = _
      rw [if_neg hx, h2]
      omega
theorem line_le {S : List UInt8} {i j : Nat} (h : i ≤ j) : lineOf S i ≤ lineOf S j := by
  rcases Nat.eq_or_lt_of_le h with rfl | h
  · exact Nat.le_refl _
  · rcases line_mono (S := S) h with k | ⟨k, _⟩ <;> omega
theorem getD_ne {S : List UInt8} {x j : Nat} (h : (S.drop x)[j]? ≠ some 10) : S.getD (x + j) 0 ≠ 10 := by
  rw [List.getElem?_drop] at h
  rw [List.getD_eq_getElem?_getD]
  intro e
  cases hg : S[x + j]? with
  | none => rw [hg] at e; revert e; decide
  | some c => rw [hg] at e h; exact h (by rw [show c = 10 from e])
theorem tail_at (s : ByteArray) (x : Nat) : (s.extract x s.size).data.toList = s.data.toList.drop x := by
  have hl := len_list s
  rw [ex_list, List.take_of_length_le (by rw [List.length_drop]; omega)]
theorem indexByte_lt {l : List UInt8} {c : UInt8} {o : Nat} (h : Lib.indexByte l c = o) : o < l.length := by
  have h1 := (Lib.indexByte_some h).1
  exact (List.getElem?_eq_some_iff.1 h1).1
theorem byte10 : ((10 : Int).toNat.toUInt8) = 10 := rfl
theorem offset_loop (s : ByteArray) (l c : Int) (hs : s.size ≤ 1048576) : ∀ (d x n k : Nat), x ≤ s.size → s.size - x ≤ d → d < k → lineOf s.data.toList x = n → colOf s.data.toList x = 1 → (n = 1 ∨ (n : Int) ≤ l) →
    Found s.data.toList l c (text_Offset.l0 k s l c (x : Int) (n : Int)) := by
  have hl := len_list s
  intro d
  induction d with
  | zero =>
    intro x n k hx hd hk hn hc hln
    obtain ⟨k, rfl⟩ : ∃ m, k = m + 1 := ⟨k - 1, by omega⟩
    have hxs : x = s.size := by omega
    have hib : strings_IndexByte.f (s.extract x s.size) 10 = some (-1) := by
      unfold strings_IndexByte.f
      rw [tail_at, List.drop_of_length_le (by omega)]
      rfl
    rw [text_Offset.l0]
    by_cases h1 : (n : Int) < l
    · rw [if_pos h1, if_pos (by omega), if_pos (by omega), Int.toNat_natCast, hib]
      simp only [Option.bind_some]
      rw [if_pos (by decide)]
      refine .inr ⟨fun i hi ⟨h2, _⟩ => ?_, rfl⟩
      have := line_le (S := s.data.toList) (i := i) (j := x) (by omega)
      omega
    · rw [if_neg h1, if_pos (by omega), if_pos (by omega), Int.toNat_natCast, hib]
      simp only [Option.bind_some]
      rw [if_neg (by decide)]
      have hnp := lineOf_pos s.data.toList x
      have hnl := lineOf_le s.data.toList x
      by_cases h2 : l < 1
      · rw [if_pos h2]
        refine .inr ⟨fun i hi ⟨h3, _⟩ => ?_, rfl⟩
        have := lineOf_pos s.data.toList i
        omega
      rw [if_neg h2]
      by_cases h3 : c < 1
      · rw [if_pos h3]
        refine .inr ⟨fun i hi ⟨_, h4⟩ => ?_, rfl⟩
        have := colOf_pos s.data.toList i
        omega
      rw [if_neg h3, show wrap64 ((s.size : Int) - x) = 0 by rw [IntWalk.wrap64_in _ (by omega)]; omega, show wrap64 (0 + 1) = 1 by rw [IntWalk.wrap64_in _ (by omega)]; rfl]
      by_cases h4 : c > 1
      · rw [if_pos h4]
        refine .inr ⟨fun i hi ⟨h5, h6⟩ => ?_, rfl⟩
        rcases Nat.lt_or_ge i x with h | h
        · rcases line_mono (S := s.data.toList) h with q | ⟨_, q⟩ <;> omega
        · have : i = x := by omega
          subst this
          omega
      · rw [if_neg h4]
        refine .inl ⟨x, by omega, by omega, by omega, ?_⟩
        rw [IntWalk.wrap64_in ((x : Int) + c) (by omega), IntWalk.wrap64_in _ (by omega)]
        congr 2
        omega
  | succ d ih =>
    intro x n k hx hd hk hn hc hln
    obtain ⟨k, rfl⟩ : ∃ m, k = m + 1 := ⟨k - 1, by omega⟩
    have hnp := lineOf_pos s.data.toList x
    have hnl := lineOf_le s.data.toList x
    have hib : strings_IndexByte.f (s.extract x s.size) 10 = some (Lib.indexByte (s.data.toList.drop x) 10) := by
      unfold strings_IndexByte.f
      rw [tail_at, byte10]
    rw [text_Offset.l0]
    have hge := Lib.indexByte_ge (s.data.toList.drop x) 10
    -- the end of the line that begins at x
    obtain ⟨m, hm, hno, hcase⟩ : ∃ m : Nat, x + m ≤ s.size ∧ (∀ j, j < m → s.data.toList.getD (x + j) 0 ≠ 10) ∧ ((Lib.indexByte (s.data.toList.drop x) 10 = -1 ∧ x + m = s.size) ∨ (Lib.indexByte (s.data.toList.drop x) 10 = m ∧ x + m < s.size ∧ s.data.toList.getD (x + m) 0 = 10)) := by
      by_cases h1 : Lib.indexByte (s.data.toList.drop x) 10 = -1
      · exact ⟨s.size - x, by omega, fun j _ => getD_ne (Lib.indexByte_none h1 j), .inl ⟨h1, by omega⟩⟩
      · obtain ⟨m, hm⟩ : ∃ m : Nat, Lib.indexByte (s.data.toList.drop x) 10 = m := ⟨(Lib.indexByte (s.data.toList.drop x) 10).toNat, by omega⟩
        obtain ⟨g1, g2⟩ := Lib.indexByte_some hm
        have g3 := indexByte_lt hm
        rw [List.length_drop] at g3
        refine ⟨m, by omega, fun j hj => getD_ne (g2 j hj), .inr ⟨hm, by omega, ?_⟩⟩
        rw [List.getElem?_drop] at g1
        rw [List.getD_eq_getElem?_getD, g1]
        rfl
    obtain ⟨hol, hoc⟩ := on_line (S := s.data.toList) (x := x) m hno
    have hon : ∀ j, j ≤ m → lineOf s.data.toList (x + j) = n ∧ colOf s.data.toList (x + j) = j + 1 := fun j hj => by
      obtain ⟨q1, q2⟩ := on_line (S := s.data.toList) (x := x) j (fun i hi => hno i (by omega))
      exact ⟨by omega, by omega⟩
    by_cases h1 : (n : Int) < l
    · rw [if_pos h1, if_pos (by omega), if_pos (by omega), Int.toNat_natCast, hib]
      simp only [Option.bind_some]
      rcases hcase with ⟨e1, e2⟩ | ⟨e1, e2, e3⟩
      · rw [e1, if_pos (by decide)]
        refine .inr ⟨fun i hi ⟨h2, _⟩ => ?_, rfl⟩
        have := line_le (S := s.data.toList) (i := i) (j := x + m) (by omega)
        omega
      · rw [e1, if_neg (by omega), show wrap64 ((x : Int) + wrap64 ((m : Int) + 1)) = ((x + m + 1 : Nat) : Int) by rw [IntWalk.wrap64_in ((m : Int) + 1) (by omega), IntWalk.wrap64_in _ (by omega)]; omega,
          show wrap64 ((n : Int) + 1) = ((n + 1 : Nat) : Int) by rw [IntWalk.wrap64_in _ (by omega)]; omega]
        refine ih (x + m + 1) (n + 1) k (by omega) (by omega) (by omega) ?_ ?_ (.inr (by omega))
        · show (if s.data.toList.getD (x + m) 0 = 10 then lineOf s.data.toList (x + m) + 1 else lineOf s.data.toList (x + m)) = _
          rw [if_pos e3]
          omega
        · show (if s.data.toList.getD (x + m) 0 = 10 then 1 else colOf s.data.toList (x + m) + 1) = _
          rw [if_pos e3]
    · rw [if_neg h1, if_pos (by omega), if_pos (by omega), Int.toNat_natCast, hib]
      simp only [Option.bind_some]
      have main : ∀ e : Int, e = m → Found s.data.toList l c (if l < 1 then some (0, 5) else if c < 1 then some (0, 5) else if c > wrap64 (e + 1) then some (0, 5) else some (wrap64 (wrap64 ((x : Int) + c) - 1), 0)) := by
        rintro e rfl
        by_cases h2 : l < 1
        · rw [if_pos h2]
          refine .inr ⟨fun i hi ⟨h3, _⟩ => ?_, rfl⟩
          have := lineOf_pos s.data.toList i
          omega
        rw [if_neg h2]
        by_cases h3 : c < 1
        · rw [if_pos h3]
          refine .inr ⟨fun i hi ⟨_, h4⟩ => ?_, rfl⟩
          have := colOf_pos s.data.toList i
          omega
        rw [if_neg h3, show wrap64 ((m : Int) + 1) = (m : Int) + 1 from IntWalk.wrap64_in _ (by omega)]
        by_cases h4 : c > (m : Int) + 1
        · rw [if_pos h4]
          refine .inr ⟨fun i hi ⟨h5, h6⟩ => ?_, rfl⟩
          rcases Nat.lt_or_ge i x with h | h
          · rcases line_mono (S := s.data.toList) h with q | ⟨_, q⟩ <;> omega
          · rcases Nat.lt_or_ge (x + m) i with g | g
            · rcases hcase with ⟨e1, e2⟩ | ⟨e1, e2, e3⟩
              · omega
              · have q1 : lineOf s.data.toList (x + m + 1) = n + 1 := by
                  show (if s.data.toList.getD (x + m) 0 = 10 then lineOf s.data.toList (x + m) + 1 else lineOf s.data.toList (x + m)) = _
                  rw [if_pos e3]
                  omega
                have q2 := line_le (S := s.data.toList) (i := x + m + 1) (j := i) (by omega)
                omega
            · obtain ⟨_, q2⟩ := hon (i - x) (by omega)
              rw [show x + (i - x) = i by omega] at q2
              omega
        · rw [if_neg h4]
          obtain ⟨q1, q2⟩ := hon (c - 1).toNat (by omega)
          refine .inl ⟨x + (c - 1).toNat, by omega, by omega, by omega, ?_⟩
          rw [IntWalk.wrap64_in ((x : Int) + c) (by omega), IntWalk.wrap64_in _ (by omega)]
          congr 2
          omega
      rcases hcase with ⟨e1, e2⟩ | ⟨e1, e2, e3⟩
      · rw [e1, if_neg (by decide)]
        exact main _ (by rw [IntWalk.wrap64_in _ (by omega)]; omega)
      · rw [e1, if_pos (by omega)]
        exact main _ (by rw [IntWalk.wrap64_in ((x : Int) + m) (by omega), IntWalk.wrap64_in _ (by omega)]; omega)
theorem offset_f (s : ByteArray) (l c : Int) (hs : s.size ≤ 1048576) (k : Nat) (hk : s.size + 1 ≤ k) : Found s.data.toList l c (text_Offset.f k s l c) :=
  offset_loop s l c hs s.size 0 1 k (by omega) (by omega) (by omega) rfl rfl (.inl rfl)
theorem TextLines_any (s : ByteArray) (i j : Int) (hs : s.size ≤ 1048576) (k : Nat) (hk : s.size + 10 ≤ k) : mjolnerlaw03_TextLines.f k s i j = some true := by
  obtain ⟨k, rfl⟩ : ∃ m, k = m + 1 + 1 + 1 := ⟨k - 3, by omega⟩
  have hl := len_list s
  unfold mjolnerlaw03_TextLines.f mjolnerlaw03_sane.f
  simp only [Option.bind_some]
  by_cases hi : 0 ≤ i ∧ i ≤ s.size
  · obtain ⟨i, rfl⟩ : ∃ n : Nat, i = n := ⟨i.toNat, by omega⟩
    rw [place_f s i (by omega) hs _ (by omega)]
    simp only [Option.bind_some]
    by_cases hj : 0 ≤ j ∧ j ≤ s.size
    · obtain ⟨j, rfl⟩ : ∃ n : Nat, j = n := ⟨j.toNat, by omega⟩
      rw [place_f s j (by omega) hs _ (by omega)]
      simp only [Option.bind_some]
      rw [if_pos (by omega), show (((0 : Int) == 0) != decide ((i : Int) ≤ (s.size : Int))) = false by rw [decide_eq_true (by omega)]; rfl, mjolnerlaw03_TextLines.j0, if_neg (by decide), if_pos rfl, show ((0 : Int) != 0) = false from rfl,
        mjolnerlaw03_TextLines.j1, if_neg (by decide), found_at (by omega) (offset_f s (lineOf s.data.toList i) (colOf s.data.toList i) hs (k + 1) (by omega))]
      simp only [Option.bind_some, if_true]
      have p1 := lineOf_pos s.data.toList i
      have p2 := colOf_pos s.data.toList i
      rw [if_neg (by omega), show decide ((colOf s.data.toList i : Int) < 1) = false from decide_eq_false (by omega), mjolnerlaw03_TextLines.j2, if_neg (by decide)]
      by_cases h1 : (i : Int) < j
      · rw [if_pos h1, if_pos rfl]
        rcases line_mono (S := s.data.toList) (i := i) (j := j) (by omega) with q | ⟨q1, q2⟩
        · rw [if_pos (by omega)]
        · rw [if_neg (by omega), if_pos (by omega), decide_eq_true (by omega)]
      · rw [if_neg h1, if_pos rfl]
        by_cases h2 : (i : Int) > j
        · rw [if_pos h2]
        · have : i = j := by omega
          subst this
          rw [if_neg h2, if_pos rfl]
          simp
    · rw [place_no s j hj]
      simp only [Option.bind_some]
      rw [if_pos (by omega), show (((0 : Int) == 0) != decide ((i : Int) ≤ (s.size : Int))) = false by rw [decide_eq_true (by omega)]; rfl]
      rfl
  · rw [place_no s i hi]
    simp only [Option.bind_some]
    have hpl : ∃ a b c, text_Place.f (k + 1 + 1 + 1) s j = some (a, b, c) := by
      by_cases hj : 0 ≤ j ∧ j ≤ s.size
      · obtain ⟨j, rfl⟩ : ∃ n : Nat, j = n := ⟨j.toNat, by omega⟩
        exact ⟨_, _, _, place_f s j (by omega) hs _ (by omega)⟩
      · exact ⟨_, _, _, place_no s j hj _⟩
    obtain ⟨a, b, c, hp⟩ := hpl
    rw [hp]
    simp only [Option.bind_some]
    by_cases h0 : i ≥ 0
    · rw [if_pos h0, show (((3 : Int) == 0) != decide (i ≤ (s.size : Int))) = false by rw [decide_eq_false (by omega)]; rfl]
      rfl
    · rw [if_neg h0]
      rfl
theorem TextLines_law (s : ByteArray) (i j : Int) (hs : s.size ≤ 1048576) : ∃ k, mjolnerlaw03_TextLines.f k s i j = some true := ⟨_, TextLines_any s i j hs _ (Nat.le_refl _)⟩
end Go.Proofs.YtdcemnmbfblmiaaDoor.PT
