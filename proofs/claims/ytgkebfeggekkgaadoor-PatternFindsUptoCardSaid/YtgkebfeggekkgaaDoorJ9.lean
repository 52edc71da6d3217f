/- Plain: what Lookup finds. -/
import Derived.Test.YtgkebfeggekkgaaDoorPTx2
import Derived.Test.YtgkebfeggekkgaaDoorJ8
import Derived.Test.YtgkebfeggekkgaaDoorPTx42
import Derived.Test.YtgkebfeggekkgaaDoorLPar
section
set_option linter.unusedVariables false
set_option linter.unusedSimpArgs false
namespace Go.Proofs.YtgkebfeggekkgaaDoor.Given
open Go.RowKit Go.Proofs.YtgkebfeggekkgaaDoor.PT Go.Proofs.YtgkebfeggekkgaaDoorW.PrintWords

/-- whether a list has a name -/
def hasN (x : ByteArray) (l : List ByteArray) : Bool := l.any fun y => y.toList == x.toList
theorem rdS (l : List ByteArray) (i : Nat) (h : i < l.length) : rdOf ByteArray.empty l (i : Int) = l[i] := by
  unfold rdOf
  simp [h]
theorem index_loop (l : List ByteArray) (x : ByteArray) (hl : l.length ≤ 9223372036854775806) : ∀ (d i k : Nat), i + d = l.length → d < k →
    ∃ v, slices_Index_string_string.l0 k l x (l.length : Int) (i : Int) = some v ∧ decide (v ≥ 0) = hasN x (l.drop i) := by
  intro d
  induction d with
  | zero =>
    intro i k hi hk
    obtain ⟨k, rfl⟩ : ∃ m, k = m + 1 := ⟨k - 1, by omega⟩
    refine ⟨-1, by rw [slices_Index_string_string.l0, if_neg (by omega)], ?_⟩
    rw [List.drop_of_length_le (by omega)]
    rfl
  | succ d ih =>
    intro i k hi hk
    obtain ⟨k, rfl⟩ : ∃ m, k = m + 1 := ⟨k - 1, by omega⟩
    have h1 : (i : Int) < (l.length : Int) := by omega
    have h2 : (0 : Int) ≤ (i : Int) := by omega
    have hi1 : i < l.length := by omega
    obtain ⟨v, h4, h6⟩ := ih (i + 1) k (by omega) (by omega)
    have h5 : wrap64 ((i : Int) + 1) = ((i + 1 : Nat) : Int) := w64 (by omega) (by omega)
    have hd : hasN x (l.drop i) = (l[i].toList == x.toList || hasN x (l.drop (i + 1))) := by
      rw [List.drop_eq_getElem_cons hi1]
      rfl
    rw [hd]
    by_cases he : x.toList = l[i].toList
    · refine ⟨i, by rw [slices_Index_string_string.l0, if_pos h1, if_pos h2, if_pos h1, rdS l i hi1, if_pos he], ?_⟩
      rw [beq_iff_eq.2 he.symm, Bool.true_or]
      exact decide_eq_true h2
    · refine ⟨v, by rw [slices_Index_string_string.l0, if_pos h1, if_pos h2, if_pos h1, rdS l i hi1, if_neg he, h5, h4], ?_⟩
      rw [beq_eq_false_iff_ne.2 (fun e => he e.symm), Bool.false_or]
      exact h6
theorem contains_f (l : List ByteArray) (x : ByteArray) (hl : l.length ≤ 9223372036854775806) (k : Nat) (hk : l.length < k) : slices_Contains_string_string.f k l x = some (hasN x l) := by
  obtain ⟨v, h1, h2⟩ := index_loop l x hl l.length 0 k (by omega) hk
  unfold slices_Contains_string_string.f slices_Index_string_string.f
  have h1' : slices_Index_string_string.l0 k l x (l.length : Int) 0 = some v := h1
  rw [h1', Option.bind_some, h2, List.drop_zero]
/-- what is found among the first ones, from the last one on -/
def lk (x : ByteArray) (ns : List (List ByteArray)) : Nat → Int × Int
  | 0 => (0, 5)
  | n + 1 => if hasN x (ns.getD n []) = true then ((n : Int), 0) else lk x ns n
theorem rdL (ns : List (List ByteArray)) (i : Nat) : rd_L3 ns (i : Int) = ns.getD i [] := by
  unfold rd_L3
  simp
theorem lookup_loop (x : ByteArray) (ns : List (List ByteArray)) (hn : ns.length ≤ 9223372036854775806) (M : Nat) (hM : ∀ l ∈ ns, l.length ≤ M) (hM2 : M ≤ 9223372036854775806) : ∀ (n k : Nat), n ≤ ns.length → n + M + 2 ≤ k → pattern_Lookup.l0 k ns x ((n : Int) - 1) = some (lk x ns n) := by
  intro n
  induction n with
  | zero =>
    intro k h1 h2
    obtain ⟨k, rfl⟩ : ∃ m, k = m + 1 := ⟨k - 1, by omega⟩
    rw [pattern_Lookup.l0, if_neg (by decide)]
    rfl
  | succ n ih =>
    intro k h1 h2
    obtain ⟨k, rfl⟩ : ∃ m, k = m + 1 := ⟨k - 1, by omega⟩
    have e0 : ((n + 1 : Nat) : Int) - 1 = (n : Int) := by omega
    have e1 : (n : Int) ≥ 0 := by omega
    have e2 : (n : Int) < (ns.length : Int) := by omega
    have e3 : wrap64 ((n : Int) - 1) = (n : Int) - 1 := IntWalk.wrap64_in _ (by omega)
    have hl : (ns.getD n []).length ≤ M := by
      rw [List.getD_eq_getElem?_getD, List.getElem?_eq_getElem (by omega)]
      exact hM _ (List.getElem_mem _)
    have h4 := ih k (by omega) (by omega)
    have h5 := contains_f (ns.getD n []) x (by omega) k (by omega)
    rw [e0, pattern_Lookup.l0, if_pos e1, if_pos e1, if_pos e2, rdL, h5, Option.bind_some, e3, h4]
    show (if hasN x (ns.getD n []) = true then some ((n : Int), (0 : Int)) else some (lk x ns n)) = some (if hasN x (ns.getD n []) = true then ((n : Int), 0) else lk x ns n)
    split <;> rfl
theorem lookup_f (x : ByteArray) (ns : List (List ByteArray)) (hn : ns.length ≤ 9223372036854775806) (M : Nat) (hM : ∀ l ∈ ns, l.length ≤ M) (hM2 : M ≤ 9223372036854775806) (a : Int) (k : Nat) (hk : ns.length + M + 4 ≤ k) :
    pattern_Lookup.f k ns a x = if 0 ≤ a ∧ a < (ns.length : Int) then some (lk x ns (a.toNat + 1)) else some (0, 1) := by
  obtain ⟨k, rfl⟩ : ∃ m, k = m + 1 := ⟨k - 1, by omega⟩
  unfold pattern_Lookup.f
  by_cases h0 : a < 0
  · rw [if_pos h0, if_neg (by omega), pattern_Lookup.j0, if_pos rfl]
  · rw [if_neg h0]
    by_cases h1 : a ≥ (ns.length : Int)
    · rw [decide_eq_true h1, if_neg (by omega), pattern_Lookup.j0, if_pos rfl]
    · rw [decide_eq_false h1, if_pos (by omega), pattern_Lookup.j0, if_neg (by decide)]
      have := lookup_loop x ns hn M hM hM2 (a.toNat + 1) k (by omega) (by omega)
      rw [show (((a.toNat + 1 : Nat) : Int) - 1) = a by omega] at this
      exact this
theorem lk_append (x : ByteArray) (ns : List (List ByteArray)) (m : List ByteArray) : ∀ n, n ≤ ns.length → lk x (ns ++ [m]) n = lk x ns n
  | 0, _ => rfl
  | n + 1, h => by
    unfold lk
    rw [lk_append x ns m n (by omega)]
    have : (ns ++ [m]).getD n [] = ns.getD n [] := by
      rw [List.getD_eq_getElem?_getD, List.getD_eq_getElem?_getD, List.getElem?_append_left (by omega)]
    rw [this]
theorem lk_not1 (x : ByteArray) (ns : List (List ByteArray)) : ∀ n, ¬ (lk x ns n).2 = 1
  | 0 => fun h => by cases h
  | n + 1 => by
    unfold lk
    split
    · intro h; cases h
    · exact lk_not1 x ns n
end Go.Proofs.YtgkebfeggekkgaaDoor.Given
end
section
/- THE PLAIN LAW of PatternFinds. -/
set_option linter.unusedVariables false
set_option linter.unusedSimpArgs false
namespace Go.Proofs.YtgkebfeggekkgaaDoor.Given
open Go.RowKit Go.Proofs.YtgkebfeggekkgaaDoor.PT Go.Proofs.YtgkebfeggekkgaaDoorW.PrintWords

theorem refHas_loop (l : List ByteArray) (x : ByteArray) (hl : l.length ≤ 9223372036854775806) : ∀ (d i k : Nat), i + d = l.length → d < k → mjolnerref09_has.l0 k l x (i : Int) = some (hasN x (l.drop i)) := by
  intro d
  induction d with
  | zero =>
    intro i k hi hk
    obtain ⟨k, rfl⟩ : ∃ m, k = m + 1 := ⟨k - 1, by omega⟩
    have q1 : ¬ (i : Int) < (l.length : Int) := by omega
    rw [mjolnerref09_has.l0, if_neg q1, List.drop_of_length_le (by omega)]
    rfl
  | succ d ih =>
    intro i k hi hk
    obtain ⟨k, rfl⟩ : ∃ m, k = m + 1 := ⟨k - 1, by omega⟩
    have h1 : (i : Int) < (l.length : Int) := by omega
    have h2 : (0 : Int) ≤ (i : Int) := by omega
    have hi1 : i < l.length := by omega
    have h4 := ih (i + 1) k (by omega) (by omega)
    have h5 : wrap64 ((i : Int) + 1) = ((i + 1 : Nat) : Int) := w64 (by omega) (by omega)
    have hd : hasN x (l.drop i) = (l[i].toList == x.toList || hasN x (l.drop (i + 1))) := by
      rw [List.drop_eq_getElem_cons hi1]
      rfl
    rw [mjolnerref09_has.l0, if_pos h1, if_pos h2, rdS l i hi1, hd, h5, h4]
    by_cases he : l[i].toList = x.toList
    · rw [if_pos he, beq_iff_eq.2 he, Bool.true_or]
    · rw [if_neg he, beq_eq_false_iff_ne.2 he, Bool.false_or]
theorem refHas_f (l : List ByteArray) (x : ByteArray) (hl : l.length ≤ 9223372036854775806) (k : Nat) (hk : l.length < k) : mjolnerref09_has.f k l x = some (hasN x l) :=
  refHas_loop l x hl l.length 0 k (by omega) hk
theorem refLookup_loop (x : ByteArray) (ns : List (List ByteArray)) (hn : ns.length ≤ 9223372036854775806) (M : Nat) (hM : ∀ l ∈ ns, l.length ≤ M) (hM2 : M ≤ 9223372036854775806) : ∀ (n k : Nat), n ≤ ns.length → n + M + 2 ≤ k → mjolnerref09_Lookup.l0 k ns x ((n : Int) - 1) = some (lk x ns n) := by
  intro n
  induction n with
  | zero =>
    intro k h1 h2
    obtain ⟨k, rfl⟩ : ∃ m, k = m + 1 := ⟨k - 1, by omega⟩
    rw [mjolnerref09_Lookup.l0, if_neg (by decide)]
    rfl
  | succ n ih =>
    intro k h1 h2
    obtain ⟨k, rfl⟩ : ∃ m, k = m + 1 := ⟨k - 1, by omega⟩
    have e0 : ((n + 1 : Nat) : Int) - 1 = (n : Int) := by omega
    have e1 : (n : Int) ≥ 0 := by omega
    have e2 : (n : Int) < (ns.length : Int) := by omega
    have e3 : wrap64 ((n : Int) - 1) = (n : Int) - 1 := IntWalk.wrap64_in _ (by omega)
    have hl : (ns.getD n []).length ≤ M := by
      rw [List.getD_eq_getElem?_getD, List.getElem?_eq_getElem (by omega)]
      exact hM _ (List.getElem_mem _)
    have h4 := ih k (by omega) (by omega)
    have h5 := refHas_f (ns.getD n []) x (by omega) k (by omega)
    rw [e0, mjolnerref09_Lookup.l0, if_pos e1, if_pos e1, if_pos e2, rdL, h5, Option.bind_some, e3, h4]
    show (if hasN x (ns.getD n []) = true then some ((n : Int), (0 : Int)) else some (lk x ns n)) = some (if hasN x (ns.getD n []) = true then ((n : Int), 0) else lk x ns n)
    split <;> rfl
theorem refLookup_f (x : ByteArray) (ns : List (List ByteArray)) (hn : ns.length ≤ 9223372036854775806) (M : Nat) (hM : ∀ l ∈ ns, l.length ≤ M) (hM2 : M ≤ 9223372036854775806) (a : Int) (k : Nat) (hk : ns.length + M + 4 ≤ k) :
    mjolnerref09_Lookup.f k ns a x = if 0 ≤ a ∧ a < (ns.length : Int) then some (lk x ns (a.toNat + 1)) else some (0, 1) := by
  obtain ⟨k, rfl⟩ : ∃ m, k = m + 1 := ⟨k - 1, by omega⟩
  unfold mjolnerref09_Lookup.f
  by_cases h0 : a < 0
  · rw [if_pos h0, if_neg (by omega), mjolnerref09_Lookup.j0, if_pos rfl]
  · rw [if_neg h0]
    by_cases h1 : a ≥ (ns.length : Int)
    · rw [decide_eq_true h1, if_neg (by omega), mjolnerref09_Lookup.j0, if_pos rfl]
    · rw [decide_eq_false h1, if_pos (by omega), mjolnerref09_Lookup.j0, if_neg (by decide)]
      have := refLookup_loop x ns hn M hM hM2 (a.toNat + 1) k (by omega) (by omega)
      rw [show (((a.toNat + 1 : Nat) : Int) - 1) = a by omega] at this
      exact this
theorem rowsBest_len (ls : List (List S31)) : ∀ (r : List (List S31)) (i : Nat), (rowsBest ls i r).length = r.length
  | [], i => rfl
  | p :: r, i => by rw [rowsBest, List.length_cons, List.length_cons, rowsBest_len ls r (i + 1)]
theorem parents_len (ls : List (List S31)) : (parentsF ls).1.length ≤ 500 := by
  unfold parentsF
  by_cases h : 500 < ls.length
  · rw [if_pos h]
    simp
  · rw [if_neg h]
    by_cases hz : validL ls = 0
    · rw [if_pos hz, parRows_eq]
      cases rowsDup ls 0 ls with
      | true => simp
      | false =>
        show (rowsBest ls 0 ls).length ≤ 500
        rw [rowsBest_len]
        omega
    · rw [if_neg hz]
      simp
theorem finds_any (ns : List (List ByteArray)) (a : Int) (x : ByteArray) (ls : List (List S31)) (hn : ns.length ≤ 1048576) (hM : ∀ l ∈ ns, l.length ≤ 1048576) (k : Nat) (hk : 6000000 ≤ k) : mjolnerlaw09_PatternFinds.f k ns a x ls = some true := by
  obtain ⟨k, rfl⟩ : ∃ m, k = m + 1 := ⟨k - 1, by omega⟩
  have h1 := lookup_f x ns (by omega) 1048576 hM (by omega) a (k + 1) (by omega)
  have h2 := refLookup_f x ns (by omega) 1048576 hM (by omega) a (k + 1) (by omega)
  rw [← h2] at h1
  have h3 := refParents_f ls k (by omega)
  have h4 := ints_f (parentsF ls).1 (parentsF ls).1 (by have := parents_len ls; omega) k (by have := parents_len ls; omega)
  unfold mjolnerlaw09_PatternFinds.f
  rw [awake_tr, Option.bind_some, h1, h2]
  obtain ⟨y, hy⟩ : ∃ y, (if 0 ≤ a ∧ a < (ns.length : Int) then some (lk x ns (a.toNat + 1)) else some ((0 : Int), (1 : Int))) = some y := by
    split
    · exact ⟨_, rfl⟩
    · exact ⟨_, rfl⟩
  rw [hy, Option.bind_some, Option.bind_some, if_pos rfl]
  have e : (y.2 != y.2) = false := by simp
  rw [e, mjolnerlaw09_PatternFinds.j0, if_neg (by decide), h3]
  unfold pattern_Parents.f
  rw [Option.bind_some, Option.bind_some, if_pos rfl, if_pos rfl, h4, decide_eq_true rfl]
  rfl
theorem PatternFinds_law (ns : List (List ByteArray)) (a : Int) (x : ByteArray) (ls : List (List S31)) (hn : ns.length ≤ 1048576) (hM : ∀ l ∈ ns, l.length ≤ 1048576) (_ : x.size ≤ 1048576) (_ : ls.length ≤ 1048576) (_ : ∀ b ∈ ls, b.all inI3 = true ∧ b.length ≤ 1048576) :
    ∃ k, mjolnerlaw09_PatternFinds.f k ns a x ls = some true := ⟨_, finds_any ns a x ls hn hM _ (Nat.le_refl _)⟩
end Go.Proofs.YtgkebfeggekkgaaDoor.Given
end
