/- Plain functions of package pattern: whether a pattern is valid, how much two have in common; and that the printed functions compute them. -/
import Derived.Test.YtgkebfeggekkgaaDoorPTx2
import Derived.IntWalk
set_option linter.unusedVariables false
set_option linter.unusedSimpArgs false
namespace Go.Proofs.YtgkebfeggekkgaaDoor.Given
open Go.RowKit Go.Proofs.YtgkebfeggekkgaaDoor.PT Go.Proofs.YtgkebfeggekkgaaDoorW.PrintWords Go.Proofs.YtgkebfeggekkgaaDoorW.PrintLast Go.Proofs.YtgkebfeggekkgaaDoorW.PrintMore

theorem w64 {a : Int} {n : Nat} (h : a = n) (hn : n ≤ 9223372036854775807) : wrap64 a = n := by rw [IntWalk.wrap64_in _ (by omega)]; exact h
theorem S31.ext_iff' (x y : S31) : x = y ↔ x.f0 = y.f0 ∧ x.f1 = y.f1 ∧ x.f2 = y.f2 := by
  cases x; cases y; simp
instance : DecidableEq S31 := fun x y => decidable_of_iff _ (S31.ext_iff' x y).symm
/-- a part is valid -/
def okP (x : S31) : Bool := decide (0 ≤ x.f0) && decide (0 ≤ x.f1) && decide (0 ≤ x.f2) && (!decide (x.f1 = 0) || decide (x.f2 = 0))
def checkL (l : List S31) : Int := if 40 < l.length then 2 else if l.all okP then 0 else 1
def validL : List (List S31) → Int
  | [] => 0
  | l :: r => if checkL l = 0 then validL r else checkL l
/-- how many parts at the beginning two patterns have in common -/
def commonN : List S31 → List S31 → Nat
  | x :: a, y :: b => if x = y then commonN a b + 1 else 0
  | _, _ => 0
def conformsB (q p : List S31) : Bool := decide (commonN q p = p.length)
theorem rd31 (l : List S31) (i : Nat) (h : i < l.length) : rd_T31 l (i : Int) = l[i] := by
  unfold rd_T31
  simp [h]
theorem check_loop (l : List S31) (hl : l.length ≤ 40) : ∀ (d i k : Nat), i + d = l.length → d < k → pattern_Check.l0 k l (l.length : Int) (i : Int) = some (if (l.drop i).all okP then 0 else 1) := by
  intro d
  induction d with
  | zero =>
    intro i k hi hk
    obtain ⟨k, rfl⟩ : ∃ m, k = m + 1 := ⟨k - 1, by omega⟩
    rw [pattern_Check.l0, if_neg (by omega), List.drop_of_length_le (by omega)]
    rfl
  | succ d ih =>
    intro i k hi hk
    obtain ⟨k, rfl⟩ : ∃ m, k = m + 1 := ⟨k - 1, by omega⟩
    have h := ih (i + 1) k (by omega) (by omega)
    rw [pattern_Check.l0, if_pos (by omega), if_pos (by omega), if_pos (by omega), rd31 l i (by omega), w64 (n := i + 1) (by omega) (by omega), h, List.drop_eq_getElem_cons (show i < l.length by omega), List.all_cons]
    generalize l[i] = x
    generalize (l.drop (i + 1)).all okP = b
    unfold okP
    by_cases h1 : x.f0 < 0
    · rw [if_pos h1, decide_eq_false (show ¬ 0 ≤ x.f0 by omega)]
      rfl
    · rw [if_neg h1, decide_eq_true (show 0 ≤ x.f0 by omega)]
      by_cases h2 : x.f1 < 0
      · rw [if_pos h2, decide_eq_false (show ¬ 0 ≤ x.f1 by omega)]
        rfl
      · rw [if_neg h2, decide_eq_true (show 0 ≤ x.f1 by omega)]
        by_cases h3 : x.f2 < 0
        · rw [if_pos h3, decide_eq_false (show ¬ 0 ≤ x.f2 by omega)]
          rfl
        · rw [if_neg h3, decide_eq_true (show 0 ≤ x.f2 by omega)]
          by_cases h4 : x.f1 = 0
          · rw [if_pos h4, decide_eq_true h4]
            by_cases h5 : x.f2 = 0
            · rw [if_pos h5, decide_eq_true h5]
              rfl
            · rw [if_neg h5, decide_eq_false h5]
              rfl
          · rw [if_neg h4, decide_eq_false h4]
            rfl
theorem check_f (l : List S31) (k : Nat) (hk : l.length < k) : pattern_Check.f k l = some (checkL l) := by
  unfold pattern_Check.f checkL
  by_cases h : 40 < l.length
  · rw [if_pos (by omega), if_pos h]
  · rw [if_neg (by omega), if_neg h]
    exact check_loop l (by omega) l.length 0 k (by omega) hk
theorem checkL_small {l : List S31} (h : checkL l = 0) : l.length ≤ 40 := by
  unfold checkL at h
  split at h
  · cases h
  · omega
theorem commonN_le : ∀ (a b : List S31), commonN a b ≤ a.length ∧ commonN a b ≤ b.length
  | [], _ => by simp [commonN]
  | _ :: _, [] => by simp [commonN]
  | x :: a, y :: b => by
    have := commonN_le a b
    unfold commonN
    split <;> simp <;> omega
theorem common_loop (a b : List S31) (ha : a.length ≤ 9223372036854775806) : ∀ (d i k : Nat), i + d = a.length → d < k → api_PatPart.l0 k a b (i : Int) = some ((i + commonN (a.drop i) (b.drop i) : Nat) : Int) := by
  intro d
  induction d with
  | zero =>
    intro i k hi hk
    obtain ⟨k, rfl⟩ : ∃ m, k = m + 1 := ⟨k - 1, by omega⟩
    rw [api_PatPart.l0, if_neg (by omega), List.drop_of_length_le (show a.length ≤ i by omega)]
    rfl
  | succ d ih =>
    intro i k hi hk
    obtain ⟨k, rfl⟩ : ∃ m, k = m + 1 := ⟨k - 1, by omega⟩
    rw [api_PatPart.l0, if_pos (by omega)]
    by_cases hb : i < b.length
    · rw [if_pos (by omega), if_pos (by omega), rd31 a i (by omega), rd31 b i (by omega), w64 (n := i + 1) (by omega) (by omega), List.drop_eq_getElem_cons (show i < a.length by omega), List.drop_eq_getElem_cons (show i < b.length by omega)]
      by_cases he : a[i] = b[i]
      · rw [if_pos (by rw [he]; simp), ih (i + 1) k (by omega) (by omega)]
        show _ = some ((i + (if a[i] = b[i] then commonN (a.drop (i + 1)) (b.drop (i + 1)) + 1 else 0) : Nat) : Int)
        rw [if_pos he]
        congr 2
        omega
      · rw [if_neg (fun h => he ((S31.ext_iff' _ _).2 (by simpa using h)))]
        show _ = some ((i + (if a[i] = b[i] then commonN (a.drop (i + 1)) (b.drop (i + 1)) + 1 else 0) : Nat) : Int)
        rw [if_neg he]
        rfl
    · rw [if_neg (by omega), List.drop_of_length_le (show b.length ≤ i by omega)]
      cases a.drop i <;> rfl
theorem common_f (a b : List S31) (ha : a.length ≤ 9223372036854775806) (k : Nat) (hk : a.length < k) : api_PatPart.f k a b = some ((commonN a b : Nat) : Int) := by
  have := common_loop a b ha a.length 0 k (by omega) hk
  rw [List.drop_zero, List.drop_zero, Nat.zero_add] at this
  exact this
theorem conforms_f (q p : List S31) (ha : q.length ≤ 9223372036854775806) (k : Nat) (hk : q.length < k) : pattern_conforms.f k q p = some (conformsB q p) := by
  unfold pattern_conforms.f conformsB
  rw [common_f q p ha k hk]
  simp only [Option.bind_some]
  congr 1
  by_cases h : commonN q p = p.length
  · rw [decide_eq_true h]
    exact beq_iff_eq.2 (by omega)
  · rw [decide_eq_false h]
    exact beq_eq_false_iff_ne.2 (by omega)
theorem validL_two (p q : List S31) : validL [p, q] = if checkL p = 0 then checkL q else checkL p := by
  show (if checkL p = 0 then (if checkL q = 0 then 0 else checkL q) else checkL p) = _
  split
  · split
    · rename_i h; exact h.symm
    · rfl
  · rfl
theorem validL_two_ok {p q : List S31} (h : validL [p, q] = 0) : checkL p = 0 ∧ checkL q = 0 := by
  rw [validL_two] at h
  split at h
  · rename_i hp; exact ⟨hp, h⟩
  · rename_i hp; exact absurd h hp
/-- the first one that is not valid -/
theorem validL_step (ls : List (List S31)) (k : Nat) (hk : k < ls.length) (h : ∀ j (hj : j < ls.length), j < k → checkL ls[j] = 0) (hb : checkL ls[k] ≠ 0) : validL ls = checkL ls[k] := by
  induction ls generalizing k with
  | nil => simp at hk
  | cons l r ih =>
    cases k with
    | zero =>
      show (if checkL l = 0 then validL r else checkL l) = _
      rw [if_neg (show ¬ checkL l = 0 from hb)]
      rfl
    | succ k =>
      show (if checkL l = 0 then validL r else checkL l) = _
      have h0 : checkL l = 0 := h 0 (by simp) (by omega)
      rw [if_pos h0]
      exact ih k (by simpa using hk) (fun j hj hjk => h (j + 1) (by simpa using hj) (by omega)) hb
theorem validL_all (ls : List (List S31)) (h : ∀ j (hj : j < ls.length), checkL ls[j] = 0) : validL ls = 0 := by
  induction ls with
  | nil => rfl
  | cons l r ih =>
    show (if checkL l = 0 then validL r else checkL l) = _
    rw [if_pos (show checkL l = 0 from h 0 (by simp))]
    exact ih (fun j hj => h (j + 1) (by simpa using hj))
theorem checkL_range (l : List S31) : 0 ≤ checkL l ∧ checkL l ≤ 2 := by
  unfold checkL
  by_cases h : 40 < l.length
  · rw [if_pos h]
    decide
  · rw [if_neg h]
    by_cases h2 : l.all okP = true
    · rw [if_pos h2]
      decide
    · rw [if_neg h2]
      decide
theorem validL_range : ∀ (ls : List (List S31)), 0 ≤ validL ls ∧ validL ls ≤ 2
  | [] => by decide
  | l :: r => by
    have h1 := checkL_range l
    have h2 := validL_range r
    show 0 ≤ (if checkL l = 0 then validL r else checkL l) ∧ _
    split
    · rename_i h
      rw [validL, if_pos h]
      exact h2
    · rename_i h
      rw [validL, if_neg h]
      exact h1
end Go.Proofs.YtgkebfeggekkgaaDoor.Given
