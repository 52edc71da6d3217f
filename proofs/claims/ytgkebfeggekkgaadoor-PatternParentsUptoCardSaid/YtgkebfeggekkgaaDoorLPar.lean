/- Plain: the reference's parents are those that the program finds. -/
import Derived.Test.YtgkebfeggekkgaaDoorPTx41
import Derived.Test.YtgkebfeggekkgaaDoorJ5
import Derived.Test.YtgkebfeggekkgaaDoorHs
set_option linter.unusedVariables false
set_option linter.unusedSimpArgs false
set_option linter.unusedSectionVars false
namespace Go.Proofs.YtgkebfeggekkgaaDoor.Given
open Go.RowKit Go.Proofs.YtgkebfeggekkgaaDoor.PT Go.Proofs.YtgkebfeggekkgaaDoorW.PrintWords

/-- the best one, whether it is there twice or not -/
def pBest (ls : List (List S31)) (p : List S31) (i : Nat) : Nat → List (List S31) → Int → Int
  | _, [], best => best
  | k, q :: r, best => pBest ls p i (k + 1) r (if k = i ∨ conformsB p q = false then best else if best < 0 ∨ (rd_L5 ls best).length < q.length then (k : Int) else best)
def dupB (p : List S31) (i : Nat) : Nat → List (List S31) → Bool
  | _, [] => false
  | k, q :: r => (decide (¬ k = i) && decide (q = p)) || dupB p i (k + 1) r
def rowsDup (ls : List (List S31)) : Nat → List (List S31) → Bool
  | _, [] => false
  | i, p :: r => dupB p i 0 ls || rowsDup ls (i + 1) r
def rowsBest (ls : List (List S31)) : Nat → List (List S31) → List Int
  | _, [] => []
  | i, p :: r => pBest ls p i 0 ls (-1) :: rowsBest ls (i + 1) r
theorem conf_len {p q : List S31} (h : conformsB p q = true) (hl : p.length = q.length) : q = p := ((conf_iff p q).1 h).eq_of_length hl.symm
theorem parLoop_eq (ls : List (List S31)) (p : List S31) (i : Nat) : ∀ (r : List (List S31)) (k : Nat) (best : Int), parLoop ls p i k r best = if dupB p i k r = true then none else some (pBest ls p i k r best)
  | [], k, best => rfl
  | q :: r, k, best => by
    have ih := parLoop_eq ls p i r (k + 1)
    rw [parLoop, pBest, dupB]
    unfold parStep
    by_cases h1 : k = i ∨ conformsB p q = false
    · rw [if_pos h1, if_pos h1]
      have hd : (decide (¬ k = i) && decide (q = p)) = false := by
        rcases h1 with h | h
        · rw [decide_eq_false (fun h2 => h2 h), Bool.false_and]
        · rw [decide_eq_false (p := q = p), Bool.and_false]
          intro e
          rw [e, conf_refl] at h
          cases h
      rw [hd, Bool.false_or]
      exact ih best
    · rw [if_neg h1, if_neg h1]
      have hk : ¬ k = i := fun h => h1 (.inl h)
      have hc : conformsB p q = true := by
        cases h : conformsB p q with
        | true => rfl
        | false => exact absurd (.inr h) h1
      by_cases h2 : p.length = q.length
      · rw [if_pos h2, decide_eq_true hk, decide_eq_true (conf_len hc h2)]
        rfl
      · rw [if_neg h2, decide_eq_false (p := q = p) (fun e => h2 (by rw [e])), Bool.and_false, Bool.false_or]
        by_cases h3 : best < 0 ∨ (rd_L5 ls best).length < q.length
        · rw [if_pos h3, if_pos h3]
          exact ih k
        · rw [if_neg h3, if_neg h3]
          exact ih best
theorem parRows_eq (ls : List (List S31)) : ∀ (r : List (List S31)) (i : Nat), parRows ls i r = if rowsDup ls i r = true then none else some (rowsBest ls i r)
  | [], i => rfl
  | p :: r, i => by
    rw [parRows, parLoop_eq, rowsDup, rowsBest, parRows_eq ls r (i + 1)]
    cases dupB p i 0 ls with
    | true => rfl
    | false =>
      rw [Bool.false_or, if_neg (by decide)]
      cases rowsDup ls (i + 1) r with
      | true => rfl
      | false => rfl
theorem dupB_iff (p : List S31) (i : Nat) : ∀ (r : List (List S31)) (k : Nat), dupB p i k r = true ↔ ∃ (j : Nat) (h : j < r.length), ¬ k + j = i ∧ r[j] = p
  | [], k => by
    constructor
    · intro h; cases h
    · rintro ⟨j, h, _⟩; simp at h
  | q :: r, k => by
    rw [dupB, Bool.or_eq_true, Bool.and_eq_true, decide_eq_true_iff, decide_eq_true_iff, dupB_iff p i r (k + 1)]
    constructor
    · rintro (⟨h1, h2⟩ | ⟨j, h, h1, h2⟩)
      · exact ⟨0, by simp, by omega, h2⟩
      · exact ⟨j + 1, by simpa using h, by omega, by simpa using h2⟩
    · rintro ⟨j, h, h1, h2⟩
      cases j with
      | zero => exact .inl ⟨by omega, by simpa using h2⟩
      | succ j => exact .inr ⟨j, by simpa using h, by omega, by simpa using h2⟩
theorem rowsDup_iff (ls : List (List S31)) : ∀ (r : List (List S31)) (i : Nat), rowsDup ls i r = true ↔ ∃ (a : Nat) (ha : a < r.length) (j : Nat) (h : j < ls.length), ¬ j = i + a ∧ ls[j] = r[a]
  | [], i => by
    constructor
    · intro h; cases h
    · rintro ⟨j, h, _⟩; simp at h
  | p :: r, i => by
    rw [rowsDup, Bool.or_eq_true, dupB_iff, rowsDup_iff ls r (i + 1)]
    constructor
    · rintro (⟨j, h, h1, h2⟩ | ⟨a, ha, j, h, h1, h2⟩)
      · exact ⟨0, by simp, j, h, by omega, by simpa using h2⟩
      · exact ⟨a + 1, by simpa using ha, j, h, by omega, by simpa using h2⟩
    · rintro ⟨a, ha, j, h, h1, h2⟩
      cases a with
      | zero => exact .inl ⟨j, h, by omega, by simpa using h2⟩
      | succ a => exact .inr ⟨a, by simpa using ha, j, h, by omega, by simpa using h2⟩
def befB (ls : List (List S31)) (i : Nat) (p : List S31) : Bool := (ls.take i).any fun q => decide (q = p)
def rDup (ls : List (List S31)) : Nat → List (List S31) → Bool
  | _, [] => false
  | i, p :: r => befB ls i p || rDup ls (i + 1) r
theorem befB_iff (ls : List (List S31)) (i : Nat) (p : List S31) : befB ls i p = true ↔ ∃ (j : Nat) (h : j < ls.length), j < i ∧ ls[j] = p := by
  unfold befB
  rw [List.any_eq_true]
  constructor
  · rintro ⟨q, hq, he⟩
    obtain ⟨j, hj, rfl⟩ := List.getElem_of_mem hq
    rw [List.length_take] at hj
    rw [List.getElem_take] at he
    exact ⟨j, by omega, by omega, of_decide_eq_true he⟩
  · rintro ⟨j, h, hi, he⟩
    refine ⟨ls[j], ?_, decide_eq_true he⟩
    rw [List.mem_iff_getElem]
    exact ⟨j, by rw [List.length_take]; omega, by rw [List.getElem_take]⟩
theorem rDup_iff (ls : List (List S31)) : ∀ (r : List (List S31)) (i : Nat), rDup ls i r = true ↔ ∃ (a : Nat) (ha : a < r.length) (j : Nat) (h : j < ls.length), j < i + a ∧ ls[j] = r[a]
  | [], i => by
    constructor
    · intro h; cases h
    · rintro ⟨j, h, _⟩; simp at h
  | p :: r, i => by
    rw [rDup, Bool.or_eq_true, befB_iff, rDup_iff ls r (i + 1)]
    constructor
    · rintro (⟨j, h, h1, h2⟩ | ⟨a, ha, j, h, h1, h2⟩)
      · exact ⟨0, by simp, j, h, by omega, by simpa using h2⟩
      · exact ⟨a + 1, by simpa using ha, j, h, by omega, by simpa using h2⟩
    · rintro ⟨a, ha, j, h, h1, h2⟩
      cases a with
      | zero => exact .inl ⟨j, h, by omega, by simpa using h2⟩
      | succ a => exact .inr ⟨a, by simpa using ha, j, h, by omega, by simpa using h2⟩
theorem dup_same (ls : List (List S31)) : rDup ls 0 ls = rowsDup ls 0 ls := by
  rw [Bool.eq_iff_iff, rDup_iff, rowsDup_iff]
  constructor
  · rintro ⟨a, ha, j, h, h1, h2⟩
    exact ⟨a, ha, j, h, by omega, h2⟩
  · rintro ⟨a, ha, j, h, h1, h2⟩
    rcases Nat.lt_or_ge j a with hlt | hge
    · exact ⟨a, ha, j, h, by omega, h2⟩
    · exact ⟨j, h, a, ha, by omega, h2.symm⟩
section
variable (ls : List (List S31)) (hn : ls.length ≤ 500) (hc : ∀ l ∈ ls, l.length ≤ 40)
include hn hc
theorem at40 (i : Nat) (h : i < ls.length) : (rd_L5 ls (i : Int)).length ≤ 40 := by
  rw [rd5 ls i h]
  exact hc _ (List.getElem_mem _)
theorem parent_loop (i : Nat) (hi : i < ls.length) : ∀ (d j k : Nat) (best : Int), j + d = ls.length → d + 50 ≤ k → -1 ≤ best → best < ls.length →
    mjolnerref09_parent.l0 k ls (i : Int) best (j : Int) = some (pBest ls ls[i] i j (ls.drop j) best) := by
  intro d
  induction d with
  | zero =>
    intro j k best hj hk h1 h2
    obtain ⟨k, rfl⟩ : ∃ m, k = m + 1 := ⟨k - 1, by omega⟩
    rw [mjolnerref09_parent.l0, if_neg (by omega), List.drop_of_length_le (by omega)]
    rfl
  | succ d ih =>
    intro j k best hj hk h1 h2
    obtain ⟨k, rfl⟩ : ∃ m, k = m + 1 := ⟨k - 1, by omega⟩
    have hjl : j < ls.length := by omega
    have h5 : wrap64 ((j : Int) + 1) = ((j + 1 : Nat) : Int) := w64 (by omega) (by omega)
    have hb40 := at40 ls hn hc j hjl
    rw [mjolnerref09_parent.l0, if_pos (by omega), List.drop_eq_getElem_cons hjl, pBest, h5]
    by_cases hji : j = i
    · rw [if_pos (by omega), if_pos (.inl hji)]
      exact ih (j + 1) k best (by omega) (by omega) h1 h2
    · rw [if_neg (by omega), if_pos (by omega), if_pos (by omega), if_pos (by omega), begins_f _ _ (by omega) k (by omega), Option.bind_some, rd5 ls i hi, rd5 ls j hjl]
      cases hcf : conformsB ls[i] ls[j] with
      | false =>
        rw [if_neg (by decide), if_pos (.inr rfl)]
        exact ih (j + 1) k best (by omega) (by omega) h1 h2
      | true =>
        rw [if_pos rfl, if_neg (show ¬ (j = i ∨ true = false) by rintro (h | h); exact hji h; cases h)]
        by_cases hb : best < 0
        · rw [if_pos hb, if_pos (.inl hb)]
          exact ih (j + 1) k j (by omega) (by omega) (by omega) (by omega)
        · rw [if_neg hb, if_pos (by omega), if_pos (by omega)]
          by_cases hl : (rd_L5 ls best).length < ls[j].length
          · rw [if_pos (by omega), if_pos (.inr hl)]
            exact ih (j + 1) k j (by omega) (by omega) (by omega) (by omega)
          · rw [if_neg (by omega), if_neg (by rintro (h | h); exact hb h; exact hl h)]
            exact ih (j + 1) k best (by omega) (by omega) h1 h2
theorem parent_f (i : Nat) (hi : i < ls.length) (k : Nat) (hk : 600 ≤ k) : mjolnerref09_parent.f k ls (i : Int) = some (pBest ls ls[i] i 0 ls (-1)) := by
  have := parent_loop ls hn hc i hi ls.length 0 k (-1) (by omega) (by omega) (by omega) (by omega)
  rw [List.drop_zero] at this
  exact this
/-- what the reference returns from a row on -/
def refRest (xs : List Int) (i : Nat) : List Int × Int := if rDup ls i (ls.drop i) = true then ([], 6) else (xs ++ rowsBest ls i (ls.drop i), 0)
theorem refRest_dup (xs : List Int) (i : Nat) (hil : i < ls.length) (h : befB ls i ls[i] = true) : refRest ls xs i = ([], 6) := by
  unfold refRest
  rw [List.drop_eq_getElem_cons hil, rDup, h, Bool.true_or, if_pos rfl]
theorem refRest_step (xs : List Int) (i : Nat) (hil : i < ls.length) (h : befB ls i ls[i] = false) : refRest ls (xs ++ [pBest ls ls[i] i 0 ls (-1)]) (i + 1) = refRest ls xs i := by
  unfold refRest
  rw [List.drop_eq_getElem_cons hil, rDup, h, Bool.false_or, rowsBest]
  cases rDup ls (i + 1) (ls.drop (i + 1)) with
  | true => rfl
  | false =>
    rw [if_neg (by decide), if_neg (by decide), List.append_assoc]
    rfl
theorem ref_l2 (xs : List Int) (i : Nat) (hil : i < ls.length) (hx : xs.length = i) (K : Nat) (hnext : ∀ k, K ≤ k → mjolnerref09_Parents.l1 k ls (xs ++ [pBest ls ls[i] i 0 ls (-1)]) ((i + 1 : Nat) : Int) = some (refRest ls (xs ++ [pBest ls ls[i] i 0 ls (-1)]) (i + 1))) :
    ∀ (e j k : Nat), j + e = i → e + K + 700 ≤ k → befB ls j ls[i] = false → mjolnerref09_Parents.l2 k ls xs (i : Int) (j : Int) = some (refRest ls xs i) := by
  intro e
  have h6 : wrap64 ((i : Int) + 1) = ((i + 1 : Nat) : Int) := w64 (by omega) (by omega)
  induction e with
  | zero =>
    intro j k hj hk hb
    obtain ⟨k, rfl⟩ : ∃ m, k = m + 1 := ⟨k - 1, by omega⟩
    obtain rfl : j = i := by omega
    have q1 : ¬ (j : Int) < (j : Int) := by omega
    have q2 : xs.length < 17592186044416 := by omega
    rw [mjolnerref09_Parents.l2, if_neg q1, parent_f ls hn hc j hil k (by omega), Option.bind_some, if_pos q2, h6, hnext k (by omega), refRest_step ls hn hc xs j hil hb]
  | succ e ihe =>
    intro j k hj hk hb
    obtain ⟨k, rfl⟩ : ∃ m, k = m + 1 := ⟨k - 1, by omega⟩
    have hjl : j < ls.length := by omega
    have h40 : ls[i].length ≤ 40 := hc _ (List.getElem_mem _)
    have h7 : wrap64 ((j : Int) + 1) = ((j + 1 : Nat) : Int) := w64 (by omega) (by omega)
    have q1 : (j : Int) < (i : Int) := by omega
    have q2 : (0 : Int) ≤ (i : Int) := by omega
    have q3 : (i : Int) < (ls.length : Int) := by omega
    have q4 : (0 : Int) ≤ (j : Int) := by omega
    have q5 : (j : Int) < (ls.length : Int) := by omega
    have hs := same_f ls[i] ls[j] (by omega) k (by omega)
    rw [mjolnerref09_Parents.l2, if_pos q1, if_pos q2, if_pos q3, if_pos q4, if_pos q5, rd5 ls i hil, rd5 ls j hjl, hs, Option.bind_some, h7]
    by_cases he : ls[i] = ls[j]
    · rw [decide_eq_true he, if_pos rfl, refRest_dup ls hn hc xs i hil ((befB_iff ls i ls[i]).2 ⟨j, hjl, by omega, he.symm⟩)]
    · rw [decide_eq_false he, if_neg (by decide)]
      refine ihe (j + 1) k (by omega) (by omega) ?_
      cases hb2 : befB ls (j + 1) ls[i] with
      | false => rfl
      | true =>
        obtain ⟨a, ha, h1, h2⟩ := (befB_iff ls (j + 1) ls[i]).1 hb2
        by_cases haj : a = j
        · subst haj
          exact absurd h2.symm he
        · rw [(befB_iff ls j ls[i]).2 ⟨a, ha, by omega, h2⟩] at hb
          cases hb
theorem ref_l1 : ∀ (d i k : Nat) (xs : List Int), i + d = ls.length → xs.length = i → d * 1300 + 1000 ≤ k → mjolnerref09_Parents.l1 k ls xs (i : Int) = some (refRest ls xs i) := by
  intro d
  induction d with
  | zero =>
    intro i k xs hi hx hk
    obtain ⟨k, rfl⟩ : ∃ m, k = m + 1 := ⟨k - 1, by omega⟩
    have q1 : ¬ (i : Int) < (ls.length : Int) := by omega
    rw [mjolnerref09_Parents.l1, if_neg q1]
    unfold refRest
    rw [List.drop_of_length_le (by omega)]
    show _ = some (xs ++ [], (0 : Int))
    rw [List.append_nil]
  | succ d ih =>
    intro i k xs hi hx hk
    obtain ⟨k, rfl⟩ : ∃ m, k = m + 1 := ⟨k - 1, by omega⟩
    have hil : i < ls.length := by omega
    have q1 : (i : Int) < (ls.length : Int) := by omega
    rw [mjolnerref09_Parents.l1, if_pos q1]
    obtain ⟨K, hK⟩ : ∃ K, K = d * 1300 + 1000 := ⟨_, rfl⟩
    have z1 : (i + 1) + d = ls.length := by omega
    have z2 : (xs ++ [pBest ls ls[i] i 0 ls (-1)]).length = i + 1 := by rw [List.length_append, hx, List.length_singleton]
    have z3 : i + K + 700 ≤ k := by omega
    have hnx : ∀ k, K ≤ k → mjolnerref09_Parents.l1 k ls (xs ++ [pBest ls ls[i] i 0 ls (-1)]) ((i + 1 : Nat) : Int) = some (refRest ls (xs ++ [pBest ls ls[i] i 0 ls (-1)]) (i + 1)) := by
      intro k hk2
      rw [hK] at hk2
      exact ih (i + 1) k _ z1 z2 hk2
    exact ref_l2 ls hn hc xs i hil hx K hnx i 0 k (Nat.zero_add i) z3 (by unfold befB; rw [List.take_zero]; rfl)
end
theorem ref_l0 (ls : List (List S31)) (hn : ls.length ≤ 500) : ∀ (d i k : Nat), i + d = ls.length → d + 700000 ≤ k → (∀ j (h : j < ls.length), j < i → checkL ls[j] = 0) →
    mjolnerref09_Parents.l0 k ls (i : Int) = some (if validL (ls.drop i) = 0 then refRest ls [] 0 else ([], validL (ls.drop i))) := by
  intro d
  induction d with
  | zero =>
    intro i k hi hk hc
    obtain ⟨k, rfl⟩ : ∃ m, k = m + 1 := ⟨k - 1, by omega⟩
    rw [mjolnerref09_Parents.l0, if_neg (by omega), List.drop_of_length_le (by omega)]
    have hc' : ∀ l ∈ ls, l.length ≤ 40 := by
      intro l hl
      obtain ⟨j, hj, rfl⟩ := List.getElem_of_mem hl
      exact checkL_small (hc j hj (by omega))
    have := ref_l1 ls hn hc' ls.length 0 k [] (by omega) rfl (by omega)
    rw [if_pos (by rfl)]
    exact this
  | succ d ih =>
    intro i k hi hk hc
    obtain ⟨k, rfl⟩ : ∃ m, k = m + 1 := ⟨k - 1, by omega⟩
    have hil : i < ls.length := by omega
    have h6 : wrap64 ((i : Int) + 1) = ((i + 1 : Nat) : Int) := w64 (by omega) (by omega)
    have q1 : (i : Int) < (ls.length : Int) := by omega
    have q2 : (0 : Int) ≤ (i : Int) := by omega
    have q3 := refCheck_f40 ls[i] k (by omega)
    rw [mjolnerref09_Parents.l0, if_pos q1, if_pos q2, rd5 ls i hil, q3, Option.bind_some, h6, List.drop_eq_getElem_cons hil, validL]
    by_cases h0 : checkL ls[i] = 0
    · rw [if_pos h0, if_pos h0]
      exact ih (i + 1) k (by omega) (by omega) (fun j hj hji => by
        rcases Nat.lt_or_ge j i with h | h
        · exact hc j hj h
        · obtain rfl : j = i := by omega
          exact h0)
    · rw [if_neg h0, if_neg h0, if_neg h0]
theorem refParents_f (ls : List (List S31)) (k : Nat) (hk : 800000 ≤ k) : mjolnerref09_Parents.f k ls = some (parentsF ls) := by
  unfold mjolnerref09_Parents.f parentsF
  by_cases h : 500 < ls.length
  · rw [if_pos (by omega), if_pos h]
  · rw [if_neg (by omega), if_neg h]
    have q5 : ls.length ≤ 500 := by omega
    have := ref_l0 ls q5 ls.length 0 k (by omega) (by omega) (fun j _ h => by omega)
    rw [List.drop_zero] at this
    refine this.trans ?_
    by_cases hz : validL ls = 0
    · rw [if_pos hz, if_pos hz, parRows_eq]
      unfold refRest
      rw [List.drop_zero, dup_same]
      cases rowsDup ls 0 ls with
      | true => rfl
      | false => rfl
    · rw [if_neg hz, if_neg hz]
end Go.Proofs.YtgkebfeggekkgaaDoor.Given
