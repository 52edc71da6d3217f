/- Plain: the parent of a pattern is the longest other one to which it conforms; the way from parent to parent. -/
import Derived.Test.YtgkebfeggekkgaaDoorLPar
set_option linter.unusedVariables false
set_option linter.unusedSimpArgs false
set_option linter.unusedSectionVars false
namespace Go.Proofs.YtgkebfeggekkgaaDoor.Given
open Go.RowKit Go.Proofs.YtgkebfeggekkgaaDoor.PT Go.Proofs.YtgkebfeggekkgaaDoorW.PrintWords

/-- the best one among the first k -/
def Good (ls : List (List S31)) (p : List S31) (i k : Nat) (best : Int) : Prop :=
  (best = -1 ∧ ∀ j (h : j < ls.length), j < k → j ≠ i → conformsB p ls[j] = false) ∨
  ∃ (b : Nat) (h : b < ls.length), best = b ∧ b < k ∧ b ≠ i ∧ conformsB p ls[b] = true ∧ ∀ j (h' : j < ls.length), j < k → j ≠ i → conformsB p ls[j] = true → ls[j].length ≤ ls[b].length
theorem pBest_good (ls : List (List S31)) (p : List S31) (i : Nat) : ∀ (d k : Nat) (best : Int), k + d = ls.length → Good ls p i k best → Good ls p i ls.length (pBest ls p i k (ls.drop k) best) := by
  intro d
  induction d with
  | zero =>
    intro k best hk hg
    obtain rfl : k = ls.length := by omega
    rw [List.drop_length]
    exact hg
  | succ d ih =>
    intro k best hk hg
    have hkl : k < ls.length := by omega
    rw [List.drop_eq_getElem_cons hkl, pBest]
    refine ih (k + 1) _ (by omega) ?_
    by_cases h1 : k = i ∨ conformsB p ls[k] = false
    · rw [if_pos h1]
      rcases hg with ⟨rfl, h⟩ | ⟨b, hb, rfl, h2, h3, h4, h5⟩
      · refine .inl ⟨rfl, fun j hj hjk hji => ?_⟩
        by_cases he : j = k
        · subst he
          rcases h1 with h1 | h1
          · exact absurd h1 hji
          · exact h1
        · exact h j hj (by omega) hji
      · refine .inr ⟨b, hb, rfl, by omega, h3, h4, fun j hj hjk hji hc => ?_⟩
        by_cases he : j = k
        · subst he
          rcases h1 with h1 | h1
          · exact absurd h1 hji
          · rw [h1] at hc
            cases hc
        · exact h5 j hj (by omega) hji hc
    · rw [if_neg h1]
      have hki : k ≠ i := fun h => h1 (.inl h)
      have hc : conformsB p ls[k] = true := by
        cases h : conformsB p ls[k] with
        | true => rfl
        | false => exact absurd (.inr h) h1
      by_cases h2 : best < 0 ∨ (rd_L5 ls best).length < ls[k].length
      · rw [if_pos h2]
        refine .inr ⟨k, hkl, rfl, by omega, hki, hc, fun j hj hjk hji hcj => ?_⟩
        by_cases he : j = k
        · subst he
          exact Nat.le_refl _
        · rcases hg with ⟨rfl, h⟩ | ⟨b, hb, rfl, g2, g3, g4, g5⟩
          · rw [h j hj (by omega) hji] at hcj
            cases hcj
          · rcases h2 with h2 | h2
            · omega
            · rw [rd5 ls b hb] at h2
              have := g5 j hj (by omega) hji hcj
              omega
      · rw [if_neg h2]
        rcases hg with ⟨rfl, h⟩ | ⟨b, hb, rfl, g2, g3, g4, g5⟩
        · exact absurd (.inl (by decide)) h2
        · refine .inr ⟨b, hb, rfl, by omega, g3, g4, fun j hj hjk hji hcj => ?_⟩
          by_cases he : j = k
          · subst he
            have : ¬ (rd_L5 ls (b : Int)).length < ls[j].length := fun h => h2 (.inr h)
            rw [rd5 ls b hb] at this
            omega
          · exact g5 j hj (by omega) hji hcj
theorem rows_get (ls : List (List S31)) : ∀ (r : List (List S31)) (i j : Nat) (h : j < r.length) (h' : j < (rowsBest ls i r).length), (rowsBest ls i r)[j] = pBest ls r[j] (i + j) 0 ls (-1)
  | [], i, j, h, _ => by simp at h
  | p :: r, i, 0, h, _ => rfl
  | p :: r, i, j + 1, h, h' => by
    have h2 : j < r.length := by simpa using h
    have h3 : j < (rowsBest ls (i + 1) r).length := by
      rw [rowsBest] at h'
      simpa using h'
    have := rows_get ls r (i + 1) j h2 h3
    rw [show i + 1 + j = i + (j + 1) by omega] at this
    exact this
theorem rowsB_len (ls : List (List S31)) : ∀ (r : List (List S31)) (i : Nat), (rowsBest ls i r).length = r.length
  | [], i => rfl
  | p :: r, i => by rw [rowsBest, List.length_cons, List.length_cons, rowsB_len ls r (i + 1)]
/-- the parent of each -/
theorem up_good (ls : List (List S31)) (i : Nat) (hi : i < ls.length) : Good ls ls[i] i ls.length ((rowsBest ls 0 ls)[i]'(by rw [rowsB_len]; exact hi)) := by
  rw [rows_get ls ls 0 i hi, Nat.zero_add]
  have := pBest_good ls ls[i] i ls.length 0 (-1) (by omega) (.inl ⟨rfl, fun j _ h => by omega⟩)
  rwa [List.drop_zero] at this
/-- how many are longer -/
def longer (ls : List (List S31)) (m : Nat) : Nat := (ls.filter fun q => decide (m < q.length)).length
theorem longer_le (ls : List (List S31)) (m : Nat) : longer ls m ≤ ls.length := List.length_filter_le _ _
theorem longer_step (ls : List (List S31)) (m n : Nat) (h : m < n) : ∀ (q : List S31), q ∈ ls → q.length = n → longer ls n + 1 ≤ longer ls m := by
  induction ls with
  | nil => intro q hq; cases hq
  | cons x r ih =>
    intro q hq hl
    unfold longer at ih ⊢
    have mono : ∀ l : List (List S31), (l.filter fun q => decide (n < q.length)).length ≤ (l.filter fun q => decide (m < q.length)).length := by
      intro l
      induction l with
      | nil => simp
      | cons y l ihl =>
        rw [List.filter_cons, List.filter_cons]
        by_cases h1 : n < y.length
        · rw [if_pos (decide_eq_true h1), if_pos (decide_eq_true (by omega)), List.length_cons, List.length_cons]
          omega
        · rw [if_neg (by simpa using h1)]
          split
          · rw [List.length_cons]
            omega
          · exact ihl
    rw [List.filter_cons, List.filter_cons]
    rcases List.mem_cons.1 hq with rfl | hq
    · rw [if_neg (by simp; omega), if_pos (decide_eq_true (by omega)), List.length_cons]
      have := mono r
      omega
    · have := ih q hq hl
      by_cases h1 : n < x.length
      · rw [if_pos (decide_eq_true h1), if_pos (decide_eq_true (by omega)), List.length_cons, List.length_cons]
        omega
      · rw [if_neg (by simpa using h1)]
        split
        · rw [List.length_cons]
          omega
        · exact this
section
variable (ls : List (List S31)) (hd : rowsDup ls 0 ls = false)
include hd
theorem no_dup (i j : Nat) (hi : i < ls.length) (hj : j < ls.length) (hij : i ≠ j) : ls[i] ≠ ls[j] := by
  intro he
  have : rowsDup ls 0 ls = true := (rowsDup_iff ls ls 0).2 ⟨j, hj, i, hi, by omega, he⟩
  rw [hd] at this
  cases this
/-- one step up -/
theorem up_step (i : Nat) (hi : i < ls.length) (u : Int) (hu : u = (rowsBest ls 0 ls)[i]'(by rw [rowsB_len]; exact hi)) :
    (u = -1 ∧ ∀ b (hb : b < ls.length), conformsB ls[i] ls[b] = decide (i = b)) ∨
    ∃ (k : Nat) (hk : k < ls.length), u = k ∧ ls[k].length < ls[i].length ∧ ∀ b (hb : b < ls.length), conformsB ls[i] ls[b] = (decide (i = b) || conformsB ls[k] ls[b]) := by
  have hg := up_good ls i hi
  rw [← hu] at hg
  rcases hg with ⟨h1, h2⟩ | ⟨k, hk, h1, _, h3, h4, h5⟩
  · refine .inl ⟨h1, fun b hb => ?_⟩
    by_cases he : i = b
    · subst he
      rw [decide_eq_true rfl, conf_refl]
    · rw [decide_eq_false he, h2 b hb hb (fun h => he h.symm)]
  · have hpre := (conf_iff _ _).1 h4
    have hlt : ls[k].length < ls[i].length := by
      have := hpre.length_le
      rcases Nat.lt_or_ge ls[k].length ls[i].length with h | h
      · exact h
      · exact absurd (hpre.eq_of_length (by omega)) (no_dup ls hd k i hk hi h3)
    refine .inr ⟨k, hk, h1, hlt, fun b hb => ?_⟩
    by_cases he : i = b
    · subst he
      rw [decide_eq_true rfl, conf_refl]
      rfl
    · rw [decide_eq_false he, Bool.false_or]
      cases hc : conformsB ls[i] ls[b] with
      | false =>
        cases hc2 : conformsB ls[k] ls[b] with
        | false => rfl
        | true =>
          rw [conf_trans h4 hc2] at hc
          cases hc
      | true =>
        have hle := h5 b hb hb (fun h => he h.symm) hc
        have hpb := (conf_iff _ _).1 hc
        have hx : ls[b] <+: ls[k] := by
          rcases List.prefix_or_prefix_of_prefix hpb hpre with h | h
          · exact h
          · have := h.length_le
            rw [h.eq_of_length (by omega)]
            exact List.prefix_refl _
        exact ((conf_iff _ _).2 hx).symm
end
end Go.Proofs.YtgkebfeggekkgaaDoor.Given
