/- Plain laws of patterns: conformity is to be a beginning; the law's own helpers; the reference's equality. -/
import Derived.Test.YtgkebfeggekkgaaDoorPTx17
import Derived.Test.YtgkebfeggekkgaaDoorPTx9
import Derived.Test.YtgkebfeggekkgaaDoorPTx5
import Derived.Test.YtgkebfeggekkgaaDoorHh
section
set_option linter.unusedVariables false
set_option linter.unusedSimpArgs false
namespace Go.Proofs.YtgkebfeggekkgaaDoor.Given
open Go.RowKit Go.Proofs.YtgkebfeggekkgaaDoor.PT Go.Proofs.YtgkebfeggekkgaaDoorW.PrintWords

theorem awake_tr : mjolnerlaw09_awake.f = some true := by kernel_rfl
theorem prefix_iff : ∀ (q p : List S31), commonN q p = p.length ↔ p <+: q
  | [], [] => by simp [commonN]
  | [], y :: p => by simp [commonN]
  | x :: q, [] => by simp [commonN]
  | x :: q, y :: p => by
    have h := prefix_iff q p
    rw [List.cons_prefix_cons]
    unfold commonN
    split
    · rename_i e
      subst e
      simp only [List.length_cons, Nat.add_right_cancel_iff, true_and]
      exact h
    · rename_i e
      simp only [List.length_cons]
      constructor
      · intro h; omega
      · intro h; exact absurd h.1.symm e
theorem conf_iff (q p : List S31) : conformsB q p = true ↔ p <+: q := by
  unfold conformsB
  rw [decide_eq_true_iff]
  exact prefix_iff q p
theorem conf_trans {a b c : List S31} (h1 : conformsB a b = true) (h2 : conformsB b c = true) : conformsB a c = true := by
  rw [conf_iff] at h1 h2 ⊢
  exact h2.trans h1
theorem conf_chain {a b c : List S31} (h1 : conformsB a b = true) (h2 : conformsB a c = true) : conformsB b c = true ∨ conformsB c b = true := by
  rw [conf_iff] at h1 h2
  rw [conf_iff, conf_iff]
  rcases List.prefix_or_prefix_of_prefix h1 h2 with h | h
  · exact .inr h
  · exact .inl h
theorem law_conf (q p : List S31) (hq : checkL q = 0) (hp : checkL p = 0) : mjolnerlaw09_conforms.f q p = some (conformsB q p, true) := by
  unfold mjolnerlaw09_conforms.f pattern_Conforms.f
  rw [validL_two, if_pos hq, hp, if_pos rfl, Option.bind_some]
  rfl
theorem conf_refl (p : List S31) : conformsB p p = true := (conf_iff p p).2 (List.prefix_refl p)
theorem conf_nil (p : List S31) : conformsB p [] = true := (conf_iff p []).2 (List.nil_prefix)
theorem conf_anti {p q : List S31} (h1 : conformsB p q = true) (h2 : conformsB q p = true) : p = q := by
  rw [conf_iff] at h1 h2
  exact h2.eq_of_length (Nat.le_antisymm h2.length_le h1.length_le)
theorem same_loop (a b : List S31) (hab : a.length = b.length) (ha : a.length ≤ 9223372036854775806) : ∀ (d i k : Nat), i + d = a.length → d < k → mjolnerref09_Same.l0 k a b (i : Int) = some (decide (a.drop i = b.drop i)) := by
  intro d
  induction d with
  | zero =>
    intro i k hi hk
    obtain ⟨k, rfl⟩ : ∃ m, k = m + 1 := ⟨k - 1, by omega⟩
    rw [mjolnerref09_Same.l0, if_neg (by omega), List.drop_of_length_le (by omega), List.drop_of_length_le (by omega)]
    rfl
  | succ d ih =>
    intro i k hi hk
    obtain ⟨k, rfl⟩ : ∃ m, k = m + 1 := ⟨k - 1, by omega⟩
    have h1 : (i : Int) < (a.length : Int) := by omega
    have h2 : (0 : Int) ≤ (i : Int) := by omega
    have h3 : (i : Int) < (b.length : Int) := by omega
    have hi1 : i < a.length := by omega
    have hi2 : i < b.length := by omega
    have h4 := ih (i + 1) k (by omega) (by omega)
    have h5 : wrap64 ((i : Int) + 1) = ((i + 1 : Nat) : Int) := w64 (by omega) (by omega)
    rw [mjolnerref09_Same.l0, if_pos h1, if_pos h2, if_pos h3, rd31 a i hi1, rd31 b i hi2, h5, h4, List.drop_eq_getElem_cons hi1, List.drop_eq_getElem_cons hi2]
    by_cases he : a[i] = b[i]
    · rw [if_neg (by rw [he]; simp)]
      congr 1
      rw [he]
      by_cases hd : a.drop (i + 1) = b.drop (i + 1)
      · rw [decide_eq_true hd, decide_eq_true (by rw [hd])]
      · rw [decide_eq_false hd, decide_eq_false (fun e => hd (List.cons.inj e).2)]
    · rw [if_pos]
      · rw [decide_eq_false (fun e => he (List.cons.inj e).1)]
      · have hn : ¬ (a[i].f0 = b[i].f0 ∧ a[i].f1 = b[i].f1 ∧ a[i].f2 = b[i].f2) := fun h => he ((S31.ext_iff' _ _).2 h)
        by_cases c0 : a[i].f0 = b[i].f0
        · by_cases c1 : a[i].f1 = b[i].f1
          · have c2 : ¬ a[i].f2 = b[i].f2 := fun c2 => hn ⟨c0, c1, c2⟩
            simp [c2]
          · simp [c1]
        · simp [c0]
theorem same_f (a b : List S31) (ha : a.length ≤ 9223372036854775806) (k : Nat) (hk : a.length < k) : mjolnerref09_Same.f k a b = some (decide (a = b)) := by
  unfold mjolnerref09_Same.f
  by_cases hl : a.length = b.length
  · rw [if_pos (by omega)]
    have := same_loop a b hl ha a.length 0 k (by omega) hk
    rw [List.drop_zero, List.drop_zero] at this
    exact this
  · rw [if_neg (by omega), decide_eq_false (fun e => hl (by rw [e]))]
end Go.Proofs.YtgkebfeggekkgaaDoor.Given
end
section
/- Plain: what some of the bindings make of the first one is a beginning of what all make. -/
set_option linter.unusedVariables false
set_option linter.unusedSimpArgs false
namespace Go.Proofs.YtgkebfeggekkgaaDoor.Given
open Go.RowKit Go.Proofs.YtgkebfeggekkgaaDoor.PT Go.Proofs.YtgkebfeggekkgaaDoorW.PrintWords

theorem step_take : ∀ (r : List S34) (out : List S31) (fin : Bool) (n : Int) (p : List S31) (N : Int), stepL out fin n r = (0, p, N) →
    (out <+: p ∧ n ≤ N) ∧ ∀ t, ∃ q M, stepL out fin n (r.take t) = (0, q, M) ∧ q <+: p ∧ n ≤ M ∧ M ≤ N
  | [], out, fin, n, p, N, h => by
    rw [stepL] at h
    cases h
    exact ⟨⟨List.prefix_refl _, Int.le_refl _⟩, fun t => ⟨out, n, by rw [List.take_nil, stepL], List.prefix_refl _, Int.le_refl _, Int.le_refl _⟩⟩
  | b :: r, out, fin, n, p, N, h => by
    have h0 : stepL out fin n ([] : List S34) = (0, out, n) := by rw [stepL]
    have key : ∀ (out' : List S31) (fin' : Bool), out <+: out' → stepL out' fin' (n + 1) r = (0, p, N) → (∀ r', stepL out fin n (b :: r') = stepL out' fin' (n + 1) r') →
        (out <+: p ∧ n ≤ N) ∧ ∀ t, ∃ q M, stepL out fin n ((b :: r).take t) = (0, q, M) ∧ q <+: p ∧ n ≤ M ∧ M ≤ N := by
      intro out' fin' hp hs he
      obtain ⟨⟨h1, h2⟩, h3⟩ := step_take r out' fin' (n + 1) p N hs
      refine ⟨⟨hp.trans h1, by omega⟩, fun t => ?_⟩
      cases t with
      | zero => exact ⟨out, n, by rw [List.take_zero, h0], hp.trans h1, Int.le_refl _, by omega⟩
      | succ t =>
        obtain ⟨q, M, e1, e2, e3, e4⟩ := h3 t
        exact ⟨q, M, by rw [List.take_succ_cons, he, e1], e2, by omega, e4⟩
    rw [stepL] at h
    by_cases c1 : b.f1 = 2
    · rw [if_pos c1] at h
      cases h
      refine ⟨⟨List.prefix_refl _, Int.le_refl _⟩, fun t => ⟨out, n, ?_, List.prefix_refl _, Int.le_refl _, Int.le_refl _⟩⟩
      cases t with
      | zero => rw [List.take_zero, h0]
      | succ t => rw [List.take_succ_cons, stepL, if_pos c1]
    · rw [if_neg c1] at h
      by_cases c2 : fin = true
      · rw [if_pos c2] at h
        cases h
      · rw [if_neg c2] at h
        by_cases c3 : b.f2 = true
        · rw [if_pos c3] at h
          by_cases c4 : out.length + b.f3.length ≤ 40
          · rw [if_pos c4] at h
            exact key _ _ (List.prefix_append _ _) h (fun r' => by rw [stepL, if_neg c1, if_neg c2, if_pos c3, if_pos c4])
          · rw [if_neg c4] at h
            cases h
        · rw [if_neg c3] at h
          by_cases c4 : conformsB b.f3 out = true
          · rw [if_pos c4] at h
            exact key _ _ ((conf_iff _ _).1 c4) h (fun r' => by rw [stepL, if_neg c1, if_neg c2, if_neg c3, if_pos c4])
          · rw [if_neg c4] at h
            cases h
/-- bindings that are valid are so up to each place -/
theorem bind_take : ∀ (l : List S34) (last : Int), bindL last l = 0 → ∀ t, bindL last (l.take t) = 0
  | [], last, h, t => by rw [List.take_nil]; exact h
  | x :: r, last, h, 0 => by rw [List.take_zero, bindL]
  | x :: r, last, h, t + 1 => by
    rw [List.take_succ_cons]
    rw [bindL] at h ⊢
    split at h
    · rename_i hx
      rw [if_pos hx]
      split at h
      · cases h
      · rename_i hb
        rw [if_neg hb]
        exact bind_take r _ h t
    · rename_i hx
      exact absurd h hx
end Go.Proofs.YtgkebfeggekkgaaDoor.Given
end
section
/- Plain: the place of the first one that counts, seen up to a place behind it, is the same. -/
set_option linter.unusedVariables false
set_option linter.unusedSimpArgs false
namespace Go.Proofs.YtgkebfeggekkgaaDoor.Given
open Go.RowKit Go.Proofs.YtgkebfeggekkgaaDoor.PT Go.Proofs.YtgkebfeggekkgaaDoorW.PrintWords

/-- where nothing counts, nothing is found -/
theorem first_none (at' : Int) : ∀ (r : List S34) (i g : Int), firstL at' r i g < i → ∀ (j : Nat) (hj : j < r.length), r[j].f1 = 2 → r[j].f0 ≤ at' → False
  | [], i, g, h, j, hj, _, _ => by simp at hj
  | b :: r, i, g, h, 0, hj, h1, h2 => by
    have h' : firstL at' r (i + 1) (if b.f0 ≤ at' ∧ b.f1 = 2 then i else g) < i := h
    rw [if_pos ⟨h2, h1⟩] at h'
    rcases first_at at' r (i + 1) i with h3 | ⟨k, _, h3, _⟩ <;> omega
  | b :: r, i, g, h, j + 1, hj, h1, h2 => by
    have h' : firstL at' r (i + 1) (if b.f0 ≤ at' ∧ b.f1 = 2 then i else g) < i := h
    exact first_none at' r (i + 1) (if b.f0 ≤ at' ∧ b.f1 = 2 then i else g) (by omega) j (by simpa using hj) h1 h2
/-- up to where the last one stands, the same is found -/
theorem first_take (at' : Int) : ∀ (l : List S34) (i f : Int) (t : Nat) (k : Nat), firstL at' l i f = i + k → k < t → 0 ≤ i → f < i → firstL at' (l.take t) i f = i + k
  | [], i, f, t, k, h, hk, hi, hf => by
    have : f = i + k := h
    omega
  | b :: r, i, f, 0, k, h, hk, hi, hf => by omega
  | b :: r, i, f, t + 1, k, h, hk, hi, hf => by
    rw [List.take_succ_cons]
    have h' : firstL at' r (i + 1) (if b.f0 ≤ at' ∧ b.f1 = 2 then i else f) = i + k := h
    show firstL at' (r.take t) (i + 1) (if b.f0 ≤ at' ∧ b.f1 = 2 then i else f) = i + k
    cases k with
    | zero =>
      -- nothing behind it counts
      generalize (if b.f0 ≤ at' ∧ b.f1 = 2 then i else f) = g at h' ⊢
      rcases first_at at' r (i + 1) g with h1 | ⟨j, hj, h1, _, _⟩
      · have hg : g = i := by rw [h1] at h'; simpa using h'
        subst hg
        rcases first_at at' (r.take t) (g + 1) g with h2 | ⟨j, hj, h2, h3, h4⟩
        · rw [h2]; simp
        · exfalso
          -- a later one in the beginning would be one in the whole
          exact first_none at' r (g + 1) g (by rw [h1]; omega) j (by rw [List.length_take] at hj; omega) (by rw [List.getElem_take] at h3; exact h3) (by rw [List.getElem_take] at h4; exact h4)
      · rw [h1] at h'
        omega
    | succ k =>
      have h2 : firstL at' r (i + 1) (if b.f0 ≤ at' ∧ b.f1 = 2 then i else f) = (i + 1) + k := by rw [h']; omega
      have h3 := first_take at' r (i + 1) _ t k h2 (by omega) (by omega) (by split <;> omega)
      rw [h3]
      omega
end Go.Proofs.YtgkebfeggekkgaaDoor.Given
end
section
/- Plain: what valid bindings make is valid. -/
set_option linter.unusedVariables false
set_option linter.unusedSimpArgs false
namespace Go.Proofs.YtgkebfeggekkgaaDoor.Given
open Go.RowKit Go.Proofs.YtgkebfeggekkgaaDoor.PT Go.Proofs.YtgkebfeggekkgaaDoorW.PrintWords

theorem check_both {p q : List S31} (hp : checkL p = 0) (hq : checkL q = 0) (hl : p.length + q.length ≤ 40) : checkL (p ++ q) = 0 := by
  have h1 := checkL_small hp
  have h2 := checkL_small hq
  unfold checkL at hp hq ⊢
  rw [if_neg (by omega)] at hp hq
  rw [if_neg (by rw [List.length_append]; omega), List.all_append]
  split at hp
  · rename_i a
    split at hq
    · rename_i b
      rw [a, b]
      rfl
    · cases hq
  · cases hp
theorem step_valid : ∀ (r : List S34) (out : List S31) (fin : Bool) (n : Int) (p : List S31) (N : Int), checkL out = 0 → (∀ b ∈ r, checkL b.f3 = 0) → stepL out fin n r = (0, p, N) → checkL p = 0
  | [], out, fin, n, p, N, ho, _, h => by
    rw [stepL] at h
    cases h
    exact ho
  | b :: r, out, fin, n, p, N, ho, hr, h => by
    have hb := hr b (List.mem_cons_self ..)
    have hr' : ∀ c ∈ r, checkL c.f3 = 0 := fun c hc => hr c (List.mem_cons_of_mem _ hc)
    rw [stepL] at h
    by_cases c1 : b.f1 = 2
    · rw [if_pos c1] at h
      cases h
      exact ho
    · rw [if_neg c1] at h
      by_cases c2 : fin = true
      · rw [if_pos c2] at h
        cases h
      · rw [if_neg c2] at h
        by_cases c3 : b.f2 = true
        · rw [if_pos c3] at h
          by_cases c4 : out.length + b.f3.length ≤ 40
          · rw [if_pos c4] at h
            exact step_valid r _ _ _ p N (check_both ho hb c4) hr' h
          · rw [if_neg c4] at h
            cases h
        · rw [if_neg c3] at h
          by_cases c4 : conformsB b.f3 out = true
          · rw [if_pos c4] at h
            exact step_valid r _ _ _ p N hb hr' h
          · rw [if_neg c4] at h
            cases h
end Go.Proofs.YtgkebfeggekkgaaDoor.Given
end
