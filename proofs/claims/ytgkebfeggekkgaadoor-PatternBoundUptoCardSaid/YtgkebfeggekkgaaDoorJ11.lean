/- Plain: what some of the bindings make of the first one is a beginning of what all make. -/
import Derived.Test.YtgkebfeggekkgaaDoorJ9
import Derived.Test.YtgkebfeggekkgaaDoorHh
import Derived.Test.YtgkebfeggekkgaaDoorPTx19
import Derived.Test.YtgkebfeggekkgaaDoorJ10
section
set_option linter.unusedVariables false
set_option linter.unusedSimpArgs false
namespace Go.Proofs.YtgkebfeggekkgaaDoor.Given
open Go.RowKit Go.Proofs.YtgkebfeggekkgaaDoor.PT Go.Proofs.YtgkebfeggekkgaaDoorW.PrintWords

theorem step_take : ∀ (r : List S34) (out : List S31) (fin : Bool) (n : Int) (p : List S31) (N : Int), stepL out fin n r = (0, p, N) →
    (out <+: p ∧ n ≤ N) ∧ ∀ t, ∃ q M, stepL out fin n (r.take t) = (0, q, M) ∧ q <+: p ∧ n ≤ M ∧ M ≤ N
  | [], out, fin, n, p, N, h => by
    rw [stepL] at h
    cases h
    exact ⟨⟨List.prefix_refl _, Int.le_refl _⟩, fun t => ⟨out, n, by rw [List.take_nil, stepL], List.prefix_refl _, Int.le_refl _, Int.le_refl _⟩⟩
  | b :: r, out, fin, n, p, N, h => by
    have h0 : stepL out fin n ([] : List S34) = (0, out, n) := by rw [stepL]
    have key : ∀ (out' : List S31) (fin' : Bool), out <+: out' → stepL out' fin' (n + 1) r = (0, p, N) → (∀ r', stepL out fin n (b :: r') = stepL out' fin' (n + 1) r') →
        (out <+: p ∧ n ≤ N) ∧ ∀ t, ∃ q M, stepL out fin n ((b :: r).take t) = (0, q, M) ∧ q <+: p ∧ n ≤ M ∧ M ≤ N := by
      intro out' fin' hp hs he
      obtain ⟨⟨h1, h2⟩, h3⟩ := step_take r out' fin' (n + 1) p N hs
      refine ⟨⟨hp.trans h1, by omega⟩, fun t => ?_⟩
      cases t with
      | zero => exact ⟨out, n, by rw [List.take_zero, h0], hp.trans h1, Int.le_refl _, by omega⟩
      | succ t =>
        obtain ⟨q, M, e1, e2, e3, e4⟩ := h3 t
        exact ⟨q, M, by rw [List.take_succ_cons, he, e1], e2, by omega, e4⟩
    rw [stepL] at h
    by_cases c1 : b.f1 = 2
    · rw [if_pos c1] at h
      cases h
      refine ⟨⟨List.prefix_refl _, Int.le_refl _⟩, fun t => ⟨out, n, ?_, List.prefix_refl _, Int.le_refl _, Int.le_refl _⟩⟩
      cases t with
      | zero => rw [List.take_zero, h0]
      | succ t => rw [List.take_succ_cons, stepL, if_pos c1]
    · rw [if_neg c1] at h
      by_cases c2 : fin = true
      · rw [if_pos c2] at h
        cases h
      · rw [if_neg c2] at h
        by_cases c3 : b.f2 = true
        · rw [if_pos c3] at h
          by_cases c4 : out.length + b.f3.length ≤ 40
          · rw [if_pos c4] at h
            exact key _ _ (List.prefix_append _ _) h (fun r' => by rw [stepL, if_neg c1, if_neg c2, if_pos c3, if_pos c4])
          · rw [if_neg c4] at h
            cases h
        · rw [if_neg c3] at h
          by_cases c4 : conformsB b.f3 out = true
          · rw [if_pos c4] at h
            exact key _ _ ((conf_iff _ _).1 c4) h (fun r' => by rw [stepL, if_neg c1, if_neg c2, if_neg c3, if_pos c4])
          · rw [if_neg c4] at h
            cases h
/-- bindings that are valid are so up to each place -/
theorem bind_take : ∀ (l : List S34) (last : Int), bindL last l = 0 → ∀ t, bindL last (l.take t) = 0
  | [], last, h, t => by rw [List.take_nil]; exact h
  | x :: r, last, h, 0 => by rw [List.take_zero, bindL]
  | x :: r, last, h, t + 1 => by
    rw [List.take_succ_cons]
    rw [bindL] at h ⊢
    split at h
    · rename_i hx
      rw [if_pos hx]
      split at h
      · cases h
      · rename_i hb
        rw [if_neg hb]
        exact bind_take r _ h t
    · rename_i hx
      exact absurd h hx
end Go.Proofs.YtgkebfeggekkgaaDoor.Given
end
section
/- Plain: the place of the first one that counts, seen up to a place behind it, is the same. -/
set_option linter.unusedVariables false
set_option linter.unusedSimpArgs false
namespace Go.Proofs.YtgkebfeggekkgaaDoor.Given
open Go.RowKit Go.Proofs.YtgkebfeggekkgaaDoor.PT Go.Proofs.YtgkebfeggekkgaaDoorW.PrintWords

/-- where nothing counts, nothing is found -/
theorem first_none (at' : Int) : ∀ (r : List S34) (i g : Int), firstL at' r i g < i → ∀ (j : Nat) (hj : j < r.length), r[j].f1 = 2 → r[j].f0 ≤ at' → False
  | [], i, g, h, j, hj, _, _ => by simp at hj
  | b :: r, i, g, h, 0, hj, h1, h2 => by
    have h' : firstL at' r (i + 1) (if b.f0 ≤ at' ∧ b.f1 = 2 then i else g) < i := h
    rw [if_pos ⟨h2, h1⟩] at h'
    rcases first_at at' r (i + 1) i with h3 | ⟨k, _, h3, _⟩ <;> omega
  | b :: r, i, g, h, j + 1, hj, h1, h2 => by
    have h' : firstL at' r (i + 1) (if b.f0 ≤ at' ∧ b.f1 = 2 then i else g) < i := h
    exact first_none at' r (i + 1) (if b.f0 ≤ at' ∧ b.f1 = 2 then i else g) (by omega) j (by simpa using hj) h1 h2
/-- up to where the last one stands, the same is found -/
theorem first_take (at' : Int) : ∀ (l : List S34) (i f : Int) (t : Nat) (k : Nat), firstL at' l i f = i + k → k < t → 0 ≤ i → f < i → firstL at' (l.take t) i f = i + k
  | [], i, f, t, k, h, hk, hi, hf => by
    have : f = i + k := h
    omega
  | b :: r, i, f, 0, k, h, hk, hi, hf => by omega
  | b :: r, i, f, t + 1, k, h, hk, hi, hf => by
    rw [List.take_succ_cons]
    have h' : firstL at' r (i + 1) (if b.f0 ≤ at' ∧ b.f1 = 2 then i else f) = i + k := h
    show firstL at' (r.take t) (i + 1) (if b.f0 ≤ at' ∧ b.f1 = 2 then i else f) = i + k
    cases k with
    | zero =>
      -- nothing behind it counts
      generalize (if b.f0 ≤ at' ∧ b.f1 = 2 then i else f) = g at h' ⊢
      rcases first_at at' r (i + 1) g with h1 | ⟨j, hj, h1, _, _⟩
      · have hg : g = i := by rw [h1] at h'; simpa using h'
        subst hg
        rcases first_at at' (r.take t) (g + 1) g with h2 | ⟨j, hj, h2, h3, h4⟩
        · rw [h2]; simp
        · exfalso
          -- a later one in the beginning would be one in the whole
          exact first_none at' r (g + 1) g (by rw [h1]; omega) j (by rw [List.length_take] at hj; omega) (by rw [List.getElem_take] at h3; exact h3) (by rw [List.getElem_take] at h4; exact h4)
      · rw [h1] at h'
        omega
    | succ k =>
      have h2 : firstL at' r (i + 1) (if b.f0 ≤ at' ∧ b.f1 = 2 then i else f) = (i + 1) + k := by rw [h']; omega
      have h3 := first_take at' r (i + 1) _ t k h2 (by omega) (by omega) (by split <;> omega)
      rw [h3]
      omega
end Go.Proofs.YtgkebfeggekkgaaDoor.Given
end
section
/- THE PLAIN LAW of PatternFurther. -/
set_option linter.unusedVariables false
set_option linter.unusedSimpArgs false
set_option linter.unusedSectionVars false
namespace Go.Proofs.YtgkebfeggekkgaaDoor.Given
open Go.RowKit Go.Proofs.YtgkebfeggekkgaaDoor.PT Go.Proofs.YtgkebfeggekkgaaDoorW.PrintWords

theorem conf_of_pre {p q : List S31} (h : q <+: p) : conformsB p q = true := (conf_iff p q).2 h
/-- what Furthest returns when it returns no error -/
theorem fur_ok {l : List S34} {at' : Int} {p : List S31} {n : Int} (h : pattern_Furthest.f l at' = some (p, n, 0)) :
    bindL (-1) l = 0 ∧ ∃ (F : Nat) (b : S34) (r : List S34), firstL at' l 0 (-1) = F ∧ l.drop F = b :: r ∧ stepL b.f3 false 1 r = (0, p, n) := by
  unfold pattern_Furthest.f at h
  by_cases hz : bindL (-1) l = 0
  · refine ⟨hz, ?_⟩
    rw [if_pos hz] at h
    by_cases hf : firstL at' l 0 (-1) < 0
    · rw [if_pos hf] at h
      cases h
    · rw [if_neg hf] at h
      cases hd : l.drop (firstL at' l 0 (-1)).toNat with
      | nil => rw [hd] at h; cases h
      | cons b r =>
        rw [hd] at h
        have h' := Option.some.inj h
        refine ⟨(firstL at' l 0 (-1)).toNat, b, r, by omega, hd, ?_⟩
        generalize stepL b.f3 false 1 r = s at h' ⊢
        obtain ⟨s1, s2, s3⟩ := s
        simp only [Prod.mk.injEq] at h'
        obtain ⟨e1, e2, e3⟩ := h'
        rw [e1, e2, e3]
  · rw [if_neg hz] at h
    have := Option.some.inj h
    simp only [Prod.mk.injEq] at this
    exact absurd this.2.2 hz
theorem fur_of {l : List S34} {at' : Int} {p : List S31} {n : Int} {F : Nat} {b : S34} {r : List S34} (hz : bindL (-1) l = 0) (hf : firstL at' l 0 (-1) = F) (hd : l.drop F = b :: r) (hs : stepL b.f3 false 1 r = (0, p, n)) :
    pattern_Furthest.f l at' = some (p, n, 0) := by
  unfold pattern_Furthest.f
  rw [if_pos hz, if_neg (by omega), hf, Int.toNat_natCast, hd]
  show some ((stepL b.f3 false 1 r).2.1, (stepL b.f3 false 1 r).2.2, (stepL b.f3 false 1 r).1) = _
  rw [hs]
section
variable (l : List S34) (at' many : Int) (p : List S31) (n : Int) (hp : pattern_Furthest.f l at' = some (p, n, 0)) (h0 : 0 ≤ many) (h1 : many ≤ l.length) (hl : l.length ≤ 1048576)
include hp h0 h1 hl
theorem fur_end (k : Nat) (hk : 2 ≤ k) : (if firstL at' l 0 (-1) < 0 then mjolnerlaw09_PatternFurther.j2 k l at' many true p n (firstL at' l 0 (-1)) true else mjolnerlaw09_PatternFurther.j2 k l at' many true p n (firstL at' l 0 (-1)) (decide (firstL at' l 0 (-1) ≥ many))) = some true := by
  obtain ⟨k, rfl⟩ : ∃ m, k = m + 2 := ⟨k - 2, by omega⟩
  obtain ⟨hz, F, b, r, hf, hd, hs⟩ := fur_ok hp
  have hF : F < l.length := by
    rcases Nat.lt_or_ge F l.length with h | h
    · exact h
    · rw [List.drop_of_length_le h] at hd
      cases hd
  rw [hf, if_neg (by omega), mjolnerlaw09_PatternFurther.j2]
  by_cases hm : (F : Int) ≥ many
  · rw [decide_eq_true hm, if_pos rfl, if_pos rfl, decide_eq_true (by omega)]
  · rw [decide_eq_false hm, if_neg (by decide), if_pos h0, if_pos h1]
    obtain ⟨t, ht⟩ : ∃ t : Nat, many = t := ⟨many.toNat, by omega⟩
    subst ht
    rw [Int.toNat_natCast]
    have hb0 : ∀ c ∈ l, checkL c.f3 = 0 := bind_each l (-1) hz
    have hbm : b ∈ l := List.mem_of_mem_drop (hd ▸ List.mem_cons_self ..)
    have hrm : ∀ c ∈ r, checkL c.f3 = 0 := fun c hc => hb0 c (List.mem_of_mem_drop (hd ▸ List.mem_cons_of_mem _ hc))
    obtain ⟨⟨hpre, _⟩, htk⟩ := step_take r b.f3 false 1 p n hs
    obtain ⟨q, M, hq, hqp, hM1, hMn⟩ := htk (t - F - 1)
    have hft : firstL at' (l.take t) 0 (-1) = F := by
      have := first_take at' l 0 (-1) t F (by rw [hf]; simp) (by omega) (by omega) (by omega)
      simpa using this
    have hdt : (l.take t).drop F = b :: r.take (t - F - 1) := by
      rw [List.drop_take, hd]
      obtain ⟨m, hm⟩ : ∃ m, t - F = m + 1 := ⟨t - F - 1, by omega⟩
      rw [hm, List.take_succ_cons]
      rfl
    rw [fur_of (bind_take l (-1) hz t) hft hdt hq, Option.bind_some]
    show (if (0 : Int) = 0 then (if M > n then _ else mjolnerlaw09_PatternFurther.j3 (k + 1) l true p F q (decide (M < 1))) else _) = some true
    have hcp : checkL p = 0 := step_valid r _ _ _ p n (hb0 b hbm) hrm hs
    have hcq : checkL q = 0 := step_valid _ _ _ _ q M (hb0 b hbm) (fun c hc => hrm c (List.mem_of_mem_take hc)) hq
    rw [if_pos rfl, if_neg (by omega), decide_eq_false (by omega), mjolnerlaw09_PatternFurther.j3, if_neg (by decide), law_conf p q hcp hcq, Option.bind_some, if_pos (by omega), if_pos (by omega)]
    have hlF : rd_T34 l (F : Int) = b := by
      rw [rd34 l F hF]
      have := List.drop_eq_getElem_cons hF
      rw [hd] at this
      exact (List.cons.inj this).1.symm
    rw [hlF, law_conf p b.f3 hcp (hb0 b hbm), Option.bind_some, conf_of_pre hqp, conf_of_pre hpre]
    rfl
theorem fur_l0 : ∀ (d i k : Nat) (f : Int), i + d = l.length → d + 3 ≤ k → firstL at' (l.drop i) (i : Int) f = firstL at' l 0 (-1) → mjolnerlaw09_PatternFurther.l0 k l at' many true p n f (i : Int) = some true := by
  intro d
  induction d with
  | zero =>
    intro i k f hi hk hf
    obtain ⟨k, rfl⟩ : ∃ m, k = m + 1 := ⟨k - 1, by omega⟩
    rw [List.drop_of_length_le (by omega)] at hf
    have hf' : f = firstL at' l 0 (-1) := hf
    rw [mjolnerlaw09_PatternFurther.l0, if_neg (by omega), hf']
    exact fur_end l at' many p n hp h0 h1 hl k (by omega)
  | succ d ih =>
    intro i k f hi hk hf
    obtain ⟨k, rfl⟩ : ∃ m, k = m + 1 := ⟨k - 1, by omega⟩
    have hi1 : i < l.length := by omega
    have h5 : wrap64 ((i : Int) + 1) = ((i + 1 : Nat) : Int) := w64 (by omega) (by omega)
    rw [List.drop_eq_getElem_cons hi1] at hf
    have hf' : firstL at' (l.drop (i + 1)) ((i + 1 : Nat) : Int) (if l[i].f0 ≤ at' ∧ l[i].f1 = 2 then (i : Int) else f) = firstL at' l 0 (-1) := hf
    have h4 := ih (i + 1) k _ (by omega) (by omega) hf'
    rw [mjolnerlaw09_PatternFurther.l0, if_pos (by omega), if_pos (by omega), rd34 l i hi1, h5]
    by_cases c1 : l[i].f0 ≤ at'
    · rw [if_pos c1]
      by_cases c2 : l[i].f1 = 2
      · rw [if_pos c2]
        rw [if_pos ⟨c1, c2⟩] at h4
        exact h4
      · rw [if_neg c2]
        rw [if_neg (fun h => c2 h.2)] at h4
        exact h4
    · rw [if_neg c1]
      rw [if_neg (fun h => c1 h.1)] at h4
      exact h4
end
theorem fur_any (l : List S34) (at' many : Int) (hl : l.length ≤ 1048576) (hn : pattern_Furthest.f l at' ≠ none) (k : Nat) (hk : 2000000 ≤ k) : mjolnerlaw09_PatternFurther.f k l at' many = some true := by
  obtain ⟨k, rfl⟩ : ∃ m, k = m + 1 := ⟨k - 1, by omega⟩
  have hj : ∀ p n, mjolnerlaw09_PatternFurther.j0 (k + 1) l at' many true p n true = some true := fun p n => by rw [mjolnerlaw09_PatternFurther.j0, if_pos rfl]
  unfold mjolnerlaw09_PatternFurther.f
  rw [awake_tr, Option.bind_some]
  cases hp : pattern_Furthest.f l at' with
  | none => exact absurd hp hn
  | some x =>
    obtain ⟨p, n, e⟩ := x
    rw [Option.bind_some]
    show (if e = 0 then (if many < 0 then mjolnerlaw09_PatternFurther.j0 (k + 1) l at' many true p n true else mjolnerlaw09_PatternFurther.j0 (k + 1) l at' many true p n (decide (many > l.length))) else mjolnerlaw09_PatternFurther.j0 (k + 1) l at' many true p n true) = some true
    by_cases he : e = 0
    · subst he
      rw [if_pos rfl]
      by_cases h0 : many < 0
      · rw [if_pos h0]
        exact hj p n
      · rw [if_neg h0]
        by_cases h1 : many > l.length
        · rw [decide_eq_true h1]
          exact hj p n
        · rw [decide_eq_false h1, mjolnerlaw09_PatternFurther.j0, if_neg (by decide)]
          exact fur_l0 l at' many p n hp (by omega) (by omega) hl l.length 0 k (-1) (by omega) (by omega) (by rw [List.drop_zero]; rfl)
    · rw [if_neg he]
      exact hj p n
theorem fur_some (l : List S34) (at' : Int) : pattern_Furthest.f l at' ≠ none := by
  unfold pattern_Furthest.f
  by_cases hz : bindL (-1) l = 0
  · rw [if_pos hz]
    by_cases hf : firstL at' l 0 (-1) < 0
    · rw [if_pos hf]
      exact fun h => by cases h
    · rw [if_neg hf]
      rcases first_at at' l 0 (-1) with h | ⟨k, hk, h, _⟩
      · omega
      · rw [h]
        simp only [Int.zero_add, Int.toNat_natCast]
        rw [List.drop_eq_getElem_cons hk]
        exact fun h => by cases h
  · rw [if_neg hz]
    exact fun h => by cases h
theorem PatternFurther_law (l : List S34) (a m : Int) (hl : l.length ≤ 1048576) (_ : ∀ b ∈ l, b.f3.all inI3 = true ∧ inI b.f0 = true ∧ inI b.f1 = true ∧ b.f3.length ≤ 1048576) : ∃ k, mjolnerlaw09_PatternFurther.f k l a m = some true := ⟨_, fur_any l a m hl (fur_some l a) _ (Nat.le_refl _)⟩
end Go.Proofs.YtgkebfeggekkgaaDoor.Given
end
section
/- Plain: what one binding more behind bindings does to the furthest one (the law of PatternBound). -/
set_option linter.unusedVariables false
set_option linter.unusedSimpArgs false
set_option linter.unusedSectionVars false
namespace Go.Proofs.YtgkebfeggekkgaaDoor.Given
open Go.RowKit Go.Proofs.YtgkebfeggekkgaaDoor.PT Go.Proofs.YtgkebfeggekkgaaDoorW.PrintWords

/-- where the last binding stands -/
def lastB (last : Int) : List S34 → Int
  | [] => last
  | b :: r => lastB b.f0 r
/-- whether the last one was final -/
def lastF (fin : Bool) : List S34 → Bool
  | [] => fin
  | b :: r => lastF (decide (b.f1 = 4)) r
theorem lastB_get : ∀ (l : List S34) (last : Int) (h : l.length - 1 < l.length), lastB last l = l[l.length - 1].f0
  | [], last, h => by simp at h
  | [b], last, h => rfl
  | b :: c :: r, last, h => by
    show lastB b.f0 (c :: r) = _
    rw [lastB_get (c :: r) b.f0 (by simp)]
    simp
theorem lastF_get : ∀ (l : List S34) (fin : Bool) (h : l.length - 1 < l.length), lastF fin l = decide (l[l.length - 1].f1 = 4)
  | [], fin, h => by simp at h
  | [b], fin, h => rfl
  | b :: c :: r, fin, h => by
    show lastF (decide (b.f1 = 4)) (c :: r) = _
    rw [lastF_get (c :: r) _ (by simp)]
    simp
theorem lastF_app : ∀ (a : List S34) (b : S34) (r : List S34) (fin : Bool), lastF fin (a ++ b :: r) = lastF (decide (b.f1 = 4)) r
  | [], b, r, fin => rfl
  | x :: a, b, r, fin => by
    show lastF (decide (x.f1 = 4)) (a ++ b :: r) = _
    exact lastF_app a b r _
theorem bind_mono : ∀ (l : List S34) (last : Int), bindL last l = 0 → last ≤ lastB last l ∧ ∀ b ∈ l, b.f0 ≤ lastB last l
  | [], last, _ => ⟨Int.le_refl _, fun b hb => by simp at hb⟩
  | x :: r, last, h => by
    rw [bindL] at h
    split at h
    · split at h
      · cases h
      · rename_i hb
        obtain ⟨h1, h2⟩ := bind_mono r x.f0 h
        have h3 : last < x.f0 := by
          rcases Int.lt_or_le last x.f0 with h4 | h4
          · exact h4
          · exfalso
            apply hb
            unfold badB
            rw [decide_eq_true h4]
            rfl
        refine ⟨?_, fun b hb => ?_⟩
        · show last ≤ lastB x.f0 r
          omega
        · show b.f0 ≤ lastB x.f0 r
          rcases List.mem_cons.1 hb with rfl | hb
          · exact h1
          · exact h2 b hb
    · rename_i hx
      exact absurd h hx
theorem bind_snoc (z : S34) (hz : checkL z.f3 = 0) : ∀ (l : List S34) (last : Int), bindL last l = 0 → badB (lastB last l) z = false → bindL last (l ++ [z]) = 0
  | [], last, _, hb => by
    show bindL last [z] = 0
    rw [bind_ok hz (show badB last z = false from hb)]
    rfl
  | x :: r, last, h, hb => by
    show bindL last (x :: (r ++ [z])) = 0
    rw [bindL] at h ⊢
    split at h
    · rename_i hx
      rw [if_pos hx]
      split at h
      · cases h
      · rename_i hn
        rw [if_neg hn]
        exact bind_snoc z hz r x.f0 h hb
    · rename_i hx
      exact absurd h hx
theorem first_app (at' : Int) : ∀ (a b : List S34) (i f : Int), firstL at' (a ++ b) i f = firstL at' b (i + a.length) (firstL at' a i f)
  | [], b, i, f => by simp [firstL]
  | x :: a, b, i, f => by
    show firstL at' (a ++ b) (i + 1) (if x.f0 ≤ at' ∧ x.f1 = 2 then i else f) = firstL at' b (i + (a.length + 1 : Nat)) (firstL at' a (i + 1) (if x.f0 ≤ at' ∧ x.f1 = 2 then i else f))
    rw [first_app at' a b, show i + 1 + (a.length : Int) = i + (a.length + 1 : Nat) by omega]
theorem first_congr (s t : Int) : ∀ (l : List S34) (i f : Int), (∀ b ∈ l, b.f1 = 2 → (b.f0 ≤ s ↔ b.f0 ≤ t)) → firstL s l i f = firstL t l i f
  | [], _, _, _ => rfl
  | b :: r, i, f, h => by
    show firstL s r (i + 1) (if b.f0 ≤ s ∧ b.f1 = 2 then i else f) = firstL t r (i + 1) (if b.f0 ≤ t ∧ b.f1 = 2 then i else f)
    have e : (if b.f0 ≤ s ∧ b.f1 = 2 then i else f) = (if b.f0 ≤ t ∧ b.f1 = 2 then i else f) := by
      by_cases h2 : b.f1 = 2
      · have := h b (List.mem_cons_self ..) h2
        by_cases h3 : b.f0 ≤ s
        · rw [if_pos ⟨h3, h2⟩, if_pos ⟨this.1 h3, h2⟩]
        · rw [if_neg (fun h => h3 h.1), if_neg (fun h => h3 (this.2 h.1))]
      · rw [if_neg (fun h => h2 h.2), if_neg (fun h => h2 h.2)]
    rw [e]
    exact first_congr s t r _ _ fun b hb => h b (List.mem_cons_of_mem _ hb)
theorem step_virt (z : S34) (hz : z.f1 = 2) : ∀ (r : List S34) (out : List S31) (fin : Bool) (n : Int), stepL out fin n (r ++ [z]) = stepL out fin n r
  | [], out, fin, n => by
    have h0 : stepL out fin n ([] : List S34) = (0, out, n) := by rw [stepL]
    show stepL out fin n [z] = stepL out fin n []
    rw [h0, stepL, if_pos hz]
  | b :: r, out, fin, n => by
    show stepL out fin n (b :: (r ++ [z])) = _
    rw [stepL, stepL, step_virt z hz r, step_virt z hz r]
theorem step_app (s : List S34) : ∀ (r : List S34) (out : List S31) (fin : Bool) (n : Int) (p : List S31) (m : Int), stepL out fin n r = (0, p, m) → (∀ b ∈ r, ¬ b.f1 = 2) → stepL out fin n (r ++ s) = stepL p (lastF fin r) m s
  | [], out, fin, n, p, m, h, _ => by
    rw [stepL] at h
    cases h
    rfl
  | b :: r, out, fin, n, p, m, h, hv => by
    show stepL out fin n (b :: (r ++ s)) = stepL p (lastF (decide (b.f1 = 4)) r) m s
    have hr : ∀ c ∈ r, ¬ c.f1 = 2 := fun c hc => hv c (List.mem_cons_of_mem _ hc)
    have h1 := hv b (List.mem_cons_self ..)
    rw [stepL, if_neg h1] at h ⊢
    by_cases c2 : fin = true
    · rw [if_pos c2] at h
      cases h
    · rw [if_neg c2] at h ⊢
      by_cases c3 : b.f2 = true
      · rw [if_pos c3] at h ⊢
        by_cases c4 : out.length + b.f3.length ≤ 40
        · rw [if_pos c4] at h ⊢
          exact step_app s r _ _ _ p m h hr
        · rw [if_neg c4] at h
          cases h
      · rw [if_neg c3] at h ⊢
        by_cases c4 : conformsB b.f3 out = true
        · rw [if_pos c4] at h ⊢
          exact step_app s r _ _ _ p m h hr
        · rw [if_neg c4] at h
          cases h
theorem bound_len {l : List S34} {at' : Int} {p : List S31} {n : Int} (hp : pattern_Furthest.f l at' = some (p, n, 0)) : p.length ≤ 40 := by
  obtain ⟨hz, F, b, r, hf, hd, hs⟩ := fur_ok hp
  exact checkL_small (step_valid r b.f3 false 1 p n (bind_each l _ hz b (List.mem_of_mem_drop (i := F) (by rw [hd]; exact List.mem_cons_self ..))) (fun c hc => bind_each l _ hz c (List.mem_of_mem_drop (i := F) (by rw [hd]; exact List.mem_cons_of_mem _ hc))) hs)
section
variable {l : List S34} {at' : Int} {p : List S31} {n : Int} (hp : pattern_Furthest.f l at' = some (p, n, 0)) (hl : l.length - 1 < l.length) {gap : Int} (hg : 1 ≤ gap) {x : S31} (hx : checkL [x] = 0)
include hp hl hg hx
/-- a new introduction behind: it hides nothing ahead -/
theorem bound_anew (hat : at' ≤ l[l.length - 1].f0) : pattern_Furthest.f (l ++ [⟨l[l.length - 1].f0 + gap, 2, false, [x]⟩]) at' = some (p, n, 0) := by
  obtain ⟨hz, F, b, r, hf, hd, hs⟩ := fur_ok hp
  have hF : F < l.length := by
    rcases Nat.lt_or_ge F l.length with h | h
    · exact h
    · rw [List.drop_of_length_le h] at hd
      cases hd
  refine fur_of (F := F) (b := b) (r := r ++ [⟨l[l.length - 1].f0 + gap, 2, false, [x]⟩]) (bind_snoc _ hx l _ hz ?_) ?_ ?_ ?_
  · rw [lastB_get l _ hl]
    unfold badB
    rw [decide_eq_false (by show ¬ l[l.length - 1].f0 + gap ≤ l[l.length - 1].f0; omega)]
    rfl
  · rw [first_app, hf]
    show (if l[l.length - 1].f0 + gap ≤ at' ∧ (2 : Int) = 2 then (0 : Int) + l.length else (F : Int)) = F
    rw [if_neg (fun h => by omega)]
  · rw [List.drop_append_of_le_length (Nat.le_of_lt hF), hd]
    rfl
  · rw [step_virt _ rfl, hs]
theorem bound_own : pattern_Furthest.f (l ++ [⟨l[l.length - 1].f0 + gap, 2, false, [x]⟩]) (l[l.length - 1].f0 + gap) = some ([x], 1, 0) := by
  obtain ⟨hz, F, b, r, hf, hd, hs⟩ := fur_ok hp
  refine fur_of (F := l.length) (b := ⟨l[l.length - 1].f0 + gap, 2, false, [x]⟩) (r := []) (bind_snoc _ hx l _ hz ?_) ?_ ?_ ?_
  · rw [lastB_get l _ hl]
    unfold badB
    rw [decide_eq_false (by show ¬ l[l.length - 1].f0 + gap ≤ l[l.length - 1].f0; omega)]
    rfl
  · rw [first_app]
    show (if l[l.length - 1].f0 + gap ≤ l[l.length - 1].f0 + gap ∧ (2 : Int) = 2 then (0 : Int) + l.length else _) = _
    rw [if_pos ⟨Int.le_refl _, rfl⟩, Int.zero_add]
  · rw [List.drop_append_of_le_length (Nat.le_refl _), List.drop_length]
    rfl
  · rw [stepL]
/-- seen from the last one, where none is introduced behind the place -/
theorem bound_seen (hat : at' ≤ l[l.length - 1].f0) (hv : ∀ b ∈ l, ¬ (at' < b.f0 ∧ b.f1 = 2)) : pattern_Furthest.f l l[l.length - 1].f0 = some (p, n, 0) := by
  obtain ⟨hz, F, b, r, hf, hd, hs⟩ := fur_ok hp
  have hm := bind_mono l (-1) hz
  rw [lastB_get l _ hl] at hm
  refine fur_of (F := F) hz ?_ hd hs
  rw [← hf]
  exact first_congr _ _ l _ _ fun b hb h2 => ⟨fun h => by
    rcases Int.lt_or_le at' b.f0 with h3 | h3
    · exact absurd ⟨h3, h2⟩ (hv b hb)
    · exact h3, fun h => hm.2 b hb⟩
/-- a further binding behind -/
def moreF (l : List S34) (p : List S31) (n : Int) (x : S31) (h : l.length - 1 < l.length) : List S31 × Int × Int :=
  if l[l.length - 1].f1 = 4 then ([], 0, 4) else if p.length = 40 then ([], 0, 2) else (p ++ [x], n + 1, 0)
theorem bound_more (hat : at' ≤ l[l.length - 1].f0) (hv : ∀ b ∈ l, ¬ (at' < b.f0 ∧ b.f1 = 2)) : pattern_Furthest.f (l ++ [⟨l[l.length - 1].f0 + gap, 3, true, [x]⟩]) at' = some (moreF l p n x hl) := by
  obtain ⟨hz, F, b, r, hf, hd, hs⟩ := fur_ok hp
  have hF : F < l.length := by
    rcases Nat.lt_or_ge F l.length with h | h
    · exact h
    · rw [List.drop_of_length_le h] at hd
      cases hd
  -- behind the first one none is introduced
  have hrv : ∀ c ∈ r, ¬ c.f1 = 2 := by
    intro c hc h2
    have e1 : l = l.take F ++ (b :: r) := by rw [← hd, List.take_append_drop]
    have h3 := hf
    rw [e1, first_app] at h3
    have h4 : firstL at' r (0 + ((l.take F).length : Int) + 1) (if b.f0 ≤ at' ∧ b.f1 = 2 then (0 + ((l.take F).length : Int)) else firstL at' (l.take F) 0 (-1)) = F := h3
    rw [List.length_take, Nat.min_eq_left (Nat.le_of_lt hF)] at h4
    obtain ⟨j, hj, rfl⟩ := List.getElem_of_mem hc
    have hcl : r[j] ∈ l := by rw [e1]; exact List.mem_append_right _ (List.mem_cons_of_mem _ hc)
    refine first_none at' r _ _ (by rw [h4]; omega) j hj h2 ?_
    rcases Int.lt_or_le at' r[j].f0 with h5 | h5
    · exact absurd ⟨h5, h2⟩ (hv _ hcl)
    · exact h5
  have hb2 : b.f1 = 2 := by
    rcases first_at at' l 0 (-1) with h | ⟨k, hk, h, h1, _⟩
    · omega
    · obtain rfl : k = F := by omega
      rw [List.drop_eq_getElem_cons hk] at hd
      cases hd
      exact h1
  have hlf : lastF false r = decide (l[l.length - 1].f1 = 4) := by
    rw [← lastF_get l false hl]
    have e1 : l = l.take F ++ (b :: r) := by rw [← hd, List.take_append_drop]
    conv => rhs; rw [e1]
    rw [lastF_app, hb2]
    rfl
  have hz' : bindL (-1) (l ++ [⟨l[l.length - 1].f0 + gap, 3, true, [x]⟩]) = 0 := by
    refine bind_snoc _ hx l _ hz ?_
    rw [lastB_get l _ hl]
    unfold badB
    rw [decide_eq_false (by show ¬ l[l.length - 1].f0 + gap ≤ l[l.length - 1].f0; omega)]
    rfl
  have hf' : firstL at' (l ++ [⟨l[l.length - 1].f0 + gap, 3, true, [x]⟩]) 0 (-1) = F := by
    rw [first_app, hf]
    show (if l[l.length - 1].f0 + gap ≤ at' ∧ (3 : Int) = 2 then (0 : Int) + l.length else (F : Int)) = F
    rw [if_neg (fun h => by omega)]
  have hd' : (l ++ [(⟨l[l.length - 1].f0 + gap, 3, true, [x]⟩ : S34)]).drop F = b :: (r ++ [⟨l[l.length - 1].f0 + gap, 3, true, [x]⟩]) := by
    rw [List.drop_append_of_le_length (Nat.le_of_lt hF), hd]
    rfl
  unfold pattern_Furthest.f
  rw [if_pos hz', if_neg (by omega), hf', Int.toNat_natCast, hd']
  dsimp only
  rw [step_app _ r _ _ _ p n hs hrv, hlf, stepL, if_neg (show ¬ (3 : Int) = 2 by decide)]
  have h40 : p.length ≤ 40 := bound_len hp
  unfold moreF
  by_cases h4 : l[l.length - 1].f1 = 4
  · rw [decide_eq_true h4, if_pos rfl, if_pos h4]
  · rw [decide_eq_false h4, if_neg (by decide), if_neg h4, if_pos rfl]
    by_cases h5 : p.length = 40
    · rw [if_pos h5, if_neg (by show ¬ p.length + 1 ≤ 40; omega)]
    · rw [if_neg h5, if_pos (by show p.length + 1 ≤ 40; omega), stepL]
end
end Go.Proofs.YtgkebfeggekkgaaDoor.Given
end
