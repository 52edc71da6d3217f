/- THE PLAIN LAW of PatternMeets. -/
import Derived.Test.YtgkebfeggekkgaaDoorPTx28
import Derived.Test.YtgkebfeggekkgaaDoorLPre
set_option linter.unusedVariables false
set_option linter.unusedSimpArgs false
namespace Go.Proofs.YtgkebfeggekkgaaDoor.Given
open Go.RowKit Go.Proofs.YtgkebfeggekkgaaDoor.PT Go.Proofs.YtgkebfeggekkgaaDoorW.PrintWords

def com (p q : List S31) : List S31 := p.take (commonN p q)
theorem com_glb : ∀ (p q r : List S31), r <+: com p q ↔ r <+: p ∧ r <+: q
  | [], q, r => by
    simp only [com, List.take_nil, List.prefix_nil]
    constructor
    · intro h; subst h; exact ⟨rfl, List.nil_prefix⟩
    · intro h; exact h.1
  | x :: p, [], r => by
    show r <+: (x :: p).take 0 ↔ _
    simp only [List.take_zero, List.prefix_nil]
    constructor
    · intro h; subst h; exact ⟨List.nil_prefix, rfl⟩
    · intro h; exact h.2
  | x :: p, y :: q, [] => by simp
  | x :: p, y :: q, z :: r => by
    have ih := com_glb p q r
    show z :: r <+: (x :: p).take (if x = y then commonN p q + 1 else 0) ↔ _
    by_cases e : x = y
    · subst e
      rw [if_pos rfl, List.take_succ_cons, List.cons_prefix_cons, List.cons_prefix_cons, List.cons_prefix_cons]
      have ih' : r <+: p.take (commonN p q) ↔ r <+: p ∧ r <+: q := ih
      rw [ih']
      constructor
      · intro h; exact ⟨⟨h.1, h.2.1⟩, ⟨h.1, h.2.2⟩⟩
      · intro h; exact ⟨h.1.1, h.1.2, h.2.2⟩
    · rw [if_neg e, List.take_zero, List.cons_prefix_cons, List.cons_prefix_cons]
      constructor
      · intro h; simp at h
      · intro h; exact absurd (h.1.1.symm.trans h.2.1) e
theorem pre_ext {a b : List S31} (h : ∀ r, r <+: a ↔ r <+: b) : a = b := by
  have h1 := (h a).1 (List.prefix_refl a)
  have h2 := (h b).2 (List.prefix_refl b)
  exact h1.eq_of_length (Nat.le_antisymm h1.length_le h2.length_le)
theorem com_comm (p q : List S31) : com p q = com q p := pre_ext fun r => by rw [com_glb, com_glb]; exact and_comm
theorem com_assoc (p q r : List S31) : com (com p q) r = com p (com q r) := pre_ext fun s => by rw [com_glb, com_glb, com_glb, com_glb]; exact and_assoc
theorem com_idem (p : List S31) : com p p = p := pre_ext fun s => by rw [com_glb]; exact and_self_iff
theorem check_take {p : List S31} (h : checkL p = 0) (n : Nat) : checkL (p.take n) = 0 := by
  have h40 := checkL_small h
  unfold checkL at h ⊢
  rw [if_neg (by omega)] at h
  rw [if_neg (by rw [List.length_take]; omega)]
  split at h
  · rename_i ha
    rw [if_pos]
    rw [List.all_eq_true] at ha ⊢
    exact fun x hx => ha x (List.mem_of_mem_take hx)
  · cases h
theorem check_com {p : List S31} (h : checkL p = 0) (q : List S31) : checkL (com p q) = 0 := check_take h _
theorem com_f {p q : List S31} (hp : checkL p = 0) (hq : checkL q = 0) : pattern_Common.f p q = some (com p q, 0) := by
  unfold pattern_Common.f
  rw [validL_two, if_pos hp, if_pos hq]
  rfl
theorem conf_com (p q r : List S31) : conformsB (com p q) r = (conformsB p r && conformsB q r) := by
  have h := com_glb p q r
  rw [← conf_iff, ← conf_iff, ← conf_iff] at h
  cases h0 : conformsB (com p q) r <;> cases h1 : conformsB p r <;> cases h2 : conformsB q r <;> simp_all
theorem meets_any (p q r : List S31) (k : Nat) (hk : p.length + q.length + r.length + 6 ≤ k) : mjolnerlaw09_PatternMeets.f k p q r = some true := by
  obtain ⟨k, rfl⟩ : ∃ m, k = m + 3 := ⟨k - 3, by omega⟩
  have hj : mjolnerlaw09_PatternMeets.j0 (k + 3) p q r true true = some true := by rw [mjolnerlaw09_PatternMeets.j0, if_pos rfl]
  unfold mjolnerlaw09_PatternMeets.f
  rw [awake_tr, Option.bind_some, check_f p _ (by omega), Option.bind_some]
  by_cases hp : checkL p = 0
  · rw [if_pos hp, check_f q _ (by omega), Option.bind_some]
    by_cases hq : checkL q = 0
    · rw [if_pos hq, check_f r _ (by omega), Option.bind_some]
      by_cases hr : checkL r = 0
      · rw [hr]
        show mjolnerlaw09_PatternMeets.j0 (k + 2 + 1) p q r true false = some true
        have h40 := checkL_small hp
        have hc := check_com hp q
        have l1 : (com p q).length ≤ 40 := checkL_small hc
        have l2 : (com (com p q) r).length ≤ (com p q).length := by unfold com; rw [List.length_take]; omega
        have l3 : (com p q).length ≤ p.length := by unfold com; rw [List.length_take]; omega
        rw [mjolnerlaw09_PatternMeets.j0, if_neg (by decide), com_f hp hq, Option.bind_some, com_f hq hp, Option.bind_some, com_f hq hr, Option.bind_some, com_f hc hr, Option.bind_some, com_f hp (check_com hq r), Option.bind_some, com_f hp hp, Option.bind_some,
          if_pos rfl, if_pos rfl, if_pos rfl, if_pos rfl, if_pos rfl]
        show mjolnerlaw09_PatternMeets.j1 (k + 1 + 1) p q r true (com p q) (com q p) (com (com p q) r) (com p (com q r)) (com p p) false = some true
        rw [mjolnerlaw09_PatternMeets.j1, if_neg (by decide), law_conf p (com p q) hp hc, Option.bind_some, law_conf q (com p q) hq hc, Option.bind_some, same_f (com p q) (com q p) (by omega) _ (by omega), Option.bind_some,
          if_pos (decide_eq_true (com_comm p q)), same_f (com (com p q) r) (com p (com q r)) (by omega) _ (by omega), Option.bind_some, if_pos (decide_eq_true (com_assoc p q r)), com_idem, same_f p p (by omega) _ (by omega), Option.bind_some, if_pos (decide_eq_true rfl), if_pos rfl, if_pos rfl]
        have c1 : conformsB p (com p q) = true := (conf_iff _ _).2 (List.take_prefix _ _)
        have c2 : conformsB q (com p q) = true := by
          rw [com_comm]
          exact (conf_iff _ _).2 (List.take_prefix _ _)
        show (if conformsB p (com p q) = true then mjolnerlaw09_PatternMeets.j2 (k + 1) p q r true (com p q) (!conformsB q (com p q)) else _) = some true
        rw [if_pos c1, c2]
        show mjolnerlaw09_PatternMeets.j2 (k + 1) p q r true (com p q) false = some true
        rw [mjolnerlaw09_PatternMeets.j2, if_neg (by decide), law_conf p r hp hr, Option.bind_some, law_conf q r hq hr, Option.bind_some, law_conf (com p q) r hc hr, Option.bind_some, if_pos rfl, if_pos rfl, if_pos rfl, if_pos rfl]
        show (if conformsB p r = true then some (conformsB (com p q) r == conformsB q r) else some (conformsB (com p q) r == false)) = some true
        rw [conf_com]
        cases conformsB p r <;> cases conformsB q r <;> rfl
      · rw [bne_iff_ne.2 hr]
        exact hj
    · rw [if_neg hq]
      exact hj
  · rw [if_neg hp]
    exact hj
theorem PatternMeets_law (p q r : List S31) (_ : p.all inI3 = true) (_ : q.all inI3 = true) (_ : r.all inI3 = true) : ∃ k, mjolnerlaw09_PatternMeets.f k p q r = some true := ⟨_, meets_any p q r _ (Nat.le_refl _)⟩
end Go.Proofs.YtgkebfeggekkgaaDoor.Given
