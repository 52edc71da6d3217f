/- THE PLAIN LAW of PatternExtends. -/
import Derived.Test.YtgkebfeggekkgaaDoorPTx29
import Derived.Test.YtgkebfeggekkgaaDoorLPre
set_option linter.unusedVariables false
set_option linter.unusedSimpArgs false
namespace Go.Proofs.YtgkebfeggekkgaaDoor.Given
open Go.RowKit Go.Proofs.YtgkebfeggekkgaaDoor.PT Go.Proofs.YtgkebfeggekkgaaDoorW.PrintWords

theorem ext_ok {p q : List S31} (hp : checkL p = 0) (hq : checkL q = 0) (hl : p.length + q.length ≤ 40) : pattern_Extend.f p q = some (p ++ q, 0) := by
  unfold pattern_Extend.f
  rw [validL_two, if_pos hp, if_pos hq, if_pos hl]
theorem ext_cases (p q : List S31) : (checkL p = 0 ∧ checkL q = 0 ∧ p.length + q.length ≤ 40) ∨ ∃ z : Int, ¬ z = 0 ∧ pattern_Extend.f p q = some ([], z) := by
  by_cases hv : validL [p, q] = 0
  · obtain ⟨hp, hq⟩ := validL_two_ok hv
    by_cases hl : p.length + q.length ≤ 40
    · exact .inl ⟨hp, hq, hl⟩
    · exact .inr ⟨2, by decide, by unfold pattern_Extend.f; rw [if_pos hv, if_neg hl]⟩
  · exact .inr ⟨_, hv, by unfold pattern_Extend.f; rw [if_neg hv]⟩
theorem check_app {p q : List S31} (hp : checkL p = 0) (hq : checkL q = 0) (hl : p.length + q.length ≤ 40) : checkL (p ++ q) = 0 := by
  have h1 := checkL_small hp
  have h2 := checkL_small hq
  unfold checkL at hp hq ⊢
  rw [if_neg (by omega)] at hp hq
  rw [if_neg (by rw [List.length_append]; omega), List.all_append]
  split at hp
  · rename_i a
    split at hq
    · rename_i b
      rw [a, b]
      rfl
    · cases hq
  · cases hp
theorem ext_j2 (p q r : List S31) (hp : checkL p = 0) (hq : checkL q = 0) (hl : p.length + q.length ≤ 40) (k : Nat) (hk : 41 ≤ k) : mjolnerlaw09_PatternExtends.j1 (k + 1 + 1) p q r true (p ++ q) false = some true := by
  rw [mjolnerlaw09_PatternExtends.j1, if_neg (by decide)]
  have hpq := check_app hp hq hl
  rcases ext_cases (p ++ q) r with ⟨_, hr, hlr⟩ | ⟨z, hz, hf⟩
  · rw [List.length_append] at hlr
    have hqr := check_app hq hr (by omega)
    rw [ext_ok hpq hr (by rw [List.length_append]; omega), Option.bind_some, ext_ok hq hr (by omega), Option.bind_some, if_pos rfl]
    show mjolnerlaw09_PatternExtends.j2 (k + 1) p true (p ++ q ++ r) 0 (q ++ r) false = some true
    rw [mjolnerlaw09_PatternExtends.j2, if_neg (by decide), ext_ok hp hqr (by rw [List.length_append]; omega), Option.bind_some, if_pos rfl, if_pos rfl]
    show (mjolnerref09_Same.f k (p ++ q ++ r) (p ++ (q ++ r))).bind _ = some true
    rw [same_f _ _ (by simp only [List.length_append]; omega) _ (by simp only [List.length_append]; omega), Option.bind_some, decide_eq_true (List.append_assoc p q r)]
  · rw [hf, Option.bind_some]
    have hj : ∀ (b : List S31) (c : Bool), c = true → mjolnerlaw09_PatternExtends.j2 (k + 1) p true [] z b c = some true := fun b c hc => by
      rw [mjolnerlaw09_PatternExtends.j2, if_pos hc, if_pos rfl, bne_iff_ne.2 hz]
    rcases ext_cases q r with ⟨h1, h2, h3⟩ | ⟨z2, hz2, hf2⟩
    · rw [ext_ok h1 h2 h3, Option.bind_some, if_neg hz]
      exact hj _ _ rfl
    · rw [hf2, Option.bind_some, if_neg hz]
      exact hj _ _ rfl
theorem extends_any (p q r : List S31) (k : Nat) (hk : 50 ≤ k) : mjolnerlaw09_PatternExtends.f k p q r = some true := by
  obtain ⟨k, rfl⟩ : ∃ m, k = m + 1 + 1 + 1 := ⟨k - 3, by omega⟩
  unfold mjolnerlaw09_PatternExtends.f
  rw [awake_tr, Option.bind_some]
  rcases ext_cases p q with ⟨hp, hq, hl⟩ | ⟨z, hz, hf⟩
  · have hpq := check_app hp hq hl
    have hc : conformsB (p ++ q) p = true := (conf_iff _ _).2 (List.prefix_append p q)
    have hlen : (p ++ q).length = p.length + q.length := List.length_append
    have hw : (((p ++ q).length : Int) != wrap64 ((p.length : Int) + (q.length : Int))) = false := by
      rw [IntWalk.wrap64_in _ (by omega), hlen]
      simp
    have h0 : (0 : Int) ≤ (p.length : Int) := by omega
    have h1 : (p.length : Int) ≤ ((p ++ q).length : Int) := by omega
    have hd : (p ++ q).drop ((p.length : Int)).toNat = q := by rw [Int.toNat_natCast, List.drop_left]
    rw [ext_ok hp hq hl, Option.bind_some, if_pos rfl, law_conf (p ++ q) p hpq hp, Option.bind_some, if_pos rfl]
    show (if conformsB (p ++ q) p = true then mjolnerlaw09_PatternExtends.j0 (k + 1 + 1 + 1) p q r true (p ++ q) (((p ++ q).length : Int) != wrap64 ((p.length : Int) + (q.length : Int))) else _) = some true
    rw [if_pos hc, hw, mjolnerlaw09_PatternExtends.j0, if_neg (by decide), if_pos h0, if_pos h1, hd, ext_ok hp hq hl, Option.bind_some, if_pos rfl, same_f (p ++ q) (p ++ q) (by omega) _ (by omega), Option.bind_some, if_pos (decide_eq_true rfl), same_f q q (by omega) _ (by omega), Option.bind_some, decide_eq_true rfl]
    exact ext_j2 p q r hp hq hl k (by omega)
  · rw [hf, Option.bind_some, if_neg hz, if_pos rfl]
    rfl
theorem PatternExtends_law (p q r : List S31) (_ : p.all inI3 = true) (_ : q.all inI3 = true) (_ : r.all inI3 = true) : ∃ k, mjolnerlaw09_PatternExtends.f k p q r = some true := ⟨_, extends_any p q r 50 (Nat.le_refl _)⟩
end Go.Proofs.YtgkebfeggekkgaaDoor.Given
