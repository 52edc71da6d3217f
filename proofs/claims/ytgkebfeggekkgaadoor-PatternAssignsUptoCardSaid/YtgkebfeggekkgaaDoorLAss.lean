/- THE PLAIN LAW of PatternAssigns. -/
import Derived.Test.YtgkebfeggekkgaaDoorPTx20
import Derived.Test.YtgkebfeggekkgaaDoorLPre
set_option linter.unusedVariables false
set_option linter.unusedSimpArgs false
namespace Go.Proofs.YtgkebfeggekkgaaDoor.Given
open Go.RowKit Go.Proofs.YtgkebfeggekkgaaDoor.PT Go.Proofs.YtgkebfeggekkgaaDoorW.PrintWords

theorem assigns_any (s t o : List S31) (k : Nat) (hk : o.length + 3 ≤ k) : mjolnerlaw09_PatternAssigns.f k s t o = some true := by
  obtain ⟨k, rfl⟩ : ∃ m, k = m + 2 := ⟨k - 2, by omega⟩
  have hj : ∀ n, mjolnerlaw09_PatternAssigns.j0 (k + 2) s t o true n true = some true := fun n => by rw [mjolnerlaw09_PatternAssigns.j0, if_pos rfl]
  unfold mjolnerlaw09_PatternAssigns.f pattern_Needs.f
  rw [awake_tr, Option.bind_some]
  by_cases hv : validL [s, t] = 0
  · obtain ⟨hs, ht⟩ := validL_two_ok hv
    rw [if_pos hv, Option.bind_some, if_pos rfl, check_f o _ (by omega), Option.bind_some]
    by_cases ho : checkL o = 0
    · show mjolnerlaw09_PatternAssigns.j0 (k + 2) s t o true (needsZ s t) (checkL o != 0) = some true
      rw [ho]
      show mjolnerlaw09_PatternAssigns.j0 (k + 1 + 1) s t o true (needsZ s t) false = some true
      rw [mjolnerlaw09_PatternAssigns.j0, if_neg (by decide), law_conf o s ho hs, Option.bind_some, law_conf o t ho ht, Option.bind_some, law_conf s t hs ht, Option.bind_some, law_conf t s ht hs, Option.bind_some, if_pos rfl, if_pos rfl, if_pos rfl]
      show mjolnerlaw09_PatternAssigns.j1 (k + 1) true (needsZ s t) (conformsB o s) (conformsB o t) (conformsB s t) (conformsB t s) false = some true
      have h1 := @conf_trans o s t
      have h2 := @conf_trans o t s
      have h3 := @conf_chain o s t
      rw [mjolnerlaw09_PatternAssigns.j1, if_neg (by decide)]
      unfold needsZ
      generalize conformsB o s = a at *
      generalize conformsB o t = b at *
      generalize conformsB s t = c at *
      generalize conformsB t s = d at *
      cases a <;> cases b <;> cases c <;> cases d <;> simp_all
    · show mjolnerlaw09_PatternAssigns.j0 (k + 2) s t o true (needsZ s t) (checkL o != 0) = some true
      rw [bne_iff_ne.2 ho]
      exact hj _
  · rw [if_neg hv, Option.bind_some, if_neg hv]
    exact hj _
theorem PatternAssigns_law (s t o : List S31) (_ : s.all inI3 = true) (_ : t.all inI3 = true) (_ : o.all inI3 = true) : ∃ k, mjolnerlaw09_PatternAssigns.f k s t o = some true := ⟨_, assigns_any s t o _ (Nat.le_refl _)⟩
end Go.Proofs.YtgkebfeggekkgaaDoor.Given
