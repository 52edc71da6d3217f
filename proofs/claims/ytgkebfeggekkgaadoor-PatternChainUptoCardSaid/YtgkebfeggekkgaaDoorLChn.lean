/- THE PLAIN LAW of PatternChain. -/
import Derived.Test.YtgkebfeggekkgaaDoorPTx18
import Derived.Test.YtgkebfeggekkgaaDoorLPre
set_option linter.unusedVariables false
set_option linter.unusedSimpArgs false
namespace Go.Proofs.YtgkebfeggekkgaaDoor.Given
open Go.RowKit Go.Proofs.YtgkebfeggekkgaaDoor.PT Go.Proofs.YtgkebfeggekkgaaDoorW.PrintWords

theorem chain_j1 (pq qr pr rq : Bool) (h1 : pq = true → qr = true → pr = true) (h2 : pq = true → pr = true → qr = true ∨ rq = true) (k : Nat) : mjolnerlaw09_PatternChain.j1 (k + 1) true pq qr pr rq false = some true := by
  rw [mjolnerlaw09_PatternChain.j1, if_neg (by decide)]
  cases pq <;> cases qr <;> cases pr <;> cases rq <;> simp_all
theorem chain_any (p q r : List S31) (k : Nat) (hk : p.length + q.length + r.length + 4 ≤ k) : mjolnerlaw09_PatternChain.f k p q r = some true := by
  obtain ⟨k, rfl⟩ : ∃ m, k = m + 2 := ⟨k - 2, by omega⟩
  have hj : mjolnerlaw09_PatternChain.j0 (k + 2) p q r true true = some true := by rw [mjolnerlaw09_PatternChain.j0, if_pos rfl]
  unfold mjolnerlaw09_PatternChain.f
  rw [awake_tr, Option.bind_some, check_f p _ (by omega), Option.bind_some]
  by_cases hp : checkL p = 0
  · rw [if_pos hp, check_f q _ (by omega), Option.bind_some]
    by_cases hq : checkL q = 0
    · rw [if_pos hq, check_f r _ (by omega), Option.bind_some]
      by_cases hr : checkL r = 0
      · rw [hr]
        show mjolnerlaw09_PatternChain.j0 (k + 1 + 1) p q r true false = some true
        have hn : checkL ([] : List S31) = 0 := by decide
        have h40 := checkL_small hp
        rw [mjolnerlaw09_PatternChain.j0, if_neg (by decide), law_conf p p hp hp, Option.bind_some, law_conf p [] hp hn, Option.bind_some, law_conf p q hp hq, Option.bind_some, law_conf q p hq hp, Option.bind_some, law_conf q r hq hr, Option.bind_some,
          law_conf p r hp hr, Option.bind_some, law_conf r q hr hq, Option.bind_some, if_pos rfl, if_pos rfl, if_pos rfl, if_pos rfl, if_pos rfl, if_pos rfl, if_pos rfl]
        show (if conformsB p p = true then _ else _) = some true
        rw [if_pos (conf_refl p)]
        show (if conformsB p [] = true then _ else _) = some true
        rw [if_pos (conf_nil p)]
        have h1 := @conf_trans p q r
        have h2 := @conf_chain p q r
        show (if conformsB p q = true then _ else _) = some true
        by_cases hpq : conformsB p q = true
        · rw [if_pos hpq, same_f p q (by omega) _ (by omega), Option.bind_some]
          show mjolnerlaw09_PatternChain.j1 (k + 1) true (conformsB p q) (conformsB q r) (conformsB p r) (conformsB r q) (conformsB q p != decide (p = q)) = some true
          have he : (conformsB q p != decide (p = q)) = false := by
            cases hqp : conformsB q p with
            | true => rw [decide_eq_true (conf_anti hpq hqp)]; rfl
            | false =>
              rw [decide_eq_false]
              · rfl
              · intro e
                subst e
                rw [conf_refl] at hqp
                cases hqp
          rw [he]
          exact chain_j1 _ _ _ _ h1 h2 k
        · rw [if_neg hpq]
          show mjolnerlaw09_PatternChain.j1 (k + 1) true (conformsB p q) (conformsB q r) (conformsB p r) (conformsB r q) false = some true
          exact chain_j1 _ _ _ _ h1 h2 k
      · rw [bne_iff_ne.2 hr]
        exact hj
    · rw [if_neg hq]
      exact hj
  · rw [if_neg hp]
    exact hj
theorem PatternChain_law (p q r : List S31) (_ : p.all inI3 = true) (_ : q.all inI3 = true) (_ : r.all inI3 = true) : ∃ k, mjolnerlaw09_PatternChain.f k p q r = some true := ⟨_, chain_any p q r _ (Nat.le_refl _)⟩
end Go.Proofs.YtgkebfeggekkgaaDoor.Given
