/- THE PLAIN LAW of PatternInner: what the printed function computes is true. -/
import Derived.Test.YtgkebfeggekkgaaDoorPTx16
import Derived.Test.YtgkebfeggekkgaaDoorLWk
set_option linter.unusedVariables false
set_option linter.unusedSimpArgs false
namespace Go.Proofs.YtgkebfeggekkgaaDoor.Given
open Go.RowKit Go.Proofs.YtgkebfeggekkgaaDoor.PT Go.Proofs.YtgkebfeggekkgaaDoorW.PrintWords

theorem awake_true : mjolnerlaw09_awake.f = some true := by kernel_rfl
theorem rd_some {xs : List Int} {i : Nat} {v x : Int} (hx : x = (i : Int)) (h : xs[i]? = some v) : rd xs x = v := by
  subst hx
  simp [rd, h]
theorem inner_l1 (a : Int) (ha : 0 ≤ a) (ha2 : a ≤ 1099511627776) (N : Nat) (hN : N ≤ 40) : ∀ n i k, i + n = N → n + 1 ≤ k → mjolnerlaw09_PatternInner.l1 k (N : Int) a true (outL a 0 N) (i : Int) = some true := by
  intro n
  induction n with
  | zero =>
    intro i k hi hk
    obtain ⟨k, rfl⟩ : ∃ m, k = m + 1 := ⟨k - 1, by omega⟩
    rw [mjolnerlaw09_PatternInner.l1, if_neg (by omega)]
  | succ n ih =>
    intro i k hi hk
    obtain ⟨k, rfl⟩ : ∃ m, k = m + 1 := ⟨k - 1, by omega⟩
    have hl : (outL a 0 N).length = 2 * N := outL_len a N 0
    have b1 : (i : Int) < (N : Int) := by omega
    have b2 : (0 : Int) ≤ (i : Int) := by omega
    have b3 : (i : Int) < ((outL a 0 N).length : Int) := by rw [hl]; omega
    have b4 : (0 : Int) ≤ ((2 * N - 1 - i : Nat) : Int) := by omega
    have b5 : ((2 * N - 1 - i : Nat) : Int) < ((outL a 0 N).length : Int) := by rw [hl]; omega
    have b6 : i + 1 + n = N := by omega
    have b7 : n + 1 ≤ k := by omega
    have r1 : rd (outL a 0 N) (i : Int) = a + i := rd_some rfl (by rw [outL_first a N 0 i (by omega)]; simp)
    have r2 : rd (outL a 0 N) ((2 * N - 1 - i : Nat) : Int) = a + 100 + i := rd_some rfl (by rw [outL_last a N 0 i (by omega)]; simp)
    have e1 : wrap64 (a + (i : Int)) = a + i := IntWalk.wrap64_in _ (by omega)
    have e2 : wrap64 (2 * (N : Int)) = 2 * N := IntWalk.wrap64_in _ (by omega)
    have e3 : wrap64 (2 * (N : Int) - 1) = 2 * N - 1 := IntWalk.wrap64_in _ (by omega)
    have e4 : wrap64 (2 * (N : Int) - 1 - i) = ((2 * N - 1 - i : Nat) : Int) := (IntWalk.wrap64_in _ (by omega)).trans (by omega)
    have e5 : wrap64 (a + 100) = a + 100 := IntWalk.wrap64_in _ (by omega)
    have e6 : wrap64 (a + 100 + (i : Int)) = a + 100 + i := IntWalk.wrap64_in _ (by omega)
    have e7 : wrap64 ((i : Int) + 1) = ((i + 1 : Nat) : Int) := w64 (by omega) (by omega)
    rw [mjolnerlaw09_PatternInner.l1, if_pos b1, if_pos b2, if_pos b3, e1, if_pos r1, e2, e3, e4, if_pos b4, if_pos b5, e5, e6, if_pos r2, e7]
    exact ih (i + 1) k b6 b7
theorem inner_l0 (a : Int) (ha : 0 ≤ a) (ha2 : a ≤ 1099511627776) (N : Nat) (hN : N ≤ 40) : ∀ n i k, i + n = N → n + N + 5 ≤ k → mjolnerlaw09_PatternInner.l0 k (N : Int) a true (innP a i) (i : Int) = some true := by
  intro n
  induction n with
  | zero =>
    intro i k hi hk
    obtain rfl : i = N := by omega
    obtain ⟨k, rfl⟩ : ∃ m, k = m + 1 + 1 := ⟨k - 2, by omega⟩
    have e2 : wrap64 (2 * (i : Int)) = 2 * i := IntWalk.wrap64_in _ (by omega)
    have hl : (outL a 0 i).length = 2 * i := outL_len a i 0
    have hb : (((outL a 0 i).length : Int) != 2 * i) = false := by
      rw [hl]
      simp
    rw [mjolnerlaw09_PatternInner.l0, if_neg (by omega), innP_walk a ha i hN, Option.bind_some, if_pos rfl, e2]
    show mjolnerlaw09_PatternInner.j2 (k + 1) i a true (outL a 0 i) (((outL a 0 i).length : Int) != 2 * i) = some true
    rw [hb, mjolnerlaw09_PatternInner.j2, if_neg (by decide)]
    exact inner_l1 a ha ha2 i hN i 0 k (by omega) (by omega)
  | succ n ih =>
    intro i k hi hk
    obtain ⟨k, rfl⟩ : ∃ m, k = m + 1 := ⟨k - 1, by omega⟩
    have hl : (innP a i).length = i := by simp [innP]
    have b1 : (i : Int) < (N : Int) := by omega
    have b2 : (innP a i).length < 4398046511104 := by omega
    have b3 : i + 1 + n = N := by omega
    have b4 : n + N + 5 ≤ k := by omega
    have e1 : wrap64 (a + (i : Int)) = a + i := IntWalk.wrap64_in _ (by omega)
    have e5 : wrap64 (a + 100) = a + 100 := IntWalk.wrap64_in _ (by omega)
    have e6 : wrap64 (a + 100 + (i : Int)) = a + 100 + i := IntWalk.wrap64_in _ (by omega)
    have e7 : wrap64 ((i : Int) + 1) = ((i + 1 : Nat) : Int) := w64 (by omega) (by omega)
    rw [mjolnerlaw09_PatternInner.l0, if_pos b1, if_pos b2, e1, e5, e6, e7, ← innP_succ]
    exact ih (i + 1) k b3 b4
theorem inner_any (n base : Int) (k : Nat) (hk : 100 ≤ k) : mjolnerlaw09_PatternInner.f k n base = some true := by
  obtain ⟨k, rfl⟩ : ∃ m, k = m + 1 := ⟨k - 1, by omega⟩
  have hj : ∀ b, mjolnerlaw09_PatternInner.j0 (k + 1) n base true b = if b = true then some true else mjolnerlaw09_PatternInner.l0 k n base true [] 0 := fun b => by rw [mjolnerlaw09_PatternInner.j0]
  unfold mjolnerlaw09_PatternInner.f
  rw [awake_true, Option.bind_some, hj, hj, if_pos rfl]
  by_cases h0 : n < 0
  · rw [if_pos h0]
  · rw [if_neg h0]
    by_cases h1 : n > 40
    · rw [if_pos h1]
    · rw [if_neg h1]
      by_cases h2 : base < 0
      · rw [if_pos h2]
      · rw [if_neg h2]
        by_cases h3 : base > 1099511627776
        · rw [if_pos (decide_eq_true h3)]
        · rw [if_neg (by rw [decide_eq_false h3]; decide)]
          obtain ⟨N, rfl⟩ : ∃ N : Nat, n = N := ⟨n.toNat, by omega⟩
          exact inner_l0 base (by omega) (by omega) N (by omega) N 0 k (by omega) (by omega)
theorem PatternInner_law (n base : Int) : ∃ k, mjolnerlaw09_PatternInner.f k n base = some true := ⟨_, inner_any n base 100 (Nat.le_refl _)⟩
end Go.Proofs.YtgkebfeggekkgaaDoor.Given
