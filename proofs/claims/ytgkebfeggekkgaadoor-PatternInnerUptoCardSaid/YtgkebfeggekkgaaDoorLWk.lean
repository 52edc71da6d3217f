/- What the walk of parts is each of which does one thing, inner, and another thing. -/
import Derived.Test.YtgkebfeggekkgaaDoorHl
set_option linter.unusedVariables false
set_option linter.unusedSimpArgs false
namespace Go.Proofs.YtgkebfeggekkgaaDoor.Given
open Go.RowKit Go.Proofs.YtgkebfeggekkgaaDoor.PT Go.Proofs.YtgkebfeggekkgaaDoorW.PrintWords

/-- the parts from one number on -/
def innL (a : Int) (i : Nat) : Nat → List (List Int)
  | 0 => []
  | n + 1 => [a + i, -1, a + 100 + i] :: innL a (i + 1) n
def outL (a : Int) (i : Nat) : Nat → List Int
  | 0 => []
  | n + 1 => (a + i) :: (outL a (i + 1) n ++ [a + 100 + i])
theorem outL_len (a : Int) : ∀ n i, (outL a i n).length = 2 * n
  | 0, i => rfl
  | n + 1, i => by simp [outL, outL_len a n (i + 1)]; omega
theorem fill_three (x y : Int) (l : List Int) (hx : 0 ≤ x) (hy : 0 ≤ y) (hl : l.length ≤ 1998) : fillF [x, -1, y] l true = (x :: (l ++ [y]), true) := by
  have hx1 : ¬ x = -1 := by omega
  have hy1 : ¬ y = -1 := by omega
  have hn : innersN [x, -1, y] = 1 := by
    rw [innersN_cons, if_neg hx1, innersN_cons, if_pos rfl, innersN_cons, if_neg hy1]
    rfl
  have hb : fillBad [x, -1, y] l true = false := by
    unfold fillBad
    rw [hn]
    simp
    omega
  unfold fillF
  rw [if_neg (by rw [hb]; decide), fillL_cons, if_neg hx1, fillL_cons, if_pos rfl, fillL_cons, if_neg hy1]
  rfl
theorem walk_inn (a : Int) (ha : 0 ≤ a) : ∀ n i, n ≤ 40 → walkL (innL a i n) = (outL a i n, true)
  | 0, i, _ => rfl
  | n + 1, i, hn => by
    show fillF [a + i, -1, a + 100 + i] (walkL (innL a (i + 1) n)).1 (walkL (innL a (i + 1) n)).2 = _
    rw [walk_inn a ha n (i + 1) (by omega)]
    exact fill_three _ _ _ (by omega) (by omega) (by rw [outL_len]; omega)
/-- the same, as the law builds them -/
def innP (a : Int) (n : Nat) : List S39 := (List.range n).map fun (j : Nat) => ⟨true, [a + j, -1, a + 100 + j]⟩
theorem innP_succ (a : Int) (n : Nat) : innP a (n + 1) = innP a n ++ [⟨true, [a + n, -1, a + 100 + n]⟩] := by
  simp [innP, List.range_succ]
theorem innP_acts (a : Int) : ∀ n i, innL a i n = (List.range n).map fun (j : Nat) => [a + (i + j : Nat), -1, a + 100 + (i + j : Nat)]
  | 0, i => rfl
  | n + 1, i => by
    rw [innL, innP_acts a n (i + 1), List.range_succ_eq_map, List.map_cons, List.map_map]
    congr 1
    apply List.map_congr_left
    intro j _
    simp only [Function.comp]
    rw [show i + 1 + j = i + (j + 1) by omega]
theorem innP_walk (a : Int) (ha : 0 ≤ a) (n : Nat) (hn : n ≤ 40) : pattern_Walk.f (innP a n) = some (outL a 0 n, 0) := by
  have hacts : actsOf (innP a n) = innL a 0 n := by
    rw [innP_acts, actsOf, innP, List.map_map]
    apply List.map_congr_left
    intro j _
    simp [actL]
  have hs : actsSmall (innP a n) = true := by
    simp [actsSmall, innP]
  have hok : (innP a n).all (fun d => actOk d.f0 d.f1) = true := by
    rw [List.all_eq_true]
    intro d hd
    simp only [innP, List.mem_map] at hd
    obtain ⟨j, _, rfl⟩ := hd
    simp [actOk, negB]
    omega
  have hl : (innP a n).length = n := by simp [innP]
  unfold pattern_Walk.f walkF
  rw [if_pos hs, if_neg (by omega), if_pos hok, hacts, walk_inn a ha n 0 hn, if_pos rfl]
theorem outL_first (a : Int) : ∀ n i (j : Nat), j < n → (outL a i n)[j]? = some (a + (i + j : Nat))
  | 0, i, j, h => by omega
  | n + 1, i, 0, h => by simp [outL]
  | n + 1, i, j + 1, h => by
    rw [outL, List.getElem?_cons_succ, List.getElem?_append_left (by rw [outL_len]; omega), outL_first a n (i + 1) j (by omega)]
    rw [show i + 1 + j = i + (j + 1) by omega]
theorem outL_last (a : Int) : ∀ n i (j : Nat), j < n → (outL a i n)[2 * n - 1 - j]? = some (a + 100 + (i + j : Nat))
  | 0, i, j, h => by omega
  | n + 1, i, 0, h => by
    rw [show 2 * (n + 1) - 1 - 0 = 2 * n + 1 by omega, outL, List.getElem?_cons_succ, List.getElem?_append_right (by rw [outL_len]; omega), outL_len]
    simp
  | n + 1, i, j + 1, h => by
    rw [show 2 * (n + 1) - 1 - (j + 1) = (2 * n - 1 - j) + 1 by omega, outL, List.getElem?_cons_succ, List.getElem?_append_left (by rw [outL_len]; omega), outL_last a n (i + 1) j (by omega)]
    rw [show i + 1 + j = i + (j + 1) by omega]
end Go.Proofs.YtgkebfeggekkgaaDoor.Given
