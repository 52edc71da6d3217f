/- Plain: two equal lists of tokens are exactly equal. -/
import Derived.Test.YtniihjhlkpjnoaaDoorPVx9
set_option linter.unusedVariables false
set_option linter.unusedSimpArgs false
namespace Go.Proofs.YtniihjhlkpjnoaaDoor.Given
open Go.RowKit Go.Proofs.YtniihjhlkpjnoaaDoorW.PrintWords Go.Proofs.YtniihjhlkpjnoaaDoorW.PrintLast Go.Proofs.YtniihjhlkpjnoaaDoorW.PrintMore
theorem w64e {a : Int} (h1 : -1000000000 ≤ a) (h2 : a ≤ 1000000000) : wrap64 a = a := IntWalk.wrap64_in _ (by omega)
theorem exact_loop' (l : List PV.S42) (hl : l.length ≤ 10000000) : ∀ (rem K i : Nat), l.length - i ≤ rem → rem + 1 ≤ K → PV.mjolnerref04_Exact.l0 K l l (i : Int) = some true := by
 intro rem
 induction rem with
 | zero =>
  intro K i h1 h2
  obtain ⟨K, rfl⟩ : ∃ K', K = K' + 1 := ⟨K - 1, by omega⟩
  rw [PV.mjolnerref04_Exact.l0, if_neg (by omega)]
 | succ rem ih =>
  intro K i h1 h2
  obtain ⟨K, rfl⟩ : ∃ K', K = K' + 1 := ⟨K - 1, by omega⟩
  rw [PV.mjolnerref04_Exact.l0]
  by_cases hi : (i : Int) < (l.length : Int)
  ·rw [if_pos hi, if_pos (by omega), if_pos hi, if_neg (by simp), w64e (by omega) (by omega)]
   exact ih K (i + 1) (by omega) (by omega)
  ·rw [if_neg hi]
theorem exact_same' (l : List PV.S42) (hl : l.length ≤ 10000000) (K : Nat) (hK : l.length + 1 ≤ K) : PV.mjolnerref04_Exact.f K l l = some true := by
 unfold PV.mjolnerref04_Exact.f
 rw [if_pos rfl]
 exact exact_loop' l hl l.length K 0 (by omega) hK
end Go.Proofs.YtniihjhlkpjnoaaDoor.Given