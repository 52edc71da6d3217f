/- sane is true. -/
import Derived.Test.YtniihjhlkpjnoaaDoorPVx8
set_option linter.unusedVariables false
set_option linter.unusedSimpArgs false
namespace Go.Proofs.YtniihjhlkpjnoaaDoor.Given
open Go.RowKit Go.Proofs.YtniihjhlkpjnoaaDoorW.PrintWords Go.Proofs.YtniihjhlkpjnoaaDoorW.PrintLast Go.Proofs.YtniihjhlkpjnoaaDoorW.PrintMore
set_option maxRecDepth 100000 in
theorem sane_24 : PV.mjolnerlaw04_sane.f 24 = some true := by kernel_rfl
theorem sane_true : ∀ j, PV.mjolnerlaw04_sane.f (24 + j) = some true
 | 0 => sane_24
 | j + 1 => PV.mjolnerlaw04_sane.mono (24 + j) _ (sane_true j)
theorem sane_any (k : Nat) (h : 24 ≤ k) : PV.mjolnerlaw04_sane.f k = some true := by
 obtain ⟨j, rfl⟩ : ∃ j, k = 24 + j := ⟨k - 24, by omega⟩
 exact sane_true j
end Go.Proofs.YtniihjhlkpjnoaaDoor.Given