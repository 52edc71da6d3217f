/- A row of true and false, as a number. -/
import Derived.Below
namespace Go.Proofs.YtniihjhlkpjnoaaDoor.Given
def bm (n x : Nat) : Array Bool := ((List.range n).map fun i => Nat.testBit x i).toArray
end Go.Proofs.YtniihjhlkpjnoaaDoor.Given