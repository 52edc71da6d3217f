/- A row of true and false, as a number. -/
import Derived.Below
import Derived.Test.YtniihjhlkpjnoaaDoorProg
import Derived.Shelf.Strings.Fields
import Derived.Lib.AppendIntMem
import Derived.Shelf.Unicode.DecodeSlow
section
namespace Go.Proofs.YtniihjhlkpjnoaaDoor.Given
def bm (n x : Nat) : Array Bool := ((List.range n).map fun i => Nat.testBit x i).toArray
end Go.Proofs.YtniihjhlkpjnoaaDoor.Given
end
section
/- What is asked of the world by the functions of package lex: the library's table of blanks holds its numbers, so do the tables of utf8, and a variable of the library's is an integer. -/
set_option linter.unusedVariables false
set_option linter.unusedSimpArgs false
namespace Go.Proofs.YtniihjhlkpjnoaaDoor.Given
open Go.RowKit
def LaidG (w : World) : Prop := Lib.TabIs Tryd.prog w "strings.asciiSpace" .u8 Lib.asciiSpaceTab ∧ (∃ m : Int, w.cell? ⟨0, 0, none⟩ = some (.int .i64 m)) ∧ Lib.Utf8Tabs 1 2 w
theorem LaidG.keep {w : World} (h : LaidG w) : ∀ W, Below w.heap.size w W → LaidG W := by
 intro W hb
 obtain ⟨h1, ⟨m, h2⟩, h3⟩ := h
 exact ⟨Lib.tabBelow_of_tabIs h1 W hb, ⟨m, (hb.cell (World.block_lt_of_cell? w _ h2)).trans h2⟩, Utf8Tabs_below h3 hb⟩
end Go.Proofs.YtniihjhlkpjnoaaDoor.Given
end
