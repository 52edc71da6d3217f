/- What is asked of the world by the functions of package pattern: the library's table of powers of ten holds its numbers, and a variable of the library's is an integer. -/
import Derived.Test.YtgkebfeggekkgaaDoorShelf
import Derived.Lib.AppendIntMem
import Derived.Below
set_option linter.unusedVariables false
set_option linter.unusedSimpArgs false
namespace Go.Proofs.YtgkebfeggekkgaaDoor.Given
open Go.RowKit

/-- WHAT IS ASKED OF THE WORLD. -/
def LaidG (w : World) : Prop := Lib.TabIs Tryd.prog w "internal/strconv.uint64pow10" .u64 Lib.pow10Tab ∧ ∃ m : Int, w.cell? ⟨0, 0, none⟩ = some (.int .i64 m)
theorem LaidG.keep {w : World} (h : LaidG w) : ∀ W, Below w.heap.size w W → LaidG W := by
  intro W hb
  obtain ⟨h1, m, h2⟩ := h
  exact ⟨Lib.tabBelow_of_tabIs h1 W hb, m, (hb.cell (World.block_lt_of_cell? w _ h2)).trans h2⟩
end Go.Proofs.YtgkebfeggekkgaaDoor.Given
