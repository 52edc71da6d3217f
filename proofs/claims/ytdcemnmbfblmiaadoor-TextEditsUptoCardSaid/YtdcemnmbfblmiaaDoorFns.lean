/- The answers of the functions of package text, and of Go's library, that are proved by hand: what each of them returns, as plain Lean functions over byte arrays; and what is asked of the world: that the table of digits holds its sixteen digits, and that a variable of the library's is an integer. -/
import Derived.Lib.Index
import Derived.Lib.Bytealg
import Derived.Lib.Join
import Derived.Below
set_option linter.unusedVariables false
set_option linter.unusedSimpArgs false
namespace Go.Proofs.YtdcemnmbfblmiaaDoor.Given
open Go.RowKit

def text_valid.f (l : List ByteArray) : Option Bool := some (l.all fun s => decide (s.size ≤ 4000))
def strings_Compare.f (a b : ByteArray) : Option Int := some (Lib.compareBytes a.data.toList b.data.toList)
def strings_Index.f (s sub : ByteArray) : Option Int := if s.size < 4294967281 then some (Lib.index s.data.toList sub.data.toList) else none
def strings_IndexByte.f (s : ByteArray) (c : Int) : Option Int := some (Lib.indexByte s.data.toList c.toNat.toUInt8)
def strings_Count.f (s sub : ByteArray) : Option Int := if sub.size = 1 then some (Lib.countByte s.data.toList (sub.data.toList.getD 0 0)) else none
def ba (l : List UInt8) : ByteArray := ⟨l.toArray⟩
def joinL (l : List ByteArray) (sep : ByteArray) : List UInt8 := Lib.join (l.map fun s => s.data.toList) sep.data.toList
def strings_Join.f (l : List ByteArray) (sep : ByteArray) : Option ByteArray := if (joinL l sep).length ≤ 70368744177664 ∧ l.length ≤ 70368744177664 then some (ba (joinL l sep)) else none
/-- the parts of a text between the occurrences of one that is not empty -/
def splitL (sep : List UInt8) : Nat → List UInt8 → List (List UInt8)
  | 0, s => [s]
  | k + 1, s => if Lib.index s sep < 0 then [s] else s.take (Lib.index s sep).toNat :: splitL sep k (s.drop ((Lib.index s sep).toNat + sep.length))
def text_split.f (s sep : ByteArray) : Option (List ByteArray) := if sep.size = 0 ∨ 1000000000 < s.size ∨ 1000000000 < sep.size then none else some ((splitL sep.data.toList s.size s.data.toList).map ba)
def text_Join.f (l : List ByteArray) (sep : ByteArray) : Option (ByteArray × Int) :=
  if (l.all fun s => decide (s.size ≤ 4000)) = true ∧ sep.size ≤ 4000 then (if (joinL l sep).length ≤ 4000 then some (ba (joinL l sep), 0) else some (⟨#[]⟩, 3)) else some (⟨#[]⟩, 1)
def plainB (b : UInt8) : Bool := decide (33 ≤ b.toNat) && decide (b.toNat ≤ 126) && decide (b.toNat ≠ 37)
def digs : List UInt8 := [48, 49, 50, 51, 52, 53, 54, 55, 56, 57, 65, 66, 67, 68, 69, 70]
def showB (b : UInt8) : List UInt8 := if plainB b then [b] else [37, digs.getD (b.toNat / 16) 0, digs.getD (b.toNat % 16) 0]
def showL (s : List UInt8) : List UInt8 := s.flatMap showB
def text_Show.f (s : ByteArray) : Option ByteArray := if s.size ≤ 1000000000 then some (ba (showL s.data.toList)) else none
/-- a digit's value; 16 if it is none -/
def digB (b : UInt8) : Nat := digs.idxOf b
def readL : List UInt8 → Option (List UInt8)
  | [] => some []
  | b :: r =>
    if plainB b then (readL r).map (b :: ·)
    else if b = 37 then
      match r with
      | c :: d :: r' => if digB c < 16 ∧ digB d < 16 ∧ plainB (UInt8.ofNat (16 * digB c + digB d)) = false then (readL r').map (UInt8.ofNat (16 * digB c + digB d) :: ·) else none
      | _ => none
    else none
def text_Read.f (t : ByteArray) : Option (ByteArray × Int) := if t.size ≤ 1000000000 then (match readL t.data.toList with | some l => some (ba l, 0) | none => some (⟨#[]⟩, 7)) else none
def properE (at' drop : Int) : Bool := decide (0 ≤ at') && decide (at' ≤ 1048576) && decide (0 ≤ drop) && decide (drop ≤ 1048576)
def text_Apply.f (s : ByteArray) (a d : Int) (p : ByteArray) : Option (ByteArray × Int) :=
  if properE a d = false then some (⟨#[]⟩, 1) else if (s.size : Int) < a + d then some (⟨#[]⟩, 3)
  else if s.size ≤ 1000000000000 ∧ p.size ≤ 1000000000000 then some (s.extract 0 a.toNat ++ p ++ s.extract (a + d).toNat s.size, 0) else none
def text_Invert.f (s : ByteArray) (a d : Int) (p : ByteArray) : Option (Int × Int × ByteArray × Int) :=
  if properE a d = false then some (0, 0, ⟨#[]⟩, 1) else if (s.size : Int) < a + d then some (0, 0, ⟨#[]⟩, 3)
  else if 1048576 < p.size then some (0, 0, ⟨#[]⟩, 1) else some (a, p.size, s.extract a.toNat (a + d).toNat, 0)
def text_Merge.f (a d : Int) (p : ByteArray) (a' d' : Int) (p' : ByteArray) : Option (Int × Int × ByteArray × Int) :=
  if properE a d = false ∨ properE a' d' = false then some (0, 0, ⟨#[]⟩, 1)
  else if p.size ≤ 1000000000000 ∧ p'.size ≤ 1000000000000 then
    if a' ≤ a + p.size ∧ a ≤ a' + d' then
      (if d + max 0 (a - a') + max 0 (a' + d' - (a + p.size)) ≤ 1048576 then some (min a a', d + max 0 (a - a') + max 0 (a' + d' - (a + p.size)), p.extract 0 (max 0 (a' - a)).toNat ++ p' ++ p.extract (min (p.size : Int) (a' + d' - a)).toNat p.size, 0)
       else some (0, 0, ⟨#[]⟩, 1))
    else some (0, 0, ⟨#[]⟩, 5)
  else none

def mjolnerref03_Show.f (s : ByteArray) : Option ByteArray := text_Show.f s
def mjolnerlaw03_sane.f : Option Bool := some true

/-- WHAT IS ASKED OF THE WORLD. -/
def LaidG (w : World) : Prop :=
  (∀ i : Nat, i < 16 → w.cell? ⟨0, i, none⟩ = some (.int .u8 (digs.getD i 0).toNat)) ∧ ∃ m : Int, w.cell? ⟨1, 0, none⟩ = some (.int .i64 m)
theorem LaidG.keep {w : World} (h : LaidG w) : ∀ W, Below w.heap.size w W → LaidG W := by
  intro W hb
  obtain ⟨h1, m, h2⟩ := h
  exact ⟨fun i hi => (hb.cell (World.block_lt_of_cell? w _ (h1 i hi))).trans (h1 i hi), m, (hb.cell (World.block_lt_of_cell? w _ h2)).trans h2⟩
end Go.Proofs.YtdcemnmbfblmiaaDoor.Given
