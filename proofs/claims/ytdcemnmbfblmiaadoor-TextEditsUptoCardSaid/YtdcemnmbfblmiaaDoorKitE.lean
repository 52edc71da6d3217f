/- What the rows of the Text laws need whose input holds an edit: how an edit among the arguments is read. -/
import Derived.Test.YtdcemnmbfblmiaaDoorKit
import Derived.Lib.SmallJoins
set_option linter.unusedVariables false
set_option linter.unusedSimpArgs false
namespace Go.Proofs.YtdcemnmbfblmiaaDoor.Given
open Go.ChangeShapes Go.WideShapes Go.ChangeAt Go.RowKit Go.Joins

theorem cells47 : Tryd.prog.cellsOf 47 = 3 := by kernel_rfl
theorem open_edit {H : Type} {enc : TypeId × Value → H} {w : World} {base : Nat} {spare : Nat → Bool} {held : Bool} {r : Reach} {b0 : Nat} {v : Value} {d : DataW H} {ps : List MemPlace}
    (hv : Value.okWide Tryd.prog w r b0 47 v) (h : DataW.Trod enc Tryd.prog w base spare held 47 v d ps) :
    ∃ (a dr : Int) (s : ByteArray), v = .agg #[.int .i64 a, .int .i64 dr, .string s] ∧ d = .agg [.lit (.int .i64 a), .lit (.int .i64 dr), .lit (.string s.data.toList)] ∧ ps = [] ∧
      (Lit.int .i64 a).wf = true ∧ (Lit.int .i64 dr).wf = true ∧ s.size ≤ maxLen := by
  obtain ⟨c0, c1, c2, y0, y1, y2, m, rfl, rfl, rfl, hy0, hy1, hy2⟩ := open_agg3 Tryd.underlying47 (by kernel_rfl) cells47 hv h
  obtain ⟨x, e0, rfl, wx⟩ := DataW.trod_int Tryd.underlying3 hy0
  obtain ⟨y, e1, rfl, wy⟩ := DataW.trod_int Tryd.underlying3 hy1
  obtain ⟨s, e2, rfl, ws⟩ := DataW.trod_string Tryd.underlying9 hy2
  simp at e0 e1 e2
  subst e0 e1 e2
  exact ⟨x, y, s, rfl, rfl, rfl, wx, wy, ws⟩
theorem shut_edit {H : Type} {enc : TypeId × Value → H} {w : World} {base : Nat} {spare : Nat → Bool} {held : Bool} {a dr : Int} {s : ByteArray} (wa : (Lit.int .i64 a).wf = true) (wd : (Lit.int .i64 dr).wf = true) (ws : s.size ≤ maxLen) :
    DataW.Trod enc Tryd.prog w base spare held 47 (.agg #[.int .i64 a, .int .i64 dr, .string s]) (.agg [.lit (.int .i64 a), .lit (.int .i64 dr), .lit (.string s.data.toList)]) [] := by
  simpa using shut_agg3 (enc := enc) (w := w) (base := base) (spare := spare) (held := held) (y0 := (.lit (.int .i64 a), [])) (y1 := (.lit (.int .i64 dr), [])) (y2 := (.lit (.string s.data.toList), [])) Tryd.underlying47 (by kernel_rfl) cells47
    ⟨1, by simp [DataW.trod, Tryd.underlying3, wa]⟩ ⟨1, by simp [DataW.trod, Tryd.underlying3, wd]⟩ ⟨1, by simp [DataW.trod, Tryd.underlying9, ws]⟩
/-- an edit's text among what is read is short -/
theorem bulk_edit {H : Type} {l : List (DataW H)} {a dr : Int} {s : ByteArray} (hk : Rows.uptoSmall H l = true) (h : (DataW.agg [.lit (.int .i64 a), .lit (.int .i64 dr), .lit (.string s.data.toList)]) ∈ l) : s.size ≤ 1048576 := by
  have h1 := bulk_part h
  have h2 : Rows.uptoBulkAll l ≤ 1048576 := by simpa [Rows.uptoSmall] using hk
  have h4 : s.data.toList.length = s.size := by simp
  simp only [Rows.uptoBulk, Rows.uptoBulkAll] at h1
  omega
end Go.Proofs.YtdcemnmbfblmiaaDoor.Given
