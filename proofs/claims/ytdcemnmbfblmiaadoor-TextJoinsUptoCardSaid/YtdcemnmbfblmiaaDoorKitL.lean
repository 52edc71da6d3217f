/- What the rows of the Text laws need whose input holds a list of texts: how such a list among the arguments is read, and that it reads the same behind the call. -/
import Derived.Test.YtdcemnmbfblmiaaDoorKit
import Derived.Test.YtdcemnmbfblmiaaDoorWWords
import Derived.Carry
import Derived.Deep.Strs
set_option linter.unusedVariables false
set_option linter.unusedSimpArgs false
namespace Go.Proofs.YtdcemnmbfblmiaaDoor.Given
open Go.ChangeShapes Go.WideShapes Go.ChangeAt Go.RowKit Go.Deep Go.Proofs.YtdcemnmbfblmiaaDoorW.PrintWords

theorem laidOut : laidOutB Tryd.prog = true := by kernel_rfl
theorem cells9 : Tryd.prog.cellsOf 9 = 1 := by kernel_rfl
theorem bulk_map {H : Type} : ∀ (l : List ByteArray), l.length ≤ Rows.uptoBulkAll (H := H) (l.map fun s => .lit (.string s.data.toList)) ∧ ∀ x ∈ l, x.size ≤ Rows.uptoBulkAll (H := H) (l.map fun s => .lit (.string s.data.toList))
  | [] => ⟨Nat.zero_le _, fun x h => by cases h⟩
  | s :: l => by
    obtain ⟨h1, h2⟩ := bulk_map (H := H) l
    have h3 : Rows.uptoBulk (DataW.lit (H := H) (.string s.data.toList)) = s.data.toList.length + 1 := by simp [Rows.uptoBulk]
    have h4 : s.data.toList.length = s.size := by simp
    simp only [List.map_cons, Rows.uptoBulkAll, List.length_cons]
    refine ⟨by omega, fun x hx => ?_⟩
    rcases List.mem_cons.1 hx with rfl | hx
    · omega
    · have := h2 x hx
      omega
theorem open_list {H : Type} {enc : TypeId × Value → H} {w : World} {r : Reach} {b0 : Nat} {v : Value} {d : DataW H} {ps : List MemPlace} (hv : Value.okWide Tryd.prog w r b0 33 v) (h : DataW.Trod enc Tryd.prog w 0 (fun _ => true) true 33 v d ps) :
    ∃ (A : Option Addr) (c : Nat) (l : List ByteArray), v = .slice A l.length c ∧ l.length ≤ c ∧ Kd.C Kd.string w A l.length l ∧ l.length ≤ Rows.uptoBulk d ∧ (∀ x ∈ l, x.size ≤ Rows.uptoBulk d) ∧ (∀ x ∈ ps, x.block < w.heap.size) := by
  obtain ⟨a, len, cap, rfl⟩ := okWide_slice Tryd.underlying33 hv
  have hlt : ∀ x ∈ ps, x.block < w.heap.size := by
    obtain ⟨m, hm⟩ := h
    exact DataW.trod_lt m _ _ _ hm
  obtain ⟨fuel, hf⟩ := h
  rcases open_strs Tryd.underlying33 Tryd.underlying9 cells9 hf with ⟨hcs, hx⟩ | ⟨x, len', cap', m, Sx, hcs, _, hl, hm, hmm, hx, hcell⟩
  · simp [Value.cells] at hcs
    obtain ⟨rfl, rfl, rfl⟩ := hcs
    exact ⟨none, 0, [], rfl, Nat.le_refl _, Kd.C_nil _ _, Nat.zero_le _, (fun x h => by cases h), hlt⟩
  · simp [Value.cells] at hcs
    obtain ⟨rfl, rfl, rfl⟩ := hcs
    have hlm : len ≤ m := by rw [hmm]; split <;> omega
    have hd : d = .slice (((List.range len).map Sx).map fun s => .lit (.string s.data.toList)) ((List.range (m - len)).map fun j => .lit (.string (Sx (len + j)).data.toList)) := by
      have := (Prod.mk.inj hx).1
      rw [this, List.map_map]
      rfl
    obtain ⟨b1, b2⟩ := bulk_map (H := H) ((List.range len).map Sx)
    have hn : ((List.range len).map Sx).length = len := by simp
    have hb : Rows.uptoBulkAll (H := H) (((List.range len).map Sx).map fun s => .lit (.string s.data.toList)) ≤ Rows.uptoBulk d := by
      rw [hd, Rows.uptoBulk]
      omega
    unfold maxLen at hm
    refine ⟨some x, cap, (List.range len).map Sx, by rw [hn], by rw [hn]; exact hl, ?_, Nat.le_trans b1 hb, fun y hy => Nat.le_trans (b2 y hy) hb, hlt⟩
    refine Kd.C_of_reads (enc := Value.string) (d := ByteArray.empty) ⟨rfl, by rw [hn]; omega, fun h0 => ⟨x, rfl, fun j hj => ?_⟩⟩
    rw [hn] at hj
    rw [(hcell j (by omega)).1]
    simp [List.getD_eq_getElem?_getD, hj]
theorem shut_list {H : Type} {enc : TypeId × Value → H} {w w' : World} {v : Value} {d : DataW H} {ps : List MemPlace} (h : DataW.Trod enc Tryd.prog w 0 (fun _ => true) true 33 v d ps) (hb : Below w.heap.size w w') (hlt : ∀ x ∈ ps, x.block < w.heap.size)
    {sp : Nat → Bool} (hsp : ∀ x ∈ ps, sp x.block = true) : DataW.Trod enc Tryd.prog w' 0 sp true 33 v d ps :=
  WideElems.Trod_stays laidOut (by kernel_rfl) (of_decide_eq_true (by kernel_rfl)) h (fun x hx => hb.same (hlt x hx)) hsp
/-- a list among what is read is short -/
theorem bulk_small {H : Type} {l : List (DataW H)} {d : DataW H} (hk : Rows.uptoSmall H l = true) (h : d ∈ l) : Rows.uptoBulk d ≤ 1048576 := by
  have h1 := bulk_part h
  have h2 : Rows.uptoBulkAll l ≤ 1048576 := by simpa [Rows.uptoSmall] using hk
  omega
end Go.Proofs.YtdcemnmbfblmiaaDoor.Given
