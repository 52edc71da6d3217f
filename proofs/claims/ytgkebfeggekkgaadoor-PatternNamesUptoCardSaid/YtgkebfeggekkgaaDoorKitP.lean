/- What the rows of the Pattern laws need whose input holds patterns: how such a list among the arguments is read, and that it reads the same behind the call. -/
import Derived.Test.YtgkebfeggekkgaaDoorKit
import Derived.Test.YtgkebfeggekkgaaDoorHm
import Derived.Carry
import Derived.Deep.Strs
set_option linter.unusedVariables false
set_option linter.unusedSimpArgs false
namespace Go.Proofs.YtgkebfeggekkgaaDoor.Given
open Go.ChangeShapes Go.WideShapes Go.ChangeAt Go.RowKit Go.Deep Go.Proofs.YtgkebfeggekkgaaDoor.PT Go.Proofs.YtgkebfeggekkgaaDoorW.PrintWords

instance : Inhabited S31 := ⟨⟨0, 0, 0⟩⟩
theorem laidOut : laidOutB Tryd.prog = true := by kernel_rfl
theorem cells31 : Tryd.prog.cellsOf 31 = 3 := by kernel_rfl
theorem cells3 : Tryd.prog.cellsOf 3 = 1 := by kernel_rfl
theorem inI_wf {n : Int} (h : (Lit.int .i64 n).wf = true) : inI n = true := by
  simpa [Lit.wf, IntKind.min, IntKind.max, IntKind.signed, IntKind.bits, inI] using h
theorem list3 {α : Type} : ∀ {l : List α}, l.length = 3 → ∃ a b c, l = [a, b, c]
  | [a, b, c], _ => ⟨a, b, c, rfl⟩
theorem open_part {H : Type} {enc : TypeId × Value → H} {w : World} {base : Nat} {sp : Nat → Bool} {hd : Bool} {n : Nat} {cs : List Value} {x : DataW H × List MemPlace} (h : DataW.trod enc Tryd.prog w base sp hd n 31 cs = some x) :
    ∃ p : S31, cs = [.int .i64 p.f0, .int .i64 p.f1, .int .i64 p.f2] ∧ inI3 p = true := by
  obtain ⟨y0, y1, y2, n, rfl, hl, h0, h1, h2⟩ := trod_struct3 Tryd.underlying31 h
  rw [cells31] at hl
  obtain ⟨a, b, c, rfl⟩ := list3 hl
  obtain ⟨m0, e0, _, k0⟩ := DataW.trod_int Tryd.underlying3 h0
  obtain ⟨m1, e1, _, k1⟩ := DataW.trod_int Tryd.underlying3 h1
  obtain ⟨m2, e2, _, k2⟩ := DataW.trod_int Tryd.underlying3 h2
  simp only [cells3] at e0 e1 e2
  have a0 : a = .int .i64 m0 := by simpa using e0
  have a1 : b = .int .i64 m1 := by simpa using e1
  have a2 : c = .int .i64 m2 := by simpa using e2
  exact ⟨⟨m0, m1, m2⟩, by rw [a0, a1, a2], by show (inI m0 && (inI m1 && inI m2)) = true; rw [inI_wf k0, inI_wf k1, inI_wf k2]; rfl⟩
set_option maxRecDepth 100000 in
theorem open_pats {H : Type} {enc : TypeId × Value → H} {w : World} {r : Reach} {b0 : Nat} {v : Value} {d : DataW H} {ps : List MemPlace} (hv : Value.okWide Tryd.prog w r b0 24 v) (h : DataW.Trod enc Tryd.prog w 0 (fun _ => true) true 24 v d ps) :
    ∃ (A : Option Addr) (c : Nat) (l : List S31), v = .slice A l.length c ∧ l.length ≤ c ∧ Kd.C k31 w A l.length l ∧ l.all inI3 = true ∧ (∀ x ∈ ps, x.block < w.heap.size) := by
  obtain ⟨a, len, cap, rfl⟩ := okWide_slice Tryd.underlying24 hv
  have hlt : ∀ x ∈ ps, x.block < w.heap.size := by
    obtain ⟨m, hm⟩ := h
    exact DataW.trod_lt m _ _ _ hm
  obtain ⟨fuel, hf⟩ := h
  rcases open_slice Tryd.underlying24 hf with ⟨hcs, hx⟩ | ⟨x, len', cap', m, n, D, Pl, hcs, _, hl, hm, hmm, hx, hcell⟩
  · simp [Value.cells] at hcs
    obtain ⟨rfl, rfl, rfl⟩ := hcs
    exact ⟨none, 0, [], rfl, Nat.le_refl _, Kd.C_nil _ _, rfl, hlt⟩
  · simp [Value.cells] at hcs
    obtain ⟨rfl, rfl, rfl⟩ := hcs
    have hlm : len ≤ m := by rw [hmm]; split <;> omega
    have each : ∀ i, i < m → ∃ p : S31, w.cells? 0 (x.add (i * 3)) 3 = some [.int .i64 p.f0, .int .i64 p.f1, .int .i64 p.f2] ∧ inI3 p = true := fun i hi => by
      obtain ⟨cs', h1, h2⟩ := hcell i hi
      rw [cells31] at h1
      obtain ⟨p, rfl, hp⟩ := open_part h2
      exact ⟨p, h1, hp⟩
    obtain ⟨Sx, hS⟩ := choose_lt each
    have hn : ((List.range len).map Sx).length = len := by simp
    unfold maxLen at hm
    refine ⟨some x, cap, (List.range len).map Sx, by rw [hn], by rw [hn]; exact hl, ?_, ?_, hlt⟩
    · refine ⟨rfl, by rw [hn]; omega, fun h0 => ⟨x, rfl, fun j y hj => ?_⟩⟩
      have hjl : j < len := by
        have := (List.getElem?_eq_some_iff.1 hj).1
        omega
      have hy : Sx j = y := by simpa [hjl] using hj
      subst hy
      refine ⟨[.int .i64 (Sx j).f0, .int .i64 (Sx j).f1, .int .i64 (Sx j).f2], rfl, k31_mk w (Sx j), fun i u hu => ?_⟩
      have hc := (World.cells?_some (hS j (by omega)).1).2.2
      have hi3 : i < 3 := by
        have := (List.getElem?_eq_some_iff.1 hu).1
        simpa using this
      have h4 := hc i hi3
      rw [Go.Addr.add_add] at h4
      exact h4.trans hu
    · rw [List.all_eq_true]
      intro p hp
      simp only [List.mem_map, List.mem_range] at hp
      obtain ⟨i, hi, rfl⟩ := hp
      exact (hS i (by omega)).2
theorem shut_pats {H : Type} {enc : TypeId × Value → H} {w w' : World} {v : Value} {d : DataW H} {ps : List MemPlace} (h : DataW.Trod enc Tryd.prog w 0 (fun _ => true) true 24 v d ps) (hb : Below w.heap.size w w') (hlt : ∀ x ∈ ps, x.block < w.heap.size)
    {sp : Nat → Bool} (hsp : ∀ x ∈ ps, sp x.block = true) : DataW.Trod enc Tryd.prog w' 0 sp true 24 v d ps :=
  WideElems.Trod_stays laidOut (by kernel_rfl) (of_decide_eq_true (by kernel_rfl)) h (fun x hx => hb.same (hlt x hx)) hsp
end Go.Proofs.YtgkebfeggekkgaaDoor.Given
