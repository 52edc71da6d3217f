/- What the rows of the Pattern laws need whose input holds lists of names: how they are read among the arguments, and that they read the same behind the call. -/
import Derived.Test.YtgkebfeggekkgaaDoorJ7
set_option linter.unusedVariables false
set_option linter.unusedSimpArgs false
namespace Go.Proofs.YtgkebfeggekkgaaDoor.Given
open Go.ChangeShapes Go.WideShapes Go.ChangeAt Go.RowKit Go.Deep Go.Proofs.YtgkebfeggekkgaaDoor.PT Go.Proofs.YtgkebfeggekkgaaDoorW.PrintWords Go.Proofs.YtgkebfeggekkgaaDoorW.PrintLast Go.Proofs.YtgkebfeggekkgaaDoorW.PrintMore

theorem heapN : Kd.Heap (Kd.slice 9 Kd.string) := Kd.heap_slice 9 Kd.heap_string
theorem heapT : Kd.Heap Kd.string := Kd.heap_string
theorem V_names {W : World} {A : Option Addr} {c : Nat} {l : List (List ByteArray)} (hc : l.length ≤ c) (hC : Kd.C (Kd.slice 9 Kd.string) W A l.length l) :
    Kd.V (Kd.slice 9 Kd.string) 59 W W.heap.size (fun k => k < W.heap.size) (.slice A l.length c) l := Kd.V_mk hc (Kd.C_F heapN hC)
theorem V_strs {W : World} {A : Option Addr} {c : Nat} {l : List ByteArray} (hc : l.length ≤ c) (hC : Kd.C Kd.string W A l.length l) :
    Kd.V Kd.string 9 W W.heap.size (fun k => k < W.heap.size) (.slice A l.length c) l := Kd.V_mk hc (Kd.C_F heapT hC)
theorem cells9 : Tryd.prog.cellsOf 9 = 1 := by kernel_rfl
theorem cells59 : Tryd.prog.cellsOf 59 = 1 := by kernel_rfl
theorem bulk_one {H : Type} (d : DataW H) : 1 ≤ Rows.uptoBulk d := by
  cases d with
  | lit l => cases l <;> simp [Rows.uptoBulk]
  | _ => simp [Rows.uptoBulk]
theorem bulk_len {H : Type} : ∀ (l : List (DataW H)), l.length ≤ Rows.uptoBulkAll l
  | [] => Nat.zero_le _
  | d :: l => by
    have h1 := bulk_len l
    have h2 := bulk_one d
    simp only [Rows.uptoBulkAll, List.length_cons]
    omega
theorem bulk_small {H : Type} {l : List (DataW H)} {d : DataW H} (hk : Rows.uptoSmall H l = true) (h : d ∈ l) : Rows.uptoBulk d ≤ 1048576 := by
  have h1 := bulk_part h
  have h2 : Rows.uptoBulkAll l ≤ 1048576 := by simpa [Rows.uptoSmall] using hk
  omega
theorem open_strsC {H : Type} {enc : TypeId × Value → H} {w : World} {base n : Nat} {sp : Nat → Bool} {hd : Bool} {v : Value} {x : DataW H × List MemPlace} (h : DataW.trod enc Tryd.prog w base sp hd n 59 [v] = some x) :
    ∃ (A : Option Addr) (c : Nat) (l : List ByteArray), v = .slice A l.length c ∧ l.length ≤ c ∧ Kd.C Kd.string w A l.length l ∧ l.length ≤ Rows.uptoBulk x.1 := by
  rcases open_strs Tryd.underlying59 Tryd.underlying9 cells9 h with ⟨hcs, hx⟩ | ⟨a, len, cap, m, Sx, hcs, _, hl, hm, hmm, hx, hcell⟩
  · obtain rfl : v = .slice none 0 0 := by simpa using hcs
    exact ⟨none, 0, [], rfl, Nat.le_refl _, Kd.C_nil _ _, Nat.zero_le _⟩
  · obtain rfl : v = .slice (some a) len cap := by simpa using hcs
    have hlm : len ≤ m := by rw [hmm]; split <;> omega
    have hn : ((List.range len).map Sx).length = len := by simp
    unfold maxLen at hm
    refine ⟨some a, cap, (List.range len).map Sx, by rw [hn], by rw [hn]; exact hl, ?_, ?_⟩
    · refine Kd.C_of_reads (enc := Value.string) (d := ByteArray.empty) ⟨rfl, by rw [hn]; omega, fun h0 => ⟨a, rfl, fun j hj => ?_⟩⟩
      rw [hn] at hj
      rw [(hcell j (by omega)).1]
      simp [List.getD_eq_getElem?_getD, hj]
    · rw [hn, hx]
      have := bulk_len (H := H) ((List.range len).map fun i => DataW.lit (.string (Sx i).data.toList))
      simp only [List.length_map, List.length_range] at this
      simp only [Rows.uptoBulk]
      omega
set_option maxRecDepth 100000 in
theorem open_strsT {H : Type} {enc : TypeId × Value → H} {w : World} {r : Reach} {b0 : Nat} {v : Value} {d : DataW H} {ps : List MemPlace} (hv : Value.okWide Tryd.prog w r b0 59 v) (h : DataW.Trod enc Tryd.prog w 0 (fun _ => true) true 59 v d ps) :
    ∃ (A : Option Addr) (c : Nat) (l : List ByteArray), v = .slice A l.length c ∧ l.length ≤ c ∧ Kd.C Kd.string w A l.length l ∧ l.length ≤ Rows.uptoBulk d ∧ (∀ x ∈ ps, x.block < w.heap.size) := by
  obtain ⟨a, len, cap, rfl⟩ := okWide_slice Tryd.underlying59 hv
  obtain ⟨fuel, hf⟩ := h
  have hlt : ∀ x ∈ ps, x.block < w.heap.size := DataW.trod_lt fuel _ _ _ hf
  obtain ⟨A, c, l, h1, h2, h3, h4⟩ := open_strsC (x := (d, ps)) hf
  exact ⟨A, c, l, h1, h2, h3, h4, hlt⟩
set_option maxRecDepth 100000 in
theorem open_names {H : Type} {enc : TypeId × Value → H} {w : World} {r : Reach} {b0 : Nat} {v : Value} {d : DataW H} {ps : List MemPlace} (hv : Value.okWide Tryd.prog w r b0 58 v) (h : DataW.Trod enc Tryd.prog w 0 (fun _ => true) true 58 v d ps) :
    ∃ (A : Option Addr) (c : Nat) (l : List (List ByteArray)), v = .slice A l.length c ∧ l.length ≤ c ∧ Kd.C (Kd.slice 9 Kd.string) w A l.length l ∧ l.length ≤ Rows.uptoBulk d ∧ (∀ y ∈ l, y.length ≤ Rows.uptoBulk d) ∧ (∀ x ∈ ps, x.block < w.heap.size) := by
  obtain ⟨a, len, cap, rfl⟩ := okWide_slice Tryd.underlying58 hv
  have hlt : ∀ x ∈ ps, x.block < w.heap.size := by
    obtain ⟨m, hm⟩ := h
    exact DataW.trod_lt m _ _ _ hm
  obtain ⟨fuel, hf⟩ := h
  rcases open_slice1 Tryd.underlying58 cells59 hf with ⟨hcs, hx⟩ | ⟨x, len', cap', m, n, V, D, Pl, hcs, _, hl, hm, hmm, hx, hcell⟩
  · simp [Value.cells] at hcs
    obtain ⟨rfl, rfl, rfl⟩ := hcs
    exact ⟨none, 0, [], rfl, Nat.le_refl _, Kd.C_nil _ _, Nat.zero_le _, (fun x h => by cases h), hlt⟩
  · simp [Value.cells] at hcs
    obtain ⟨rfl, rfl, rfl⟩ := hcs
    have hlm : len ≤ m := by rw [hmm]; split <;> omega
    have each : ∀ i, i < m → ∃ p : Option Addr × Nat × List ByteArray, V i = .slice p.1 p.2.2.length p.2.1 ∧ p.2.2.length ≤ p.2.1 ∧ Kd.C Kd.string w p.1 p.2.2.length p.2.2 ∧ p.2.2.length ≤ Rows.uptoBulk (D i) := fun i hi => by
      obtain ⟨A, c, l, h1, h2, h3, h4⟩ := open_strsC (hcell i hi).2
      exact ⟨(A, c, l), h1, h2, h3, h4⟩
    obtain ⟨Sx, hS⟩ := choose_lt each
    have hn : ((List.range len).map fun i => (Sx i).2.2).length = len := by simp
    have hd : d = .slice ((List.range len).map D) ((List.range (m - len)).map fun j => D (len + j)) := (Prod.mk.inj hx).1
    have hb : Rows.uptoBulkAll ((List.range len).map D) ≤ Rows.uptoBulk d := by
      rw [hd, Rows.uptoBulk]
      omega
    unfold maxLen at hm
    refine ⟨some x, cap, (List.range len).map fun i => (Sx i).2.2, by rw [hn], by rw [hn]; exact hl, ?_, ?_, ?_, hlt⟩
    · refine ⟨rfl, by rw [hn]; omega, fun h0 => ⟨x, rfl, fun j y hj => ?_⟩⟩
      have hjl : j < len := by
        have := (List.getElem?_eq_some_iff.1 hj).1
        omega
      have hy : (Sx j).2.2 = y := by simpa [hjl] using hj
      subst hy
      obtain ⟨h1, h2, h3, _⟩ := hS j (by omega)
      refine ⟨[.slice (Sx j).1 (Sx j).2.2.length (Sx j).2.1], rfl, ⟨(Sx j).1, (Sx j).2.1, rfl, h2, h3⟩, fun i u hu => ?_⟩
      have hi0 : i = 0 := by
        rcases i with _ | i
        · rfl
        · simp at hu
      subst hi0
      obtain rfl : Value.slice (Sx j).1 (Sx j).2.2.length (Sx j).2.1 = u := by simpa using hu
      have h5 := (hcell j (by omega)).1
      rw [h1] at h5
      show w.cell? (x.add (j * 1 + 0)) = _
      rw [Nat.mul_one, Nat.add_zero]
      exact h5
    · rw [hn]
      have := bulk_len ((List.range len).map D)
      simp only [List.length_map, List.length_range] at this
      omega
    · intro y hy
      simp only [List.mem_map, List.mem_range] at hy
      obtain ⟨i, hi, rfl⟩ := hy
      have h4 := (hS i (by omega)).2.2.2
      have h5 := bulk_part (l := (List.range len).map D) (d := D i) (by simp only [List.mem_map, List.mem_range]; exact ⟨i, hi, rfl⟩)
      omega
theorem shut_names {H : Type} {enc : TypeId × Value → H} {w w' : World} {v : Value} {d : DataW H} {ps : List MemPlace} (h : DataW.Trod enc Tryd.prog w 0 (fun _ => true) true 58 v d ps) (hb : Below w.heap.size w w') (hlt : ∀ x ∈ ps, x.block < w.heap.size)
    {sp : Nat → Bool} (hsp : ∀ x ∈ ps, sp x.block = true) : DataW.Trod enc Tryd.prog w' 0 sp true 58 v d ps :=
  WideElems.Trod_stays laidOut (by kernel_rfl) (of_decide_eq_true (by kernel_rfl)) h (fun x hx => hb.same (hlt x hx)) hsp
theorem shut_strsT {H : Type} {enc : TypeId × Value → H} {w w' : World} {v : Value} {d : DataW H} {ps : List MemPlace} (h : DataW.Trod enc Tryd.prog w 0 (fun _ => true) true 59 v d ps) (hb : Below w.heap.size w w') (hlt : ∀ x ∈ ps, x.block < w.heap.size)
    {sp : Nat → Bool} (hsp : ∀ x ∈ ps, sp x.block = true) : DataW.Trod enc Tryd.prog w' 0 sp true 59 v d ps :=
  WideElems.Trod_stays laidOut (by kernel_rfl) (of_decide_eq_true (by kernel_rfl)) h (fun x hx => hb.same (hlt x hx)) hsp
end Go.Proofs.YtgkebfeggekkgaaDoor.Given
