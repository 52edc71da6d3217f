/- What the rows of the Pattern laws need whose input holds bindings, do-parts or lists of patterns: how they are read among the arguments, and that they read the same behind the call. -/
import Derived.Test.YtgkebfeggekkgaaDoorJ13
import Derived.Lib.SmallJoins
import Derived.Test.YtgkebfeggekkgaaDoorOd
section
set_option linter.unusedVariables false
set_option linter.unusedSimpArgs false
namespace Go.Proofs.YtgkebfeggekkgaaDoor.Given
open Go.ChangeShapes Go.WideShapes Go.ChangeAt Go.RowKit Go.Deep Go.Proofs.YtgkebfeggekkgaaDoor.PT Go.Proofs.YtgkebfeggekkgaaDoorW.PrintWords Go.Proofs.YtgkebfeggekkgaaDoorW.PrintLast Go.Proofs.YtgkebfeggekkgaaDoorW.PrintMore

instance : Inhabited S34 := ⟨⟨0, 0, false, []⟩⟩
instance : Inhabited S39 := ⟨⟨false, []⟩⟩
theorem cells24 : Tryd.prog.cellsOf 24 = 1 := by kernel_rfl
theorem cells34 : Tryd.prog.cellsOf 34 = 4 := by kernel_rfl
theorem cells37 : Tryd.prog.cellsOf 37 = 1 := by kernel_rfl
theorem cells39 : Tryd.prog.cellsOf 39 = 2 := by kernel_rfl
theorem cells4 : Tryd.prog.cellsOf 4 = 1 := by kernel_rfl
/-- a slice of elements read one by one: each element's reading 'E' gives its row -/
theorem rows_of {α : Type} [Inhabited α] {kd : Kd α} {w : World} {x : Addr} {len : Nat} {Sx : Nat → α} (hlen : len ≤ 9223372036854775807) (hS : ∀ i, i < len → ∃ cs, cs.length = kd.sz ∧ kd.K w (Sx i) cs ∧ ∀ j v, cs[j]? = some v → w.cell? ((x.add (i * kd.sz)).add j) = some v) :
    Kd.C kd w (some x) ((List.range len).map Sx).length ((List.range len).map Sx) := by
  have hn : ((List.range len).map Sx).length = len := by simp
  refine ⟨rfl, by rw [hn]; exact hlen, fun h0 => ⟨x, rfl, fun j y hj => ?_⟩⟩
  have hjl : j < len := by
    have := (List.getElem?_eq_some_iff.1 hj).1
    omega
  have hy : Sx j = y := by simpa [hjl] using hj
  subst hy
  obtain ⟨cs, h1, h2, h3⟩ := hS j hjl
  refine ⟨cs, h1, h2, fun i u hu => ?_⟩
  have := h3 i u hu
  rw [Go.Addr.add_add] at this
  exact this
theorem open_patC {H : Type} {enc : TypeId × Value → H} {w : World} {base n : Nat} {sp : Nat → Bool} {hd : Bool} {v : Value} {x : DataW H × List MemPlace} (h : DataW.trod enc Tryd.prog w base sp hd n 24 [v] = some x) :
    ∃ (A : Option Addr) (c : Nat) (l : List S31), v = .slice A l.length c ∧ l.length ≤ c ∧ Kd.C k31 w A l.length l ∧ l.all inI3 = true ∧ l.length ≤ Rows.uptoBulk x.1 := by
  rcases open_slice Tryd.underlying24 h with ⟨hcs, hx⟩ | ⟨a, len, cap, m, n, D, Pl, hcs, _, hl, hm, hmm, hx, hcell⟩
  · obtain rfl : v = .slice none 0 0 := by simpa using hcs
    exact ⟨none, 0, [], rfl, Nat.le_refl _, Kd.C_nil _ _, rfl, Nat.zero_le _⟩
  · obtain rfl : v = .slice (some a) len cap := by simpa using hcs
    have hlm : len ≤ m := by rw [hmm]; split <;> omega
    have each : ∀ i, i < m → ∃ p : S31, w.cells? base (a.add (i * 3)) 3 = some [.int .i64 p.f0, .int .i64 p.f1, .int .i64 p.f2] ∧ inI3 p = true := fun i hi => by
      obtain ⟨cs', h1, h2⟩ := hcell i hi
      rw [cells31] at h1
      obtain ⟨p, rfl, hp⟩ := open_part h2
      exact ⟨p, h1, hp⟩
    obtain ⟨Sx, hS⟩ := choose_lt each
    have hn : ((List.range len).map Sx).length = len := by simp
    unfold maxLen at hm
    refine ⟨some a, cap, (List.range len).map Sx, by rw [hn], by rw [hn]; exact hl, rows_of (by omega) (fun i hi => ⟨_, rfl, k31_mk w (Sx i), fun j u hu => ?_⟩), ?_, ?_⟩
    · have hc := (World.cells?_some (hS i (by omega)).1).2.2
      have hj3 : j < 3 := by
        have := (List.getElem?_eq_some_iff.1 hu).1
        simpa using this
      exact (hc j hj3).trans hu
    · rw [List.all_eq_true]
      intro p hp
      simp only [List.mem_map, List.mem_range] at hp
      obtain ⟨i, hi, rfl⟩ := hp
      exact (hS i (by omega)).2
    · rw [hn, hx]
      have := bulk_len (H := H) ((List.range len).map D)
      simp only [List.length_map, List.length_range] at this
      simp only [Rows.uptoBulk]
      omega
theorem open_intC {H : Type} {enc : TypeId × Value → H} {w : World} {base n : Nat} {sp : Nat → Bool} {hd : Bool} {v : Value} {x : DataW H × List MemPlace} (h : DataW.trod enc Tryd.prog w base sp hd n 37 [v] = some x) :
    ∃ (A : Option Addr) (c : Nat) (l : List Int), v = .slice A l.length c ∧ l.length ≤ c ∧ Kd.C kI w A l.length l ∧ l.all inI = true ∧ l.length ≤ Rows.uptoBulk x.1 := by
  rcases open_slice1 Tryd.underlying37 cells3 h with ⟨hcs, hx⟩ | ⟨a, len, cap, m, n, V, D, Pl, hcs, _, hl, hm, hmm, hx, hcell⟩
  · obtain rfl : v = .slice none 0 0 := by simpa using hcs
    exact ⟨none, 0, [], rfl, Nat.le_refl _, Kd.C_nil _ _, rfl, Nat.zero_le _⟩
  · obtain rfl : v = .slice (some a) len cap := by simpa using hcs
    have hlm : len ≤ m := by rw [hmm]; split <;> omega
    have each : ∀ i, i < m → ∃ p : Int, w.cell? (a.add i) = some (.int .i64 p) ∧ inI p = true := fun i hi => by
      obtain ⟨h1, h2⟩ := hcell i hi
      obtain ⟨p, e, _, k0⟩ := DataW.trod_int Tryd.underlying3 h2
      obtain e1 : V i = .int .i64 p := by simpa using e
      rw [e1] at h1
      exact ⟨p, h1, inI_wf k0⟩
    obtain ⟨Sx, hS⟩ := choose_lt each
    have hn : ((List.range len).map Sx).length = len := by simp
    unfold maxLen at hm
    refine ⟨some a, cap, (List.range len).map Sx, by rw [hn], by rw [hn]; exact hl, rows_of (by omega) (fun i hi => ⟨[.int .i64 (Sx i)], rfl, rfl, fun j u hu => ?_⟩), ?_, ?_⟩
    · have hj0 : j = 0 := by
        rcases j with _ | j
        · rfl
        · simp at hu
      subst hj0
      obtain rfl : Value.int .i64 (Sx i) = u := by simpa using hu
      have := (hS i (by omega)).1
      show w.cell? ((a.add (i * 1)).add 0) = _
      rw [Nat.mul_one, Go.Addr.add_add, Nat.add_zero]
      exact this
    · rw [List.all_eq_true]
      intro p hp
      simp only [List.mem_map, List.mem_range] at hp
      obtain ⟨i, hi, rfl⟩ := hp
      exact (hS i (by omega)).2
    · rw [hn, hx]
      have := bulk_len (H := H) ((List.range len).map D)
      simp only [List.length_map, List.length_range] at this
      simp only [Rows.uptoBulk]
      omega
theorem list4 {α : Type} : ∀ {l : List α}, l.length = 4 → ∃ a b c d, l = [a, b, c, d]
  | [a, b, c, d], _ => ⟨a, b, c, d, rfl⟩
theorem list2 {α : Type} : ∀ {l : List α}, l.length = 2 → ∃ a b, l = [a, b]
  | [a, b], _ => ⟨a, b, rfl⟩
/-- a binding's data -/
structure IsBind (w : World) (bulk : Nat) (b : S34) (A : Option Addr) (c : Nat) : Prop where
  cap : b.f3.length ≤ c
  row : Kd.C k31 w A b.f3.length b.f3
  ins : b.f3.all inI3 = true
  i0 : inI b.f0 = true
  i1 : inI b.f1 = true
  small : b.f3.length ≤ bulk
theorem open_bind {H : Type} {enc : TypeId × Value → H} {w : World} {base : Nat} {sp : Nat → Bool} {hd : Bool} {n : Nat} {cs : List Value} {x : DataW H × List MemPlace} (h : DataW.trod enc Tryd.prog w base sp hd n 34 cs = some x) :
    ∃ (b : S34) (A : Option Addr) (c : Nat), cs = [.int .i64 b.f0, .int .i64 b.f1, .bool b.f2, .slice A b.f3.length c] ∧ IsBind w (Rows.uptoBulk x.1) b A c := by
  obtain ⟨y0, y1, y2, y3, n, rfl, hl, h0, h1, h2, h3⟩ := Go.Joins.trod_struct4 Tryd.underlying34 h
  rw [cells34] at hl
  obtain ⟨a, b, c, d, rfl⟩ := list4 hl
  obtain ⟨m0, e0, _, k0⟩ := DataW.trod_int Tryd.underlying3 h0
  obtain ⟨m1, e1, _, k1⟩ := DataW.trod_int Tryd.underlying3 h1
  obtain ⟨m2, e2, _⟩ := DataW.trod_bool Tryd.underlying4 h2
  simp only [cells3, cells4, cells24] at e0 e1 e2 h3
  have a0 : a = .int .i64 m0 := by simpa using e0
  have a1 : b = .int .i64 m1 := by simpa using e1
  have a2 : c = .bool m2 := by simpa using e2
  obtain ⟨A, cp, l, hv, hc, hC, hi, hb⟩ := open_patC (v := d) (by simpa using h3)
  refine ⟨⟨m0, m1, m2, l⟩, A, cp, by rw [a0, a1, a2, hv], hc, hC, hi, inI_wf k0, inI_wf k1, Nat.le_trans hb ?_⟩
  simp only [Rows.uptoBulk, Rows.uptoBulkAll]
  omega
set_option maxRecDepth 100000 in
theorem open_binds {H : Type} {enc : TypeId × Value → H} {w : World} {r : Reach} {b0 : Nat} {v : Value} {d : DataW H} {ps : List MemPlace} (hv : Value.okWide Tryd.prog w r b0 22 v) (h : DataW.Trod enc Tryd.prog w 0 (fun _ => true) true 22 v d ps) :
    ∃ (A : Option Addr) (c : Nat) (l : List S34), v = .slice A l.length c ∧ l.length ≤ c ∧ Kd.C k34 w A l.length l ∧ l.length ≤ Rows.uptoBulk d ∧ (∀ x ∈ ps, x.block < w.heap.size) ∧ (∀ b ∈ l, b.f3.all inI3 = true ∧ inI b.f0 = true ∧ inI b.f1 = true ∧ b.f3.length ≤ Rows.uptoBulk d) := by
  obtain ⟨a, len, cap, rfl⟩ := okWide_slice Tryd.underlying22 hv
  have hlt : ∀ x ∈ ps, x.block < w.heap.size := by
    obtain ⟨m, hm⟩ := h
    exact DataW.trod_lt m _ _ _ hm
  obtain ⟨fuel, hf⟩ := h
  rcases open_slice Tryd.underlying22 hf with ⟨hcs, hx⟩ | ⟨x, len', cap', m, n, D, Pl, hcs, _, hl, hm, hmm, hx, hcell⟩
  · simp [Value.cells] at hcs
    obtain ⟨rfl, rfl, rfl⟩ := hcs
    exact ⟨none, 0, [], rfl, Nat.le_refl _, Kd.C_nil _ _, Nat.zero_le _, hlt, fun b hb => by cases hb⟩
  · simp [Value.cells] at hcs
    obtain ⟨rfl, rfl, rfl⟩ := hcs
    have hlm : len ≤ m := by rw [hmm]; split <;> omega
    have each : ∀ i, i < m → ∃ p : S34 × Option Addr × Nat, w.cells? 0 (x.add (i * 4)) 4 = some [.int .i64 p.1.f0, .int .i64 p.1.f1, .bool p.1.f2, .slice p.2.1 p.1.f3.length p.2.2] ∧ IsBind w (Rows.uptoBulk (D i)) p.1 p.2.1 p.2.2 := fun i hi => by
      obtain ⟨cs', h1, h2⟩ := hcell i hi
      rw [cells34] at h1
      obtain ⟨p, A, c, rfl, hp⟩ := open_bind h2
      exact ⟨(p, A, c), h1, hp⟩
    obtain ⟨Sx, hS⟩ := choose_lt each
    have hn : ((List.range len).map fun i => (Sx i).1).length = len := by simp
    have hd : d = .slice ((List.range len).map D) ((List.range (m - len)).map fun j => D (len + j)) := (Prod.mk.inj hx).1
    have hb : Rows.uptoBulkAll ((List.range len).map D) ≤ Rows.uptoBulk d := by
      rw [hd, Rows.uptoBulk]
      omega
    unfold maxLen at hm
    refine ⟨some x, cap, (List.range len).map fun i => (Sx i).1, by rw [hn], by rw [hn]; exact hl, rows_of (by omega) (fun i hi => ⟨_, rfl, k34_mk w (Sx i).1 (hS i (by omega)).2.cap (hS i (by omega)).2.row, fun j u hu => ?_⟩), ?_, hlt, ?_⟩
    · have hc := (World.cells?_some (hS i (by omega)).1).2.2
      have hj4 : j < 4 := by
        have := (List.getElem?_eq_some_iff.1 hu).1
        simpa using this
      exact (hc j hj4).trans hu
    · rw [hn]
      have := bulk_len ((List.range len).map D)
      simp only [List.length_map, List.length_range] at this
      omega
    · intro y hy
      simp only [List.mem_map, List.mem_range] at hy
      obtain ⟨i, hi, rfl⟩ := hy
      have h4 := (hS i (by omega)).2
      have h5 := bulk_part (l := (List.range len).map D) (d := D i) (by simp only [List.mem_map, List.mem_range]; exact ⟨i, hi, rfl⟩)
      exact ⟨h4.ins, h4.i0, h4.i1, by have := h4.small; omega⟩
/-- a do-part's data -/
structure IsDo (w : World) (bulk : Nat) (b : S39) (A : Option Addr) (c : Nat) : Prop where
  cap : b.f1.length ≤ c
  row : Kd.C kI w A b.f1.length b.f1
  ins : b.f1.all inI = true
  small : b.f1.length ≤ bulk
theorem open_doC {H : Type} {enc : TypeId × Value → H} {w : World} {base : Nat} {sp : Nat → Bool} {hd : Bool} {n : Nat} {cs : List Value} {x : DataW H × List MemPlace} (h : DataW.trod enc Tryd.prog w base sp hd n 39 cs = some x) :
    ∃ (b : S39) (A : Option Addr) (c : Nat), cs = [.bool b.f0, .slice A b.f1.length c] ∧ IsDo w (Rows.uptoBulk x.1) b A c := by
  obtain ⟨y0, y1, n, rfl, hl, h0, h1⟩ := trod_struct2 Tryd.underlying39 h
  rw [cells39] at hl
  obtain ⟨a, b, rfl⟩ := list2 hl
  obtain ⟨m0, e0, _⟩ := DataW.trod_bool Tryd.underlying4 h0
  simp only [cells37, cells4] at e0 h1
  have a0 : a = .bool m0 := by simpa using e0
  obtain ⟨A, cp, l, hv, hc, hC, hi, hb⟩ := open_intC (v := b) (by simpa using h1)
  refine ⟨⟨m0, l⟩, A, cp, by rw [a0, hv], hc, hC, hi, Nat.le_trans hb ?_⟩
  simp only [Rows.uptoBulk, Rows.uptoBulkAll]
  omega
set_option maxRecDepth 100000 in
theorem open_dos {H : Type} {enc : TypeId × Value → H} {w : World} {r : Reach} {b0 : Nat} {v : Value} {d : DataW H} {ps : List MemPlace} (hv : Value.okWide Tryd.prog w r b0 36 v) (h : DataW.Trod enc Tryd.prog w 0 (fun _ => true) true 36 v d ps) :
    ∃ (A : Option Addr) (c : Nat) (l : List S39), v = .slice A l.length c ∧ l.length ≤ c ∧ Kd.C k39 w A l.length l ∧ l.length ≤ Rows.uptoBulk d ∧ (∀ x ∈ ps, x.block < w.heap.size) ∧ (∀ b ∈ l, b.f1.all inI = true ∧ b.f1.length ≤ Rows.uptoBulk d) := by
  obtain ⟨a, len, cap, rfl⟩ := okWide_slice Tryd.underlying36 hv
  have hlt : ∀ x ∈ ps, x.block < w.heap.size := by
    obtain ⟨m, hm⟩ := h
    exact DataW.trod_lt m _ _ _ hm
  obtain ⟨fuel, hf⟩ := h
  rcases open_slice Tryd.underlying36 hf with ⟨hcs, hx⟩ | ⟨x, len', cap', m, n, D, Pl, hcs, _, hl, hm, hmm, hx, hcell⟩
  · simp [Value.cells] at hcs
    obtain ⟨rfl, rfl, rfl⟩ := hcs
    exact ⟨none, 0, [], rfl, Nat.le_refl _, Kd.C_nil _ _, Nat.zero_le _, hlt, fun b hb => by cases hb⟩
  · simp [Value.cells] at hcs
    obtain ⟨rfl, rfl, rfl⟩ := hcs
    have hlm : len ≤ m := by rw [hmm]; split <;> omega
    have each : ∀ i, i < m → ∃ p : S39 × Option Addr × Nat, w.cells? 0 (x.add (i * 2)) 2 = some [.bool p.1.f0, .slice p.2.1 p.1.f1.length p.2.2] ∧ IsDo w (Rows.uptoBulk (D i)) p.1 p.2.1 p.2.2 := fun i hi => by
      obtain ⟨cs', h1, h2⟩ := hcell i hi
      rw [cells39] at h1
      obtain ⟨p, A, c, rfl, hp⟩ := open_doC h2
      exact ⟨(p, A, c), h1, hp⟩
    obtain ⟨Sx, hS⟩ := choose_lt each
    have hn : ((List.range len).map fun i => (Sx i).1).length = len := by simp
    have hd : d = .slice ((List.range len).map D) ((List.range (m - len)).map fun j => D (len + j)) := (Prod.mk.inj hx).1
    have hb : Rows.uptoBulkAll ((List.range len).map D) ≤ Rows.uptoBulk d := by
      rw [hd, Rows.uptoBulk]
      omega
    unfold maxLen at hm
    refine ⟨some x, cap, (List.range len).map fun i => (Sx i).1, by rw [hn], by rw [hn]; exact hl, rows_of (by omega) (fun i hi => ⟨_, rfl, k39_mk w (Sx i).1 (hS i (by omega)).2.cap (hS i (by omega)).2.row, fun j u hu => ?_⟩), ?_, hlt, ?_⟩
    · have hc := (World.cells?_some (hS i (by omega)).1).2.2
      have hj2 : j < 2 := by
        have := (List.getElem?_eq_some_iff.1 hu).1
        simpa using this
      exact (hc j hj2).trans hu
    · rw [hn]
      have := bulk_len ((List.range len).map D)
      simp only [List.length_map, List.length_range] at this
      omega
    · intro y hy
      simp only [List.mem_map, List.mem_range] at hy
      obtain ⟨i, hi, rfl⟩ := hy
      have h4 := (hS i (by omega)).2
      have h5 := bulk_part (l := (List.range len).map D) (d := D i) (by simp only [List.mem_map, List.mem_range]; exact ⟨i, hi, rfl⟩)
      exact ⟨h4.ins, by have := h4.small; omega⟩
set_option maxRecDepth 100000 in
theorem open_patss {H : Type} {enc : TypeId × Value → H} {w : World} {r : Reach} {b0 : Nat} {v : Value} {d : DataW H} {ps : List MemPlace} (hv : Value.okWide Tryd.prog w r b0 62 v) (h : DataW.Trod enc Tryd.prog w 0 (fun _ => true) true 62 v d ps) :
    ∃ (A : Option Addr) (c : Nat) (l : List (List S31)), v = .slice A l.length c ∧ l.length ≤ c ∧ Kd.C (Kd.slice 31 k31) w A l.length l ∧ l.length ≤ Rows.uptoBulk d ∧ (∀ x ∈ ps, x.block < w.heap.size) ∧ (∀ y ∈ l, y.all inI3 = true ∧ y.length ≤ Rows.uptoBulk d) := by
  obtain ⟨a, len, cap, rfl⟩ := okWide_slice Tryd.underlying62 hv
  have hlt : ∀ x ∈ ps, x.block < w.heap.size := by
    obtain ⟨m, hm⟩ := h
    exact DataW.trod_lt m _ _ _ hm
  obtain ⟨fuel, hf⟩ := h
  rcases open_slice1 Tryd.underlying62 cells24 hf with ⟨hcs, hx⟩ | ⟨x, len', cap', m, n, V, D, Pl, hcs, _, hl, hm, hmm, hx, hcell⟩
  · simp [Value.cells] at hcs
    obtain ⟨rfl, rfl, rfl⟩ := hcs
    exact ⟨none, 0, [], rfl, Nat.le_refl _, Kd.C_nil _ _, Nat.zero_le _, hlt, fun b hb => by cases hb⟩
  · simp [Value.cells] at hcs
    obtain ⟨rfl, rfl, rfl⟩ := hcs
    have hlm : len ≤ m := by rw [hmm]; split <;> omega
    have each : ∀ i, i < m → ∃ p : Option Addr × Nat × List S31, V i = .slice p.1 p.2.2.length p.2.1 ∧ p.2.2.length ≤ p.2.1 ∧ Kd.C k31 w p.1 p.2.2.length p.2.2 ∧ p.2.2.all inI3 = true ∧ p.2.2.length ≤ Rows.uptoBulk (D i) := fun i hi => by
      obtain ⟨A, c, l, h1, h2, h3, h4, h5⟩ := open_patC (hcell i hi).2
      exact ⟨(A, c, l), h1, h2, h3, h4, h5⟩
    obtain ⟨Sx, hS⟩ := choose_lt each
    have hn : ((List.range len).map fun i => (Sx i).2.2).length = len := by simp
    have hd : d = .slice ((List.range len).map D) ((List.range (m - len)).map fun j => D (len + j)) := (Prod.mk.inj hx).1
    have hb : Rows.uptoBulkAll ((List.range len).map D) ≤ Rows.uptoBulk d := by
      rw [hd, Rows.uptoBulk]
      omega
    unfold maxLen at hm
    refine ⟨some x, cap, (List.range len).map fun i => (Sx i).2.2, by rw [hn], by rw [hn]; exact hl, rows_of (by omega) (fun j hj => ?_), ?_, hlt, ?_⟩
    · obtain ⟨h1, h2, h3, _⟩ := hS j (by omega)
      refine ⟨[.slice (Sx j).1 (Sx j).2.2.length (Sx j).2.1], rfl, ⟨(Sx j).1, (Sx j).2.1, rfl, h2, h3⟩, fun i u hu => ?_⟩
      have hi0 : i = 0 := by
        rcases i with _ | i
        · rfl
        · simp at hu
      subst hi0
      obtain rfl : Value.slice (Sx j).1 (Sx j).2.2.length (Sx j).2.1 = u := by simpa using hu
      have h5 := (hcell j (by omega)).1
      rw [h1] at h5
      show w.cell? ((x.add (j * 1)).add 0) = _
      rw [Nat.mul_one, Go.Addr.add_add, Nat.add_zero]
      exact h5
    · rw [hn]
      have := bulk_len ((List.range len).map D)
      simp only [List.length_map, List.length_range] at this
      omega
    · intro y hy
      simp only [List.mem_map, List.mem_range] at hy
      obtain ⟨i, hi, rfl⟩ := hy
      have h4 := hS i (by omega)
      have h5 := bulk_part (l := (List.range len).map D) (d := D i) (by simp only [List.mem_map, List.mem_range]; exact ⟨i, hi, rfl⟩)
      exact ⟨h4.2.2.2.1, by have := h4.2.2.2.2; omega⟩
set_option maxRecDepth 100000 in
/-- a do-part, by value -/
theorem open_do {H : Type} {enc : TypeId × Value → H} {w : World} {r : Reach} {b0 : Nat} {v : Value} {d : DataW H} {ps : List MemPlace} (hv : Value.okWide Tryd.prog w r b0 39 v) (h : DataW.Trod enc Tryd.prog w 0 (fun _ => true) true 39 v d ps) :
    ∃ (b : S39) (A : Option Addr) (c : Nat), v = .agg #[.bool b.f0, .slice A b.f1.length c] ∧ b.f1.length ≤ c ∧ Kd.C kI w A b.f1.length b.f1 ∧ b.f1.all inI = true ∧ b.f1.length ≤ Rows.uptoBulk d ∧ (∀ x ∈ ps, x.block < w.heap.size) := by
  have hlt : ∀ x ∈ ps, x.block < w.heap.size := by
    obtain ⟨m, hm⟩ := h
    exact DataW.trod_lt m _ _ _ hm
  obtain ⟨cs, rfl, hsz⟩ := okWide_struct Tryd.underlying39 hv
  obtain ⟨fuel, hf⟩ := h
  obtain ⟨b, A, c, hcs, hb⟩ := open_doC hf
  have : cs = #[.bool b.f0, .slice A b.f1.length c] := by
    have h1 : cs.toList = [.bool b.f0, .slice A b.f1.length c] := by simpa [Value.cells] using hcs
    rw [← h1]
  subst this
  exact ⟨b, A, c, rfl, hb.cap, hb.row, hb.ins, hb.small, hlt⟩
set_option maxRecDepth 100000 in
/-- a part, by value -/
theorem open_partV {H : Type} {enc : TypeId × Value → H} {w : World} {r : Reach} {b0 : Nat} {v : Value} {d : DataW H} {ps : List MemPlace} (hv : Value.okWide Tryd.prog w r b0 31 v) (h : DataW.Trod enc Tryd.prog w 0 (fun _ => true) true 31 v d ps) :
    ∃ p : S31, v = .agg #[.int .i64 p.f0, .int .i64 p.f1, .int .i64 p.f2] ∧ inI3 p = true ∧ (∀ x ∈ ps, x.block < w.heap.size) := by
  have hlt : ∀ x ∈ ps, x.block < w.heap.size := by
    obtain ⟨m, hm⟩ := h
    exact DataW.trod_lt m _ _ _ hm
  obtain ⟨cs, rfl, hsz⟩ := okWide_struct Tryd.underlying31 hv
  obtain ⟨fuel, hf⟩ := h
  obtain ⟨p, hcs, hp⟩ := open_part hf
  have : cs = #[.int .i64 p.f0, .int .i64 p.f1, .int .i64 p.f2] := by
    have h1 : cs.toList = [.int .i64 p.f0, .int .i64 p.f1, .int .i64 p.f2] := by simpa [Value.cells] using hcs
    rw [← h1]
  subst this
  exact ⟨p, rfl, hp, hlt⟩
section
variable {H : Type} {enc : TypeId × Value → H} {w w' : World} {v : Value} {d : DataW H} {ps : List MemPlace} (hb : Below w.heap.size w w') (hlt : ∀ x ∈ ps, x.block < w.heap.size) {sp : Nat → Bool} (hsp : ∀ x ∈ ps, sp x.block = true)
include hb hlt hsp
theorem shut_binds (h : DataW.Trod enc Tryd.prog w 0 (fun _ => true) true 22 v d ps) : DataW.Trod enc Tryd.prog w' 0 sp true 22 v d ps :=
  WideElems.Trod_stays laidOut (by kernel_rfl) (of_decide_eq_true (by kernel_rfl)) h (fun x hx => hb.same (hlt x hx)) hsp
theorem shut_dos (h : DataW.Trod enc Tryd.prog w 0 (fun _ => true) true 36 v d ps) : DataW.Trod enc Tryd.prog w' 0 sp true 36 v d ps :=
  WideElems.Trod_stays laidOut (by kernel_rfl) (of_decide_eq_true (by kernel_rfl)) h (fun x hx => hb.same (hlt x hx)) hsp
theorem shut_patss (h : DataW.Trod enc Tryd.prog w 0 (fun _ => true) true 62 v d ps) : DataW.Trod enc Tryd.prog w' 0 sp true 62 v d ps :=
  WideElems.Trod_stays laidOut (by kernel_rfl) (of_decide_eq_true (by kernel_rfl)) h (fun x hx => hb.same (hlt x hx)) hsp
theorem shut_do (h : DataW.Trod enc Tryd.prog w 0 (fun _ => true) true 39 v d ps) : DataW.Trod enc Tryd.prog w' 0 sp true 39 v d ps :=
  WideElems.Trod_stays laidOut (by kernel_rfl) (of_decide_eq_true (by kernel_rfl)) h (fun x hx => hb.same (hlt x hx)) hsp
theorem shut_partV (h : DataW.Trod enc Tryd.prog w 0 (fun _ => true) true 31 v d ps) : DataW.Trod enc Tryd.prog w' 0 sp true 31 v d ps :=
  WideElems.Trod_stays laidOut (by kernel_rfl) (of_decide_eq_true (by kernel_rfl)) h (fun x hx => hb.same (hlt x hx)) hsp
end
end Go.Proofs.YtgkebfeggekkgaaDoor.Given
end
section
/- PROVED: 'mjolnerlaw09.PatternBound' answers true and leaves its input as it was, on every input of bulk at most 1048576 (the second form's tied card), in the model's Go, its conditions those of the row: the library's tables hold what the program's text lays. -/
set_option linter.unusedVariables false
set_option linter.unusedSimpArgs false
namespace Go.Proofs.YtgkebfeggekkgaaDoor.patternBound
open Go.ChangeShapes Go.WideShapes Go.ChangeAt Go.RowKit Go.Proofs.YtgkebfeggekkgaaDoor.Given Go.Proofs.YtgkebfeggekkgaaDoor.PT

set_option maxRecDepth 100000 in
theorem contract (H : Type) (enc : TypeId × Value → H) (W : World) (base : Nat) (args : Array Value) (ds gs : List (DataW H)) (before : List MemPlace)
    (hval : ∀ (j : Nat) t v, Tryd.f4.params[j]? = some t → args[j]? = some v → Value.okWide Tryd.prog W .any base t v)
    (hW : DataW.Whole enc Tryd.prog Tryd.f4.params.toList Rows.patternBoundSpec.vars false W args.toList ds gs before) (hk : Rows.uptoSmall H (ds ++ gs) = true)
    (hL : laidMetH Tryd.prog Rows.patternBoundUptoRow.laid W) (hs : W.ShapedOpen Tryd.prog) :
    Calls Tryd.prog 4 args W fun e W' => ∃ v, e = .returned v ∧ Rows.patternBoundSpec.post enc Tryd.prog Tryd.f4 false true false false W args v W' := by
  have hG : LaidG W := laidG_of (l := Rows.patternBoundUptoRow.laid) hL (by kernel_rfl) hs
  have hW' := hW
  obtain ⟨p, q, hA0, hV, rfl, hfz, hnd⟩ := hW
  have hA : DataW.TrodAll enc Tryd.prog W 0 (fun _ => true) true Tryd.f4.params.toList args.toList ds p := hA0
  rw [Tryd.params4] at hA hval
  obtain ⟨v0, vs0, d0, ds0, p0, q0, hargs, rfl, rfl, h0, r0⟩ := trodAll_cons hA
  obtain ⟨v1, vs1, d1, ds1, p1, q1, rfl, rfl, rfl, h1, r1⟩ := trodAll_cons r0
  obtain ⟨v2, vs2, d2, ds2, p2, q2, rfl, rfl, rfl, h2, r2⟩ := trodAll_cons r1
  obtain ⟨v3, vs3, d3, ds3, p3, q3, rfl, rfl, rfl, h3, r3⟩ := trodAll_cons r2
  obtain ⟨rfl, rfl, rfl⟩ := trodAll_nil r3
  obtain rfl : args = #[v0, v1, v2, v3] := by cases args; simp_all
  obtain ⟨rfl, rfl⟩ := trodVars_none hV
  have k0 := h0
  obtain ⟨A0, c0, x0, rfl, hc0, hC0, bl0, lt0, bi0⟩ := open_binds (hval 0 22 v0 rfl rfl) h0
  obtain ⟨x1, rfl, rfl, rfl, wf1⟩ := open_int Tryd.underlying3 (hval 1 3 v1 rfl rfl) h1
  have k2 := h2
  obtain ⟨x2, rfl, bi2, lt2⟩ := open_partV (hval 2 31 v2 rfl rfl) h2
  obtain ⟨x3, rfl, rfl, rfl, wf3⟩ := open_int Tryd.underlying3 (hval 3 3 v3 rfl rfl) h3
  clear hA0
  simp only [List.append_nil, List.nil_append] at hW' hk
  obtain ⟨k, hf⟩ := PatternBound_law x0 x1 x2 x3 (Nat.le_trans bl0 (bulk_small hk (by simp))) (fun b hb => ⟨(bi0 b hb).1, (bi0 b hb).2.1, (bi0 b hb).2.2.1, Nat.le_trans (bi0 b hb).2.2.2 (bulk_small hk (by simp))⟩) bi2
  refine (mjolnerlaw09_PatternBound.calls k A0 c0 x0 x1 x2 x3 true W hG hC0 hc0 hf).mono fun e W' ⟨he, hb⟩ => ?_
  subst he
  exact ⟨_, rfl, post_below (pa := p0 ++ (p2)) (pv := []) hW' hb (fun _ _ _ => trodAll_cons_mk (shut_bool Tryd.underlying4 _) trodAll_mk0) (fun _ hsp => by have hx := (trodAll_cons_mk (shut_binds hb lt0 (fun x hx => hsp x (by simp [hx])) k0) (trodAll_cons_mk (shut_int Tryd.underlying3 wf1) (trodAll_cons_mk (shut_partV hb lt2 (fun x hx => hsp x (by simp [hx])) k2) (trodAll_cons_mk (shut_int Tryd.underlying3 wf3) trodAll_mk0)))); simp only [List.append_nil, List.nil_append] at hx; exact hx) (fun _ _ => rfl) (List.append_nil _).symm (ok_one (by kernel_rfl) rfl (okWide_bool_mk Tryd.underlying4 _))⟩
theorem laid_met (os : Os) : laidMet Tryd.prog Rows.patternBoundUptoRow.laid ((laidWorld os).forCall (fun _ _ => 0) ⟨#[], #[.slice none 0 0, .int .i64 0, .agg #[.int .i64 0, .int .i64 0, .int .i64 0], .int .i64 0], []⟩).memory :=
  laidMet_of_run' 8 (by kernel_rfl) (by kernel_rfl)
theorem reads (os : Os) {H : Type} (enc : TypeId × Value → H) : ∃ places, DataW.whole enc Tryd.prog ((laidWorld os).forCall (fun _ _ => 0) ⟨#[], #[.slice none 0 0, .int .i64 0, .agg #[.int .i64 0, .int .i64 0, .int .i64 0], .int .i64 0], []⟩).memory Tryd.f4.params.toList Rows.patternBoundSpec.vars false #[Value.slice none 0 0, Value.int .i64 0, Value.agg #[.int .i64 0, .int .i64 0, .int .i64 0], Value.int .i64 0].toList 8 = some ([.nil, .lit (.int .i64 0), .agg [.lit (.int .i64 0), .lit (.int .i64 0), .lit (.int .i64 0)], .lit (.int .i64 0)], [], places) :=
  ⟨[], by kernel_rfl⟩
set_option maxRecDepth 100000 in
theorem liftedUpto (os : Os) (started : os.Started) (H : Type) (enc : TypeId × Value → H) (F : Stop.Interp) :
    ReturnsInHanded {} Tryd.checked os 4 .any ((Rows.OpenSpec.upto Rows.patternBoundSpec).preRow enc Tryd.prog Tryd.f4 Rows.patternBoundUptoRow.domain false Rows.patternBoundUptoRow.laid) (((Rows.OpenSpec.upto Rows.patternBoundSpec).at F).post enc Tryd.prog Tryd.f4 false true false false) := by
  obtain ⟨places, hx⟩ := reads os enc
  refine returnsInHanded_of_row (C := Tryd.checked) (s := Rows.OpenSpec.upto Rows.patternBoundSpec) own started (by kernel_rfl) Tryd.func4
    (witness_row_at (enc := enc) (C := Tryd.checked) false (laidWorld os) #[.slice none 0 0, .int .i64 0, .agg #[.int .i64 0, .int .i64 0, .int .i64 0], .int .i64 0] rfl (by kernel_rfl) (by kernel_rfl) (by kernel_rfl)
      (OpenSpec.preRow_of_cond 8 hx (by kernel_rfl) (fun k hk => by cases hk; kernel_rfl) (by kernel_rfl) (laid_met os))) ?_
  intro W base args ds gs before hval hW _ hcond _ hL hsh _
  exact contract H enc W base args ds gs before hval hW (hcond _ rfl) hL hsh
theorem saidUpto : Rows.PatternBoundUptoSaid :=
  OpenClaim.holds_of_cond 4 Tryd.f4 rfl rfl rfl rfl rfl rfl rfl ⟨rfl, rfl, rfl, rfl, rfl⟩ rfl rfl rfl rfl rfl (by kernel_rfl) Tryd.func4 (by kernel_rfl)
    (of_decide_eq_true (by kernel_rfl)) (by unfold Func.isWrapper; first | (rw [if_pos (by decide +kernel)]; kernel_rfl) | (rw [if_neg (by decide +kernel)]; exact ⟨rfl, rfl⟩))
    (fun os started H enc _ F => by rw [OpenClaim.pre_eq_preRow]; exact liftedUpto os started H enc F)
theorem plain (f : FuncId) (fn : Func) (hf : Tryd.pinned.checked.prog.funcNamed "mjolner/mjolnerlaw09.PatternBound" = some f) (hfn : Tryd.pinned.checked.prog.funcs[f]? = some fn) :
    true = Tryd.pinned.checked.prog.looks [] ∧ ∀ (j : Nat) t, fn.params[j]? = some t → Tryd.pinned.checked.prog.wantsStandIn t = false := by
  obtain rfl : f = 4 := Option.some.inj ((show Tryd.prog.funcNamed "mjolner/mjolnerlaw09.PatternBound" = some 4 by kernel_rfl).symm.trans hf) |>.symm
  obtain rfl : fn = Tryd.f4 := (Option.some.inj (Tryd.func4.symm.trans hfn)).symm
  refine ⟨by kernel_rfl, fun j t ht => ?_⟩
  rw [Tryd.params4] at ht
  have ht' := Array.mem_of_getElem? ht
  simp only [List.mem_toArray, List.mem_cons, List.not_mem_nil, or_false] at ht'
  have hw22 : Tryd.pinned.checked.prog.wantsStandIn 22 = false := (show Tryd.prog.wantsStandIn 22 = false by kernel_rfl)
  have hw3 : Tryd.pinned.checked.prog.wantsStandIn 3 = false := (show Tryd.prog.wantsStandIn 3 = false by kernel_rfl)
  have hw31 : Tryd.pinned.checked.prog.wantsStandIn 31 = false := (show Tryd.prog.wantsStandIn 31 = false by kernel_rfl)
  rcases ht' with rfl | rfl | rfl | rfl
  all_goals first | (with_reducible exact hw22) | (with_reducible exact hw3) | (with_reducible exact hw31)
/-- THE SECOND FORM's CARD -/
theorem cardUpto : Rows.PatternBoundUptoCardSaid :=
  Claim7.holds_tied_plain_at .later [] _ _ _ _ saidUpto (fun _ h => by cases h) (by kernel_rfl) (fun _ h => by cases h) patternBoundUpto_row_tie rfl ⟨rfl, rfl⟩ (by kernel_rfl) rfl plain (by kernel_rfl)
end Go.Proofs.YtgkebfeggekkgaaDoor.patternBound
end
