/- The contracts of package pattern's own failures: fail panics or does not; guard, deferred, does nothing when nothing has panicked, and when a failure has, stores its error and a zero. -/
import Derived.Test.YtgkebfeggekkgaaDoorPTx0
import Derived.Test.YtgkebfeggekkgaaDoorJ4
import Derived.RegionTactic
import Derived.BigRegion
import Derived.ChangeAlike
import Derived.Outline
set_option linter.unusedVariables false
set_option linter.unusedSimpArgs false
namespace Go.Proofs.YtgkebfeggekkgaaDoor.Given
open Go.RowKit Go.Proofs.YtgkebfeggekkgaaDoorW.PrintWords Go.Proofs.YtgkebfeggekkgaaDoorW.PrintLast Go.Proofs.YtgkebfeggekkgaaDoorW.PrintMore

/-- what 'fail' panics with -/
def failV (c : Int) : Value := .iface 113 (.agg #[.int .i64 c])
def failE (c : Int) : List PanicEntry := [{ v := failV c, recovered := false }]
theorem fail_false (c : Int) (w : World) : Calls Tryd.prog 51 #[.bool false, .int .i64 c] w fun e w' => e = .returned (.tuple #[]) ∧ w = w' := by
  go_enter Tryd.func51, Tryd.ntmps51
  go_wp2
  go_end0
  exact ⟨rfl, rfl⟩
theorem fail_true (c : Int) (w : World) : Calls Tryd.prog 51 #[.bool true, .int .i64 c] w fun e w' => e = .panicked (failE c) ∧ w = w' := by
  have hu113 := Tryd.underlying113
  go_enter Tryd.func51, Tryd.ntmps51
  go_wp2
  exact ⟨rfl, rfl, rfl⟩
theorem bcell {B : Nat} {W w1 : World} (hb : Below B W w1) {b o : Nat} (h : b < B) : w1.cell? ⟨b, o, none⟩ = W.cell? ⟨b, o, none⟩ := hb.cell (p := ⟨b, o, none⟩) h
theorem bfrozen {B : Nat} {W w1 : World} (hb : Below B W w1) {b o : Nat} (h : b < B) : w1.frozen? ⟨b, o, none⟩ = W.frozen? ⟨b, o, none⟩ := hb.frozen (p := ⟨b, o, none⟩) h

theorem guardPats_idle (po pe : Addr) (w : World) :
    CallsD Tryd.prog 49 #[.pointer (some po), .pointer (some pe)] .returning w fun e u' w' => u' = .returning ∧ (e = .returned (.tuple #[]) ∧ w = w') := by
  refine callsD_of_recover Tryd.func49 rfl ?_
  simp only [recovers, Tryd.ntmps49, List.size_toArray, List.length_cons, List.length_nil, Nat.reduceAdd, Nat.reduceSub, Array.replicate_succ, Array.replicate_zero, List.push_toArray, List.append_toArray, List.nil_append, List.cons_append, List.setIfInBounds_toArray, List.set_cons_zero, List.set_cons_succ]
  go_wp2
  go_end0
  exact ⟨rfl, rfl⟩
set_option maxRecDepth 100000 in
theorem guardPats_fails (bo be : Nat) (c : Int) (x y : Value) (w : World) (h1 : w.cell? ⟨bo, 0, none⟩ = some x) (h2 : w.cell? ⟨be, 0, none⟩ = some y) (hf1 : w.frozen? ⟨bo, 0, none⟩ = false) (hf2 : w.frozen? ⟨be, 0, none⟩ = false) (hne : ¬ bo = be) :
    CallsD Tryd.prog 49 #[.pointer (some ⟨bo, 0, none⟩), .pointer (some ⟨be, 0, none⟩)] (.panicking (failE c)) w fun e u' w' => u' = .panicking [{ v := failV c, recovered := true }] ∧ (e = .returned (.tuple #[]) ∧
      (((w.setCell ⟨bo, 0, none⟩ (.slice none 0 0)).setCell ⟨be, 0, none⟩ (.int .i64 c)).alloc (.cells #[.int .i64 c] 113)).drew = w') := by
  have hb1 := World.block_lt_of_cell? w _ h1
  have hb2 := World.block_lt_of_cell? w _ h2
  simp only [] at hb1 hb2
  have hu113 := Tryd.underlying113
  have hta : ∀ (v : Value) (W : World), (Instr.typeAssert (.iface 113 v) 20 113 true).run Tryd.prog W = .ok (.tuple #[v, .bool true]) W := fun v W => by rfl
  have hbo : ¬ bo = w.heap.size := by omega
  have hbe : ¬ be = w.heap.size := by omega
  have hbo' : ¬ w.heap.size = bo := by omega
  have hbe' : ¬ w.heap.size = be := by omega
  have hne' : ¬ be = bo := fun e => hne e.symm
  refine callsD_of_recover Tryd.func49 rfl ?_
  simp only [failE, failV, recovers, Tryd.ntmps49, List.size_toArray, List.length_cons, List.length_nil, Nat.reduceAdd, Nat.reduceSub, Array.replicate_succ, Array.replicate_zero, List.push_toArray, List.append_toArray, List.nil_append, List.cons_append, List.setIfInBounds_toArray, List.set_cons_zero, List.set_cons_succ]
  go_wp2
  go_region
  all_goals go_end0
  all_goals exact ⟨rfl, rfl⟩

theorem guardInts_idle (po pe : Addr) (w : World) :
    CallsD Tryd.prog 57 #[.pointer (some po), .pointer (some pe)] .returning w fun e u' w' => u' = .returning ∧ (e = .returned (.tuple #[]) ∧ w = w') := by
  refine callsD_of_recover Tryd.func57 rfl ?_
  simp only [recovers, Tryd.ntmps57, List.size_toArray, List.length_cons, List.length_nil, Nat.reduceAdd, Nat.reduceSub, Array.replicate_succ, Array.replicate_zero, List.push_toArray, List.append_toArray, List.nil_append, List.cons_append, List.setIfInBounds_toArray, List.set_cons_zero, List.set_cons_succ]
  go_wp2
  go_end0
  exact ⟨rfl, rfl⟩
set_option maxRecDepth 100000 in
theorem guardInts_fails (bo be : Nat) (c : Int) (x y : Value) (w : World) (h1 : w.cell? ⟨bo, 0, none⟩ = some x) (h2 : w.cell? ⟨be, 0, none⟩ = some y) (hf1 : w.frozen? ⟨bo, 0, none⟩ = false) (hf2 : w.frozen? ⟨be, 0, none⟩ = false) (hne : ¬ bo = be) :
    CallsD Tryd.prog 57 #[.pointer (some ⟨bo, 0, none⟩), .pointer (some ⟨be, 0, none⟩)] (.panicking (failE c)) w fun e u' w' => u' = .panicking [{ v := failV c, recovered := true }] ∧ (e = .returned (.tuple #[]) ∧
      (((w.setCell ⟨bo, 0, none⟩ (.slice none 0 0)).setCell ⟨be, 0, none⟩ (.int .i64 c)).alloc (.cells #[.int .i64 c] 113)).drew = w') := by
  have hb1 := World.block_lt_of_cell? w _ h1
  have hb2 := World.block_lt_of_cell? w _ h2
  simp only [] at hb1 hb2
  have hu113 := Tryd.underlying113
  have hta : ∀ (v : Value) (W : World), (Instr.typeAssert (.iface 113 v) 20 113 true).run Tryd.prog W = .ok (.tuple #[v, .bool true]) W := fun v W => by rfl
  have hbo : ¬ bo = w.heap.size := by omega
  have hbe : ¬ be = w.heap.size := by omega
  have hbo' : ¬ w.heap.size = bo := by omega
  have hbe' : ¬ w.heap.size = be := by omega
  have hne' : ¬ be = bo := fun e => hne e.symm
  refine callsD_of_recover Tryd.func57 rfl ?_
  simp only [failE, failV, recovers, Tryd.ntmps57, List.size_toArray, List.length_cons, List.length_nil, Nat.reduceAdd, Nat.reduceSub, Array.replicate_succ, Array.replicate_zero, List.push_toArray, List.append_toArray, List.nil_append, List.cons_append, List.setIfInBounds_toArray, List.set_cons_zero, List.set_cons_succ]
  go_wp2
  go_region
  all_goals go_end0
  all_goals exact ⟨rfl, rfl⟩

theorem guardInt_idle (po pe : Addr) (w : World) :
    CallsD Tryd.prog 61 #[.pointer (some po), .pointer (some pe)] .returning w fun e u' w' => u' = .returning ∧ (e = .returned (.tuple #[]) ∧ w = w') := by
  refine callsD_of_recover Tryd.func61 rfl ?_
  simp only [recovers, Tryd.ntmps61, List.size_toArray, List.length_cons, List.length_nil, Nat.reduceAdd, Nat.reduceSub, Array.replicate_succ, Array.replicate_zero, List.push_toArray, List.append_toArray, List.nil_append, List.cons_append, List.setIfInBounds_toArray, List.set_cons_zero, List.set_cons_succ]
  go_wp2
  go_end0
  exact ⟨rfl, rfl⟩
set_option maxRecDepth 100000 in
theorem guardInt_fails (bo be : Nat) (c : Int) (x y : Value) (w : World) (h1 : w.cell? ⟨bo, 0, none⟩ = some x) (h2 : w.cell? ⟨be, 0, none⟩ = some y) (hf1 : w.frozen? ⟨bo, 0, none⟩ = false) (hf2 : w.frozen? ⟨be, 0, none⟩ = false) (hne : ¬ bo = be) :
    CallsD Tryd.prog 61 #[.pointer (some ⟨bo, 0, none⟩), .pointer (some ⟨be, 0, none⟩)] (.panicking (failE c)) w fun e u' w' => u' = .panicking [{ v := failV c, recovered := true }] ∧ (e = .returned (.tuple #[]) ∧
      (((w.setCell ⟨bo, 0, none⟩ (.int .i64 0)).setCell ⟨be, 0, none⟩ (.int .i64 c)).alloc (.cells #[.int .i64 c] 113)).drew = w') := by
  have hb1 := World.block_lt_of_cell? w _ h1
  have hb2 := World.block_lt_of_cell? w _ h2
  simp only [] at hb1 hb2
  have hu113 := Tryd.underlying113
  have hta : ∀ (v : Value) (W : World), (Instr.typeAssert (.iface 113 v) 20 113 true).run Tryd.prog W = .ok (.tuple #[v, .bool true]) W := fun v W => by rfl
  have hbo : ¬ bo = w.heap.size := by omega
  have hbe : ¬ be = w.heap.size := by omega
  have hbo' : ¬ w.heap.size = bo := by omega
  have hbe' : ¬ w.heap.size = be := by omega
  have hne' : ¬ be = bo := fun e => hne e.symm
  refine callsD_of_recover Tryd.func61 rfl ?_
  simp only [failE, failV, recovers, Tryd.ntmps61, List.size_toArray, List.length_cons, List.length_nil, Nat.reduceAdd, Nat.reduceSub, Array.replicate_succ, Array.replicate_zero, List.push_toArray, List.append_toArray, List.nil_append, List.cons_append, List.setIfInBounds_toArray, List.set_cons_zero, List.set_cons_succ]
  go_wp2
  go_region
  all_goals go_end0
  all_goals exact ⟨rfl, rfl⟩

theorem guardBool_idle (po pe : Addr) (w : World) :
    CallsD Tryd.prog 69 #[.pointer (some po), .pointer (some pe)] .returning w fun e u' w' => u' = .returning ∧ (e = .returned (.tuple #[]) ∧ w = w') := by
  refine callsD_of_recover Tryd.func69 rfl ?_
  simp only [recovers, Tryd.ntmps69, List.size_toArray, List.length_cons, List.length_nil, Nat.reduceAdd, Nat.reduceSub, Array.replicate_succ, Array.replicate_zero, List.push_toArray, List.append_toArray, List.nil_append, List.cons_append, List.setIfInBounds_toArray, List.set_cons_zero, List.set_cons_succ]
  go_wp2
  go_end0
  exact ⟨rfl, rfl⟩
set_option maxRecDepth 100000 in
theorem guardBool_fails (bo be : Nat) (c : Int) (x y : Value) (w : World) (h1 : w.cell? ⟨bo, 0, none⟩ = some x) (h2 : w.cell? ⟨be, 0, none⟩ = some y) (hf1 : w.frozen? ⟨bo, 0, none⟩ = false) (hf2 : w.frozen? ⟨be, 0, none⟩ = false) (hne : ¬ bo = be) :
    CallsD Tryd.prog 69 #[.pointer (some ⟨bo, 0, none⟩), .pointer (some ⟨be, 0, none⟩)] (.panicking (failE c)) w fun e u' w' => u' = .panicking [{ v := failV c, recovered := true }] ∧ (e = .returned (.tuple #[]) ∧
      (((w.setCell ⟨bo, 0, none⟩ (.bool false)).setCell ⟨be, 0, none⟩ (.int .i64 c)).alloc (.cells #[.int .i64 c] 113)).drew = w') := by
  have hb1 := World.block_lt_of_cell? w _ h1
  have hb2 := World.block_lt_of_cell? w _ h2
  simp only [] at hb1 hb2
  have hu113 := Tryd.underlying113
  have hta : ∀ (v : Value) (W : World), (Instr.typeAssert (.iface 113 v) 20 113 true).run Tryd.prog W = .ok (.tuple #[v, .bool true]) W := fun v W => by rfl
  have hbo : ¬ bo = w.heap.size := by omega
  have hbe : ¬ be = w.heap.size := by omega
  have hbo' : ¬ w.heap.size = bo := by omega
  have hbe' : ¬ w.heap.size = be := by omega
  have hne' : ¬ be = bo := fun e => hne e.symm
  refine callsD_of_recover Tryd.func69 rfl ?_
  simp only [failE, failV, recovers, Tryd.ntmps69, List.size_toArray, List.length_cons, List.length_nil, Nat.reduceAdd, Nat.reduceSub, Array.replicate_succ, Array.replicate_zero, List.push_toArray, List.append_toArray, List.nil_append, List.cons_append, List.setIfInBounds_toArray, List.set_cons_zero, List.set_cons_succ]
  go_wp2
  go_region
  all_goals go_end0
  all_goals exact ⟨rfl, rfl⟩

theorem guardStr_idle (po pe : Addr) (w : World) :
    CallsD Tryd.prog 76 #[.pointer (some po), .pointer (some pe)] .returning w fun e u' w' => u' = .returning ∧ (e = .returned (.tuple #[]) ∧ w = w') := by
  refine callsD_of_recover Tryd.func76 rfl ?_
  simp only [recovers, Tryd.ntmps76, List.size_toArray, List.length_cons, List.length_nil, Nat.reduceAdd, Nat.reduceSub, Array.replicate_succ, Array.replicate_zero, List.push_toArray, List.append_toArray, List.nil_append, List.cons_append, List.setIfInBounds_toArray, List.set_cons_zero, List.set_cons_succ]
  go_wp2
  go_end0
  exact ⟨rfl, rfl⟩
set_option maxRecDepth 100000 in
theorem guardStr_fails (bo be : Nat) (c : Int) (x y : Value) (w : World) (h1 : w.cell? ⟨bo, 0, none⟩ = some x) (h2 : w.cell? ⟨be, 0, none⟩ = some y) (hf1 : w.frozen? ⟨bo, 0, none⟩ = false) (hf2 : w.frozen? ⟨be, 0, none⟩ = false) (hne : ¬ bo = be) :
    CallsD Tryd.prog 76 #[.pointer (some ⟨bo, 0, none⟩), .pointer (some ⟨be, 0, none⟩)] (.panicking (failE c)) w fun e u' w' => u' = .panicking [{ v := failV c, recovered := true }] ∧ (e = .returned (.tuple #[]) ∧
      (((w.setCell ⟨bo, 0, none⟩ (.string ⟨#[]⟩)).setCell ⟨be, 0, none⟩ (.int .i64 c)).alloc (.cells #[.int .i64 c] 113)).drew = w') := by
  have hb1 := World.block_lt_of_cell? w _ h1
  have hb2 := World.block_lt_of_cell? w _ h2
  simp only [] at hb1 hb2
  have hu113 := Tryd.underlying113
  have hta : ∀ (v : Value) (W : World), (Instr.typeAssert (.iface 113 v) 20 113 true).run Tryd.prog W = .ok (.tuple #[v, .bool true]) W := fun v W => by rfl
  have hbo : ¬ bo = w.heap.size := by omega
  have hbe : ¬ be = w.heap.size := by omega
  have hbo' : ¬ w.heap.size = bo := by omega
  have hbe' : ¬ w.heap.size = be := by omega
  have hne' : ¬ be = bo := fun e => hne e.symm
  refine callsD_of_recover Tryd.func76 rfl ?_
  simp only [failE, failV, recovers, Tryd.ntmps76, List.size_toArray, List.length_cons, List.length_nil, Nat.reduceAdd, Nat.reduceSub, Array.replicate_succ, Array.replicate_zero, List.push_toArray, List.append_toArray, List.nil_append, List.cons_append, List.setIfInBounds_toArray, List.set_cons_zero, List.set_cons_succ]
  go_wp2
  go_region
  all_goals go_end0
  all_goals exact ⟨rfl, rfl⟩

theorem guardDo_idle (po pe : Addr) (w : World) :
    CallsD Tryd.prog 66 #[.pointer (some po), .pointer (some pe)] .returning w fun e u' w' => u' = .returning ∧ (e = .returned (.tuple #[]) ∧ w = w') := by
  refine callsD_of_recover Tryd.func66 rfl ?_
  simp only [recovers, Tryd.ntmps66, List.size_toArray, List.length_cons, List.length_nil, Nat.reduceAdd, Nat.reduceSub, Array.replicate_succ, Array.replicate_zero, List.push_toArray, List.append_toArray, List.nil_append, List.cons_append, List.setIfInBounds_toArray, List.set_cons_zero, List.set_cons_succ]
  go_wp2
  go_end0
  exact ⟨rfl, rfl⟩
set_option maxHeartbeats 2000000 in
set_option maxRecDepth 100000 in
theorem guardDo_fails (bo be : Nat) (c : Int) (x0 x1 y : Value) (w : World) (h10 : w.cell? ⟨bo, 0, none⟩ = some x0) (h11 : w.cell? ⟨bo, 1, none⟩ = some x1) (h2 : w.cell? ⟨be, 0, none⟩ = some y)
    (hf10 : w.frozen? ⟨bo, 0, none⟩ = false) (hf11 : w.frozen? ⟨bo, 1, none⟩ = false) (hf2 : w.frozen? ⟨be, 0, none⟩ = false) (hne : ¬ bo = be) :
    CallsD Tryd.prog 66 #[.pointer (some ⟨bo, 0, none⟩), .pointer (some ⟨be, 0, none⟩)] (.panicking (failE c)) w fun e u' w' => u' = .panicking [{ v := failV c, recovered := true }] ∧ (e = .returned (.tuple #[]) ∧
      ((((((w.setCell ⟨bo, 0, none⟩ (.bool false)).setCell ⟨bo, 1, none⟩ (.slice none 0 0)).setCell ⟨be, 0, none⟩ (.int .i64 c)).alloc (.cells #[.int .i64 c] 113)).alloc (.cells #[.bool false, .slice none 0 0] 39))).drew = w') := by
  have hb1 := World.block_lt_of_cell? w _ h10
  have hb2 := World.block_lt_of_cell? w _ h2
  simp only [] at hb1 hb2
  have hu113 := Tryd.underlying113
  have hu39 := Tryd.underlying39
  have hta : ∀ (v : Value) (W : World), (Instr.typeAssert (.iface 113 v) 20 113 true).run Tryd.prog W = .ok (.tuple #[v, .bool true]) W := fun v W => by rfl
  have hbo : ¬ bo = w.heap.size := by omega
  have hbe : ¬ be = w.heap.size := by omega
  have hbo' : ¬ w.heap.size = bo := by omega
  have hbe' : ¬ w.heap.size = be := by omega
  have hbo1 : ¬ bo = w.heap.size + 1 := by omega
  have hbe1 : ¬ be = w.heap.size + 1 := by omega
  have hbo1' : ¬ w.heap.size + 1 = bo := by omega
  have hbe1' : ¬ w.heap.size + 1 = be := by omega
  have hne' : ¬ be = bo := fun e => hne e.symm
  refine callsD_of_recover Tryd.func66 rfl ?_
  simp only [failE, failV, recovers, Tryd.ntmps66, List.size_toArray, List.length_cons, List.length_nil, Nat.reduceAdd, Nat.reduceSub, Array.replicate_succ, Array.replicate_zero, List.push_toArray, List.append_toArray, List.nil_append, List.cons_append, List.setIfInBounds_toArray, List.set_cons_zero, List.set_cons_succ]
  go_wp2
  go_region
  all_goals go_end0
  all_goals exact ⟨rfl, rfl⟩
end Go.Proofs.YtgkebfeggekkgaaDoor.Given
