/- A deferred function whose first operation is recover, and which recovers nothing later: its contract out of one walk of the rest of its body. No program is named. -/
import Derived.Recover
import Derived.Defers
import Derived.WalkKit
import Derived.Test.YtgkebfeggekkgaaDoorPTx0
import Derived.RegionTactic
import Derived.BigRegion
import Derived.ChangeAlike
import Derived.Outline
section
set_option linter.unusedVariables false
set_option linter.unusedSimpArgs false
namespace Go.Proofs.YtgkebfeggekkgaaDoor.Given
open Go Go.RowKit

/-- what recover hands back in a frame's mode, and the mode behind it -/
def recovers : FrameMode → Value × FrameMode
  | .panicking ({ v, recovered := false, goexit := false } :: older) => (v, .panicking ({ v, recovered := true } :: older))
  | u => (.nilIface, u)

theorem recovers_of {c : Frame} {cs : List Frame} : recoverD (c :: cs) = none ∧ recovers c.mode = (.nilIface, c.mode) ∨
    ∃ v u', recoverD (c :: cs) = some (v, { c with mode := u' } :: cs) ∧ recovers c.mode = (v, u') := by
  obtain ⟨fn, tmps, todo, defers, mode, kind, ro⟩ := c
  have run : ∀ u : FrameMode, (∀ v older, u ≠ .panicking ({ v, recovered := false, goexit := false } :: older)) → recoverD (⟨fn, tmps, todo, defers, u, kind, ro⟩ :: cs) = none ∧ recovers u = (.nilIface, u) := by
    intro u hu
    unfold recoverD recovers
    constructor
    · simp only []
    · split
      · rename_i v older; exact absurd rfl (hu v older)
      · rfl
  by_cases h : ∃ v older, mode = .panicking ({ v, recovered := false, goexit := false } :: older)
  · obtain ⟨v, older, rfl⟩ := h
    exact .inr ⟨v, _, rfl, rfl⟩
  · exact .inl (run mode (fun v older e => h ⟨v, older, e⟩))

variable {P : Program}
theorem callsD_of_recover {f : FuncId} {fn : Func} {id d : Nat} {pos : String} {t : TypeId} {rest : Code} {args : Array Value} {u : FrameMode} {w : World} {R : Ending → World → Prop}
    (hf : P.funcs[f]? = some fn)
    (hb : fn.body = some (.seq (.region id #[{ dst := some d, op := .call { callee := .builtin .recover, args := #[], argTypes := #[] }, type := t, pos := pos, after := #[], guard := none }] false) rest))
    (h : rest.wp P (bodyPost P fn R) { tmps := (args ++ Array.replicate (fn.ntmps - args.size) undef).setIfInBounds d (recovers u).1, defers := [] } w) :
    CallsD P f args u w fun e u' w' => u' = (recovers u).2 ∧ R e w' := by
  refine callsD_of_wpS hf hb fun c₀ cs hu => ?_
  subst hu
  have key : ∀ (v : Value) (u' : FrameMode) , recovers c₀.mode = (v, u') → rest.wpS P (bodyPostS P fn c₀ cs fun e u' w' => u' = (recovers c₀.mode).2 ∧ R e w')
      { tmps := (args ++ Array.replicate (fn.ntmps - args.size) undef).setIfInBounds d (recovers c₀.mode).1, defers := [] } ({ c₀ with mode := u' } :: cs) w := by
    intro v u' hv
    refine wpS_of_wp (wp_mono h ?_)
    intro e a w' hq
    cases e with
    | normal => obtain ⟨hd, v', hr, hR⟩ := hq; exact ⟨hd, u', rfl, v', hr, by rw [hv], hR⟩
    | ret => obtain ⟨hd, v', hr, hR⟩ := hq; exact ⟨hd, u', rfl, v', hr, by rw [hv], hR⟩
    | panic chain => obtain ⟨hd, hR⟩ := hq; exact ⟨hd, u', rfl, by rw [hv], hR⟩
    | exit id => exact hq
    | goto l => exact hq
    | outgrown => exact ⟨_, rfl, hq⟩
  apply wpS_seq
  apply wpS_region
  rcases recovers_of (c := c₀) (cs := cs) with ⟨h1, h2⟩ | ⟨v, u', h1, h2⟩
  · have hc : ({ c₀ with mode := c₀.mode } : Frame) = c₀ := rfl
    have k := key _ _ h2
    rw [h2] at k
    simp [wpOpsS, go_sem, h1, Exit.thenS]
    rw [h2]
    exact k
  · have k := key _ _ h2
    rw [h2] at k
    simp [wpOpsS, go_sem, h1, Exit.thenS]
    rw [h2]
    exact k
end Go.Proofs.YtgkebfeggekkgaaDoor.Given
end
section
/- The contracts of package pattern's own failures: fail panics or does not; guard, deferred, does nothing when nothing has panicked, and when a failure has, stores its error and a zero. -/
set_option linter.unusedVariables false
set_option linter.unusedSimpArgs false
namespace Go.Proofs.YtgkebfeggekkgaaDoor.Given
open Go.RowKit Go.Proofs.YtgkebfeggekkgaaDoorW.PrintWords Go.Proofs.YtgkebfeggekkgaaDoorW.PrintLast Go.Proofs.YtgkebfeggekkgaaDoorW.PrintMore

/-- what 'fail' panics with -/
def failV (c : Int) : Value := .iface 113 (.agg #[.int .i64 c])
def failE (c : Int) : List PanicEntry := [{ v := failV c, recovered := false }]
theorem fail_false (c : Int) (w : World) : Calls Tryd.prog 51 #[.bool false, .int .i64 c] w fun e w' => e = .returned (.tuple #[]) ∧ w = w' := by
  go_enter Tryd.func51, Tryd.ntmps51
  go_wp2
  go_end0
  exact ⟨rfl, rfl⟩
theorem fail_true (c : Int) (w : World) : Calls Tryd.prog 51 #[.bool true, .int .i64 c] w fun e w' => e = .panicked (failE c) ∧ w = w' := by
  have hu113 := Tryd.underlying113
  go_enter Tryd.func51, Tryd.ntmps51
  go_wp2
  exact ⟨rfl, rfl, rfl⟩
theorem bcell {B : Nat} {W w1 : World} (hb : Below B W w1) {b o : Nat} (h : b < B) : w1.cell? ⟨b, o, none⟩ = W.cell? ⟨b, o, none⟩ := hb.cell (p := ⟨b, o, none⟩) h
theorem bfrozen {B : Nat} {W w1 : World} (hb : Below B W w1) {b o : Nat} (h : b < B) : w1.frozen? ⟨b, o, none⟩ = W.frozen? ⟨b, o, none⟩ := hb.frozen (p := ⟨b, o, none⟩) h

theorem guardPats_idle (po pe : Addr) (w : World) :
    CallsD Tryd.prog 49 #[.pointer (some po), .pointer (some pe)] .returning w fun e u' w' => u' = .returning ∧ (e = .returned (.tuple #[]) ∧ w = w') := by
  refine callsD_of_recover Tryd.func49 rfl ?_
  simp only [recovers, Tryd.ntmps49, List.size_toArray, List.length_cons, List.length_nil, Nat.reduceAdd, Nat.reduceSub, Array.replicate_succ, Array.replicate_zero, List.push_toArray, List.append_toArray, List.nil_append, List.cons_append, List.setIfInBounds_toArray, List.set_cons_zero, List.set_cons_succ]
  go_wp2
  go_end0
  exact ⟨rfl, rfl⟩
set_option maxRecDepth 100000 in
theorem guardPats_fails (bo be : Nat) (c : Int) (x y : Value) (w : World) (h1 : w.cell? ⟨bo, 0, none⟩ = some x) (h2 : w.cell? ⟨be, 0, none⟩ = some y) (hf1 : w.frozen? ⟨bo, 0, none⟩ = false) (hf2 : w.frozen? ⟨be, 0, none⟩ = false) (hne : ¬ bo = be) :
    CallsD Tryd.prog 49 #[.pointer (some ⟨bo, 0, none⟩), .pointer (some ⟨be, 0, none⟩)] (.panicking (failE c)) w fun e u' w' => u' = .panicking [{ v := failV c, recovered := true }] ∧ (e = .returned (.tuple #[]) ∧
      (((w.setCell ⟨bo, 0, none⟩ (.slice none 0 0)).setCell ⟨be, 0, none⟩ (.int .i64 c)).alloc (.cells #[.int .i64 c] 113)).drew = w') := by
  have hb1 := World.block_lt_of_cell? w _ h1
  have hb2 := World.block_lt_of_cell? w _ h2
  simp only [] at hb1 hb2
  have hu113 := Tryd.underlying113
  have hta : ∀ (v : Value) (W : World), (Instr.typeAssert (.iface 113 v) 20 113 true).run Tryd.prog W = .ok (.tuple #[v, .bool true]) W := fun v W => by rfl
  have hbo : ¬ bo = w.heap.size := by omega
  have hbe : ¬ be = w.heap.size := by omega
  have hbo' : ¬ w.heap.size = bo := by omega
  have hbe' : ¬ w.heap.size = be := by omega
  have hne' : ¬ be = bo := fun e => hne e.symm
  refine callsD_of_recover Tryd.func49 rfl ?_
  simp only [failE, failV, recovers, Tryd.ntmps49, List.size_toArray, List.length_cons, List.length_nil, Nat.reduceAdd, Nat.reduceSub, Array.replicate_succ, Array.replicate_zero, List.push_toArray, List.append_toArray, List.nil_append, List.cons_append, List.setIfInBounds_toArray, List.set_cons_zero, List.set_cons_succ]
  go_wp2
  go_region
  all_goals go_end0
  all_goals exact ⟨rfl, rfl⟩

theorem guardInts_idle (po pe : Addr) (w : World) :
    CallsD Tryd.prog 57 #[.pointer (some po), .pointer (some pe)] .returning w fun e u' w' => u' = .returning ∧ (e = .returned (.tuple #[]) ∧ w = w') := by
  refine callsD_of_recover Tryd.func57 rfl ?_
  simp only [recovers, Tryd.ntmps57, List.size_toArray, List.length_cons, List.length_nil, Nat.reduceAdd, Nat.reduceSub, Array.replicate_succ, Array.replicate_zero, List.push_toArray, List.append_toArray, List.nil_append, List.cons_append, List.setIfInBounds_toArray, List.set_cons_zero, List.set_cons_succ]
  go_wp2
  go_end0
  exact ⟨rfl, rfl⟩
set_option maxRecDepth 100000 in
theorem guardInts_fails (bo be : Nat) (c : Int) (x y : Value) (w : World) (h1 : w.cell? ⟨bo, 0, none⟩ = some x) (h2 : w.cell? ⟨be, 0, none⟩ = some y) (hf1 : w.frozen? ⟨bo, 0, none⟩ = false) (hf2 : w.frozen? ⟨be, 0, none⟩ = false) (hne : ¬ bo = be) :
    CallsD Tryd.prog 57 #[.pointer (some ⟨bo, 0, none⟩), .pointer (some ⟨be, 0, none⟩)] (.panicking (failE c)) w fun e u' w' => u' = .panicking [{ v := failV c, recovered := true }] ∧ (e = .returned (.tuple #[]) ∧
      (((w.setCell ⟨bo, 0, none⟩ (.slice none 0 0)).setCell ⟨be, 0, none⟩ (.int .i64 c)).alloc (.cells #[.int .i64 c] 113)).drew = w') := by
  have hb1 := World.block_lt_of_cell? w _ h1
  have hb2 := World.block_lt_of_cell? w _ h2
  simp only [] at hb1 hb2
  have hu113 := Tryd.underlying113
  have hta : ∀ (v : Value) (W : World), (Instr.typeAssert (.iface 113 v) 20 113 true).run Tryd.prog W = .ok (.tuple #[v, .bool true]) W := fun v W => by rfl
  have hbo : ¬ bo = w.heap.size := by omega
  have hbe : ¬ be = w.heap.size := by omega
  have hbo' : ¬ w.heap.size = bo := by omega
  have hbe' : ¬ w.heap.size = be := by omega
  have hne' : ¬ be = bo := fun e => hne e.symm
  refine callsD_of_recover Tryd.func57 rfl ?_
  simp only [failE, failV, recovers, Tryd.ntmps57, List.size_toArray, List.length_cons, List.length_nil, Nat.reduceAdd, Nat.reduceSub, Array.replicate_succ, Array.replicate_zero, List.push_toArray, List.append_toArray, List.nil_append, List.cons_append, List.setIfInBounds_toArray, List.set_cons_zero, List.set_cons_succ]
  go_wp2
  go_region
  all_goals go_end0
  all_goals exact ⟨rfl, rfl⟩

theorem guardInt_idle (po pe : Addr) (w : World) :
    CallsD Tryd.prog 61 #[.pointer (some po), .pointer (some pe)] .returning w fun e u' w' => u' = .returning ∧ (e = .returned (.tuple #[]) ∧ w = w') := by
  refine callsD_of_recover Tryd.func61 rfl ?_
  simp only [recovers, Tryd.ntmps61, List.size_toArray, List.length_cons, List.length_nil, Nat.reduceAdd, Nat.reduceSub, Array.replicate_succ, Array.replicate_zero, List.push_toArray, List.append_toArray, List.nil_append, List.cons_append, List.setIfInBounds_toArray, List.set_cons_zero, List.set_cons_succ]
  go_wp2
  go_end0
  exact ⟨rfl, rfl⟩
set_option maxRecDepth 100000 in
theorem guardInt_fails (bo be : Nat) (c : Int) (x y : Value) (w : World) (h1 : w.cell? ⟨bo, 0, none⟩ = some x) (h2 : w.cell? ⟨be, 0, none⟩ = some y) (hf1 : w.frozen? ⟨bo, 0, none⟩ = false) (hf2 : w.frozen? ⟨be, 0, none⟩ = false) (hne : ¬ bo = be) :
    CallsD Tryd.prog 61 #[.pointer (some ⟨bo, 0, none⟩), .pointer (some ⟨be, 0, none⟩)] (.panicking (failE c)) w fun e u' w' => u' = .panicking [{ v := failV c, recovered := true }] ∧ (e = .returned (.tuple #[]) ∧
      (((w.setCell ⟨bo, 0, none⟩ (.int .i64 0)).setCell ⟨be, 0, none⟩ (.int .i64 c)).alloc (.cells #[.int .i64 c] 113)).drew = w') := by
  have hb1 := World.block_lt_of_cell? w _ h1
  have hb2 := World.block_lt_of_cell? w _ h2
  simp only [] at hb1 hb2
  have hu113 := Tryd.underlying113
  have hta : ∀ (v : Value) (W : World), (Instr.typeAssert (.iface 113 v) 20 113 true).run Tryd.prog W = .ok (.tuple #[v, .bool true]) W := fun v W => by rfl
  have hbo : ¬ bo = w.heap.size := by omega
  have hbe : ¬ be = w.heap.size := by omega
  have hbo' : ¬ w.heap.size = bo := by omega
  have hbe' : ¬ w.heap.size = be := by omega
  have hne' : ¬ be = bo := fun e => hne e.symm
  refine callsD_of_recover Tryd.func61 rfl ?_
  simp only [failE, failV, recovers, Tryd.ntmps61, List.size_toArray, List.length_cons, List.length_nil, Nat.reduceAdd, Nat.reduceSub, Array.replicate_succ, Array.replicate_zero, List.push_toArray, List.append_toArray, List.nil_append, List.cons_append, List.setIfInBounds_toArray, List.set_cons_zero, List.set_cons_succ]
  go_wp2
  go_region
  all_goals go_end0
  all_goals exact ⟨rfl, rfl⟩

theorem guardBool_idle (po pe : Addr) (w : World) :
    CallsD Tryd.prog 69 #[.pointer (some po), .pointer (some pe)] .returning w fun e u' w' => u' = .returning ∧ (e = .returned (.tuple #[]) ∧ w = w') := by
  refine callsD_of_recover Tryd.func69 rfl ?_
  simp only [recovers, Tryd.ntmps69, List.size_toArray, List.length_cons, List.length_nil, Nat.reduceAdd, Nat.reduceSub, Array.replicate_succ, Array.replicate_zero, List.push_toArray, List.append_toArray, List.nil_append, List.cons_append, List.setIfInBounds_toArray, List.set_cons_zero, List.set_cons_succ]
  go_wp2
  go_end0
  exact ⟨rfl, rfl⟩
set_option maxRecDepth 100000 in
theorem guardBool_fails (bo be : Nat) (c : Int) (x y : Value) (w : World) (h1 : w.cell? ⟨bo, 0, none⟩ = some x) (h2 : w.cell? ⟨be, 0, none⟩ = some y) (hf1 : w.frozen? ⟨bo, 0, none⟩ = false) (hf2 : w.frozen? ⟨be, 0, none⟩ = false) (hne : ¬ bo = be) :
    CallsD Tryd.prog 69 #[.pointer (some ⟨bo, 0, none⟩), .pointer (some ⟨be, 0, none⟩)] (.panicking (failE c)) w fun e u' w' => u' = .panicking [{ v := failV c, recovered := true }] ∧ (e = .returned (.tuple #[]) ∧
      (((w.setCell ⟨bo, 0, none⟩ (.bool false)).setCell ⟨be, 0, none⟩ (.int .i64 c)).alloc (.cells #[.int .i64 c] 113)).drew = w') := by
  have hb1 := World.block_lt_of_cell? w _ h1
  have hb2 := World.block_lt_of_cell? w _ h2
  simp only [] at hb1 hb2
  have hu113 := Tryd.underlying113
  have hta : ∀ (v : Value) (W : World), (Instr.typeAssert (.iface 113 v) 20 113 true).run Tryd.prog W = .ok (.tuple #[v, .bool true]) W := fun v W => by rfl
  have hbo : ¬ bo = w.heap.size := by omega
  have hbe : ¬ be = w.heap.size := by omega
  have hbo' : ¬ w.heap.size = bo := by omega
  have hbe' : ¬ w.heap.size = be := by omega
  have hne' : ¬ be = bo := fun e => hne e.symm
  refine callsD_of_recover Tryd.func69 rfl ?_
  simp only [failE, failV, recovers, Tryd.ntmps69, List.size_toArray, List.length_cons, List.length_nil, Nat.reduceAdd, Nat.reduceSub, Array.replicate_succ, Array.replicate_zero, List.push_toArray, List.append_toArray, List.nil_append, List.cons_append, List.setIfInBounds_toArray, List.set_cons_zero, List.set_cons_succ]
  go_wp2
  go_region
  all_goals go_end0
  all_goals exact ⟨rfl, rfl⟩

theorem guardStr_idle (po pe : Addr) (w : World) :
    CallsD Tryd.prog 76 #[.pointer (some po), .pointer (some pe)] .returning w fun e u' w' => u' = .returning ∧ (e = .returned (.tuple #[]) ∧ w = w') := by
  refine callsD_of_recover Tryd.func76 rfl ?_
  simp only [recovers, Tryd.ntmps76, List.size_toArray, List.length_cons, List.length_nil, Nat.reduceAdd, Nat.reduceSub, Array.replicate_succ, Array.replicate_zero, List.push_toArray, List.append_toArray, List.nil_append, List.cons_append, List.setIfInBounds_toArray, List.set_cons_zero, List.set_cons_succ]
  go_wp2
  go_end0
  exact ⟨rfl, rfl⟩
set_option maxRecDepth 100000 in
theorem guardStr_fails (bo be : Nat) (c : Int) (x y : Value) (w : World) (h1 : w.cell? ⟨bo, 0, none⟩ = some x) (h2 : w.cell? ⟨be, 0, none⟩ = some y) (hf1 : w.frozen? ⟨bo, 0, none⟩ = false) (hf2 : w.frozen? ⟨be, 0, none⟩ = false) (hne : ¬ bo = be) :
    CallsD Tryd.prog 76 #[.pointer (some ⟨bo, 0, none⟩), .pointer (some ⟨be, 0, none⟩)] (.panicking (failE c)) w fun e u' w' => u' = .panicking [{ v := failV c, recovered := true }] ∧ (e = .returned (.tuple #[]) ∧
      (((w.setCell ⟨bo, 0, none⟩ (.string ⟨#[]⟩)).setCell ⟨be, 0, none⟩ (.int .i64 c)).alloc (.cells #[.int .i64 c] 113)).drew = w') := by
  have hb1 := World.block_lt_of_cell? w _ h1
  have hb2 := World.block_lt_of_cell? w _ h2
  simp only [] at hb1 hb2
  have hu113 := Tryd.underlying113
  have hta : ∀ (v : Value) (W : World), (Instr.typeAssert (.iface 113 v) 20 113 true).run Tryd.prog W = .ok (.tuple #[v, .bool true]) W := fun v W => by rfl
  have hbo : ¬ bo = w.heap.size := by omega
  have hbe : ¬ be = w.heap.size := by omega
  have hbo' : ¬ w.heap.size = bo := by omega
  have hbe' : ¬ w.heap.size = be := by omega
  have hne' : ¬ be = bo := fun e => hne e.symm
  refine callsD_of_recover Tryd.func76 rfl ?_
  simp only [failE, failV, recovers, Tryd.ntmps76, List.size_toArray, List.length_cons, List.length_nil, Nat.reduceAdd, Nat.reduceSub, Array.replicate_succ, Array.replicate_zero, List.push_toArray, List.append_toArray, List.nil_append, List.cons_append, List.setIfInBounds_toArray, List.set_cons_zero, List.set_cons_succ]
  go_wp2
  go_region
  all_goals go_end0
  all_goals exact ⟨rfl, rfl⟩

theorem guardDo_idle (po pe : Addr) (w : World) :
    CallsD Tryd.prog 66 #[.pointer (some po), .pointer (some pe)] .returning w fun e u' w' => u' = .returning ∧ (e = .returned (.tuple #[]) ∧ w = w') := by
  refine callsD_of_recover Tryd.func66 rfl ?_
  simp only [recovers, Tryd.ntmps66, List.size_toArray, List.length_cons, List.length_nil, Nat.reduceAdd, Nat.reduceSub, Array.replicate_succ, Array.replicate_zero, List.push_toArray, List.append_toArray, List.nil_append, List.cons_append, List.setIfInBounds_toArray, List.set_cons_zero, List.set_cons_succ]
  go_wp2
  go_end0
  exact ⟨rfl, rfl⟩
set_option maxHeartbeats 2000000 in
set_option maxRecDepth 100000 in
theorem guardDo_fails (bo be : Nat) (c : Int) (x0 x1 y : Value) (w : World) (h10 : w.cell? ⟨bo, 0, none⟩ = some x0) (h11 : w.cell? ⟨bo, 1, none⟩ = some x1) (h2 : w.cell? ⟨be, 0, none⟩ = some y)
    (hf10 : w.frozen? ⟨bo, 0, none⟩ = false) (hf11 : w.frozen? ⟨bo, 1, none⟩ = false) (hf2 : w.frozen? ⟨be, 0, none⟩ = false) (hne : ¬ bo = be) :
    CallsD Tryd.prog 66 #[.pointer (some ⟨bo, 0, none⟩), .pointer (some ⟨be, 0, none⟩)] (.panicking (failE c)) w fun e u' w' => u' = .panicking [{ v := failV c, recovered := true }] ∧ (e = .returned (.tuple #[]) ∧
      ((((((w.setCell ⟨bo, 0, none⟩ (.bool false)).setCell ⟨bo, 1, none⟩ (.slice none 0 0)).setCell ⟨be, 0, none⟩ (.int .i64 c)).alloc (.cells #[.int .i64 c] 113)).alloc (.cells #[.bool false, .slice none 0 0] 39))).drew = w') := by
  have hb1 := World.block_lt_of_cell? w _ h10
  have hb2 := World.block_lt_of_cell? w _ h2
  simp only [] at hb1 hb2
  have hu113 := Tryd.underlying113
  have hu39 := Tryd.underlying39
  have hta : ∀ (v : Value) (W : World), (Instr.typeAssert (.iface 113 v) 20 113 true).run Tryd.prog W = .ok (.tuple #[v, .bool true]) W := fun v W => by rfl
  have hbo : ¬ bo = w.heap.size := by omega
  have hbe : ¬ be = w.heap.size := by omega
  have hbo' : ¬ w.heap.size = bo := by omega
  have hbe' : ¬ w.heap.size = be := by omega
  have hbo1 : ¬ bo = w.heap.size + 1 := by omega
  have hbe1 : ¬ be = w.heap.size + 1 := by omega
  have hbo1' : ¬ w.heap.size + 1 = bo := by omega
  have hbe1' : ¬ w.heap.size + 1 = be := by omega
  have hne' : ¬ be = bo := fun e => hne e.symm
  refine callsD_of_recover Tryd.func66 rfl ?_
  simp only [failE, failV, recovers, Tryd.ntmps66, List.size_toArray, List.length_cons, List.length_nil, Nat.reduceAdd, Nat.reduceSub, Array.replicate_succ, Array.replicate_zero, List.push_toArray, List.append_toArray, List.nil_append, List.cons_append, List.setIfInBounds_toArray, List.set_cons_zero, List.set_cons_succ]
  go_wp2
  go_region
  all_goals go_end0
  all_goals exact ⟨rfl, rfl⟩
end Go.Proofs.YtgkebfeggekkgaaDoor.Given
end
section
-- Written by a program of mine (wip/print_given.sh: the kit's print, changed so that some functions are given by contracts).
namespace Go.Proofs.YtgkebfeggekkgaaDoor.PT
open Go.RowKit Go.Proofs.YtgkebfeggekkgaaDoor.Given Go.Proofs.YtgkebfeggekkgaaDoorW.PrintWords Go.Proofs.YtgkebfeggekkgaaDoorW.PrintLast Go.Proofs.YtgkebfeggekkgaaDoorW.PrintMore
attribute [local go_sem] max2_int min2_int max_two min_two max_three min_three max_four min_four   -- for this text's walks alone
set_option linter.unusedVariables false
set_option linter.unusedSimpArgs false

theorem eqA31 (d : Nat) (w : World) (x0 y0 : Int) (x1 y1 : Int) (x2 y2 : Int) :
    (Op.equalIn (d + 2) 31 (.agg #[.int .i64 x0, .int .i64 x1, .int .i64 x2]) (.agg #[.int .i64 y0, .int .i64 y1, .int .i64 y2])).run Tryd.prog w = .ok (x0 == y0 && (x1 == y1 && (x2 == y2))) w := by
  refine eqA_of Tryd.underlying31 (by kernel_rfl) ?_
  refine eqf_cons (by rfl) (by go_simp; rfl) (by go_simp; rfl) (by go_simp) ?_
  refine eqf_cons (by rfl) (by go_simp; rfl) (by go_simp; rfl) (by go_simp) ?_
  exact eqf_last (by rfl) (by go_simp; rfl) (by go_simp; rfl) (by go_simp)
end Go.Proofs.YtgkebfeggekkgaaDoor.PT
end
