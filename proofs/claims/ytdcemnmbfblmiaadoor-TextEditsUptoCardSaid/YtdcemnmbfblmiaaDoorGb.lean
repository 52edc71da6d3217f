/- The contracts of package text's own failures (need, caught) and of what checks an edit (proper, dropped): each returns, or panics with a failure, as the plain functions say. -/
import Derived.Test.YtdcemnmbfblmiaaDoorGa
import Derived.Test.YtdcemnmbfblmiaaDoorRec
import Derived.RegionTactic
import Derived.BigRegion
import Derived.ChangeAlike
import Derived.Outline
set_option linter.unusedVariables false
set_option linter.unusedSimpArgs false
namespace Go.Proofs.YtdcemnmbfblmiaaDoor.Given
open Go.RowKit Go.Proofs.YtdcemnmbfblmiaaDoorW.PrintWords Go.Proofs.YtdcemnmbfblmiaaDoorW.PrintLast Go.Proofs.YtdcemnmbfblmiaaDoorW.PrintMore

/-- what 'need' panics with -/
def failV (c : Int) : Value := .iface 95 (.agg #[.int .i64 c])

theorem need_true (c : Int) (w : World) : Calls Tryd.prog 68 #[.bool true, .int .i64 c] w fun e w' => e = .returned (.tuple #[]) ∧ w = w' := by
  go_enter Tryd.func68, Tryd.ntmps68
  go_wp2
  go_end0
  exact ⟨rfl, rfl⟩
theorem need_false (c : Int) (w : World) : Calls Tryd.prog 68 #[.bool false, .int .i64 c] w fun e w' => e = .panicked [{ v := failV c, recovered := false }] ∧ w = w' := by
  have hu95 := Tryd.underlying95
  go_enter Tryd.func68, Tryd.ntmps68
  go_wp2
  exact ⟨rfl, rfl, rfl⟩

theorem caught_idle (po pe : Addr) (w : World) :
    CallsD Tryd.prog 66 #[.pointer (some po), .pointer (some pe)] .returning w fun e u' w' => u' = .returning ∧ (e = .returned (.tuple #[]) ∧ w = w') := by
  refine callsD_of_recover Tryd.func66 rfl ?_
  simp only [recovers, Tryd.ntmps66, List.size_toArray, List.length_cons, List.length_nil, Nat.reduceAdd, Nat.reduceSub, Array.replicate_succ, Array.replicate_zero, List.push_toArray, List.append_toArray, List.nil_append, List.cons_append, List.setIfInBounds_toArray, List.set_cons_zero, List.set_cons_succ]
  go_wp2
  go_end0
  exact ⟨rfl, rfl⟩
set_option maxRecDepth 100000 in
theorem caught_fails (bo be : Nat) (c : Int) (x y : Value) (w : World) (h1 : w.cell? ⟨bo, 0, none⟩ = some x) (h2 : w.cell? ⟨be, 0, none⟩ = some y) (hf1 : w.frozen? ⟨bo, 0, none⟩ = false) (hf2 : w.frozen? ⟨be, 0, none⟩ = false) (hne : ¬ bo = be) :
    CallsD Tryd.prog 66 #[.pointer (some ⟨bo, 0, none⟩), .pointer (some ⟨be, 0, none⟩)] (.panicking [{ v := failV c, recovered := false }]) w fun e u' w' => u' = .panicking [{ v := failV c, recovered := true }] ∧ (e = .returned (.tuple #[]) ∧
      (((w.setCell ⟨bo, 0, none⟩ (.string ⟨#[]⟩)).setCell ⟨be, 0, none⟩ (.int .i64 c)).alloc (.cells #[.int .i64 c] 95)).drew = w') := by
  have hb1 := World.block_lt_of_cell? w _ h1
  have hb2 := World.block_lt_of_cell? w _ h2
  simp only [] at hb1 hb2
  have hu95 := Tryd.underlying95
  have hta : ∀ (v : Value) (W : World), (Instr.typeAssert (.iface 95 v) 20 95 true).run Tryd.prog W = .ok (.tuple #[v, .bool true]) W := fun v W => by rfl
  have hbo : ¬ bo = w.heap.size := by omega
  have hbe : ¬ be = w.heap.size := by omega
  have hbo' : ¬ w.heap.size = bo := by omega
  have hbe' : ¬ w.heap.size = be := by omega
  have hne' : ¬ be = bo := fun e => hne e.symm
  refine callsD_of_recover Tryd.func66 rfl ?_
  simp only [failV, recovers, Tryd.ntmps66, List.size_toArray, List.length_cons, List.length_nil, Nat.reduceAdd, Nat.reduceSub, Array.replicate_succ, Array.replicate_zero, List.push_toArray, List.append_toArray, List.nil_append, List.cons_append, List.setIfInBounds_toArray, List.set_cons_zero, List.set_cons_succ]
  go_wp2
  go_region
  all_goals go_end0
  all_goals exact ⟨rfl, rfl⟩

theorem caughtE_idle (po pe : Addr) (w : World) :
    CallsD Tryd.prog 77 #[.pointer (some po), .pointer (some pe)] .returning w fun e u' w' => u' = .returning ∧ (e = .returned (.tuple #[]) ∧ w = w') := by
  refine callsD_of_recover Tryd.func77 rfl ?_
  simp only [recovers, Tryd.ntmps77, List.size_toArray, List.length_cons, List.length_nil, Nat.reduceAdd, Nat.reduceSub, Array.replicate_succ, Array.replicate_zero, List.push_toArray, List.append_toArray, List.nil_append, List.cons_append, List.setIfInBounds_toArray, List.set_cons_zero, List.set_cons_succ]
  go_wp2
  go_end0
  exact ⟨rfl, rfl⟩
set_option maxHeartbeats 2000000 in
set_option maxRecDepth 100000 in
theorem caughtE_fails (bo be : Nat) (c : Int) (x0 x1 x2 y : Value) (w : World) (h10 : w.cell? ⟨bo, 0, none⟩ = some x0) (h11 : w.cell? ⟨bo, 1, none⟩ = some x1) (h12 : w.cell? ⟨bo, 2, none⟩ = some x2) (h2 : w.cell? ⟨be, 0, none⟩ = some y)
    (hf10 : w.frozen? ⟨bo, 0, none⟩ = false) (hf11 : w.frozen? ⟨bo, 1, none⟩ = false) (hf12 : w.frozen? ⟨bo, 2, none⟩ = false) (hf2 : w.frozen? ⟨be, 0, none⟩ = false) (hne : ¬ bo = be) :
    CallsD Tryd.prog 77 #[.pointer (some ⟨bo, 0, none⟩), .pointer (some ⟨be, 0, none⟩)] (.panicking [{ v := failV c, recovered := false }]) w fun e u' w' => u' = .panicking [{ v := failV c, recovered := true }] ∧ (e = .returned (.tuple #[]) ∧
      (((((((w.setCell ⟨bo, 0, none⟩ (.int .i64 0)).setCell ⟨bo, 1, none⟩ (.int .i64 0)).setCell ⟨bo, 2, none⟩ (.string ⟨#[]⟩)).setCell ⟨be, 0, none⟩ (.int .i64 c)).alloc (.cells #[.int .i64 c] 95)).alloc (.cells #[.int .i64 0, .int .i64 0, .string ⟨#[]⟩] 47))).drew = w') := by
  have hb1 := World.block_lt_of_cell? w _ h10
  have hb2 := World.block_lt_of_cell? w _ h2
  simp only [] at hb1 hb2
  have hu95 := Tryd.underlying95
  have hu47 := Tryd.underlying47
  have hta : ∀ (v : Value) (W : World), (Instr.typeAssert (.iface 95 v) 20 95 true).run Tryd.prog W = .ok (.tuple #[v, .bool true]) W := fun v W => by rfl
  have hbo : ¬ bo = w.heap.size := by omega
  have hbe : ¬ be = w.heap.size := by omega
  have hbo' : ¬ w.heap.size = bo := by omega
  have hbe' : ¬ w.heap.size = be := by omega
  have hbo1 : ¬ bo = w.heap.size + 1 := by omega
  have hbe1 : ¬ be = w.heap.size + 1 := by omega
  have hbo1' : ¬ w.heap.size + 1 = bo := by omega
  have hbe1' : ¬ w.heap.size + 1 = be := by omega
  have hne' : ¬ be = bo := fun e => hne e.symm
  refine callsD_of_recover Tryd.func77 rfl ?_
  simp only [failV, recovers, Tryd.ntmps77, List.size_toArray, List.length_cons, List.length_nil, Nat.reduceAdd, Nat.reduceSub, Array.replicate_succ, Array.replicate_zero, List.push_toArray, List.append_toArray, List.nil_append, List.cons_append, List.setIfInBounds_toArray, List.set_cons_zero, List.set_cons_succ]
  go_wp2
  go_region
  all_goals go_end0
  all_goals exact ⟨rfl, rfl⟩
set_option maxRecDepth 100000 in
set_option maxHeartbeats 1000000 in
theorem proper_calls (a d : Int) (p : ByteArray) (w : World) :
    Calls Tryd.prog 78 #[.agg #[.int .i64 a, .int .i64 d, .string p]] w fun e w' => e = .returned (.bool (properE a d)) ∧ Below w.heap.size w w' := by
  have hu47 := Tryd.underlying47
  go_enter Tryd.func78, Tryd.ntmps78
  go_wp2
  all_goals go_ret
  all_goals refine ⟨?_, (Below.refl _ _).alloc (Nat.le_refl _) _⟩
  all_goals refine congrArg (fun b => Ending.returned (Value.bool b)) ?_
  all_goals (simp [properE, *]; try omega)

set_option maxRecDepth 100000 in
set_option maxHeartbeats 1000000 in
theorem dropped_arg (s : ByteArray) (a d : Int) (p : ByteArray) (w : World) (h : properE a d = false) :
    Calls Tryd.prog 75 #[.string s, .agg #[.int .i64 a, .int .i64 d, .string p]] w fun e w' => e = .panicked [{ v := failV 1, recovered := false }] ∧ Below w.heap.size w w' := by
  have hu47 := Tryd.underlying47
  go_enter Tryd.func75, Tryd.ntmps75
  go_wp2_with (first | (go_at_call 78; refine (proper_calls _ _ _ _).mono ?_; rintro e w1 ⟨rfl, hb⟩; rw [h]) | (go_at_call 68; refine (need_false _ _).mono ?_; rintro e w' ⟨rfl, rfl⟩))
  exact ⟨rfl, rfl, ((Below.refl _ _).alloc (Nat.le_refl _) _).trans (hb.mono (by simp))⟩
set_option maxRecDepth 100000 in
set_option maxHeartbeats 1000000 in
theorem dropped_range (s : ByteArray) (a d : Int) (p : ByteArray) (w : World) (h : properE a d = true) (hr : (s.size : Int) < a + d) :
    Calls Tryd.prog 75 #[.string s, .agg #[.int .i64 a, .int .i64 d, .string p]] w fun e w' => e = .panicked [{ v := failV 3, recovered := false }] ∧ Below w.heap.size w w' := by
  have hu47 := Tryd.underlying47
  have h0 : 0 ≤ a ∧ a ≤ 1048576 ∧ 0 ≤ d ∧ d ≤ 1048576 := by simp [properE] at h; omega
  obtain ⟨ha0, ha1, hd0, hd1⟩ := h0
  have hdec : decide (a + d ≤ (s.size : Int)) = false := decide_eq_false (by omega)
  go_enter Tryd.func75, Tryd.ntmps75
  go_wp2_with (first | (go_at_call 78; refine (proper_calls _ _ _ _).mono ?_; rintro e w1 ⟨rfl, hb⟩; rw [h]; have hc0 : w1.cell? ⟨w.heap.size, 0, none⟩ = some (.int .i64 a) := (hb.cell (p := ⟨w.heap.size, 0, none⟩) (by simp)).trans (by simp [go_sem]); have hc1 : w1.cell? ⟨w.heap.size, 1, none⟩ = some (.int .i64 d) := (hb.cell (p := ⟨w.heap.size, 1, none⟩) (by simp)).trans (by simp [go_sem])) | (go_at_call 68; (with_reducible refine (need_true _ _).mono ?_); rintro e w' ⟨rfl, rfl⟩) | (go_at_call 68; (with_reducible refine (need_false _ _).mono ?_); rintro e w' ⟨rfl, rfl⟩))
  exact ⟨rfl, rfl, ((Below.refl _ _).alloc (Nat.le_refl _) _).trans (hb.mono (by simp))⟩
set_option maxRecDepth 100000 in
set_option maxHeartbeats 1000000 in
theorem dropped_ok (s : ByteArray) (a d : Int) (p : ByteArray) (w : World) (h : properE a d = true) (hr : a + d ≤ (s.size : Int)) :
    Calls Tryd.prog 75 #[.string s, .agg #[.int .i64 a, .int .i64 d, .string p]] w fun e w' => e = .returned (.string (s.extract a.toNat (a + d).toNat)) ∧ Below w.heap.size w w' := by
  have hu47 := Tryd.underlying47
  have h0 : 0 ≤ a ∧ a ≤ 1048576 ∧ 0 ≤ d ∧ d ≤ 1048576 := by simp [properE] at h; omega
  obtain ⟨ha0, ha1, hd0, hd1⟩ := h0
  have hdec : decide (a + d ≤ (s.size : Int)) = true := decide_eq_true (by omega)
  go_enter Tryd.func75, Tryd.ntmps75
  go_wp2_with (first | (go_at_call 78; refine (proper_calls _ _ _ _).mono ?_; rintro e w1 ⟨rfl, hb⟩; rw [h]; have hc0 : w1.cell? ⟨w.heap.size, 0, none⟩ = some (.int .i64 a) := (hb.cell (p := ⟨w.heap.size, 0, none⟩) (by simp)).trans (by simp [go_sem]); have hc1 : w1.cell? ⟨w.heap.size, 1, none⟩ = some (.int .i64 d) := (hb.cell (p := ⟨w.heap.size, 1, none⟩) (by simp)).trans (by simp [go_sem])) | (go_at_call 68; (with_reducible refine (need_true _ _).mono ?_); rintro e w' ⟨rfl, rfl⟩) | (go_at_call 68; (with_reducible refine (need_false _ _).mono ?_); rintro e w' ⟨rfl, rfl⟩))
  go_ret
  exact ⟨rfl, ((Below.refl _ _).alloc (Nat.le_refl _) _).trans (hb.mono (by simp))⟩
end Go.Proofs.YtdcemnmbfblmiaaDoor.Given
