-- Written by a program of mine (wip/print_given.sh: the kit's print, changed so that some functions are given by contracts).
import Derived.Test.YtgkebfeggekkgaaDoorPTx0
import Derived.Recover
import Derived.Defers
import Derived.WalkKit
import Derived.RegionTactic
import Derived.BigRegion
import Derived.ChangeAlike
import Derived.Outline
section
namespace Go.Proofs.YtgkebfeggekkgaaDoor.PT
open Go.RowKit Go.Proofs.YtgkebfeggekkgaaDoor.Given Go.Proofs.YtgkebfeggekkgaaDoorW.PrintWords Go.Proofs.YtgkebfeggekkgaaDoorW.PrintLast Go.Proofs.YtgkebfeggekkgaaDoorW.PrintMore
attribute [local go_sem] max2_int min2_int max_two min_two max_three min_three max_four min_four   -- for this text's walks alone
set_option linter.unusedVariables false
set_option linter.unusedSimpArgs false

/-! ### mjolnerlaw09_ints: function 28 -/
def mjolnerlaw09_ints.l0 : Nat → List Int → List Int → Int → Option (Bool)
  | 0, _, _, _ => none
  | k + 1, x0, x1, x5 => if x5 < (x0.length : Int) then (if 0 ≤ x5 then (if x5 < (x1.length : Int) then (if (rd x0 x5) = (rd x1 x5) then (mjolnerlaw09_ints.l0 k x0 x1 (wrap64 (x5 + 1))) else (some false)) else (none)) else (none)) else (some true)
def mjolnerlaw09_ints.f (k : Nat) (l0 : List Int) (l1 : List Int) : Option (Bool) := if (l0.length : Int) = (l1.length : Int) then (mjolnerlaw09_ints.l0 k l0 l1 0) else (some false)
theorem mjolnerlaw09_ints.mono_l : ∀ k, (∀ y0 y1 y2, LeO (mjolnerlaw09_ints.l0 k y0 y1 y2) (mjolnerlaw09_ints.l0 (k + 1) y0 y1 y2))
  | 0 => fun _ _ _ r h => by simp [mjolnerlaw09_ints.l0] at h
  | k + 1 => by
    have ih0 := mjolnerlaw09_ints.mono_l k
    · intro y0 y1 y2
      unfold mjolnerlaw09_ints.l0
      repeat' first
      | (with_reducible exact ih0 _ _ _)
      | (with_reducible exact LeO.refl _)
      | (with_reducible exact LeO.none _)
      | (with_reducible refine LeO.ite ?_ ?_)
      | (with_reducible refine LeO.bind ?_ (fun _ => ?_))
      | exact ih0 _ _ _
      | exact LeO.none _
      | refine LeO.ite ?_ ?_
      | refine LeO.bind ?_ (fun _ => ?_)
theorem mjolnerlaw09_ints.mono : ∀ a0 a1 k, LeO (mjolnerlaw09_ints.f k a0 a1) (mjolnerlaw09_ints.f (k + 1) a0 a1) := by
  intro a0 a1 k
  have ih0 := mjolnerlaw09_ints.mono_l k
  unfold mjolnerlaw09_ints.f
  repeat' first
      | (with_reducible exact ih0 _ _ _)
      | (with_reducible exact LeO.refl _)
      | (with_reducible exact LeO.none _)
      | (with_reducible refine LeO.ite ?_ ?_)
      | (with_reducible refine LeO.bind ?_ (fun _ => ?_))
      | exact ih0 _ _ _
      | exact LeO.none _
      | refine LeO.ite ?_ ?_
      | refine LeO.bind ?_ (fun _ => ?_)
set_option maxHeartbeats 8000000 in
set_option maxRecDepth 100000 in
theorem mjolnerlaw09_ints.calls (k : Nat) (A0 : Option Addr) (c0 : Nat) (l0 : List Int) (A1 : Option Addr) (c1 : Nat) (l1 : List Int) (r : Bool) (w : World) (hr0 : Kd.C (Kd.int .i64) w A0 l0.length l0) (hc0 : l0.length ≤ c0) (hr1 : Kd.C (Kd.int .i64) w A1 l1.length l1) (hc1 : l1.length ≤ c1) (h : mjolnerlaw09_ints.f k l0 l1 = some r) :
    Calls Tryd.prog 28 #[.slice A0 l0.length c0, .slice A1 l1.length c1] w fun e w' => e = .returned (.bool r) ∧ Drawn0 w w' := by
  have HR0 := Aside0.mk hr0
  have HC0 := Aside0.mk hc0
  clear hr0 hc0
  have HR1 := Aside0.mk hr1
  have HC1 := Aside0.mk hc1
  clear hr1 hc1
  have H : (if (l0.length : Int) = (l1.length : Int) then (mjolnerlaw09_ints.l0 k l0 l1 0) else (some false)) = some r := h
  clear h
  by_cases c3 : (l0.length : Int) = (l1.length : Int)
  · rw [if_pos c3] at H
    have c3b0 : ((l0.length : Int) == (l1.length : Int)) = true := beq_iff_eq.mpr c3
    have c3b1 : ((l0.length : Int) != (l1.length : Int)) = false := bne_eq_false_iff_eq.mpr c3
    have c3b2 : (l0.length == l1.length) = true := by first | simpa using c3 | (simp at c3 ⊢; omega)
    clear c3
    have H' := Aside0.mk H
    clear H
    go_enter Tryd.func28, Tryd.ntmps28
    go_wp2
    repeat (go_quiet (fail); try go_wp2)
    go_loopg [5] k (fun kq v5 w' => ∃ (x5_1 : Int), v5 = .int .i64 x5_1 ∧ Aside0 (mjolnerlaw09_ints.l0 kq l0 l1 x5_1 = some r) ∧ Aside0 (kq ≤ k) ∧ Drawn0 w w')
    case atStart => exact ⟨(0), (by first | rfl | (simp; done) | (simp [*]; done)), H', ⟨Nat.le_refl _⟩, by repeat (first | exact Drawn0.refl _ | apply Drawn0.step)⟩
    case round =>
      clear H'
      try clear c1
      try clear c2
      try clear p2
      try clear c3
      try clear c3b0
      try clear c3b1
      try clear c3b2
      obtain ⟨x5_1, rfl, HA, HK1, ⟨m1, rfl⟩⟩ := hrel
      cases gk with
      | zero => exact absurd HA.out (by simp [mjolnerlaw09_ints.l0])
      | succ k1 =>
        have H := HA.out
        clear HA
        simp only [mjolnerlaw09_ints.l0] at H
        by_cases c4 : x5_1 < (l0.length : Int)
        · rw [if_pos c4] at H
          have c4b0 : decide (x5_1 < (l0.length : Int)) = true := decide_eq_true c4
          clear c4
          by_cases c5 : 0 ≤ x5_1
          · rw [if_pos c5] at H
            have c5b0 : decide (0 ≤ x5_1) = true := decide_eq_true c5
            clear c5
            by_cases c6 : x5_1 < (l1.length : Int)
            · rw [if_pos c6] at H
              have c6b0 : decide (x5_1 < (l1.length : Int)) = true := decide_eq_true c6
              clear c6
              by_cases c7 : (rd l0 x5_1) = (rd l1 x5_1)
              · rw [if_pos c7] at H
                have c7b0 : ((rd l0 x5_1) == (rd l1 x5_1)) = true := beq_iff_eq.mpr c7
                have c7b1 : ((rd l0 x5_1) != (rd l1 x5_1)) = false := bne_eq_false_iff_eq.mpr c7
                clear c7
                have H' := Aside0.mk H
                clear H
                have p111 : 0 ≤ (x5_1 : Int) := of_decide_eq_true (by first | (with_reducible assumption) | assumption)
                have q111 : x5_1 < (l0.length : Int) := of_decide_eq_true (by first | (with_reducible assumption) | assumption)
                obtain ⟨ad111, e111, hx111_0⟩ := Kd.at_int HR0.out x5_1 p111 q111
                cases e111
                replace p111 := eq_true p111
                replace q111 := eq_true q111
                have p112 : 0 ≤ (x5_1 : Int) := of_decide_eq_true (by first | (with_reducible assumption) | assumption)
                have q112 : x5_1 < (l1.length : Int) := of_decide_eq_true (by first | (with_reducible assumption) | assumption)
                obtain ⟨ad112, e112, hx112_0⟩ := Kd.at_int HR1.out x5_1 p112 q112
                cases e112
                replace p112 := eq_true p112
                replace q112 := eq_true q112
                go_wp2
                repeat (go_quiet (fail); try go_wp2)
                go_roundg k1
                case measure => have := HK1.out; omega
                case rel => exact ⟨(wrap64 (x5_1 + 1)), (by first | rfl | (simp; done) | (simp [*]; done)), H', ⟨by have := HK1.out; omega⟩, by repeat (first | exact Drawn0.refl _ | apply Drawn0.step)⟩
              · rw [if_neg c7] at H
                have c7b0 : ((rd l0 x5_1) == (rd l1 x5_1)) = false := beq_eq_false_iff_ne.mpr c7
                have c7b1 : ((rd l0 x5_1) != (rd l1 x5_1)) = true := bne_iff_ne.mpr c7
                obtain rfl := Option.some.inj H
                have p111 : 0 ≤ (x5_1 : Int) := of_decide_eq_true (by first | (with_reducible assumption) | assumption)
                have q111 : x5_1 < (l0.length : Int) := of_decide_eq_true (by first | (with_reducible assumption) | assumption)
                obtain ⟨ad111, e111, hx111_0⟩ := Kd.at_int HR0.out x5_1 p111 q111
                cases e111
                replace p111 := eq_true p111
                replace q111 := eq_true q111
                have p112 : 0 ≤ (x5_1 : Int) := of_decide_eq_true (by first | (with_reducible assumption) | assumption)
                have q112 : x5_1 < (l1.length : Int) := of_decide_eq_true (by first | (with_reducible assumption) | assumption)
                obtain ⟨ad112, e112, hx112_0⟩ := Kd.at_int HR1.out x5_1 p112 q112
                cases e112
                replace p112 := eq_true p112
                replace q112 := eq_true q112
                go_wp2
                repeat (go_quiet (fail); try go_wp2)
                go_ret
                exact ⟨by first | rfl | (simp; done) | (simp [*]; done), by repeat (first | exact Drawn0.refl _ | apply Drawn0.step)⟩
            · rw [if_neg c6] at H
              exact absurd H (by simp)
          · rw [if_neg c5] at H
            exact absurd H (by simp)
        · rw [if_neg c4] at H
          have c4b0 : decide (x5_1 < (l0.length : Int)) = false := decide_eq_false c4
          clear c4
          obtain rfl := Option.some.inj H
          go_wp2
          repeat (go_quiet (fail); try go_wp2)
          go_ret
          exact ⟨by first | rfl | (simp; done) | (simp [*]; done), by repeat (first | exact Drawn0.refl _ | apply Drawn0.step)⟩
  · rw [if_neg c3] at H
    have c3b0 : ((l0.length : Int) == (l1.length : Int)) = false := beq_eq_false_iff_ne.mpr c3
    have c3b1 : ((l0.length : Int) != (l1.length : Int)) = true := bne_iff_ne.mpr c3
    have c3b2 : (l0.length == l1.length) = false := by first | simpa using c3 | (simp at c3 ⊢; omega)
    obtain rfl := Option.some.inj H
    go_enter Tryd.func28, Tryd.ntmps28
    go_wp2
    repeat (go_quiet (fail); try go_wp2)
    go_ret
    exact ⟨by first | rfl | (simp; done) | (simp [*]; done), by repeat (first | exact Drawn0.refl _ | apply Drawn0.step)⟩

end Go.Proofs.YtgkebfeggekkgaaDoor.PT
end
section
/- A deferred function whose first operation is recover, and which recovers nothing later: its contract out of one walk of the rest of its body. No program is named. -/
set_option linter.unusedVariables false
set_option linter.unusedSimpArgs false
namespace Go.Proofs.YtgkebfeggekkgaaDoor.Given
open Go Go.RowKit

/-- what recover hands back in a frame's mode, and the mode behind it -/
def recovers : FrameMode → Value × FrameMode
  | .panicking ({ v, recovered := false, goexit := false } :: older) => (v, .panicking ({ v, recovered := true } :: older))
  | u => (.nilIface, u)

theorem recovers_of {c : Frame} {cs : List Frame} : recoverD (c :: cs) = none ∧ recovers c.mode = (.nilIface, c.mode) ∨
    ∃ v u', recoverD (c :: cs) = some (v, { c with mode := u' } :: cs) ∧ recovers c.mode = (v, u') := by
  obtain ⟨fn, tmps, todo, defers, mode, kind, ro⟩ := c
  have run : ∀ u : FrameMode, (∀ v older, u ≠ .panicking ({ v, recovered := false, goexit := false } :: older)) → recoverD (⟨fn, tmps, todo, defers, u, kind, ro⟩ :: cs) = none ∧ recovers u = (.nilIface, u) := by
    intro u hu
    unfold recoverD recovers
    constructor
    · simp only []
    · split
      · rename_i v older; exact absurd rfl (hu v older)
      · rfl
  by_cases h : ∃ v older, mode = .panicking ({ v, recovered := false, goexit := false } :: older)
  · obtain ⟨v, older, rfl⟩ := h
    exact .inr ⟨v, _, rfl, rfl⟩
  · exact .inl (run mode (fun v older e => h ⟨v, older, e⟩))

variable {P : Program}
theorem callsD_of_recover {f : FuncId} {fn : Func} {id d : Nat} {pos : String} {t : TypeId} {rest : Code} {args : Array Value} {u : FrameMode} {w : World} {R : Ending → World → Prop}
    (hf : P.funcs[f]? = some fn)
    (hb : fn.body = some (.seq (.region id #[{ dst := some d, op := .call { callee := .builtin .recover, args := #[], argTypes := #[] }, type := t, pos := pos, after := #[], guard := none }] false) rest))
    (h : rest.wp P (bodyPost P fn R) { tmps := (args ++ Array.replicate (fn.ntmps - args.size) undef).setIfInBounds d (recovers u).1, defers := [] } w) :
    CallsD P f args u w fun e u' w' => u' = (recovers u).2 ∧ R e w' := by
  refine callsD_of_wpS hf hb fun c₀ cs hu => ?_
  subst hu
  have key : ∀ (v : Value) (u' : FrameMode) , recovers c₀.mode = (v, u') → rest.wpS P (bodyPostS P fn c₀ cs fun e u' w' => u' = (recovers c₀.mode).2 ∧ R e w')
      { tmps := (args ++ Array.replicate (fn.ntmps - args.size) undef).setIfInBounds d (recovers c₀.mode).1, defers := [] } ({ c₀ with mode := u' } :: cs) w := by
    intro v u' hv
    refine wpS_of_wp (wp_mono h ?_)
    intro e a w' hq
    cases e with
    | normal => obtain ⟨hd, v', hr, hR⟩ := hq; exact ⟨hd, u', rfl, v', hr, by rw [hv], hR⟩
    | ret => obtain ⟨hd, v', hr, hR⟩ := hq; exact ⟨hd, u', rfl, v', hr, by rw [hv], hR⟩
    | panic chain => obtain ⟨hd, hR⟩ := hq; exact ⟨hd, u', rfl, by rw [hv], hR⟩
    | exit id => exact hq
    | goto l => exact hq
    | outgrown => exact ⟨_, rfl, hq⟩
  apply wpS_seq
  apply wpS_region
  rcases recovers_of (c := c₀) (cs := cs) with ⟨h1, h2⟩ | ⟨v, u', h1, h2⟩
  · have hc : ({ c₀ with mode := c₀.mode } : Frame) = c₀ := rfl
    have k := key _ _ h2
    rw [h2] at k
    simp [wpOpsS, go_sem, h1, Exit.thenS]
    rw [h2]
    exact k
  · have k := key _ _ h2
    rw [h2] at k
    simp [wpOpsS, go_sem, h1, Exit.thenS]
    rw [h2]
    exact k
end Go.Proofs.YtgkebfeggekkgaaDoor.Given
end
section
/- The contracts of package pattern's own failures: fail panics or does not; guard, deferred, does nothing when nothing has panicked, and when a failure has, stores its error and a zero. -/
set_option linter.unusedVariables false
set_option linter.unusedSimpArgs false
namespace Go.Proofs.YtgkebfeggekkgaaDoor.Given
open Go.RowKit Go.Proofs.YtgkebfeggekkgaaDoorW.PrintWords Go.Proofs.YtgkebfeggekkgaaDoorW.PrintLast Go.Proofs.YtgkebfeggekkgaaDoorW.PrintMore

/-- what 'fail' panics with -/
def failV (c : Int) : Value := .iface 113 (.agg #[.int .i64 c])
def failE (c : Int) : List PanicEntry := [{ v := failV c, recovered := false }]
theorem fail_false (c : Int) (w : World) : Calls Tryd.prog 51 #[.bool false, .int .i64 c] w fun e w' => e = .returned (.tuple #[]) ∧ w = w' := by
  go_enter Tryd.func51, Tryd.ntmps51
  go_wp2
  go_end0
  exact ⟨rfl, rfl⟩
theorem fail_true (c : Int) (w : World) : Calls Tryd.prog 51 #[.bool true, .int .i64 c] w fun e w' => e = .panicked (failE c) ∧ w = w' := by
  have hu113 := Tryd.underlying113
  go_enter Tryd.func51, Tryd.ntmps51
  go_wp2
  exact ⟨rfl, rfl, rfl⟩
theorem bcell {B : Nat} {W w1 : World} (hb : Below B W w1) {b o : Nat} (h : b < B) : w1.cell? ⟨b, o, none⟩ = W.cell? ⟨b, o, none⟩ := hb.cell (p := ⟨b, o, none⟩) h
theorem bfrozen {B : Nat} {W w1 : World} (hb : Below B W w1) {b o : Nat} (h : b < B) : w1.frozen? ⟨b, o, none⟩ = W.frozen? ⟨b, o, none⟩ := hb.frozen (p := ⟨b, o, none⟩) h

theorem guardPats_idle (po pe : Addr) (w : World) :
    CallsD Tryd.prog 49 #[.pointer (some po), .pointer (some pe)] .returning w fun e u' w' => u' = .returning ∧ (e = .returned (.tuple #[]) ∧ w = w') := by
  refine callsD_of_recover Tryd.func49 rfl ?_
  simp only [recovers, Tryd.ntmps49, List.size_toArray, List.length_cons, List.length_nil, Nat.reduceAdd, Nat.reduceSub, Array.replicate_succ, Array.replicate_zero, List.push_toArray, List.append_toArray, List.nil_append, List.cons_append, List.setIfInBounds_toArray, List.set_cons_zero, List.set_cons_succ]
  go_wp2
  go_end0
  exact ⟨rfl, rfl⟩
set_option maxRecDepth 100000 in
theorem guardPats_fails (bo be : Nat) (c : Int) (x y : Value) (w : World) (h1 : w.cell? ⟨bo, 0, none⟩ = some x) (h2 : w.cell? ⟨be, 0, none⟩ = some y) (hf1 : w.frozen? ⟨bo, 0, none⟩ = false) (hf2 : w.frozen? ⟨be, 0, none⟩ = false) (hne : ¬ bo = be) :
    CallsD Tryd.prog 49 #[.pointer (some ⟨bo, 0, none⟩), .pointer (some ⟨be, 0, none⟩)] (.panicking (failE c)) w fun e u' w' => u' = .panicking [{ v := failV c, recovered := true }] ∧ (e = .returned (.tuple #[]) ∧
      (((w.setCell ⟨bo, 0, none⟩ (.slice none 0 0)).setCell ⟨be, 0, none⟩ (.int .i64 c)).alloc (.cells #[.int .i64 c] 113)).drew = w') := by
  have hb1 := World.block_lt_of_cell? w _ h1
  have hb2 := World.block_lt_of_cell? w _ h2
  simp only [] at hb1 hb2
  have hu113 := Tryd.underlying113
  have hta : ∀ (v : Value) (W : World), (Instr.typeAssert (.iface 113 v) 20 113 true).run Tryd.prog W = .ok (.tuple #[v, .bool true]) W := fun v W => by rfl
  have hbo : ¬ bo = w.heap.size := by omega
  have hbe : ¬ be = w.heap.size := by omega
  have hbo' : ¬ w.heap.size = bo := by omega
  have hbe' : ¬ w.heap.size = be := by omega
  have hne' : ¬ be = bo := fun e => hne e.symm
  refine callsD_of_recover Tryd.func49 rfl ?_
  simp only [failE, failV, recovers, Tryd.ntmps49, List.size_toArray, List.length_cons, List.length_nil, Nat.reduceAdd, Nat.reduceSub, Array.replicate_succ, Array.replicate_zero, List.push_toArray, List.append_toArray, List.nil_append, List.cons_append, List.setIfInBounds_toArray, List.set_cons_zero, List.set_cons_succ]
  go_wp2
  go_region
  all_goals go_end0
  all_goals exact ⟨rfl, rfl⟩

theorem guardInts_idle (po pe : Addr) (w : World) :
    CallsD Tryd.prog 57 #[.pointer (some po), .pointer (some pe)] .returning w fun e u' w' => u' = .returning ∧ (e = .returned (.tuple #[]) ∧ w = w') := by
  refine callsD_of_recover Tryd.func57 rfl ?_
  simp only [recovers, Tryd.ntmps57, List.size_toArray, List.length_cons, List.length_nil, Nat.reduceAdd, Nat.reduceSub, Array.replicate_succ, Array.replicate_zero, List.push_toArray, List.append_toArray, List.nil_append, List.cons_append, List.setIfInBounds_toArray, List.set_cons_zero, List.set_cons_succ]
  go_wp2
  go_end0
  exact ⟨rfl, rfl⟩
set_option maxRecDepth 100000 in
theorem guardInts_fails (bo be : Nat) (c : Int) (x y : Value) (w : World) (h1 : w.cell? ⟨bo, 0, none⟩ = some x) (h2 : w.cell? ⟨be, 0, none⟩ = some y) (hf1 : w.frozen? ⟨bo, 0, none⟩ = false) (hf2 : w.frozen? ⟨be, 0, none⟩ = false) (hne : ¬ bo = be) :
    CallsD Tryd.prog 57 #[.pointer (some ⟨bo, 0, none⟩), .pointer (some ⟨be, 0, none⟩)] (.panicking (failE c)) w fun e u' w' => u' = .panicking [{ v := failV c, recovered := true }] ∧ (e = .returned (.tuple #[]) ∧
      (((w.setCell ⟨bo, 0, none⟩ (.slice none 0 0)).setCell ⟨be, 0, none⟩ (.int .i64 c)).alloc (.cells #[.int .i64 c] 113)).drew = w') := by
  have hb1 := World.block_lt_of_cell? w _ h1
  have hb2 := World.block_lt_of_cell? w _ h2
  simp only [] at hb1 hb2
  have hu113 := Tryd.underlying113
  have hta : ∀ (v : Value) (W : World), (Instr.typeAssert (.iface 113 v) 20 113 true).run Tryd.prog W = .ok (.tuple #[v, .bool true]) W := fun v W => by rfl
  have hbo : ¬ bo = w.heap.size := by omega
  have hbe : ¬ be = w.heap.size := by omega
  have hbo' : ¬ w.heap.size = bo := by omega
  have hbe' : ¬ w.heap.size = be := by omega
  have hne' : ¬ be = bo := fun e => hne e.symm
  refine callsD_of_recover Tryd.func57 rfl ?_
  simp only [failE, failV, recovers, Tryd.ntmps57, List.size_toArray, List.length_cons, List.length_nil, Nat.reduceAdd, Nat.reduceSub, Array.replicate_succ, Array.replicate_zero, List.push_toArray, List.append_toArray, List.nil_append, List.cons_append, List.setIfInBounds_toArray, List.set_cons_zero, List.set_cons_succ]
  go_wp2
  go_region
  all_goals go_end0
  all_goals exact ⟨rfl, rfl⟩

theorem guardInt_idle (po pe : Addr) (w : World) :
    CallsD Tryd.prog 61 #[.pointer (some po), .pointer (some pe)] .returning w fun e u' w' => u' = .returning ∧ (e = .returned (.tuple #[]) ∧ w = w') := by
  refine callsD_of_recover Tryd.func61 rfl ?_
  simp only [recovers, Tryd.ntmps61, List.size_toArray, List.length_cons, List.length_nil, Nat.reduceAdd, Nat.reduceSub, Array.replicate_succ, Array.replicate_zero, List.push_toArray, List.append_toArray, List.nil_append, List.cons_append, List.setIfInBounds_toArray, List.set_cons_zero, List.set_cons_succ]
  go_wp2
  go_end0
  exact ⟨rfl, rfl⟩
set_option maxRecDepth 100000 in
theorem guardInt_fails (bo be : Nat) (c : Int) (x y : Value) (w : World) (h1 : w.cell? ⟨bo, 0, none⟩ = some x) (h2 : w.cell? ⟨be, 0, none⟩ = some y) (hf1 : w.frozen? ⟨bo, 0, none⟩ = false) (hf2 : w.frozen? ⟨be, 0, none⟩ = false) (hne : ¬ bo = be) :
    CallsD Tryd.prog 61 #[.pointer (some ⟨bo, 0, none⟩), .pointer (some ⟨be, 0, none⟩)] (.panicking (failE c)) w fun e u' w' => u' = .panicking [{ v := failV c, recovered := true }] ∧ (e = .returned (.tuple #[]) ∧
      (((w.setCell ⟨bo, 0, none⟩ (.int .i64 0)).setCell ⟨be, 0, none⟩ (.int .i64 c)).alloc (.cells #[.int .i64 c] 113)).drew = w') := by
  have hb1 := World.block_lt_of_cell? w _ h1
  have hb2 := World.block_lt_of_cell? w _ h2
  simp only [] at hb1 hb2
  have hu113 := Tryd.underlying113
  have hta : ∀ (v : Value) (W : World), (Instr.typeAssert (.iface 113 v) 20 113 true).run Tryd.prog W = .ok (.tuple #[v, .bool true]) W := fun v W => by rfl
  have hbo : ¬ bo = w.heap.size := by omega
  have hbe : ¬ be = w.heap.size := by omega
  have hbo' : ¬ w.heap.size = bo := by omega
  have hbe' : ¬ w.heap.size = be := by omega
  have hne' : ¬ be = bo := fun e => hne e.symm
  refine callsD_of_recover Tryd.func61 rfl ?_
  simp only [failE, failV, recovers, Tryd.ntmps61, List.size_toArray, List.length_cons, List.length_nil, Nat.reduceAdd, Nat.reduceSub, Array.replicate_succ, Array.replicate_zero, List.push_toArray, List.append_toArray, List.nil_append, List.cons_append, List.setIfInBounds_toArray, List.set_cons_zero, List.set_cons_succ]
  go_wp2
  go_region
  all_goals go_end0
  all_goals exact ⟨rfl, rfl⟩

theorem guardBool_idle (po pe : Addr) (w : World) :
    CallsD Tryd.prog 69 #[.pointer (some po), .pointer (some pe)] .returning w fun e u' w' => u' = .returning ∧ (e = .returned (.tuple #[]) ∧ w = w') := by
  refine callsD_of_recover Tryd.func69 rfl ?_
  simp only [recovers, Tryd.ntmps69, List.size_toArray, List.length_cons, List.length_nil, Nat.reduceAdd, Nat.reduceSub, Array.replicate_succ, Array.replicate_zero, List.push_toArray, List.append_toArray, List.nil_append, List.cons_append, List.setIfInBounds_toArray, List.set_cons_zero, List.set_cons_succ]
  go_wp2
  go_end0
  exact ⟨rfl, rfl⟩
set_option maxRecDepth 100000 in
theorem guardBool_fails (bo be : Nat) (c : Int) (x y : Value) (w : World) (h1 : w.cell? ⟨bo, 0, none⟩ = some x) (h2 : w.cell? ⟨be, 0, none⟩ = some y) (hf1 : w.frozen? ⟨bo, 0, none⟩ = false) (hf2 : w.frozen? ⟨be, 0, none⟩ = false) (hne : ¬ bo = be) :
    CallsD Tryd.prog 69 #[.pointer (some ⟨bo, 0, none⟩), .pointer (some ⟨be, 0, none⟩)] (.panicking (failE c)) w fun e u' w' => u' = .panicking [{ v := failV c, recovered := true }] ∧ (e = .returned (.tuple #[]) ∧
      (((w.setCell ⟨bo, 0, none⟩ (.bool false)).setCell ⟨be, 0, none⟩ (.int .i64 c)).alloc (.cells #[.int .i64 c] 113)).drew = w') := by
  have hb1 := World.block_lt_of_cell? w _ h1
  have hb2 := World.block_lt_of_cell? w _ h2
  simp only [] at hb1 hb2
  have hu113 := Tryd.underlying113
  have hta : ∀ (v : Value) (W : World), (Instr.typeAssert (.iface 113 v) 20 113 true).run Tryd.prog W = .ok (.tuple #[v, .bool true]) W := fun v W => by rfl
  have hbo : ¬ bo = w.heap.size := by omega
  have hbe : ¬ be = w.heap.size := by omega
  have hbo' : ¬ w.heap.size = bo := by omega
  have hbe' : ¬ w.heap.size = be := by omega
  have hne' : ¬ be = bo := fun e => hne e.symm
  refine callsD_of_recover Tryd.func69 rfl ?_
  simp only [failE, failV, recovers, Tryd.ntmps69, List.size_toArray, List.length_cons, List.length_nil, Nat.reduceAdd, Nat.reduceSub, Array.replicate_succ, Array.replicate_zero, List.push_toArray, List.append_toArray, List.nil_append, List.cons_append, List.setIfInBounds_toArray, List.set_cons_zero, List.set_cons_succ]
  go_wp2
  go_region
  all_goals go_end0
  all_goals exact ⟨rfl, rfl⟩

theorem guardStr_idle (po pe : Addr) (w : World) :
    CallsD Tryd.prog 76 #[.pointer (some po), .pointer (some pe)] .returning w fun e u' w' => u' = .returning ∧ (e = .returned (.tuple #[]) ∧ w = w') := by
  refine callsD_of_recover Tryd.func76 rfl ?_
  simp only [recovers, Tryd.ntmps76, List.size_toArray, List.length_cons, List.length_nil, Nat.reduceAdd, Nat.reduceSub, Array.replicate_succ, Array.replicate_zero, List.push_toArray, List.append_toArray, List.nil_append, List.cons_append, List.setIfInBounds_toArray, List.set_cons_zero, List.set_cons_succ]
  go_wp2
  go_end0
  exact ⟨rfl, rfl⟩
set_option maxRecDepth 100000 in
theorem guardStr_fails (bo be : Nat) (c : Int) (x y : Value) (w : World) (h1 : w.cell? ⟨bo, 0, none⟩ = some x) (h2 : w.cell? ⟨be, 0, none⟩ = some y) (hf1 : w.frozen? ⟨bo, 0, none⟩ = false) (hf2 : w.frozen? ⟨be, 0, none⟩ = false) (hne : ¬ bo = be) :
    CallsD Tryd.prog 76 #[.pointer (some ⟨bo, 0, none⟩), .pointer (some ⟨be, 0, none⟩)] (.panicking (failE c)) w fun e u' w' => u' = .panicking [{ v := failV c, recovered := true }] ∧ (e = .returned (.tuple #[]) ∧
      (((w.setCell ⟨bo, 0, none⟩ (.string ⟨#[]⟩)).setCell ⟨be, 0, none⟩ (.int .i64 c)).alloc (.cells #[.int .i64 c] 113)).drew = w') := by
  have hb1 := World.block_lt_of_cell? w _ h1
  have hb2 := World.block_lt_of_cell? w _ h2
  simp only [] at hb1 hb2
  have hu113 := Tryd.underlying113
  have hta : ∀ (v : Value) (W : World), (Instr.typeAssert (.iface 113 v) 20 113 true).run Tryd.prog W = .ok (.tuple #[v, .bool true]) W := fun v W => by rfl
  have hbo : ¬ bo = w.heap.size := by omega
  have hbe : ¬ be = w.heap.size := by omega
  have hbo' : ¬ w.heap.size = bo := by omega
  have hbe' : ¬ w.heap.size = be := by omega
  have hne' : ¬ be = bo := fun e => hne e.symm
  refine callsD_of_recover Tryd.func76 rfl ?_
  simp only [failE, failV, recovers, Tryd.ntmps76, List.size_toArray, List.length_cons, List.length_nil, Nat.reduceAdd, Nat.reduceSub, Array.replicate_succ, Array.replicate_zero, List.push_toArray, List.append_toArray, List.nil_append, List.cons_append, List.setIfInBounds_toArray, List.set_cons_zero, List.set_cons_succ]
  go_wp2
  go_region
  all_goals go_end0
  all_goals exact ⟨rfl, rfl⟩

theorem guardDo_idle (po pe : Addr) (w : World) :
    CallsD Tryd.prog 66 #[.pointer (some po), .pointer (some pe)] .returning w fun e u' w' => u' = .returning ∧ (e = .returned (.tuple #[]) ∧ w = w') := by
  refine callsD_of_recover Tryd.func66 rfl ?_
  simp only [recovers, Tryd.ntmps66, List.size_toArray, List.length_cons, List.length_nil, Nat.reduceAdd, Nat.reduceSub, Array.replicate_succ, Array.replicate_zero, List.push_toArray, List.append_toArray, List.nil_append, List.cons_append, List.setIfInBounds_toArray, List.set_cons_zero, List.set_cons_succ]
  go_wp2
  go_end0
  exact ⟨rfl, rfl⟩
set_option maxHeartbeats 2000000 in
set_option maxRecDepth 100000 in
theorem guardDo_fails (bo be : Nat) (c : Int) (x0 x1 y : Value) (w : World) (h10 : w.cell? ⟨bo, 0, none⟩ = some x0) (h11 : w.cell? ⟨bo, 1, none⟩ = some x1) (h2 : w.cell? ⟨be, 0, none⟩ = some y)
    (hf10 : w.frozen? ⟨bo, 0, none⟩ = false) (hf11 : w.frozen? ⟨bo, 1, none⟩ = false) (hf2 : w.frozen? ⟨be, 0, none⟩ = false) (hne : ¬ bo = be) :
    CallsD Tryd.prog 66 #[.pointer (some ⟨bo, 0, none⟩), .pointer (some ⟨be, 0, none⟩)] (.panicking (failE c)) w fun e u' w' => u' = .panicking [{ v := failV c, recovered := true }] ∧ (e = .returned (.tuple #[]) ∧
      ((((((w.setCell ⟨bo, 0, none⟩ (.bool false)).setCell ⟨bo, 1, none⟩ (.slice none 0 0)).setCell ⟨be, 0, none⟩ (.int .i64 c)).alloc (.cells #[.int .i64 c] 113)).alloc (.cells #[.bool false, .slice none 0 0] 39))).drew = w') := by
  have hb1 := World.block_lt_of_cell? w _ h10
  have hb2 := World.block_lt_of_cell? w _ h2
  simp only [] at hb1 hb2
  have hu113 := Tryd.underlying113
  have hu39 := Tryd.underlying39
  have hta : ∀ (v : Value) (W : World), (Instr.typeAssert (.iface 113 v) 20 113 true).run Tryd.prog W = .ok (.tuple #[v, .bool true]) W := fun v W => by rfl
  have hbo : ¬ bo = w.heap.size := by omega
  have hbe : ¬ be = w.heap.size := by omega
  have hbo' : ¬ w.heap.size = bo := by omega
  have hbe' : ¬ w.heap.size = be := by omega
  have hbo1 : ¬ bo = w.heap.size + 1 := by omega
  have hbe1 : ¬ be = w.heap.size + 1 := by omega
  have hbo1' : ¬ w.heap.size + 1 = bo := by omega
  have hbe1' : ¬ w.heap.size + 1 = be := by omega
  have hne' : ¬ be = bo := fun e => hne e.symm
  refine callsD_of_recover Tryd.func66 rfl ?_
  simp only [failE, failV, recovers, Tryd.ntmps66, List.size_toArray, List.length_cons, List.length_nil, Nat.reduceAdd, Nat.reduceSub, Array.replicate_succ, Array.replicate_zero, List.push_toArray, List.append_toArray, List.nil_append, List.cons_append, List.setIfInBounds_toArray, List.set_cons_zero, List.set_cons_succ]
  go_wp2
  go_region
  all_goals go_end0
  all_goals exact ⟨rfl, rfl⟩
end Go.Proofs.YtgkebfeggekkgaaDoor.Given
end
