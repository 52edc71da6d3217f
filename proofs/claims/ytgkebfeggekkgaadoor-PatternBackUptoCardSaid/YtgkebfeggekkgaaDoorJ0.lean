-- Written by a program of mine (wip/print_given.sh: the kit's print, changed so that some functions are given by contracts).
import Derived.Test.YtgkebfeggekkgaaDoorPTx0
import Derived.Recover
import Derived.Defers
import Derived.WalkKit
section
namespace Go.Proofs.YtgkebfeggekkgaaDoor.PT
open Go.RowKit Go.Proofs.YtgkebfeggekkgaaDoor.Given Go.Proofs.YtgkebfeggekkgaaDoorW.PrintWords Go.Proofs.YtgkebfeggekkgaaDoorW.PrintLast Go.Proofs.YtgkebfeggekkgaaDoorW.PrintMore
attribute [local go_sem] max2_int min2_int max_two min_two max_three min_three max_four min_four   -- for this text's walks alone
set_option linter.unusedVariables false
set_option linter.unusedSimpArgs false

/-! ### mjolnerlaw09_short: function 47 -/
def mjolnerlaw09_short.l0 : Nat → List (S31) → Int → Option (Bool)
  | 0, _, _ => none
  | k + 1, x0, x3 => if x3 < (x0.length : Int) then (if 0 ≤ x3 then (if ((rd_T31 x0 x3).f0) ≥ 1000000000000000000 then (some false) else (if ((rd_T31 x0 x3).f1) ≥ 1000000000000000000 then (some false) else (if ((rd_T31 x0 x3).f2) ≥ 1000000000000000000 then (some false) else (mjolnerlaw09_short.l0 k x0 (wrap64 (x3 + 1)))))) else (none)) else (some true)
def mjolnerlaw09_short.f (k : Nat) (l0 : List (S31)) : Option (Bool) := mjolnerlaw09_short.l0 k l0 0
theorem mjolnerlaw09_short.mono_l : ∀ k, (∀ y0 y1, LeO (mjolnerlaw09_short.l0 k y0 y1) (mjolnerlaw09_short.l0 (k + 1) y0 y1))
  | 0 => fun _ _ r h => by simp [mjolnerlaw09_short.l0] at h
  | k + 1 => by
    have ih0 := mjolnerlaw09_short.mono_l k
    · intro y0 y1
      unfold mjolnerlaw09_short.l0
      repeat' first
      | (with_reducible exact ih0 _ _)
      | (with_reducible exact LeO.refl _)
      | (with_reducible exact LeO.none _)
      | (with_reducible refine LeO.ite ?_ ?_)
      | (with_reducible refine LeO.bind ?_ (fun _ => ?_))
      | exact ih0 _ _
      | exact LeO.none _
      | refine LeO.ite ?_ ?_
      | refine LeO.bind ?_ (fun _ => ?_)
theorem mjolnerlaw09_short.mono : ∀ a0 k, LeO (mjolnerlaw09_short.f k a0) (mjolnerlaw09_short.f (k + 1) a0) := by
  intro a0 k
  have ih0 := mjolnerlaw09_short.mono_l k
  unfold mjolnerlaw09_short.f
  repeat' first
      | (with_reducible exact ih0 _ _)
      | (with_reducible exact LeO.refl _)
      | (with_reducible exact LeO.none _)
      | (with_reducible refine LeO.ite ?_ ?_)
      | (with_reducible refine LeO.bind ?_ (fun _ => ?_))
      | exact ih0 _ _
      | exact LeO.none _
      | refine LeO.ite ?_ ?_
      | refine LeO.bind ?_ (fun _ => ?_)
set_option maxHeartbeats 8000000 in
set_option maxRecDepth 100000 in
theorem mjolnerlaw09_short.calls (k : Nat) (A0 : Option Addr) (c0 : Nat) (l0 : List (S31)) (r : Bool) (w : World) (hr0 : Kd.C k31 w A0 l0.length l0) (hc0 : l0.length ≤ c0) (h : mjolnerlaw09_short.f k l0 = some r) :
    Calls Tryd.prog 47 #[.slice A0 l0.length c0] w fun e w' => e = .returned (.bool r) ∧ Drawn0 w w' := by
  have HR0 := Aside0.mk hr0
  have HC0 := Aside0.mk hc0
  clear hr0 hc0
  have H : (mjolnerlaw09_short.l0 k l0 0) = some r := h
  clear h
  have H' := Aside0.mk H
  clear H
  go_enter Tryd.func47, Tryd.ntmps47
  go_wp2
  go_loopg [3] k (fun kq v3 w' => ∃ (x3_1 : Int), v3 = .int .i64 x3_1 ∧ Aside0 (mjolnerlaw09_short.l0 kq l0 x3_1 = some r) ∧ Aside0 (kq ≤ k) ∧ Drawn0 w w')
  case atStart => exact ⟨(0), (by first | rfl | (simp; done) | (simp [*]; done)), H', ⟨Nat.le_refl _⟩, by repeat (first | exact Drawn0.refl _ | apply Drawn0.step)⟩
  case round =>
    clear H'
    obtain ⟨x3_1, rfl, HA, HK1, ⟨m1, rfl⟩⟩ := hrel
    cases gk with
    | zero => exact absurd HA.out (by simp [mjolnerlaw09_short.l0])
    | succ k1 =>
      have H := HA.out
      clear HA
      simp only [mjolnerlaw09_short.l0] at H
      by_cases c2 : x3_1 < (l0.length : Int)
      · rw [if_pos c2] at H
        have c2b0 : decide (x3_1 < (l0.length : Int)) = true := decide_eq_true c2
        clear c2
        by_cases c3 : 0 ≤ x3_1
        · rw [if_pos c3] at H
          have c3b0 : decide (0 ≤ x3_1) = true := decide_eq_true c3
          clear c3
          by_cases c4 : ((rd_T31 l0 x3_1).f0) ≥ 1000000000000000000
          · rw [if_pos c4] at H
            have c4b0 : decide (1000000000000000000 ≤ ((rd_T31 l0 x3_1).f0)) = true := decide_eq_true c4
            clear c4
            obtain rfl := Option.some.inj H
            have p113 : 0 ≤ (x3_1 : Int) := of_decide_eq_true (by first | (with_reducible assumption) | assumption)
            have q113 : x3_1 < (l0.length : Int) := of_decide_eq_true (by first | (with_reducible assumption) | assumption)
            obtain ⟨ad113, e113, hx113_0, hx113_1, hx113_2⟩ := at_T31 HR0.out x3_1 p113 q113
            cases e113
            replace p113 := eq_true p113
            replace q113 := eq_true q113
            go_wp2
            go_ret
            exact ⟨by first | rfl | (simp; done) | (simp [*]; done), by repeat (first | exact Drawn0.refl _ | apply Drawn0.step)⟩
          · rw [if_neg c4] at H
            have c4b0 : decide (1000000000000000000 ≤ ((rd_T31 l0 x3_1).f0)) = false := decide_eq_false c4
            clear c4
            by_cases c5 : ((rd_T31 l0 x3_1).f1) ≥ 1000000000000000000
            · rw [if_pos c5] at H
              have c5b0 : decide (1000000000000000000 ≤ ((rd_T31 l0 x3_1).f1)) = true := decide_eq_true c5
              clear c5
              obtain rfl := Option.some.inj H
              have p113 : 0 ≤ (x3_1 : Int) := of_decide_eq_true (by first | (with_reducible assumption) | assumption)
              have q113 : x3_1 < (l0.length : Int) := of_decide_eq_true (by first | (with_reducible assumption) | assumption)
              obtain ⟨ad113, e113, hx113_0, hx113_1, hx113_2⟩ := at_T31 HR0.out x3_1 p113 q113
              cases e113
              replace p113 := eq_true p113
              replace q113 := eq_true q113
              have p114 : 0 ≤ (x3_1 : Int) := of_decide_eq_true (by first | (with_reducible assumption) | assumption)
              have q114 : x3_1 < (l0.length : Int) := of_decide_eq_true (by first | (with_reducible assumption) | assumption)
              obtain ⟨ad114, e114, hx114_0, hx114_1, hx114_2⟩ := at_T31 HR0.out x3_1 p114 q114
              obtain rfl : ad113 = ad114 := (by injection e114)
              replace p114 := eq_true p114
              replace q114 := eq_true q114
              go_wp2
              go_ret
              exact ⟨by first | rfl | (simp; done) | (simp [*]; done), by repeat (first | exact Drawn0.refl _ | apply Drawn0.step)⟩
            · rw [if_neg c5] at H
              have c5b0 : decide (1000000000000000000 ≤ ((rd_T31 l0 x3_1).f1)) = false := decide_eq_false c5
              clear c5
              by_cases c6 : ((rd_T31 l0 x3_1).f2) ≥ 1000000000000000000
              · rw [if_pos c6] at H
                have c6b0 : decide (1000000000000000000 ≤ ((rd_T31 l0 x3_1).f2)) = true := decide_eq_true c6
                clear c6
                obtain rfl := Option.some.inj H
                have p113 : 0 ≤ (x3_1 : Int) := of_decide_eq_true (by first | (with_reducible assumption) | assumption)
                have q113 : x3_1 < (l0.length : Int) := of_decide_eq_true (by first | (with_reducible assumption) | assumption)
                obtain ⟨ad113, e113, hx113_0, hx113_1, hx113_2⟩ := at_T31 HR0.out x3_1 p113 q113
                cases e113
                replace p113 := eq_true p113
                replace q113 := eq_true q113
                have p114 : 0 ≤ (x3_1 : Int) := of_decide_eq_true (by first | (with_reducible assumption) | assumption)
                have q114 : x3_1 < (l0.length : Int) := of_decide_eq_true (by first | (with_reducible assumption) | assumption)
                obtain ⟨ad114, e114, hx114_0, hx114_1, hx114_2⟩ := at_T31 HR0.out x3_1 p114 q114
                obtain rfl : ad113 = ad114 := (by injection e114)
                replace p114 := eq_true p114
                replace q114 := eq_true q114
                have p115 : 0 ≤ (x3_1 : Int) := of_decide_eq_true (by first | (with_reducible assumption) | assumption)
                have q115 : x3_1 < (l0.length : Int) := of_decide_eq_true (by first | (with_reducible assumption) | assumption)
                obtain ⟨ad115, e115, hx115_0, hx115_1, hx115_2⟩ := at_T31 HR0.out x3_1 p115 q115
                obtain rfl : ad113 = ad115 := (by injection e115)
                replace p115 := eq_true p115
                replace q115 := eq_true q115
                go_wp2
                go_ret
                exact ⟨by first | rfl | (simp; done) | (simp [*]; done), by repeat (first | exact Drawn0.refl _ | apply Drawn0.step)⟩
              · rw [if_neg c6] at H
                have c6b0 : decide (1000000000000000000 ≤ ((rd_T31 l0 x3_1).f2)) = false := decide_eq_false c6
                clear c6
                have H' := Aside0.mk H
                clear H
                have p113 : 0 ≤ (x3_1 : Int) := of_decide_eq_true (by first | (with_reducible assumption) | assumption)
                have q113 : x3_1 < (l0.length : Int) := of_decide_eq_true (by first | (with_reducible assumption) | assumption)
                obtain ⟨ad113, e113, hx113_0, hx113_1, hx113_2⟩ := at_T31 HR0.out x3_1 p113 q113
                cases e113
                replace p113 := eq_true p113
                replace q113 := eq_true q113
                have p114 : 0 ≤ (x3_1 : Int) := of_decide_eq_true (by first | (with_reducible assumption) | assumption)
                have q114 : x3_1 < (l0.length : Int) := of_decide_eq_true (by first | (with_reducible assumption) | assumption)
                obtain ⟨ad114, e114, hx114_0, hx114_1, hx114_2⟩ := at_T31 HR0.out x3_1 p114 q114
                obtain rfl : ad113 = ad114 := (by injection e114)
                replace p114 := eq_true p114
                replace q114 := eq_true q114
                have p115 : 0 ≤ (x3_1 : Int) := of_decide_eq_true (by first | (with_reducible assumption) | assumption)
                have q115 : x3_1 < (l0.length : Int) := of_decide_eq_true (by first | (with_reducible assumption) | assumption)
                obtain ⟨ad115, e115, hx115_0, hx115_1, hx115_2⟩ := at_T31 HR0.out x3_1 p115 q115
                obtain rfl : ad113 = ad115 := (by injection e115)
                replace p115 := eq_true p115
                replace q115 := eq_true q115
                go_wp2
                go_roundg k1
                case measure => have := HK1.out; omega
                case rel => exact ⟨(wrap64 (x3_1 + 1)), (by first | rfl | (simp; done) | (simp [*]; done)), H', ⟨by have := HK1.out; omega⟩, by repeat (first | exact Drawn0.refl _ | apply Drawn0.step)⟩
        · rw [if_neg c3] at H
          exact absurd H (by simp)
      · rw [if_neg c2] at H
        have c2b0 : decide (x3_1 < (l0.length : Int)) = false := decide_eq_false c2
        clear c2
        obtain rfl := Option.some.inj H
        go_wp2
        go_ret
        exact ⟨by first | rfl | (simp; done) | (simp [*]; done), by repeat (first | exact Drawn0.refl _ | apply Drawn0.step)⟩

end Go.Proofs.YtgkebfeggekkgaaDoor.PT
end
section
/- A deferred function whose first operation is recover, and which recovers nothing later: its contract out of one walk of the rest of its body. No program is named. -/
set_option linter.unusedVariables false
set_option linter.unusedSimpArgs false
namespace Go.Proofs.YtgkebfeggekkgaaDoor.Given
open Go Go.RowKit

/-- what recover hands back in a frame's mode, and the mode behind it -/
def recovers : FrameMode → Value × FrameMode
  | .panicking ({ v, recovered := false, goexit := false } :: older) => (v, .panicking ({ v, recovered := true } :: older))
  | u => (.nilIface, u)

theorem recovers_of {c : Frame} {cs : List Frame} : recoverD (c :: cs) = none ∧ recovers c.mode = (.nilIface, c.mode) ∨
    ∃ v u', recoverD (c :: cs) = some (v, { c with mode := u' } :: cs) ∧ recovers c.mode = (v, u') := by
  obtain ⟨fn, tmps, todo, defers, mode, kind, ro⟩ := c
  have run : ∀ u : FrameMode, (∀ v older, u ≠ .panicking ({ v, recovered := false, goexit := false } :: older)) → recoverD (⟨fn, tmps, todo, defers, u, kind, ro⟩ :: cs) = none ∧ recovers u = (.nilIface, u) := by
    intro u hu
    unfold recoverD recovers
    constructor
    · simp only []
    · split
      · rename_i v older; exact absurd rfl (hu v older)
      · rfl
  by_cases h : ∃ v older, mode = .panicking ({ v, recovered := false, goexit := false } :: older)
  · obtain ⟨v, older, rfl⟩ := h
    exact .inr ⟨v, _, rfl, rfl⟩
  · exact .inl (run mode (fun v older e => h ⟨v, older, e⟩))

variable {P : Program}
theorem callsD_of_recover {f : FuncId} {fn : Func} {id d : Nat} {pos : String} {t : TypeId} {rest : Code} {args : Array Value} {u : FrameMode} {w : World} {R : Ending → World → Prop}
    (hf : P.funcs[f]? = some fn)
    (hb : fn.body = some (.seq (.region id #[{ dst := some d, op := .call { callee := .builtin .recover, args := #[], argTypes := #[] }, type := t, pos := pos, after := #[], guard := none }] false) rest))
    (h : rest.wp P (bodyPost P fn R) { tmps := (args ++ Array.replicate (fn.ntmps - args.size) undef).setIfInBounds d (recovers u).1, defers := [] } w) :
    CallsD P f args u w fun e u' w' => u' = (recovers u).2 ∧ R e w' := by
  refine callsD_of_wpS hf hb fun c₀ cs hu => ?_
  subst hu
  have key : ∀ (v : Value) (u' : FrameMode) , recovers c₀.mode = (v, u') → rest.wpS P (bodyPostS P fn c₀ cs fun e u' w' => u' = (recovers c₀.mode).2 ∧ R e w')
      { tmps := (args ++ Array.replicate (fn.ntmps - args.size) undef).setIfInBounds d (recovers c₀.mode).1, defers := [] } ({ c₀ with mode := u' } :: cs) w := by
    intro v u' hv
    refine wpS_of_wp (wp_mono h ?_)
    intro e a w' hq
    cases e with
    | normal => obtain ⟨hd, v', hr, hR⟩ := hq; exact ⟨hd, u', rfl, v', hr, by rw [hv], hR⟩
    | ret => obtain ⟨hd, v', hr, hR⟩ := hq; exact ⟨hd, u', rfl, v', hr, by rw [hv], hR⟩
    | panic chain => obtain ⟨hd, hR⟩ := hq; exact ⟨hd, u', rfl, by rw [hv], hR⟩
    | exit id => exact hq
    | goto l => exact hq
    | outgrown => exact ⟨_, rfl, hq⟩
  apply wpS_seq
  apply wpS_region
  rcases recovers_of (c := c₀) (cs := cs) with ⟨h1, h2⟩ | ⟨v, u', h1, h2⟩
  · have hc : ({ c₀ with mode := c₀.mode } : Frame) = c₀ := rfl
    have k := key _ _ h2
    rw [h2] at k
    simp [wpOpsS, go_sem, h1, Exit.thenS]
    rw [h2]
    exact k
  · have k := key _ _ h2
    rw [h2] at k
    simp [wpOpsS, go_sem, h1, Exit.thenS]
    rw [h2]
    exact k
end Go.Proofs.YtgkebfeggekkgaaDoor.Given
end
