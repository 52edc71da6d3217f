/- A deferred function whose first operation is recover, and which recovers nothing later: its contract out of one walk of the rest of its body. No program is named. -/
import Derived.Recover
import Derived.Defers
import Derived.WalkKit
set_option linter.unusedVariables false
set_option linter.unusedSimpArgs false
namespace Go.Proofs.YtgkebfeggekkgaaDoor.Given
open Go Go.RowKit

/-- what recover hands back in a frame's mode, and the mode behind it -/
def recovers : FrameMode → Value × FrameMode
  | .panicking ({ v, recovered := false, goexit := false } :: older) => (v, .panicking ({ v, recovered := true } :: older))
  | u => (.nilIface, u)

theorem recovers_of {c : Frame} {cs : List Frame} : recoverD (c :: cs) = none ∧ recovers c.mode = (.nilIface, c.mode) ∨
    ∃ v u', recoverD (c :: cs) = some (v, { c with mode := u' } :: cs) ∧ recovers c.mode = (v, u') := by
  obtain ⟨fn, tmps, todo, defers, mode, kind, ro⟩ := c
  have run : ∀ u : FrameMode, (∀ v older, u ≠ .panicking ({ v, recovered := false, goexit := false } :: older)) → recoverD (⟨fn, tmps, todo, defers, u, kind, ro⟩ :: cs) = none ∧ recovers u = (.nilIface, u) := by
    intro u hu
    unfold recoverD recovers
    constructor
    · simp only []
    · split
      · rename_i v older; exact absurd rfl (hu v older)
      · rfl
  by_cases h : ∃ v older, mode = .panicking ({ v, recovered := false, goexit := false } :: older)
  · obtain ⟨v, older, rfl⟩ := h
    exact .inr ⟨v, _, rfl, rfl⟩
  · exact .inl (run mode (fun v older e => h ⟨v, older, e⟩))

variable {P : Program}
theorem callsD_of_recover {f : FuncId} {fn : Func} {id d : Nat} {pos : String} {t : TypeId} {rest : Code} {args : Array Value} {u : FrameMode} {w : World} {R : Ending → World → Prop}
    (hf : P.funcs[f]? = some fn)
    (hb : fn.body = some (.seq (.region id #[{ dst := some d, op := .call { callee := .builtin .recover, args := #[], argTypes := #[] }, type := t, pos := pos, after := #[], guard := none }] false) rest))
    (h : rest.wp P (bodyPost P fn R) { tmps := (args ++ Array.replicate (fn.ntmps - args.size) undef).setIfInBounds d (recovers u).1, defers := [] } w) :
    CallsD P f args u w fun e u' w' => u' = (recovers u).2 ∧ R e w' := by
  refine callsD_of_wpS hf hb fun c₀ cs hu => ?_
  subst hu
  have key : ∀ (v : Value) (u' : FrameMode) , recovers c₀.mode = (v, u') → rest.wpS P (bodyPostS P fn c₀ cs fun e u' w' => u' = (recovers c₀.mode).2 ∧ R e w')
      { tmps := (args ++ Array.replicate (fn.ntmps - args.size) undef).setIfInBounds d (recovers c₀.mode).1, defers := [] } ({ c₀ with mode := u' } :: cs) w := by
    intro v u' hv
    refine wpS_of_wp (wp_mono h ?_)
    intro e a w' hq
    cases e with
    | normal => obtain ⟨hd, v', hr, hR⟩ := hq; exact ⟨hd, u', rfl, v', hr, by rw [hv], hR⟩
    | ret => obtain ⟨hd, v', hr, hR⟩ := hq; exact ⟨hd, u', rfl, v', hr, by rw [hv], hR⟩
    | panic chain => obtain ⟨hd, hR⟩ := hq; exact ⟨hd, u', rfl, by rw [hv], hR⟩
    | exit id => exact hq
    | goto l => exact hq
    | outgrown => exact ⟨_, rfl, hq⟩
  apply wpS_seq
  apply wpS_region
  rcases recovers_of (c := c₀) (cs := cs) with ⟨h1, h2⟩ | ⟨v, u', h1, h2⟩
  · have hc : ({ c₀ with mode := c₀.mode } : Frame) = c₀ := rfl
    have k := key _ _ h2
    rw [h2] at k
    simp [wpOpsS, go_sem, h1, Exit.thenS]
    rw [h2]
    exact k
  · have k := key _ _ h2
    rw [h2] at k
    simp [wpOpsS, go_sem, h1, Exit.thenS]
    rw [h2]
    exact k
end Go.Proofs.YtgkebfeggekkgaaDoor.Given
