/- The contract of Walk's closure. -/
import Derived.Test.YtgkebfeggekkgaaDoorHj
set_option linter.unusedVariables false
set_option linter.unusedSimpArgs false
namespace Go.Proofs.YtgkebfeggekkgaaDoor.Given
open Go.RowKit Go.Proofs.YtgkebfeggekkgaaDoor.PT Go.Proofs.YtgkebfeggekkgaaDoorW.PrintWords Go.Proofs.YtgkebfeggekkgaaDoorW.PrintLast Go.Proofs.YtgkebfeggekkgaaDoorW.PrintMore

/-- the walk of actions, the root's first -/
def walkL : List (List Int) → List Int × Bool
  | [] => ([], true)
  | a :: r => fillF a (walkL r).1 (walkL r).2
theorem fillF_len (a inner : List Int) (ok : Bool) : (fillF a inner ok).1.length ≤ 2000 := by
  unfold fillF
  split
  · simp
  · rename_i h
    have hl := fillL_len inner a
    have hn := innersN_le a
    simp only [fillBad, Bool.or_eq_true, Bool.and_eq_true, decide_eq_true_eq, not_or, not_and, Bool.not_eq_true', Bool.not_eq_false] at h
    obtain ⟨h1, h2⟩ := h
    show (fillL inner a).length ≤ 2000
    by_cases h0 : 0 < innersN a
    · have := (h1 h0)
      omega
    · have h00 : innersN a = 0 := by omega
      rw [h00, Nat.zero_mul] at hl
      omega
theorem walkL_len : ∀ ds, (walkL ds).1.length ≤ 2000
  | [] => by simp [walkL]
  | a :: r => fillF_len _ _ _
/-- what the closure finds: the actions' row, and itself -/
def WalkIn (W : World) (ba pa pw : Nat) (ds : List (List Int)) : Prop :=
  W.cell? ⟨pa, 0, none⟩ = some (.slice (some ⟨ba, 0, none⟩) ds.length ds.length) ∧ W.cell? ⟨pw, 0, none⟩ = some (.func (.func 59) #[] #[.pointer (some ⟨pa, 0, none⟩), .pointer (some ⟨pw, 0, none⟩)]) ∧
  ∀ (j : Nat) (h : j < ds.length), ∃ A c, W.cell? ⟨ba, j, none⟩ = some (.slice A ds[j].length c) ∧ Kd.C kI W A ds[j].length ds[j]
theorem WalkIn.keep {W W' : World} {ba pa pw : Nat} {ds : List (List Int)} (h : WalkIn W ba pa pw ds) (hb : Below W.heap.size W W') : WalkIn W' ba pa pw ds := by
  obtain ⟨h1, h2, h3⟩ := h
  refine ⟨(bcell hb (World.block_lt_of_cell? W _ h1)).trans h1, (bcell hb (World.block_lt_of_cell? W _ h2)).trans h2, fun j hj => ?_⟩
  obtain ⟨A, c, h4, h5⟩ := h3 j hj
  exact ⟨A, c, (bcell hb (World.block_lt_of_cell? W _ h4)).trans h4, Kd.C_below h5 hb⟩
set_option maxRecDepth 100000 in
set_option maxHeartbeats 400000 in
theorem walk_closure {W0 : World} {ba pa pw : Nat} {ds : List (List Int)} (h : WalkIn W0 ba pa pw ds) (hl : ∀ a ∈ ds, a.length ≤ 1073741824) (h40 : ds.length ≤ 40) :
    ∀ n k, k + n = ds.length → ∀ W, Below W0.heap.size W0 W → Calls Tryd.prog 59 #[.int .i64 k, .pointer (some ⟨pa, 0, none⟩), .pointer (some ⟨pw, 0, none⟩)] W (FillPost (walkL (ds.drop k)) W) := by
  intro n
  induction n with
  | zero =>
    intro k hk W hb
    obtain ⟨h1, h2, h3⟩ := h.keep hb
    obtain rfl : k = ds.length := by omega
    have hu82 := Tryd.underlying82
    rw [List.drop_length]
    clear h h3 hl hb hk
    generalize ds.length = L at h1
    go_enter Tryd.func59, Tryd.ntmps59
    go_wp2
    go_ret2
    exact ⟨_, rfl, Kd.R_nil _ _ _ _ _, Below.refl _ _⟩
  | succ n ih =>
    intro k hk W hb
    have hk2 : k < ds.length := by omega
    have HI := Aside0.mk (h.keep hb)
    have HC : Aside0 (Calls Tryd.prog 59 #[.int .i64 ((k : Int) + 1), .pointer (some ⟨pa, 0, none⟩), .pointer (some ⟨pw, 0, none⟩)] W (FillPost (walkL (ds.drop (k + 1))) W)) := ⟨ih (k + 1) (by omega) W hb⟩
    obtain ⟨h1, h2, h3⟩ := h.keep hb
    have ha := hl ds[k] (List.getElem_mem _)
    have hdrop : ds.drop k = ds[k] :: ds.drop (k + 1) := List.drop_eq_getElem_cons hk2
    rw [hdrop]
    show Calls Tryd.prog 59 _ W (FillPost (fillF ds[k] (walkL (ds.drop (k + 1))).1 (walkL (ds.drop (k + 1))).2) W)
    have hwl := walkL_len (ds.drop (k + 1))
    obtain ⟨A, c, h4, h5⟩ := h3 k hk2
    have H5 := Aside0.mk h5
    have HA := Aside0.mk ha
    have HW := Aside0.mk hwl
    have hne : ((k : Int) == (ds.length : Int)) = false := by simp; omega
    have hneN : (k == ds.length) = false := by simp; omega
    have hw1 : IntKind.i64.wrap ((k : Int) + 1) = (k : Int) + 1 := IntWalk.i64_in _ (by omega)
    clear h h3 hl hdrop h5 hwl ha hb ih
    generalize hgx : ds[k] = x at h4 H5 HA ⊢
    have HX := Aside0.mk hgx
    clear hgx
    generalize walkL (ds.drop (k + 1)) = r at HC HW ⊢
    obtain ⟨r1, r2⟩ := r
    have HK := Aside0.mk hk2
    have hkL := hk2
    generalize hgL : ds.length = L at h1 hk hkL hne hneN
    have HL := Aside0.mk hgL
    clear hgL hk
    go_enter Tryd.func59, Tryd.ntmps59
    go_wp2_with (first | (go_at_call 59; (with_reducible refine HC.out.mono ?_); rintro e w1 ⟨v, rfl, hR1, hB1⟩; obtain ⟨A1, c1, rfl, hc1, hC1⟩ := Kd.R_reads hR1; obtain ⟨h1, h2, h3⟩ := HI.out.keep hB1; rw [HL.out] at h1; obtain ⟨A, c, h4, h5⟩ := h3 k HK.out; rw [HX.out] at h4 h5; have HF := Aside0.mk (filled_calls A c x A1 c1 r1 r2 w1 h5 hC1 HA.out (Nat.le_trans HW.out (by decide))); have HB1 := Aside0.mk hB1; clear h3 h5 hC1 hR1 hB1 hc1) | (go_at_call 60; (with_reducible refine HF.out.mono ?_); rintro e w2 ⟨v2, rfl, hR2, hB2⟩; obtain ⟨A2, c2, rfl, hc2, hC2⟩ := Kd.R_reads hR2; have HR2 := Aside0.mk hR2; have HB2 := Aside0.mk hB2; clear hR2 hB2 hC2 hc2))
    go_ret2
    exact ⟨_, rfl, Kd.R_lower HR2.out HB1.out.size, HB1.out.trans (HB2.out.mono HB1.out.size)⟩
end Go.Proofs.YtgkebfeggekkgaaDoor.Given
