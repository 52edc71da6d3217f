-- Written by a program of mine (wip/print_given.sh: the kit's print, changed so that some functions are given by contracts).
import Derived.Test.YtgkebfeggekkgaaDoorPTx0
import Derived.Test.YtgkebfeggekkgaaDoorPTx2
import Derived.Test.YtgkebfeggekkgaaDoorPTx5
import Derived.Test.YtgkebfeggekkgaaDoorPTx9
import Derived.Test.YtgkebfeggekkgaaDoorPTx17
namespace Go.Proofs.YtgkebfeggekkgaaDoor.PT
open Go.RowKit Go.Proofs.YtgkebfeggekkgaaDoor.Given Go.Proofs.YtgkebfeggekkgaaDoorW.PrintWords Go.Proofs.YtgkebfeggekkgaaDoorW.PrintLast Go.Proofs.YtgkebfeggekkgaaDoorW.PrintMore
attribute [local go_sem] max2_int min2_int max_two min_two max_three min_three max_four min_four   -- for this text's walks alone
set_option linter.unusedVariables false
set_option linter.unusedSimpArgs false

/-! ### mjolnerlaw09_PatternChain: function 6 -/
mutual
def mjolnerlaw09_PatternChain.j0 : Nat → List (S31) → List (S31) → List (S31) → Bool → Bool → Option (Bool)
  | 0, _, _, _, _, _ => none
  | k + 1, x0, x1, x2, x7, x35 => if x35 = true then (some x7) else ((mjolnerlaw09_conforms.f x0 x0).bind fun bt272 => ((mjolnerlaw09_conforms.f x0 ([] : List (S31))).bind fun bt274 => ((mjolnerlaw09_conforms.f x0 x1).bind fun bt276 => ((mjolnerlaw09_conforms.f x1 x0).bind fun bt278 => ((mjolnerlaw09_conforms.f x1 x2).bind fun bt280 => ((mjolnerlaw09_conforms.f x0 x2).bind fun bt282 => ((mjolnerlaw09_conforms.f x2 x1).bind fun bt284 => (if bt272.2 = true then (if bt274.2 = true then (if bt276.2 = true then (if bt278.2 = true then (if bt280.2 = true then (if bt282.2 = true then (if bt284.2 = true then (if bt272.1 = true then (if bt274.1 = true then (if bt276.1 = true then ((mjolnerref09_Same.f k x0 x1).bind fun t286 => (mjolnerlaw09_PatternChain.j1 k x7 bt276.1 bt280.1 bt282.1 bt284.1 (bt278.1 != t286))) else (mjolnerlaw09_PatternChain.j1 k x7 bt276.1 bt280.1 bt282.1 bt284.1 false)) else (mjolnerlaw09_PatternChain.j1 k x7 bt276.1 bt280.1 bt282.1 bt284.1 true)) else (mjolnerlaw09_PatternChain.j1 k x7 bt276.1 bt280.1 bt282.1 bt284.1 true)) else (mjolnerlaw09_PatternChain.j1 k x7 bt276.1 bt280.1 bt282.1 bt284.1 true)) else (mjolnerlaw09_PatternChain.j1 k x7 bt276.1 bt280.1 bt282.1 bt284.1 true)) else (mjolnerlaw09_PatternChain.j1 k x7 bt276.1 bt280.1 bt282.1 bt284.1 true)) else (mjolnerlaw09_PatternChain.j1 k x7 bt276.1 bt280.1 bt282.1 bt284.1 true)) else (mjolnerlaw09_PatternChain.j1 k x7 bt276.1 bt280.1 bt282.1 bt284.1 true)) else (mjolnerlaw09_PatternChain.j1 k x7 bt276.1 bt280.1 bt282.1 bt284.1 true)) else (mjolnerlaw09_PatternChain.j1 k x7 bt276.1 bt280.1 bt282.1 bt284.1 true)))))))))
def mjolnerlaw09_PatternChain.j1 : Nat → Bool → Bool → Bool → Bool → Bool → Bool → Option (Bool)
  | 0, _, _, _, _, _, _ => none
  | k + 1, x7, x12, x16, x18, x20, x121 => if x121 = true then (some false) else (if x12 = true then (if x16 = true then (if x18 = true then (if x7 = true then (some true) else (some false)) else (some false)) else (if x7 = true then (if x18 = true then (some x20) else (some true)) else (some false))) else (if x7 = true then (some true) else (some false)))
end
def mjolnerlaw09_PatternChain.f (k : Nat) (l0 : List (S31)) (l1 : List (S31)) (l2 : List (S31)) : Option (Bool) := (mjolnerlaw09_awake.f).bind fun t268 => ((pattern_Check.f k l0).bind fun t269 => (if t269 = 0 then ((pattern_Check.f k l1).bind fun t270 => (if t270 = 0 then ((pattern_Check.f k l2).bind fun t271 => (mjolnerlaw09_PatternChain.j0 k l0 l1 l2 t268 (t271 != 0))) else (mjolnerlaw09_PatternChain.j0 k l0 l1 l2 t268 true))) else (mjolnerlaw09_PatternChain.j0 k l0 l1 l2 t268 true)))
theorem mjolnerlaw09_PatternChain.mono_l : ∀ k, (∀ y0 y1 y2 y3 y4, LeO (mjolnerlaw09_PatternChain.j0 k y0 y1 y2 y3 y4) (mjolnerlaw09_PatternChain.j0 (k + 1) y0 y1 y2 y3 y4)) ∧ (∀ y0 y1 y2 y3 y4 y5, LeO (mjolnerlaw09_PatternChain.j1 k y0 y1 y2 y3 y4 y5) (mjolnerlaw09_PatternChain.j1 (k + 1) y0 y1 y2 y3 y4 y5))
  | 0 => ⟨fun _ _ _ _ _ r h => by simp [mjolnerlaw09_PatternChain.j0] at h, fun _ _ _ _ _ _ r h => by simp [mjolnerlaw09_PatternChain.j1] at h⟩
  | k + 1 => by
    obtain ⟨ih0, ih1⟩ := mjolnerlaw09_PatternChain.mono_l k
    refine ⟨?_, ?_⟩
    · intro y0 y1 y2 y3 y4
      unfold mjolnerlaw09_PatternChain.j0
      repeat' first
      | (with_reducible exact ih0 _ _ _ _ _)
      | (with_reducible exact ih1 _ _ _ _ _ _)
      | (with_reducible exact mjolnerref09_Same.mono _ _ _)
      | (with_reducible exact pattern_Check.mono _ _)
      | (with_reducible exact LeO.refl _)
      | (with_reducible exact LeO.none _)
      | (with_reducible refine LeO.ite ?_ ?_)
      | (with_reducible refine LeO.bind ?_ (fun _ => ?_))
      | exact ih0 _ _ _ _ _
      | exact ih1 _ _ _ _ _ _
      | exact mjolnerref09_Same.mono _ _ _
      | exact pattern_Check.mono _ _
      | exact LeO.none _
      | refine LeO.ite ?_ ?_
      | refine LeO.bind ?_ (fun _ => ?_)
    · intro y0 y1 y2 y3 y4 y5
      unfold mjolnerlaw09_PatternChain.j1
      repeat' first
      | (with_reducible exact ih0 _ _ _ _ _)
      | (with_reducible exact ih1 _ _ _ _ _ _)
      | (with_reducible exact mjolnerref09_Same.mono _ _ _)
      | (with_reducible exact pattern_Check.mono _ _)
      | (with_reducible exact LeO.refl _)
      | (with_reducible exact LeO.none _)
      | (with_reducible refine LeO.ite ?_ ?_)
      | (with_reducible refine LeO.bind ?_ (fun _ => ?_))
      | exact ih0 _ _ _ _ _
      | exact ih1 _ _ _ _ _ _
      | exact mjolnerref09_Same.mono _ _ _
      | exact pattern_Check.mono _ _
      | exact LeO.none _
      | refine LeO.ite ?_ ?_
      | refine LeO.bind ?_ (fun _ => ?_)
theorem mjolnerlaw09_PatternChain.mono : ∀ a0 a1 a2 k, LeO (mjolnerlaw09_PatternChain.f k a0 a1 a2) (mjolnerlaw09_PatternChain.f (k + 1) a0 a1 a2) := by
  intro a0 a1 a2 k
  obtain ⟨ih0, ih1⟩ := mjolnerlaw09_PatternChain.mono_l k
  unfold mjolnerlaw09_PatternChain.f
  repeat' first
      | (with_reducible exact ih0 _ _ _ _ _)
      | (with_reducible exact ih1 _ _ _ _ _ _)
      | (with_reducible exact mjolnerref09_Same.mono _ _ _)
      | (with_reducible exact pattern_Check.mono _ _)
      | (with_reducible exact LeO.refl _)
      | (with_reducible exact LeO.none _)
      | (with_reducible refine LeO.ite ?_ ?_)
      | (with_reducible refine LeO.bind ?_ (fun _ => ?_))
      | exact ih0 _ _ _ _ _
      | exact ih1 _ _ _ _ _ _
      | exact mjolnerref09_Same.mono _ _ _
      | exact pattern_Check.mono _ _
      | exact LeO.none _
      | refine LeO.ite ?_ ?_
      | refine LeO.bind ?_ (fun _ => ?_)
set_option maxHeartbeats 8000000 in
set_option maxRecDepth 100000 in
theorem mjolnerlaw09_PatternChain.calls (k : Nat) (A0 : Option Addr) (c0 : Nat) (l0 : List (S31)) (A1 : Option Addr) (c1 : Nat) (l1 : List (S31)) (A2 : Option Addr) (c2 : Nat) (l2 : List (S31)) (r : Bool) (w : World) (hG : LaidG w) (hr0 : Kd.C k31 w A0 l0.length l0) (hc0 : l0.length ≤ c0) (hr1 : Kd.C k31 w A1 l1.length l1) (hc1 : l1.length ≤ c1) (hr2 : Kd.C k31 w A2 l2.length l2) (hc2 : l2.length ≤ c2) (h : mjolnerlaw09_PatternChain.f k l0 l1 l2 = some r) :
    Calls Tryd.prog 6 #[.slice A0 l0.length c0, .slice A1 l1.length c1, .slice A2 l2.length c2] w fun e w' => e = .returned (.bool r) ∧ Below w.heap.size w w' := by
  have HR0 := Aside0.mk hr0
  have HC0 := Aside0.mk hc0
  clear hr0 hc0
  have HR1 := Aside0.mk hr1
  have HC1 := Aside0.mk hc1
  clear hr1 hc1
  have HR2 := Aside0.mk hr2
  have HC2 := Aside0.mk hc2
  clear hr2 hc2
  have HB := Aside0.mk (Below.refl w.heap.size w)
  have HG := Aside0.mk (LaidG.keep hG)
  clear hG
  have H : ((mjolnerlaw09_awake.f).bind fun t268 => ((pattern_Check.f k l0).bind fun t269 => (if t269 = 0 then ((pattern_Check.f k l1).bind fun t270 => (if t270 = 0 then ((pattern_Check.f k l2).bind fun t271 => (mjolnerlaw09_PatternChain.j0 k l0 l1 l2 t268 (t271 != 0))) else (mjolnerlaw09_PatternChain.j0 k l0 l1 l2 t268 true))) else (mjolnerlaw09_PatternChain.j0 k l0 l1 l2 t268 true)))) = some r := h
  clear h
  replace H := Option.bind_eq_some_iff.mp H
  obtain ⟨t268, A40, H⟩ := H
  replace H : ((pattern_Check.f k l0).bind fun t269 => (if t269 = 0 then ((pattern_Check.f k l1).bind fun t270 => (if t270 = 0 then ((pattern_Check.f k l2).bind fun t271 => (mjolnerlaw09_PatternChain.j0 k l0 l1 l2 t268 (t271 != 0))) else (mjolnerlaw09_PatternChain.j0 k l0 l1 l2 t268 true))) else (mjolnerlaw09_PatternChain.j0 k l0 l1 l2 t268 true))) = some r := H
  have A4 := Aside0.mk A40
  clear A40
  have HC5 := Aside0.mk H
  clear H
  go_enter Tryd.func6, Tryd.ntmps6
  go_upto_region 2 with (first | ((with_reducible refine gate_callee (f := 19) rfl ?_); refine goesL_ (some 22) rfl rfl Tryd.func19 (by kernel_rfl) rfl #[] rfl (by (try simp only [List.map_toArray, List.map_cons, List.map_nil]); first | done | rfl | (simp only [List.length_drop, List.length_take]; rfl)) ?_; (with_reducible refine (mjolnerlaw09_awake.calls  t268 _ ?side1 A4.out).mono ?_); (case side1 => exact HG.out _ (by repeat (first | (with_reducible first | exact HB.out | apply below_alloc | apply pw_below_drewN | apply below_drew1) | exact HB.out))); rintro e w6 ⟨rfl, hb⟩; refine ⟨_, rfl, ?_⟩; have n0_ := Aside0.mk (below_step (by repeat (first | (with_reducible first | exact HB.out | apply below_alloc | apply pw_below_drewN | apply below_drew1) | exact HB.out)) hb); clear HB; have HB := n0_; clear n0_; (try clear hb); (try clear hb2); (try clear hk); (try clear hi)))
  (try simp only [Act.put, List.setIfInBounds_toArray, List.set_cons_zero, List.set_cons_succ])
  go_cut [35] (fun v35 wc => ∃ (kq : Nat) (x35_4 : Bool), v35 = .bool x35_4 ∧ Aside0 (mjolnerlaw09_PatternChain.j0 kq l0 l1 l2 t268 x35_4 = some r) ∧ Aside0 (kq ≤ k) ∧ Aside0 (Below w.heap.size w wc))
  case first =>
    have H := HC5.out
    clear HC5
    replace H := Option.bind_eq_some_iff.mp H
    obtain ⟨t269, A70, H⟩ := H
    replace H : (if t269 = 0 then ((pattern_Check.f k l1).bind fun t270 => (if t270 = 0 then ((pattern_Check.f k l2).bind fun t271 => (mjolnerlaw09_PatternChain.j0 k l0 l1 l2 t268 (t271 != 0))) else (mjolnerlaw09_PatternChain.j0 k l0 l1 l2 t268 true))) else (mjolnerlaw09_PatternChain.j0 k l0 l1 l2 t268 true)) = some r := H
    have A7 := Aside0.mk A70
    clear A70
    by_cases c8 : t269 = 0
    · rw [if_pos c8] at H
      have c8b0 : (t269 == 0) = true := beq_iff_eq.mpr c8
      have c8b1 : (t269 != 0) = false := bne_eq_false_iff_eq.mpr c8
      clear c8
      (first | rw [c8b0] | (simp only [i64_w, i32_w]; rw [c8b0]) | rw [c8b1] | skip)
      replace H := Option.bind_eq_some_iff.mp H
      obtain ⟨t270, A90, H⟩ := H
      replace H : (if t270 = 0 then ((pattern_Check.f k l2).bind fun t271 => (mjolnerlaw09_PatternChain.j0 k l0 l1 l2 t268 (t271 != 0))) else (mjolnerlaw09_PatternChain.j0 k l0 l1 l2 t268 true)) = some r := H
      have A9 := Aside0.mk A90
      clear A90
      by_cases c10 : t270 = 0
      · rw [if_pos c10] at H
        have c10b0 : (t270 == 0) = true := beq_iff_eq.mpr c10
        have c10b1 : (t270 != 0) = false := bne_eq_false_iff_eq.mpr c10
        clear c10
        replace H := Option.bind_eq_some_iff.mp H
        obtain ⟨t271, A110, H⟩ := H
        replace H : (mjolnerlaw09_PatternChain.j0 k l0 l1 l2 t268 (t271 != 0)) = some r := H
        have A11 := Aside0.mk A110
        clear A110
        have H' := Aside0.mk H
        clear H
        go_wp2_with (first | ((with_reducible refine gate_callee (f := 23) rfl ?_); refine goesL_ (some 24) rfl rfl Tryd.func23 (by kernel_rfl) rfl #[.slice A0 l0.length c0] rfl (by (try simp only [List.map_toArray, List.map_cons, List.map_nil]); first | done | rfl | (simp only [List.length_drop, List.length_take]; rfl)) ?_; (with_reducible refine (pattern_Check.calls k _ _ l0 t269 _ ?side1 ?side2 A7.out).mono ?_); (case side1 => repeat (first | exact (Kd.C_below HR0.out HB.out) | (with_reducible refine Kd.C_alloc ?_ _) | (with_reducible refine Kd.C_drewN ?_ _) | (with_reducible refine Kd.C_drew ?_))); (case side2 => exact HC0.out); rintro e w12 ⟨rfl, hb⟩; refine ⟨_, rfl, ?_⟩; have n0_ := Aside0.mk (below_step (by repeat (first | (with_reducible first | exact HB.out | apply below_alloc | apply pw_below_drewN | apply below_drew1) | exact HB.out)) hb); clear HB; have HB := n0_; clear n0_; (try clear hb); (try clear hb2); (try clear hk); (try clear hi)) | (go_at_call 23; (with_reducible refine (pattern_Check.calls k _ _ l1 t270 _ ?side1 ?side2 A9.out).mono ?_); (case side1 => repeat (first | exact (Kd.C_below HR1.out HB.out) | (with_reducible refine Kd.C_alloc ?_ _) | (with_reducible refine Kd.C_drewN ?_ _) | (with_reducible refine Kd.C_drew ?_))); (case side2 => exact HC1.out); rintro e w13 ⟨rfl, hb⟩; have n0_ := Aside0.mk (below_step (by repeat (first | (with_reducible first | exact HB.out | apply below_alloc | apply pw_below_drewN | apply below_drew1) | exact HB.out)) hb); clear HB; have HB := n0_; clear n0_; (try clear hb); (try clear hb2); (try clear hk); (try clear hi)) | (go_at_call 23; (with_reducible refine (pattern_Check.calls k _ _ l2 t271 _ ?side1 ?side2 A11.out).mono ?_); (case side1 => repeat (first | exact (Kd.C_below HR2.out HB.out) | (with_reducible refine Kd.C_alloc ?_ _) | (with_reducible refine Kd.C_drewN ?_ _) | (with_reducible refine Kd.C_drew ?_))); (case side2 => exact HC2.out); rintro e w14 ⟨rfl, hb⟩; have n0_ := Aside0.mk (below_step (by repeat (first | (with_reducible first | exact HB.out | apply below_alloc | apply pw_below_drewN | apply below_drew1) | exact HB.out)) hb); clear HB; have HB := n0_; clear n0_; (try clear hb); (try clear hb2); (try clear hk); (try clear hi)))
        go_meet
        case rel => exact ⟨_, ((t271 != 0)), (by first | rfl | (simp; done) | (simp [*]; done)), H', ⟨by first | omega | exact Nat.le_refl _⟩, ⟨by repeat (first | (with_reducible first | exact HB.out | apply below_alloc | apply pw_below_drewN | apply below_drew1) | exact HB.out)⟩⟩
      · rw [if_neg c10] at H
        have c10b0 : (t270 == 0) = false := beq_eq_false_iff_ne.mpr c10
        have c10b1 : (t270 != 0) = true := bne_iff_ne.mpr c10
        have H' := Aside0.mk H
        clear H
        go_wp2_with (first | ((with_reducible refine gate_callee (f := 23) rfl ?_); refine goesL_ (some 24) rfl rfl Tryd.func23 (by kernel_rfl) rfl #[.slice A0 l0.length c0] rfl (by (try simp only [List.map_toArray, List.map_cons, List.map_nil]); first | done | rfl | (simp only [List.length_drop, List.length_take]; rfl)) ?_; (with_reducible refine (pattern_Check.calls k _ _ l0 t269 _ ?side1 ?side2 A7.out).mono ?_); (case side1 => repeat (first | exact (Kd.C_below HR0.out HB.out) | (with_reducible refine Kd.C_alloc ?_ _) | (with_reducible refine Kd.C_drewN ?_ _) | (with_reducible refine Kd.C_drew ?_))); (case side2 => exact HC0.out); rintro e w15 ⟨rfl, hb⟩; refine ⟨_, rfl, ?_⟩; have n0_ := Aside0.mk (below_step (by repeat (first | (with_reducible first | exact HB.out | apply below_alloc | apply pw_below_drewN | apply below_drew1) | exact HB.out)) hb); clear HB; have HB := n0_; clear n0_; (try clear hb); (try clear hb2); (try clear hk); (try clear hi)) | (go_at_call 23; (with_reducible refine (pattern_Check.calls k _ _ l1 t270 _ ?side1 ?side2 A9.out).mono ?_); (case side1 => repeat (first | exact (Kd.C_below HR1.out HB.out) | (with_reducible refine Kd.C_alloc ?_ _) | (with_reducible refine Kd.C_drewN ?_ _) | (with_reducible refine Kd.C_drew ?_))); (case side2 => exact HC1.out); rintro e w16 ⟨rfl, hb⟩; have n0_ := Aside0.mk (below_step (by repeat (first | (with_reducible first | exact HB.out | apply below_alloc | apply pw_below_drewN | apply below_drew1) | exact HB.out)) hb); clear HB; have HB := n0_; clear n0_; (try clear hb); (try clear hb2); (try clear hk); (try clear hi)))
        go_meet
        case rel => exact ⟨_, (true), (by first | rfl | (simp; done) | (simp [*]; done)), H', ⟨by first | omega | exact Nat.le_refl _⟩, ⟨by repeat (first | (with_reducible first | exact HB.out | apply below_alloc | apply pw_below_drewN | apply below_drew1) | exact HB.out)⟩⟩
    · rw [if_neg c8] at H
      have c8b0 : (t269 == 0) = false := beq_eq_false_iff_ne.mpr c8
      have c8b1 : (t269 != 0) = true := bne_iff_ne.mpr c8
      (first | rw [c8b0] | (simp only [i64_w, i32_w]; rw [c8b0]) | rw [c8b1] | skip)
      have H' := Aside0.mk H
      clear H
      go_wp2_with (first | ((with_reducible refine gate_callee (f := 23) rfl ?_); refine goesL_ (some 24) rfl rfl Tryd.func23 (by kernel_rfl) rfl #[.slice A0 l0.length c0] rfl (by (try simp only [List.map_toArray, List.map_cons, List.map_nil]); first | done | rfl | (simp only [List.length_drop, List.length_take]; rfl)) ?_; (with_reducible refine (pattern_Check.calls k _ _ l0 t269 _ ?side1 ?side2 A7.out).mono ?_); (case side1 => repeat (first | exact (Kd.C_below HR0.out HB.out) | (with_reducible refine Kd.C_alloc ?_ _) | (with_reducible refine Kd.C_drewN ?_ _) | (with_reducible refine Kd.C_drew ?_))); (case side2 => exact HC0.out); rintro e w17 ⟨rfl, hb⟩; refine ⟨_, rfl, ?_⟩; have n0_ := Aside0.mk (below_step (by repeat (first | (with_reducible first | exact HB.out | apply below_alloc | apply pw_below_drewN | apply below_drew1) | exact HB.out)) hb); clear HB; have HB := n0_; clear n0_; (try clear hb); (try clear hb2); (try clear hk); (try clear hi)))
      go_meet
      case rel => exact ⟨_, (true), (by first | rfl | (simp; done) | (simp [*]; done)), H', ⟨by first | omega | exact Nat.le_refl _⟩, ⟨by repeat (first | (with_reducible first | exact HB.out | apply below_alloc | apply pw_below_drewN | apply below_drew1) | exact HB.out)⟩⟩
  case rest =>
    clear HC5
    try clear c1
    try clear c2
    try clear p2
    try clear c6
    try clear c8
    try clear c8b0
    try clear c8b1
    try clear c10
    try clear c10b0
    try clear c10b1
    obtain ⟨kq, x35_4, rfl, HA, HJ4, HB⟩ := hcut
    cases kq with
    | zero => exact absurd HA.out (by simp [mjolnerlaw09_PatternChain.j0])
    | succ kj4 =>
      have H := HA.out
      clear HA
      simp only [mjolnerlaw09_PatternChain.j0] at H
      by_cases c18 : x35_4 = true
      · subst c18
        have H1 : (some t268) = some r := by rw [if_pos rfl] at H; exact H
        clear H
        have H := H1
        clear H1
        obtain rfl := Option.some.inj H
        go_wp2
        go_ret
        exact ⟨by first | rfl | (simp [errW_none, errW_some] <;> rfl) | (simp [*, errW_none, errW_some] <;> rfl), by repeat (first | (with_reducible first | exact HB.out | apply below_alloc | apply pw_below_drewN | apply below_drew1) | exact HB.out)⟩
      · replace c18 := Bool.eq_false_iff.mpr c18
        subst c18
        have H1 : ((mjolnerlaw09_conforms.f l0 l0).bind fun bt272 => ((mjolnerlaw09_conforms.f l0 ([] : List (S31))).bind fun bt274 => ((mjolnerlaw09_conforms.f l0 l1).bind fun bt276 => ((mjolnerlaw09_conforms.f l1 l0).bind fun bt278 => ((mjolnerlaw09_conforms.f l1 l2).bind fun bt280 => ((mjolnerlaw09_conforms.f l0 l2).bind fun bt282 => ((mjolnerlaw09_conforms.f l2 l1).bind fun bt284 => (if bt272.2 = true then (if bt274.2 = true then (if bt276.2 = true then (if bt278.2 = true then (if bt280.2 = true then (if bt282.2 = true then (if bt284.2 = true then (if bt272.1 = true then (if bt274.1 = true then (if bt276.1 = true then ((mjolnerref09_Same.f kj4 l0 l1).bind fun t286 => (mjolnerlaw09_PatternChain.j1 kj4 t268 bt276.1 bt280.1 bt282.1 bt284.1 (bt278.1 != t286))) else (mjolnerlaw09_PatternChain.j1 kj4 t268 bt276.1 bt280.1 bt282.1 bt284.1 false)) else (mjolnerlaw09_PatternChain.j1 kj4 t268 bt276.1 bt280.1 bt282.1 bt284.1 true)) else (mjolnerlaw09_PatternChain.j1 kj4 t268 bt276.1 bt280.1 bt282.1 bt284.1 true)) else (mjolnerlaw09_PatternChain.j1 kj4 t268 bt276.1 bt280.1 bt282.1 bt284.1 true)) else (mjolnerlaw09_PatternChain.j1 kj4 t268 bt276.1 bt280.1 bt282.1 bt284.1 true)) else (mjolnerlaw09_PatternChain.j1 kj4 t268 bt276.1 bt280.1 bt282.1 bt284.1 true)) else (mjolnerlaw09_PatternChain.j1 kj4 t268 bt276.1 bt280.1 bt282.1 bt284.1 true)) else (mjolnerlaw09_PatternChain.j1 kj4 t268 bt276.1 bt280.1 bt282.1 bt284.1 true)) else (mjolnerlaw09_PatternChain.j1 kj4 t268 bt276.1 bt280.1 bt282.1 bt284.1 true)) else (mjolnerlaw09_PatternChain.j1 kj4 t268 bt276.1 bt280.1 bt282.1 bt284.1 true))))))))) = some r := by rw [if_neg (show ¬ (false = true) by decide)] at H; exact H
        clear H
        have H := H1
        clear H1
        replace H := Option.bind_eq_some_iff.mp H
        obtain ⟨⟨t272, t273⟩, A190, H⟩ := H
        replace H : ((mjolnerlaw09_conforms.f l0 ([] : List (S31))).bind fun bt274 => ((mjolnerlaw09_conforms.f l0 l1).bind fun bt276 => ((mjolnerlaw09_conforms.f l1 l0).bind fun bt278 => ((mjolnerlaw09_conforms.f l1 l2).bind fun bt280 => ((mjolnerlaw09_conforms.f l0 l2).bind fun bt282 => ((mjolnerlaw09_conforms.f l2 l1).bind fun bt284 => (if t273 = true then (if bt274.2 = true then (if bt276.2 = true then (if bt278.2 = true then (if bt280.2 = true then (if bt282.2 = true then (if bt284.2 = true then (if t272 = true then (if bt274.1 = true then (if bt276.1 = true then ((mjolnerref09_Same.f kj4 l0 l1).bind fun t286 => (mjolnerlaw09_PatternChain.j1 kj4 t268 bt276.1 bt280.1 bt282.1 bt284.1 (bt278.1 != t286))) else (mjolnerlaw09_PatternChain.j1 kj4 t268 bt276.1 bt280.1 bt282.1 bt284.1 false)) else (mjolnerlaw09_PatternChain.j1 kj4 t268 bt276.1 bt280.1 bt282.1 bt284.1 true)) else (mjolnerlaw09_PatternChain.j1 kj4 t268 bt276.1 bt280.1 bt282.1 bt284.1 true)) else (mjolnerlaw09_PatternChain.j1 kj4 t268 bt276.1 bt280.1 bt282.1 bt284.1 true)) else (mjolnerlaw09_PatternChain.j1 kj4 t268 bt276.1 bt280.1 bt282.1 bt284.1 true)) else (mjolnerlaw09_PatternChain.j1 kj4 t268 bt276.1 bt280.1 bt282.1 bt284.1 true)) else (mjolnerlaw09_PatternChain.j1 kj4 t268 bt276.1 bt280.1 bt282.1 bt284.1 true)) else (mjolnerlaw09_PatternChain.j1 kj4 t268 bt276.1 bt280.1 bt282.1 bt284.1 true)) else (mjolnerlaw09_PatternChain.j1 kj4 t268 bt276.1 bt280.1 bt282.1 bt284.1 true)) else (mjolnerlaw09_PatternChain.j1 kj4 t268 bt276.1 bt280.1 bt282.1 bt284.1 true)))))))) = some r := H
        have A19 := Aside0.mk A190
        clear A190
        replace H := Option.bind_eq_some_iff.mp H
        obtain ⟨⟨t274, t275⟩, A200, H⟩ := H
        replace H : ((mjolnerlaw09_conforms.f l0 l1).bind fun bt276 => ((mjolnerlaw09_conforms.f l1 l0).bind fun bt278 => ((mjolnerlaw09_conforms.f l1 l2).bind fun bt280 => ((mjolnerlaw09_conforms.f l0 l2).bind fun bt282 => ((mjolnerlaw09_conforms.f l2 l1).bind fun bt284 => (if t273 = true then (if t275 = true then (if bt276.2 = true then (if bt278.2 = true then (if bt280.2 = true then (if bt282.2 = true then (if bt284.2 = true then (if t272 = true then (if t274 = true then (if bt276.1 = true then ((mjolnerref09_Same.f kj4 l0 l1).bind fun t286 => (mjolnerlaw09_PatternChain.j1 kj4 t268 bt276.1 bt280.1 bt282.1 bt284.1 (bt278.1 != t286))) else (mjolnerlaw09_PatternChain.j1 kj4 t268 bt276.1 bt280.1 bt282.1 bt284.1 false)) else (mjolnerlaw09_PatternChain.j1 kj4 t268 bt276.1 bt280.1 bt282.1 bt284.1 true)) else (mjolnerlaw09_PatternChain.j1 kj4 t268 bt276.1 bt280.1 bt282.1 bt284.1 true)) else (mjolnerlaw09_PatternChain.j1 kj4 t268 bt276.1 bt280.1 bt282.1 bt284.1 true)) else (mjolnerlaw09_PatternChain.j1 kj4 t268 bt276.1 bt280.1 bt282.1 bt284.1 true)) else (mjolnerlaw09_PatternChain.j1 kj4 t268 bt276.1 bt280.1 bt282.1 bt284.1 true)) else (mjolnerlaw09_PatternChain.j1 kj4 t268 bt276.1 bt280.1 bt282.1 bt284.1 true)) else (mjolnerlaw09_PatternChain.j1 kj4 t268 bt276.1 bt280.1 bt282.1 bt284.1 true)) else (mjolnerlaw09_PatternChain.j1 kj4 t268 bt276.1 bt280.1 bt282.1 bt284.1 true)) else (mjolnerlaw09_PatternChain.j1 kj4 t268 bt276.1 bt280.1 bt282.1 bt284.1 true))))))) = some r := H
        have A20 := Aside0.mk A200
        clear A200
        replace H := Option.bind_eq_some_iff.mp H
        obtain ⟨⟨t276, t277⟩, A210, H⟩ := H
        replace H : ((mjolnerlaw09_conforms.f l1 l0).bind fun bt278 => ((mjolnerlaw09_conforms.f l1 l2).bind fun bt280 => ((mjolnerlaw09_conforms.f l0 l2).bind fun bt282 => ((mjolnerlaw09_conforms.f l2 l1).bind fun bt284 => (if t273 = true then (if t275 = true then (if t277 = true then (if bt278.2 = true then (if bt280.2 = true then (if bt282.2 = true then (if bt284.2 = true then (if t272 = true then (if t274 = true then (if t276 = true then ((mjolnerref09_Same.f kj4 l0 l1).bind fun t286 => (mjolnerlaw09_PatternChain.j1 kj4 t268 t276 bt280.1 bt282.1 bt284.1 (bt278.1 != t286))) else (mjolnerlaw09_PatternChain.j1 kj4 t268 t276 bt280.1 bt282.1 bt284.1 false)) else (mjolnerlaw09_PatternChain.j1 kj4 t268 t276 bt280.1 bt282.1 bt284.1 true)) else (mjolnerlaw09_PatternChain.j1 kj4 t268 t276 bt280.1 bt282.1 bt284.1 true)) else (mjolnerlaw09_PatternChain.j1 kj4 t268 t276 bt280.1 bt282.1 bt284.1 true)) else (mjolnerlaw09_PatternChain.j1 kj4 t268 t276 bt280.1 bt282.1 bt284.1 true)) else (mjolnerlaw09_PatternChain.j1 kj4 t268 t276 bt280.1 bt282.1 bt284.1 true)) else (mjolnerlaw09_PatternChain.j1 kj4 t268 t276 bt280.1 bt282.1 bt284.1 true)) else (mjolnerlaw09_PatternChain.j1 kj4 t268 t276 bt280.1 bt282.1 bt284.1 true)) else (mjolnerlaw09_PatternChain.j1 kj4 t268 t276 bt280.1 bt282.1 bt284.1 true)) else (mjolnerlaw09_PatternChain.j1 kj4 t268 t276 bt280.1 bt282.1 bt284.1 true)))))) = some r := H
        have A21 := Aside0.mk A210
        clear A210
        replace H := Option.bind_eq_some_iff.mp H
        obtain ⟨⟨t278, t279⟩, A220, H⟩ := H
        replace H : ((mjolnerlaw09_conforms.f l1 l2).bind fun bt280 => ((mjolnerlaw09_conforms.f l0 l2).bind fun bt282 => ((mjolnerlaw09_conforms.f l2 l1).bind fun bt284 => (if t273 = true then (if t275 = true then (if t277 = true then (if t279 = true then (if bt280.2 = true then (if bt282.2 = true then (if bt284.2 = true then (if t272 = true then (if t274 = true then (if t276 = true then ((mjolnerref09_Same.f kj4 l0 l1).bind fun t286 => (mjolnerlaw09_PatternChain.j1 kj4 t268 t276 bt280.1 bt282.1 bt284.1 (t278 != t286))) else (mjolnerlaw09_PatternChain.j1 kj4 t268 t276 bt280.1 bt282.1 bt284.1 false)) else (mjolnerlaw09_PatternChain.j1 kj4 t268 t276 bt280.1 bt282.1 bt284.1 true)) else (mjolnerlaw09_PatternChain.j1 kj4 t268 t276 bt280.1 bt282.1 bt284.1 true)) else (mjolnerlaw09_PatternChain.j1 kj4 t268 t276 bt280.1 bt282.1 bt284.1 true)) else (mjolnerlaw09_PatternChain.j1 kj4 t268 t276 bt280.1 bt282.1 bt284.1 true)) else (mjolnerlaw09_PatternChain.j1 kj4 t268 t276 bt280.1 bt282.1 bt284.1 true)) else (mjolnerlaw09_PatternChain.j1 kj4 t268 t276 bt280.1 bt282.1 bt284.1 true)) else (mjolnerlaw09_PatternChain.j1 kj4 t268 t276 bt280.1 bt282.1 bt284.1 true)) else (mjolnerlaw09_PatternChain.j1 kj4 t268 t276 bt280.1 bt282.1 bt284.1 true)) else (mjolnerlaw09_PatternChain.j1 kj4 t268 t276 bt280.1 bt282.1 bt284.1 true))))) = some r := H
        have A22 := Aside0.mk A220
        clear A220
        replace H := Option.bind_eq_some_iff.mp H
        obtain ⟨⟨t280, t281⟩, A230, H⟩ := H
        replace H : ((mjolnerlaw09_conforms.f l0 l2).bind fun bt282 => ((mjolnerlaw09_conforms.f l2 l1).bind fun bt284 => (if t273 = true then (if t275 = true then (if t277 = true then (if t279 = true then (if t281 = true then (if bt282.2 = true then (if bt284.2 = true then (if t272 = true then (if t274 = true then (if t276 = true then ((mjolnerref09_Same.f kj4 l0 l1).bind fun t286 => (mjolnerlaw09_PatternChain.j1 kj4 t268 t276 t280 bt282.1 bt284.1 (t278 != t286))) else (mjolnerlaw09_PatternChain.j1 kj4 t268 t276 t280 bt282.1 bt284.1 false)) else (mjolnerlaw09_PatternChain.j1 kj4 t268 t276 t280 bt282.1 bt284.1 true)) else (mjolnerlaw09_PatternChain.j1 kj4 t268 t276 t280 bt282.1 bt284.1 true)) else (mjolnerlaw09_PatternChain.j1 kj4 t268 t276 t280 bt282.1 bt284.1 true)) else (mjolnerlaw09_PatternChain.j1 kj4 t268 t276 t280 bt282.1 bt284.1 true)) else (mjolnerlaw09_PatternChain.j1 kj4 t268 t276 t280 bt282.1 bt284.1 true)) else (mjolnerlaw09_PatternChain.j1 kj4 t268 t276 t280 bt282.1 bt284.1 true)) else (mjolnerlaw09_PatternChain.j1 kj4 t268 t276 t280 bt282.1 bt284.1 true)) else (mjolnerlaw09_PatternChain.j1 kj4 t268 t276 t280 bt282.1 bt284.1 true)) else (mjolnerlaw09_PatternChain.j1 kj4 t268 t276 t280 bt282.1 bt284.1 true)))) = some r := H
        have A23 := Aside0.mk A230
        clear A230
        replace H := Option.bind_eq_some_iff.mp H
        obtain ⟨⟨t282, t283⟩, A240, H⟩ := H
        replace H : ((mjolnerlaw09_conforms.f l2 l1).bind fun bt284 => (if t273 = true then (if t275 = true then (if t277 = true then (if t279 = true then (if t281 = true then (if t283 = true then (if bt284.2 = true then (if t272 = true then (if t274 = true then (if t276 = true then ((mjolnerref09_Same.f kj4 l0 l1).bind fun t286 => (mjolnerlaw09_PatternChain.j1 kj4 t268 t276 t280 t282 bt284.1 (t278 != t286))) else (mjolnerlaw09_PatternChain.j1 kj4 t268 t276 t280 t282 bt284.1 false)) else (mjolnerlaw09_PatternChain.j1 kj4 t268 t276 t280 t282 bt284.1 true)) else (mjolnerlaw09_PatternChain.j1 kj4 t268 t276 t280 t282 bt284.1 true)) else (mjolnerlaw09_PatternChain.j1 kj4 t268 t276 t280 t282 bt284.1 true)) else (mjolnerlaw09_PatternChain.j1 kj4 t268 t276 t280 t282 bt284.1 true)) else (mjolnerlaw09_PatternChain.j1 kj4 t268 t276 t280 t282 bt284.1 true)) else (mjolnerlaw09_PatternChain.j1 kj4 t268 t276 t280 t282 bt284.1 true)) else (mjolnerlaw09_PatternChain.j1 kj4 t268 t276 t280 t282 bt284.1 true)) else (mjolnerlaw09_PatternChain.j1 kj4 t268 t276 t280 t282 bt284.1 true)) else (mjolnerlaw09_PatternChain.j1 kj4 t268 t276 t280 t282 bt284.1 true))) = some r := H
        have A24 := Aside0.mk A240
        clear A240
        replace H := Option.bind_eq_some_iff.mp H
        obtain ⟨⟨t284, t285⟩, A250, H⟩ := H
        replace H : (if t273 = true then (if t275 = true then (if t277 = true then (if t279 = true then (if t281 = true then (if t283 = true then (if t285 = true then (if t272 = true then (if t274 = true then (if t276 = true then ((mjolnerref09_Same.f kj4 l0 l1).bind fun t286 => (mjolnerlaw09_PatternChain.j1 kj4 t268 t276 t280 t282 t284 (t278 != t286))) else (mjolnerlaw09_PatternChain.j1 kj4 t268 t276 t280 t282 t284 false)) else (mjolnerlaw09_PatternChain.j1 kj4 t268 t276 t280 t282 t284 true)) else (mjolnerlaw09_PatternChain.j1 kj4 t268 t276 t280 t282 t284 true)) else (mjolnerlaw09_PatternChain.j1 kj4 t268 t276 t280 t282 t284 true)) else (mjolnerlaw09_PatternChain.j1 kj4 t268 t276 t280 t282 t284 true)) else (mjolnerlaw09_PatternChain.j1 kj4 t268 t276 t280 t282 t284 true)) else (mjolnerlaw09_PatternChain.j1 kj4 t268 t276 t280 t282 t284 true)) else (mjolnerlaw09_PatternChain.j1 kj4 t268 t276 t280 t282 t284 true)) else (mjolnerlaw09_PatternChain.j1 kj4 t268 t276 t280 t282 t284 true)) else (mjolnerlaw09_PatternChain.j1 kj4 t268 t276 t280 t282 t284 true)) = some r := H
        have A25 := Aside0.mk A250
        clear A250
        have HC26 := Aside0.mk H
        clear H
        go_upto_region 11 with (first | ((with_reducible refine gate_callee (f := 25) rfl ?_); refine goesL_ (some 40) rfl rfl Tryd.func25 (by kernel_rfl) rfl #[.slice A0 l0.length c0, .slice A0 l0.length c0] rfl (by (try simp only [List.map_toArray, List.map_cons, List.map_nil]); first | done | rfl | (simp only [List.length_drop, List.length_take]; rfl)) ?_; (with_reducible refine (mjolnerlaw09_conforms.calls _ _ l0 _ _ l0 t272 t273 _ ?side1 ?side2 ?side3 ?side4 A19.out).mono ?_); (case side1 => repeat (first | exact (Kd.C_below HR0.out HB.out) | (with_reducible refine Kd.C_alloc ?_ _) | (with_reducible refine Kd.C_drewN ?_ _) | (with_reducible refine Kd.C_drew ?_))); (case side2 => exact HC0.out); (case side3 => repeat (first | exact (Kd.C_below HR0.out HB.out) | (with_reducible refine Kd.C_alloc ?_ _) | (with_reducible refine Kd.C_drewN ?_ _) | (with_reducible refine Kd.C_drew ?_))); (case side4 => exact HC0.out); rintro e w27 ⟨rfl, hb⟩; refine ⟨_, rfl, ?_⟩; have n0_ := Aside0.mk (below_step (by repeat (first | (with_reducible first | exact HB.out | apply below_alloc | apply pw_below_drewN | apply below_drew1) | exact HB.out)) hb); clear HB; have HB := n0_; clear n0_; (try clear hb); (try clear hb2); (try clear hk); (try clear hi)) | ((with_reducible refine gate_callee (f := 25) rfl ?_); refine goesL_ (some 45) rfl rfl Tryd.func25 (by kernel_rfl) rfl #[.slice A0 l0.length c0, .slice none 0 0] rfl (by (try simp only [List.map_toArray, List.map_cons, List.map_nil]); first | done | rfl | (simp only [List.length_drop, List.length_take]; rfl)) ?_; (refine (mjolnerlaw09_conforms.calls _ _ l0 _ _ ([] : List (S31)) t274 t275 _ ?side1 ?side2 ?side3 ?side4 A20.out).mono ?_); (case side1 => repeat (first | exact (Kd.C_below HR0.out HB.out) | (with_reducible refine Kd.C_alloc ?_ _) | (with_reducible refine Kd.C_drewN ?_ _) | (with_reducible refine Kd.C_drew ?_))); (case side2 => exact HC0.out); (case side3 => exact Kd.C_nil _ _); (case side4 => exact Nat.le_refl _); rintro e w28 ⟨rfl, hb⟩; refine ⟨_, rfl, ?_⟩; have n0_ := Aside0.mk (below_step (by repeat (first | (with_reducible first | exact HB.out | apply below_alloc | apply pw_below_drewN | apply below_drew1) | exact HB.out)) hb); clear HB; have HB := n0_; clear n0_; (try clear hb); (try clear hb2); (try clear hk); (try clear hi)) | ((with_reducible refine gate_callee (f := 25) rfl ?_); refine goesL_ (some 51) rfl rfl Tryd.func25 (by kernel_rfl) rfl #[.slice A0 l0.length c0, .slice A1 l1.length c1] rfl (by (try simp only [List.map_toArray, List.map_cons, List.map_nil]); first | done | rfl | (simp only [List.length_drop, List.length_take]; rfl)) ?_; (with_reducible refine (mjolnerlaw09_conforms.calls _ _ l0 _ _ l1 t276 t277 _ ?side1 ?side2 ?side3 ?side4 A21.out).mono ?_); (case side1 => repeat (first | exact (Kd.C_below HR0.out HB.out) | (with_reducible refine Kd.C_alloc ?_ _) | (with_reducible refine Kd.C_drewN ?_ _) | (with_reducible refine Kd.C_drew ?_))); (case side2 => exact HC0.out); (case side3 => repeat (first | exact (Kd.C_below HR1.out HB.out) | (with_reducible refine Kd.C_alloc ?_ _) | (with_reducible refine Kd.C_drewN ?_ _) | (with_reducible refine Kd.C_drew ?_))); (case side4 => exact HC1.out); rintro e w29 ⟨rfl, hb⟩; refine ⟨_, rfl, ?_⟩; have n0_ := Aside0.mk (below_step (by repeat (first | (with_reducible first | exact HB.out | apply below_alloc | apply pw_below_drewN | apply below_drew1) | exact HB.out)) hb); clear HB; have HB := n0_; clear n0_; (try clear hb); (try clear hb2); (try clear hk); (try clear hi)) | ((with_reducible refine gate_callee (f := 25) rfl ?_); refine goesL_ (some 57) rfl rfl Tryd.func25 (by kernel_rfl) rfl #[.slice A1 l1.length c1, .slice A0 l0.length c0] rfl (by (try simp only [List.map_toArray, List.map_cons, List.map_nil]); first | done | rfl | (simp only [List.length_drop, List.length_take]; rfl)) ?_; (with_reducible refine (mjolnerlaw09_conforms.calls _ _ l1 _ _ l0 t278 t279 _ ?side1 ?side2 ?side3 ?side4 A22.out).mono ?_); (case side1 => repeat (first | exact (Kd.C_below HR1.out HB.out) | (with_reducible refine Kd.C_alloc ?_ _) | (with_reducible refine Kd.C_drewN ?_ _) | (with_reducible refine Kd.C_drew ?_))); (case side2 => exact HC1.out); (case side3 => repeat (first | exact (Kd.C_below HR0.out HB.out) | (with_reducible refine Kd.C_alloc ?_ _) | (with_reducible refine Kd.C_drewN ?_ _) | (with_reducible refine Kd.C_drew ?_))); (case side4 => exact HC0.out); rintro e w30 ⟨rfl, hb⟩; refine ⟨_, rfl, ?_⟩; have n0_ := Aside0.mk (below_step (by repeat (first | (with_reducible first | exact HB.out | apply below_alloc | apply pw_below_drewN | apply below_drew1) | exact HB.out)) hb); clear HB; have HB := n0_; clear n0_; (try clear hb); (try clear hb2); (try clear hk); (try clear hi)) | ((with_reducible refine gate_callee (f := 25) rfl ?_); refine goesL_ (some 63) rfl rfl Tryd.func25 (by kernel_rfl) rfl #[.slice A1 l1.length c1, .slice A2 l2.length c2] rfl (by (try simp only [List.map_toArray, List.map_cons, List.map_nil]); first | done | rfl | (simp only [List.length_drop, List.length_take]; rfl)) ?_; (with_reducible refine (mjolnerlaw09_conforms.calls _ _ l1 _ _ l2 t280 t281 _ ?side1 ?side2 ?side3 ?side4 A23.out).mono ?_); (case side1 => repeat (first | exact (Kd.C_below HR1.out HB.out) | (with_reducible refine Kd.C_alloc ?_ _) | (with_reducible refine Kd.C_drewN ?_ _) | (with_reducible refine Kd.C_drew ?_))); (case side2 => exact HC1.out); (case side3 => repeat (first | exact (Kd.C_below HR2.out HB.out) | (with_reducible refine Kd.C_alloc ?_ _) | (with_reducible refine Kd.C_drewN ?_ _) | (with_reducible refine Kd.C_drew ?_))); (case side4 => exact HC2.out); rintro e w31 ⟨rfl, hb⟩; refine ⟨_, rfl, ?_⟩; have n0_ := Aside0.mk (below_step (by repeat (first | (with_reducible first | exact HB.out | apply below_alloc | apply pw_below_drewN | apply below_drew1) | exact HB.out)) hb); clear HB; have HB := n0_; clear n0_; (try clear hb); (try clear hb2); (try clear hk); (try clear hi)) | ((with_reducible refine gate_callee (f := 25) rfl ?_); refine goesL_ (some 69) rfl rfl Tryd.func25 (by kernel_rfl) rfl #[.slice A0 l0.length c0, .slice A2 l2.length c2] rfl (by (try simp only [List.map_toArray, List.map_cons, List.map_nil]); first | done | rfl | (simp only [List.length_drop, List.length_take]; rfl)) ?_; (with_reducible refine (mjolnerlaw09_conforms.calls _ _ l0 _ _ l2 t282 t283 _ ?side1 ?side2 ?side3 ?side4 A24.out).mono ?_); (case side1 => repeat (first | exact (Kd.C_below HR0.out HB.out) | (with_reducible refine Kd.C_alloc ?_ _) | (with_reducible refine Kd.C_drewN ?_ _) | (with_reducible refine Kd.C_drew ?_))); (case side2 => exact HC0.out); (case side3 => repeat (first | exact (Kd.C_below HR2.out HB.out) | (with_reducible refine Kd.C_alloc ?_ _) | (with_reducible refine Kd.C_drewN ?_ _) | (with_reducible refine Kd.C_drew ?_))); (case side4 => exact HC2.out); rintro e w32 ⟨rfl, hb⟩; refine ⟨_, rfl, ?_⟩; have n0_ := Aside0.mk (below_step (by repeat (first | (with_reducible first | exact HB.out | apply below_alloc | apply pw_below_drewN | apply below_drew1) | exact HB.out)) hb); clear HB; have HB := n0_; clear n0_; (try clear hb); (try clear hb2); (try clear hk); (try clear hi)) | ((with_reducible refine gate_callee (f := 25) rfl ?_); refine goesL_ (some 75) rfl rfl Tryd.func25 (by kernel_rfl) rfl #[.slice A2 l2.length c2, .slice A1 l1.length c1] rfl (by (try simp only [List.map_toArray, List.map_cons, List.map_nil]); first | done | rfl | (simp only [List.length_drop, List.length_take]; rfl)) ?_; (with_reducible refine (mjolnerlaw09_conforms.calls _ _ l2 _ _ l1 t284 t285 _ ?side1 ?side2 ?side3 ?side4 A25.out).mono ?_); (case side1 => repeat (first | exact (Kd.C_below HR2.out HB.out) | (with_reducible refine Kd.C_alloc ?_ _) | (with_reducible refine Kd.C_drewN ?_ _) | (with_reducible refine Kd.C_drew ?_))); (case side2 => exact HC2.out); (case side3 => repeat (first | exact (Kd.C_below HR1.out HB.out) | (with_reducible refine Kd.C_alloc ?_ _) | (with_reducible refine Kd.C_drewN ?_ _) | (with_reducible refine Kd.C_drew ?_))); (case side4 => exact HC1.out); rintro e w33 ⟨rfl, hb⟩; refine ⟨_, rfl, ?_⟩; have n0_ := Aside0.mk (below_step (by repeat (first | (with_reducible first | exact HB.out | apply below_alloc | apply pw_below_drewN | apply below_drew1) | exact HB.out)) hb); clear HB; have HB := n0_; clear n0_; (try clear hb); (try clear hb2); (try clear hk); (try clear hi)))
        (try simp only [Act.put, List.setIfInBounds_toArray, List.set_cons_zero, List.set_cons_succ])
        go_cut [121] (fun v121 wc => ∃ (kq : Nat) (x121_25 : Bool), v121 = .bool x121_25 ∧ Aside0 (mjolnerlaw09_PatternChain.j1 kq t268 t276 t280 t282 t284 x121_25 = some r) ∧ Aside0 (kq ≤ kj4) ∧ Aside0 (Below w.heap.size w wc))
        case first =>
          have H := HC26.out
          clear HC26
          by_cases c34 : t273 = true
          · subst c34
            have H1 : (if t275 = true then (if t277 = true then (if t279 = true then (if t281 = true then (if t283 = true then (if t285 = true then (if t272 = true then (if t274 = true then (if t276 = true then ((mjolnerref09_Same.f kj4 l0 l1).bind fun t286 => (mjolnerlaw09_PatternChain.j1 kj4 t268 t276 t280 t282 t284 (t278 != t286))) else (mjolnerlaw09_PatternChain.j1 kj4 t268 t276 t280 t282 t284 false)) else (mjolnerlaw09_PatternChain.j1 kj4 t268 t276 t280 t282 t284 true)) else (mjolnerlaw09_PatternChain.j1 kj4 t268 t276 t280 t282 t284 true)) else (mjolnerlaw09_PatternChain.j1 kj4 t268 t276 t280 t282 t284 true)) else (mjolnerlaw09_PatternChain.j1 kj4 t268 t276 t280 t282 t284 true)) else (mjolnerlaw09_PatternChain.j1 kj4 t268 t276 t280 t282 t284 true)) else (mjolnerlaw09_PatternChain.j1 kj4 t268 t276 t280 t282 t284 true)) else (mjolnerlaw09_PatternChain.j1 kj4 t268 t276 t280 t282 t284 true)) else (mjolnerlaw09_PatternChain.j1 kj4 t268 t276 t280 t282 t284 true)) = some r := by rw [if_pos rfl] at H; exact H
            clear H
            have H := H1
            clear H1
            by_cases c35 : t275 = true
            · subst c35
              have H1 : (if t277 = true then (if t279 = true then (if t281 = true then (if t283 = true then (if t285 = true then (if t272 = true then (if t274 = true then (if t276 = true then ((mjolnerref09_Same.f kj4 l0 l1).bind fun t286 => (mjolnerlaw09_PatternChain.j1 kj4 t268 t276 t280 t282 t284 (t278 != t286))) else (mjolnerlaw09_PatternChain.j1 kj4 t268 t276 t280 t282 t284 false)) else (mjolnerlaw09_PatternChain.j1 kj4 t268 t276 t280 t282 t284 true)) else (mjolnerlaw09_PatternChain.j1 kj4 t268 t276 t280 t282 t284 true)) else (mjolnerlaw09_PatternChain.j1 kj4 t268 t276 t280 t282 t284 true)) else (mjolnerlaw09_PatternChain.j1 kj4 t268 t276 t280 t282 t284 true)) else (mjolnerlaw09_PatternChain.j1 kj4 t268 t276 t280 t282 t284 true)) else (mjolnerlaw09_PatternChain.j1 kj4 t268 t276 t280 t282 t284 true)) else (mjolnerlaw09_PatternChain.j1 kj4 t268 t276 t280 t282 t284 true)) = some r := by rw [if_pos rfl] at H; exact H
              clear H
              have H := H1
              clear H1
              by_cases c36 : t277 = true
              · subst c36
                have H1 : (if t279 = true then (if t281 = true then (if t283 = true then (if t285 = true then (if t272 = true then (if t274 = true then (if t276 = true then ((mjolnerref09_Same.f kj4 l0 l1).bind fun t286 => (mjolnerlaw09_PatternChain.j1 kj4 t268 t276 t280 t282 t284 (t278 != t286))) else (mjolnerlaw09_PatternChain.j1 kj4 t268 t276 t280 t282 t284 false)) else (mjolnerlaw09_PatternChain.j1 kj4 t268 t276 t280 t282 t284 true)) else (mjolnerlaw09_PatternChain.j1 kj4 t268 t276 t280 t282 t284 true)) else (mjolnerlaw09_PatternChain.j1 kj4 t268 t276 t280 t282 t284 true)) else (mjolnerlaw09_PatternChain.j1 kj4 t268 t276 t280 t282 t284 true)) else (mjolnerlaw09_PatternChain.j1 kj4 t268 t276 t280 t282 t284 true)) else (mjolnerlaw09_PatternChain.j1 kj4 t268 t276 t280 t282 t284 true)) = some r := by rw [if_pos rfl] at H; exact H
                clear H
                have H := H1
                clear H1
                by_cases c37 : t279 = true
                · subst c37
                  have H1 : (if t281 = true then (if t283 = true then (if t285 = true then (if t272 = true then (if t274 = true then (if t276 = true then ((mjolnerref09_Same.f kj4 l0 l1).bind fun t286 => (mjolnerlaw09_PatternChain.j1 kj4 t268 t276 t280 t282 t284 (t278 != t286))) else (mjolnerlaw09_PatternChain.j1 kj4 t268 t276 t280 t282 t284 false)) else (mjolnerlaw09_PatternChain.j1 kj4 t268 t276 t280 t282 t284 true)) else (mjolnerlaw09_PatternChain.j1 kj4 t268 t276 t280 t282 t284 true)) else (mjolnerlaw09_PatternChain.j1 kj4 t268 t276 t280 t282 t284 true)) else (mjolnerlaw09_PatternChain.j1 kj4 t268 t276 t280 t282 t284 true)) else (mjolnerlaw09_PatternChain.j1 kj4 t268 t276 t280 t282 t284 true)) = some r := by rw [if_pos rfl] at H; exact H
                  clear H
                  have H := H1
                  clear H1
                  by_cases c38 : t281 = true
                  · subst c38
                    have H1 : (if t283 = true then (if t285 = true then (if t272 = true then (if t274 = true then (if t276 = true then ((mjolnerref09_Same.f kj4 l0 l1).bind fun t286 => (mjolnerlaw09_PatternChain.j1 kj4 t268 t276 t280 t282 t284 (t278 != t286))) else (mjolnerlaw09_PatternChain.j1 kj4 t268 t276 t280 t282 t284 false)) else (mjolnerlaw09_PatternChain.j1 kj4 t268 t276 t280 t282 t284 true)) else (mjolnerlaw09_PatternChain.j1 kj4 t268 t276 t280 t282 t284 true)) else (mjolnerlaw09_PatternChain.j1 kj4 t268 t276 t280 t282 t284 true)) else (mjolnerlaw09_PatternChain.j1 kj4 t268 t276 t280 t282 t284 true)) = some r := by rw [if_pos rfl] at H; exact H
                    clear H
                    have H := H1
                    clear H1
                    by_cases c39 : t283 = true
                    · subst c39
                      have H1 : (if t285 = true then (if t272 = true then (if t274 = true then (if t276 = true then ((mjolnerref09_Same.f kj4 l0 l1).bind fun t286 => (mjolnerlaw09_PatternChain.j1 kj4 t268 t276 t280 t282 t284 (t278 != t286))) else (mjolnerlaw09_PatternChain.j1 kj4 t268 t276 t280 t282 t284 false)) else (mjolnerlaw09_PatternChain.j1 kj4 t268 t276 t280 t282 t284 true)) else (mjolnerlaw09_PatternChain.j1 kj4 t268 t276 t280 t282 t284 true)) else (mjolnerlaw09_PatternChain.j1 kj4 t268 t276 t280 t282 t284 true)) = some r := by rw [if_pos rfl] at H; exact H
                      clear H
                      have H := H1
                      clear H1
                      by_cases c40 : t285 = true
                      · subst c40
                        have H1 : (if t272 = true then (if t274 = true then (if t276 = true then ((mjolnerref09_Same.f kj4 l0 l1).bind fun t286 => (mjolnerlaw09_PatternChain.j1 kj4 t268 t276 t280 t282 t284 (t278 != t286))) else (mjolnerlaw09_PatternChain.j1 kj4 t268 t276 t280 t282 t284 false)) else (mjolnerlaw09_PatternChain.j1 kj4 t268 t276 t280 t282 t284 true)) else (mjolnerlaw09_PatternChain.j1 kj4 t268 t276 t280 t282 t284 true)) = some r := by rw [if_pos rfl] at H; exact H
                        clear H
                        have H := H1
                        clear H1
                        by_cases c41 : t272 = true
                        · subst c41
                          have H1 : (if t274 = true then (if t276 = true then ((mjolnerref09_Same.f kj4 l0 l1).bind fun t286 => (mjolnerlaw09_PatternChain.j1 kj4 t268 t276 t280 t282 t284 (t278 != t286))) else (mjolnerlaw09_PatternChain.j1 kj4 t268 t276 t280 t282 t284 false)) else (mjolnerlaw09_PatternChain.j1 kj4 t268 t276 t280 t282 t284 true)) = some r := by rw [if_pos rfl] at H; exact H
                          clear H
                          have H := H1
                          clear H1
                          by_cases c42 : t274 = true
                          · subst c42
                            have H1 : (if t276 = true then ((mjolnerref09_Same.f kj4 l0 l1).bind fun t286 => (mjolnerlaw09_PatternChain.j1 kj4 t268 t276 t280 t282 t284 (t278 != t286))) else (mjolnerlaw09_PatternChain.j1 kj4 t268 t276 t280 t282 t284 false)) = some r := by rw [if_pos rfl] at H; exact H
                            clear H
                            have H := H1
                            clear H1
                            by_cases c43 : t276 = true
                            · subst c43
                              have H1 : ((mjolnerref09_Same.f kj4 l0 l1).bind fun t286 => (mjolnerlaw09_PatternChain.j1 kj4 t268 true t280 t282 t284 (t278 != t286))) = some r := by rw [if_pos rfl] at H; exact H
                              clear H
                              have H := H1
                              clear H1
                              replace H := Option.bind_eq_some_iff.mp H
                              obtain ⟨t286, A440, H⟩ := H
                              replace H : (mjolnerlaw09_PatternChain.j1 kj4 t268 true t280 t282 t284 (t278 != t286)) = some r := H
                              have A44 := Aside0.mk A440
                              clear A440
                              have H' := Aside0.mk H
                              clear H
                              go_wp2_with (first | (go_at_call 22; (with_reducible refine (mjolnerref09_Same.calls kj4 _ _ l0 _ _ l1 t286 _ ?side1 ?side2 ?side3 ?side4 A44.out).mono ?_); (case side1 => repeat (first | exact (Kd.C_below HR0.out HB.out) | (with_reducible refine Kd.C_alloc ?_ _) | (with_reducible refine Kd.C_drewN ?_ _) | (with_reducible refine Kd.C_drew ?_))); (case side2 => exact HC0.out); (case side3 => repeat (first | exact (Kd.C_below HR1.out HB.out) | (with_reducible refine Kd.C_alloc ?_ _) | (with_reducible refine Kd.C_drewN ?_ _) | (with_reducible refine Kd.C_drew ?_))); (case side4 => exact HC1.out); rintro e w' ⟨rfl, ⟨nd, rfl⟩⟩))
                              go_meet
                              case rel => exact ⟨_, ((t278 != t286)), (by first | rfl | (simp; done) | (simp [*]; done)), H', ⟨by have := HJ4.out; first | omega | exact Nat.le_refl _⟩, ⟨by repeat (first | (with_reducible first | exact HB.out | apply below_alloc | apply pw_below_drewN | apply below_drew1) | exact HB.out)⟩⟩
                            · replace c43 := Bool.eq_false_iff.mpr c43
                              subst c43
                              have H1 : (mjolnerlaw09_PatternChain.j1 kj4 t268 false t280 t282 t284 false) = some r := by rw [if_neg (show ¬ (false = true) by decide)] at H; exact H
                              clear H
                              have H := H1
                              clear H1
                              have H' := Aside0.mk H
                              clear H
                              go_wp2
                              go_meet
                              case rel => exact ⟨_, (false), (by first | rfl | (simp; done) | (simp [*]; done)), H', ⟨by have := HJ4.out; first | omega | exact Nat.le_refl _⟩, ⟨by repeat (first | (with_reducible first | exact HB.out | apply below_alloc | apply pw_below_drewN | apply below_drew1) | exact HB.out)⟩⟩
                          · replace c42 := Bool.eq_false_iff.mpr c42
                            subst c42
                            have H1 : (mjolnerlaw09_PatternChain.j1 kj4 t268 t276 t280 t282 t284 true) = some r := by rw [if_neg (show ¬ (false = true) by decide)] at H; exact H
                            clear H
                            have H := H1
                            clear H1
                            have H' := Aside0.mk H
                            clear H
                            go_wp2
                            go_meet
                            case rel => exact ⟨_, (true), (by first | rfl | (simp; done) | (simp [*]; done)), H', ⟨by have := HJ4.out; first | omega | exact Nat.le_refl _⟩, ⟨by repeat (first | (with_reducible first | exact HB.out | apply below_alloc | apply pw_below_drewN | apply below_drew1) | exact HB.out)⟩⟩
                        · replace c41 := Bool.eq_false_iff.mpr c41
                          subst c41
                          have H1 : (mjolnerlaw09_PatternChain.j1 kj4 t268 t276 t280 t282 t284 true) = some r := by rw [if_neg (show ¬ (false = true) by decide)] at H; exact H
                          clear H
                          have H := H1
                          clear H1
                          have H' := Aside0.mk H
                          clear H
                          go_wp2
                          go_meet
                          case rel => exact ⟨_, (true), (by first | rfl | (simp; done) | (simp [*]; done)), H', ⟨by have := HJ4.out; first | omega | exact Nat.le_refl _⟩, ⟨by repeat (first | (with_reducible first | exact HB.out | apply below_alloc | apply pw_below_drewN | apply below_drew1) | exact HB.out)⟩⟩
                      · replace c40 := Bool.eq_false_iff.mpr c40
                        subst c40
                        have H1 : (mjolnerlaw09_PatternChain.j1 kj4 t268 t276 t280 t282 t284 true) = some r := by rw [if_neg (show ¬ (false = true) by decide)] at H; exact H
                        clear H
                        have H := H1
                        clear H1
                        have H' := Aside0.mk H
                        clear H
                        go_wp2
                        go_meet
                        case rel => exact ⟨_, (true), (by first | rfl | (simp; done) | (simp [*]; done)), H', ⟨by have := HJ4.out; first | omega | exact Nat.le_refl _⟩, ⟨by repeat (first | (with_reducible first | exact HB.out | apply below_alloc | apply pw_below_drewN | apply below_drew1) | exact HB.out)⟩⟩
                    · replace c39 := Bool.eq_false_iff.mpr c39
                      subst c39
                      have H1 : (mjolnerlaw09_PatternChain.j1 kj4 t268 t276 t280 t282 t284 true) = some r := by rw [if_neg (show ¬ (false = true) by decide)] at H; exact H
                      clear H
                      have H := H1
                      clear H1
                      have H' := Aside0.mk H
                      clear H
                      go_wp2
                      go_meet
                      case rel => exact ⟨_, (true), (by first | rfl | (simp; done) | (simp [*]; done)), H', ⟨by have := HJ4.out; first | omega | exact Nat.le_refl _⟩, ⟨by repeat (first | (with_reducible first | exact HB.out | apply below_alloc | apply pw_below_drewN | apply below_drew1) | exact HB.out)⟩⟩
                  · replace c38 := Bool.eq_false_iff.mpr c38
                    subst c38
                    have H1 : (mjolnerlaw09_PatternChain.j1 kj4 t268 t276 t280 t282 t284 true) = some r := by rw [if_neg (show ¬ (false = true) by decide)] at H; exact H
                    clear H
                    have H := H1
                    clear H1
                    have H' := Aside0.mk H
                    clear H
                    go_wp2
                    go_meet
                    case rel => exact ⟨_, (true), (by first | rfl | (simp; done) | (simp [*]; done)), H', ⟨by have := HJ4.out; first | omega | exact Nat.le_refl _⟩, ⟨by repeat (first | (with_reducible first | exact HB.out | apply below_alloc | apply pw_below_drewN | apply below_drew1) | exact HB.out)⟩⟩
                · replace c37 := Bool.eq_false_iff.mpr c37
                  subst c37
                  have H1 : (mjolnerlaw09_PatternChain.j1 kj4 t268 t276 t280 t282 t284 true) = some r := by rw [if_neg (show ¬ (false = true) by decide)] at H; exact H
                  clear H
                  have H := H1
                  clear H1
                  have H' := Aside0.mk H
                  clear H
                  go_wp2
                  go_meet
                  case rel => exact ⟨_, (true), (by first | rfl | (simp; done) | (simp [*]; done)), H', ⟨by have := HJ4.out; first | omega | exact Nat.le_refl _⟩, ⟨by repeat (first | (with_reducible first | exact HB.out | apply below_alloc | apply pw_below_drewN | apply below_drew1) | exact HB.out)⟩⟩
              · replace c36 := Bool.eq_false_iff.mpr c36
                subst c36
                have H1 : (mjolnerlaw09_PatternChain.j1 kj4 t268 t276 t280 t282 t284 true) = some r := by rw [if_neg (show ¬ (false = true) by decide)] at H; exact H
                clear H
                have H := H1
                clear H1
                have H' := Aside0.mk H
                clear H
                go_wp2
                go_meet
                case rel => exact ⟨_, (true), (by first | rfl | (simp; done) | (simp [*]; done)), H', ⟨by have := HJ4.out; first | omega | exact Nat.le_refl _⟩, ⟨by repeat (first | (with_reducible first | exact HB.out | apply below_alloc | apply pw_below_drewN | apply below_drew1) | exact HB.out)⟩⟩
            · replace c35 := Bool.eq_false_iff.mpr c35
              subst c35
              have H1 : (mjolnerlaw09_PatternChain.j1 kj4 t268 t276 t280 t282 t284 true) = some r := by rw [if_neg (show ¬ (false = true) by decide)] at H; exact H
              clear H
              have H := H1
              clear H1
              have H' := Aside0.mk H
              clear H
              go_wp2
              go_meet
              case rel => exact ⟨_, (true), (by first | rfl | (simp; done) | (simp [*]; done)), H', ⟨by have := HJ4.out; first | omega | exact Nat.le_refl _⟩, ⟨by repeat (first | (with_reducible first | exact HB.out | apply below_alloc | apply pw_below_drewN | apply below_drew1) | exact HB.out)⟩⟩
          · replace c34 := Bool.eq_false_iff.mpr c34
            subst c34
            have H1 : (mjolnerlaw09_PatternChain.j1 kj4 t268 t276 t280 t282 t284 true) = some r := by rw [if_neg (show ¬ (false = true) by decide)] at H; exact H
            clear H
            have H := H1
            clear H1
            have H' := Aside0.mk H
            clear H
            go_wp2
            go_meet
            case rel => exact ⟨_, (true), (by first | rfl | (simp; done) | (simp [*]; done)), H', ⟨by have := HJ4.out; first | omega | exact Nat.le_refl _⟩, ⟨by repeat (first | (with_reducible first | exact HB.out | apply below_alloc | apply pw_below_drewN | apply below_drew1) | exact HB.out)⟩⟩
        case rest =>
          clear HC26
          try clear c1
          try clear c2
          try clear p2
          try clear c3
          try clear c4
          try clear c6
          try clear c8
          try clear c8b0
          try clear c8b1
          try clear c10
          try clear c10b0
          try clear c10b1
          try clear c18
          try clear c19
          try clear c23
          try clear c25
          try clear c34
          try clear c35
          try clear c36
          try clear c37
          try clear c38
          try clear c39
          try clear c40
          try clear c41
          try clear c42
          try clear c43
          try clear p2
          obtain ⟨kq, x121_25, rfl, HA, HJ25, HB⟩ := hcut
          cases kq with
          | zero => exact absurd HA.out (by simp [mjolnerlaw09_PatternChain.j1])
          | succ kj25 =>
            have H := HA.out
            clear HA
            simp only [mjolnerlaw09_PatternChain.j1] at H
            by_cases c45 : x121_25 = true
            · subst c45
              have H1 : (some false) = some r := by rw [if_pos rfl] at H; exact H
              clear H
              have H := H1
              clear H1
              obtain rfl := Option.some.inj H
              go_wp2
              go_ret
              exact ⟨by first | rfl | (simp [errW_none, errW_some] <;> rfl) | (simp [*, errW_none, errW_some] <;> rfl), by repeat (first | (with_reducible first | exact HB.out | apply below_alloc | apply pw_below_drewN | apply below_drew1) | exact HB.out)⟩
            · replace c45 := Bool.eq_false_iff.mpr c45
              subst c45
              have H1 : (if t276 = true then (if t280 = true then (if t282 = true then (if t268 = true then (some true) else (some false)) else (some false)) else (if t268 = true then (if t282 = true then (some t284) else (some true)) else (some false))) else (if t268 = true then (some true) else (some false))) = some r := by rw [if_neg (show ¬ (false = true) by decide)] at H; exact H
              clear H
              have H := H1
              clear H1
              by_cases c46 : t276 = true
              · subst c46
                have H1 : (if t280 = true then (if t282 = true then (if t268 = true then (some true) else (some false)) else (some false)) else (if t268 = true then (if t282 = true then (some t284) else (some true)) else (some false))) = some r := by rw [if_pos rfl] at H; exact H
                clear H
                have H := H1
                clear H1
                by_cases c47 : t280 = true
                · subst c47
                  have H1 : (if t282 = true then (if t268 = true then (some true) else (some false)) else (some false)) = some r := by rw [if_pos rfl] at H; exact H
                  clear H
                  have H := H1
                  clear H1
                  by_cases c48 : t282 = true
                  · subst c48
                    have H1 : (if t268 = true then (some true) else (some false)) = some r := by rw [if_pos rfl] at H; exact H
                    clear H
                    have H := H1
                    clear H1
                    by_cases c49 : t268 = true
                    · subst c49
                      have H1 : (some true) = some r := by rw [if_pos rfl] at H; exact H
                      clear H
                      have H := H1
                      clear H1
                      obtain rfl := Option.some.inj H
                      go_wp2
                      go_ret
                      exact ⟨by first | rfl | (simp [errW_none, errW_some] <;> rfl) | (simp [*, errW_none, errW_some] <;> rfl), by repeat (first | (with_reducible first | exact HB.out | apply below_alloc | apply pw_below_drewN | apply below_drew1) | exact HB.out)⟩
                    · replace c49 := Bool.eq_false_iff.mpr c49
                      subst c49
                      have H1 : (some false) = some r := by rw [if_neg (show ¬ (false = true) by decide)] at H; exact H
                      clear H
                      have H := H1
                      clear H1
                      obtain rfl := Option.some.inj H
                      go_wp2
                      go_ret
                      exact ⟨by first | rfl | (simp [errW_none, errW_some] <;> rfl) | (simp [*, errW_none, errW_some] <;> rfl), by repeat (first | (with_reducible first | exact HB.out | apply below_alloc | apply pw_below_drewN | apply below_drew1) | exact HB.out)⟩
                  · replace c48 := Bool.eq_false_iff.mpr c48
                    subst c48
                    have H1 : (some false) = some r := by rw [if_neg (show ¬ (false = true) by decide)] at H; exact H
                    clear H
                    have H := H1
                    clear H1
                    obtain rfl := Option.some.inj H
                    go_wp2
                    go_ret
                    exact ⟨by first | rfl | (simp [errW_none, errW_some] <;> rfl) | (simp [*, errW_none, errW_some] <;> rfl), by repeat (first | (with_reducible first | exact HB.out | apply below_alloc | apply pw_below_drewN | apply below_drew1) | exact HB.out)⟩
                · replace c47 := Bool.eq_false_iff.mpr c47
                  subst c47
                  have H1 : (if t268 = true then (if t282 = true then (some t284) else (some true)) else (some false)) = some r := by rw [if_neg (show ¬ (false = true) by decide)] at H; exact H
                  clear H
                  have H := H1
                  clear H1
                  by_cases c50 : t268 = true
                  · subst c50
                    have H1 : (if t282 = true then (some t284) else (some true)) = some r := by rw [if_pos rfl] at H; exact H
                    clear H
                    have H := H1
                    clear H1
                    by_cases c51 : t282 = true
                    · subst c51
                      have H1 : (some t284) = some r := by rw [if_pos rfl] at H; exact H
                      clear H
                      have H := H1
                      clear H1
                      obtain rfl := Option.some.inj H
                      go_wp2
                      go_ret
                      exact ⟨by first | rfl | (simp [errW_none, errW_some] <;> rfl) | (simp [*, errW_none, errW_some] <;> rfl), by repeat (first | (with_reducible first | exact HB.out | apply below_alloc | apply pw_below_drewN | apply below_drew1) | exact HB.out)⟩
                    · replace c51 := Bool.eq_false_iff.mpr c51
                      subst c51
                      have H1 : (some true) = some r := by rw [if_neg (show ¬ (false = true) by decide)] at H; exact H
                      clear H
                      have H := H1
                      clear H1
                      obtain rfl := Option.some.inj H
                      go_wp2
                      go_ret
                      exact ⟨by first | rfl | (simp [errW_none, errW_some] <;> rfl) | (simp [*, errW_none, errW_some] <;> rfl), by repeat (first | (with_reducible first | exact HB.out | apply below_alloc | apply pw_below_drewN | apply below_drew1) | exact HB.out)⟩
                  · replace c50 := Bool.eq_false_iff.mpr c50
                    subst c50
                    have H1 : (some false) = some r := by rw [if_neg (show ¬ (false = true) by decide)] at H; exact H
                    clear H
                    have H := H1
                    clear H1
                    obtain rfl := Option.some.inj H
                    go_wp2
                    go_ret
                    exact ⟨by first | rfl | (simp [errW_none, errW_some] <;> rfl) | (simp [*, errW_none, errW_some] <;> rfl), by repeat (first | (with_reducible first | exact HB.out | apply below_alloc | apply pw_below_drewN | apply below_drew1) | exact HB.out)⟩
              · replace c46 := Bool.eq_false_iff.mpr c46
                subst c46
                have H1 : (if t268 = true then (some true) else (some false)) = some r := by rw [if_neg (show ¬ (false = true) by decide)] at H; exact H
                clear H
                have H := H1
                clear H1
                by_cases c52 : t268 = true
                · subst c52
                  have H1 : (some true) = some r := by rw [if_pos rfl] at H; exact H
                  clear H
                  have H := H1
                  clear H1
                  obtain rfl := Option.some.inj H
                  go_wp2
                  go_ret
                  exact ⟨by first | rfl | (simp [errW_none, errW_some] <;> rfl) | (simp [*, errW_none, errW_some] <;> rfl), by repeat (first | (with_reducible first | exact HB.out | apply below_alloc | apply pw_below_drewN | apply below_drew1) | exact HB.out)⟩
                · replace c52 := Bool.eq_false_iff.mpr c52
                  subst c52
                  have H1 : (some false) = some r := by rw [if_neg (show ¬ (false = true) by decide)] at H; exact H
                  clear H
                  have H := H1
                  clear H1
                  obtain rfl := Option.some.inj H
                  go_wp2
                  go_ret
                  exact ⟨by first | rfl | (simp [errW_none, errW_some] <;> rfl) | (simp [*, errW_none, errW_some] <;> rfl), by repeat (first | (with_reducible first | exact HB.out | apply below_alloc | apply pw_below_drewN | apply below_drew1) | exact HB.out)⟩

end Go.Proofs.YtgkebfeggekkgaaDoor.PT
