-- Written by a program of mine (wip/print_given.sh: the kit's print, changed so that some functions are given by contracts).
import Derived.Test.YtdcemnmbfblmiaaDoorPTx0
import Derived.Test.YtdcemnmbfblmiaaDoorPTx2
import Derived.Test.YtdcemnmbfblmiaaDoorPTx3
import Derived.Test.YtdcemnmbfblmiaaDoorSane
namespace Go.Proofs.YtdcemnmbfblmiaaDoor.PT
open Go.RowKit Go.Proofs.YtdcemnmbfblmiaaDoor.Given Go.Proofs.YtdcemnmbfblmiaaDoorW.PrintWords Go.Proofs.YtdcemnmbfblmiaaDoorW.PrintLast Go.Proofs.YtdcemnmbfblmiaaDoorW.PrintMore
attribute [local go_sem] max2_int min2_int max_two min_two max_three min_three max_four min_four   -- for this text's walks alone
set_option linter.unusedVariables false
set_option linter.unusedSimpArgs false

/-! ### mjolnerlaw03_TextLines: function 12 -/
mutual
def mjolnerlaw03_TextLines.j0 : Nat → ByteArray → Int → Int → Bool → Int → Int → Int → Int → Int → Int → Bool → Option (Bool)
  | 0, _, _, _, _, _, _, _, _, _, _, _ => none
  | k + 1, x0, x1, x2, x7, x8, x9, x10, x11, x12, x13, x41 => if x41 = true then (some false) else (if x10 = 0 then (mjolnerlaw03_TextLines.j1 k x0 x1 x2 x7 x8 x9 x11 x12 (x13 != 0)) else (mjolnerlaw03_TextLines.j1 k x0 x1 x2 x7 x8 x9 x11 x12 true))
def mjolnerlaw03_TextLines.j1 : Nat → ByteArray → Int → Int → Bool → Int → Int → Int → Int → Bool → Option (Bool)
  | 0, _, _, _, _, _, _, _, _, _ => none
  | k + 1, x0, x1, x2, x7, x8, x9, x11, x12, x47 => if x47 = true then (some x7) else ((text_Offset.f k x0 x8 x9).bind fun bt356 => (if bt356.2 = 0 then (if bt356.1 = x1 then (if x8 < 1 then (mjolnerlaw03_TextLines.j2 k x1 x2 x7 x8 x9 x11 x12 true) else (mjolnerlaw03_TextLines.j2 k x1 x2 x7 x8 x9 x11 x12 (decide (x9 < 1)))) else (mjolnerlaw03_TextLines.j2 k x1 x2 x7 x8 x9 x11 x12 true)) else (mjolnerlaw03_TextLines.j2 k x1 x2 x7 x8 x9 x11 x12 true)))
def mjolnerlaw03_TextLines.j2 : Nat → Int → Int → Bool → Int → Int → Int → Int → Bool → Option (Bool)
  | 0, _, _, _, _, _, _, _, _ => none
  | k + 1, x1, x2, x7, x8, x9, x11, x12, x70 => if x70 = true then (some false) else (if x1 < x2 then (if x7 = true then (if x8 < x11 then (some true) else (if x8 = x11 then (some (decide (x9 < x12))) else (some false))) else (some false)) else (if x7 = true then (if x1 > x2 then (some true) else (if x8 = x11 then (some (x9 == x12)) else (some false))) else (some false)))
end
def mjolnerlaw03_TextLines.f (k : Nat) (a0 : ByteArray) (a1 : Int) (a2 : Int) : Option (Bool) := (mjolnerlaw03_sane.f).bind fun t349 => ((text_Place.f k a0 a1).bind fun bt350 => ((text_Place.f k a0 a2).bind fun bt353 => (if a1 ≥ 0 then (mjolnerlaw03_TextLines.j0 k a0 a1 a2 t349 bt350.1 bt350.2.1 bt350.2.2 bt353.1 bt353.2.1 bt353.2.2 ((bt350.2.2 == 0) != (decide (a1 ≤ (a0.size : Int))))) else (mjolnerlaw03_TextLines.j0 k a0 a1 a2 t349 bt350.1 bt350.2.1 bt350.2.2 bt353.1 bt353.2.1 bt353.2.2 ((bt350.2.2 == 0) != false)))))
theorem mjolnerlaw03_TextLines.mono_l : ∀ k, (∀ y0 y1 y2 y3 y4 y5 y6 y7 y8 y9 y10, LeO (mjolnerlaw03_TextLines.j0 k y0 y1 y2 y3 y4 y5 y6 y7 y8 y9 y10) (mjolnerlaw03_TextLines.j0 (k + 1) y0 y1 y2 y3 y4 y5 y6 y7 y8 y9 y10)) ∧ (∀ y0 y1 y2 y3 y4 y5 y6 y7 y8, LeO (mjolnerlaw03_TextLines.j1 k y0 y1 y2 y3 y4 y5 y6 y7 y8) (mjolnerlaw03_TextLines.j1 (k + 1) y0 y1 y2 y3 y4 y5 y6 y7 y8)) ∧ (∀ y0 y1 y2 y3 y4 y5 y6 y7, LeO (mjolnerlaw03_TextLines.j2 k y0 y1 y2 y3 y4 y5 y6 y7) (mjolnerlaw03_TextLines.j2 (k + 1) y0 y1 y2 y3 y4 y5 y6 y7))
  | 0 => ⟨fun _ _ _ _ _ _ _ _ _ _ _ r h => by simp [mjolnerlaw03_TextLines.j0] at h, fun _ _ _ _ _ _ _ _ _ r h => by simp [mjolnerlaw03_TextLines.j1] at h, fun _ _ _ _ _ _ _ _ r h => by simp [mjolnerlaw03_TextLines.j2] at h⟩
  | k + 1 => by
    obtain ⟨ih0, ih1, ih2⟩ := mjolnerlaw03_TextLines.mono_l k
    refine ⟨?_, ?_, ?_⟩
    · intro y0 y1 y2 y3 y4 y5 y6 y7 y8 y9 y10
      unfold mjolnerlaw03_TextLines.j0
      repeat' first
      | (with_reducible exact ih0 _ _ _ _ _ _ _ _ _ _ _)
      | (with_reducible exact ih1 _ _ _ _ _ _ _ _ _)
      | (with_reducible exact ih2 _ _ _ _ _ _ _ _)
      | (with_reducible exact text_Offset.mono _ _ _ _)
      | (with_reducible exact text_Place.mono _ _ _)
      | (with_reducible exact LeO.refl _)
      | (with_reducible exact LeO.none _)
      | (with_reducible refine LeO.ite ?_ ?_)
      | (with_reducible refine LeO.bind ?_ (fun _ => ?_))
      | exact ih0 _ _ _ _ _ _ _ _ _ _ _
      | exact ih1 _ _ _ _ _ _ _ _ _
      | exact ih2 _ _ _ _ _ _ _ _
      | exact text_Offset.mono _ _ _ _
      | exact text_Place.mono _ _ _
      | exact LeO.none _
      | refine LeO.ite ?_ ?_
      | refine LeO.bind ?_ (fun _ => ?_)
    · intro y0 y1 y2 y3 y4 y5 y6 y7 y8
      unfold mjolnerlaw03_TextLines.j1
      repeat' first
      | (with_reducible exact ih0 _ _ _ _ _ _ _ _ _ _ _)
      | (with_reducible exact ih1 _ _ _ _ _ _ _ _ _)
      | (with_reducible exact ih2 _ _ _ _ _ _ _ _)
      | (with_reducible exact text_Offset.mono _ _ _ _)
      | (with_reducible exact text_Place.mono _ _ _)
      | (with_reducible exact LeO.refl _)
      | (with_reducible exact LeO.none _)
      | (with_reducible refine LeO.ite ?_ ?_)
      | (with_reducible refine LeO.bind ?_ (fun _ => ?_))
      | exact ih0 _ _ _ _ _ _ _ _ _ _ _
      | exact ih1 _ _ _ _ _ _ _ _ _
      | exact ih2 _ _ _ _ _ _ _ _
      | exact text_Offset.mono _ _ _ _
      | exact text_Place.mono _ _ _
      | exact LeO.none _
      | refine LeO.ite ?_ ?_
      | refine LeO.bind ?_ (fun _ => ?_)
    · intro y0 y1 y2 y3 y4 y5 y6 y7
      unfold mjolnerlaw03_TextLines.j2
      repeat' first
      | (with_reducible exact ih0 _ _ _ _ _ _ _ _ _ _ _)
      | (with_reducible exact ih1 _ _ _ _ _ _ _ _ _)
      | (with_reducible exact ih2 _ _ _ _ _ _ _ _)
      | (with_reducible exact text_Offset.mono _ _ _ _)
      | (with_reducible exact text_Place.mono _ _ _)
      | (with_reducible exact LeO.refl _)
      | (with_reducible exact LeO.none _)
      | (with_reducible refine LeO.ite ?_ ?_)
      | (with_reducible refine LeO.bind ?_ (fun _ => ?_))
      | exact ih0 _ _ _ _ _ _ _ _ _ _ _
      | exact ih1 _ _ _ _ _ _ _ _ _
      | exact ih2 _ _ _ _ _ _ _ _
      | exact text_Offset.mono _ _ _ _
      | exact text_Place.mono _ _ _
      | exact LeO.none _
      | refine LeO.ite ?_ ?_
      | refine LeO.bind ?_ (fun _ => ?_)
theorem mjolnerlaw03_TextLines.mono : ∀ a0 a1 a2 k, LeO (mjolnerlaw03_TextLines.f k a0 a1 a2) (mjolnerlaw03_TextLines.f (k + 1) a0 a1 a2) := by
  intro a0 a1 a2 k
  obtain ⟨ih0, ih1, ih2⟩ := mjolnerlaw03_TextLines.mono_l k
  unfold mjolnerlaw03_TextLines.f
  repeat' first
      | (with_reducible exact ih0 _ _ _ _ _ _ _ _ _ _ _)
      | (with_reducible exact ih1 _ _ _ _ _ _ _ _ _)
      | (with_reducible exact ih2 _ _ _ _ _ _ _ _)
      | (with_reducible exact text_Offset.mono _ _ _ _)
      | (with_reducible exact text_Place.mono _ _ _)
      | (with_reducible exact LeO.refl _)
      | (with_reducible exact LeO.none _)
      | (with_reducible refine LeO.ite ?_ ?_)
      | (with_reducible refine LeO.bind ?_ (fun _ => ?_))
      | exact ih0 _ _ _ _ _ _ _ _ _ _ _
      | exact ih1 _ _ _ _ _ _ _ _ _
      | exact ih2 _ _ _ _ _ _ _ _
      | exact text_Offset.mono _ _ _ _
      | exact text_Place.mono _ _ _
      | exact LeO.none _
      | refine LeO.ite ?_ ?_
      | refine LeO.bind ?_ (fun _ => ?_)
set_option maxHeartbeats 8000000 in
set_option maxRecDepth 100000 in
theorem mjolnerlaw03_TextLines.calls (k : Nat) (a0 : ByteArray) (a1 : Int) (a2 : Int) (r : Bool) (w : World) (hG : LaidG w) (h : mjolnerlaw03_TextLines.f k a0 a1 a2 = some r) :
    Calls Tryd.prog 12 #[.string a0, .int .i64 a1, .int .i64 a2] w fun e w' => e = .returned (.bool r) ∧ Below w.heap.size w w' := by
  have HB := Aside0.mk (Below.refl w.heap.size w)
  have HG := Aside0.mk (LaidG.keep hG)
  clear hG
  have H : ((mjolnerlaw03_sane.f).bind fun t349 => ((text_Place.f k a0 a1).bind fun bt350 => ((text_Place.f k a0 a2).bind fun bt353 => (if a1 ≥ 0 then (mjolnerlaw03_TextLines.j0 k a0 a1 a2 t349 bt350.1 bt350.2.1 bt350.2.2 bt353.1 bt353.2.1 bt353.2.2 ((bt350.2.2 == 0) != (decide (a1 ≤ (a0.size : Int))))) else (mjolnerlaw03_TextLines.j0 k a0 a1 a2 t349 bt350.1 bt350.2.1 bt350.2.2 bt353.1 bt353.2.1 bt353.2.2 ((bt350.2.2 == 0) != false)))))) = some r := h
  clear h
  replace H := Option.bind_eq_some_iff.mp H
  obtain ⟨t349, A40, H⟩ := H
  replace H : ((text_Place.f k a0 a1).bind fun bt350 => ((text_Place.f k a0 a2).bind fun bt353 => (if a1 ≥ 0 then (mjolnerlaw03_TextLines.j0 k a0 a1 a2 t349 bt350.1 bt350.2.1 bt350.2.2 bt353.1 bt353.2.1 bt353.2.2 ((bt350.2.2 == 0) != (decide (a1 ≤ (a0.size : Int))))) else (mjolnerlaw03_TextLines.j0 k a0 a1 a2 t349 bt350.1 bt350.2.1 bt350.2.2 bt353.1 bt353.2.1 bt353.2.2 ((bt350.2.2 == 0) != false))))) = some r := H
  have A4 := Aside0.mk A40
  clear A40
  replace H := Option.bind_eq_some_iff.mp H
  obtain ⟨⟨t350, t351, t352⟩, A50, H⟩ := H
  replace H : ((text_Place.f k a0 a2).bind fun bt353 => (if a1 ≥ 0 then (mjolnerlaw03_TextLines.j0 k a0 a1 a2 t349 t350 t351 t352 bt353.1 bt353.2.1 bt353.2.2 ((t352 == 0) != (decide (a1 ≤ (a0.size : Int))))) else (mjolnerlaw03_TextLines.j0 k a0 a1 a2 t349 t350 t351 t352 bt353.1 bt353.2.1 bt353.2.2 ((t352 == 0) != false)))) = some r := H
  have A5 := Aside0.mk A50
  clear A50
  replace H := Option.bind_eq_some_iff.mp H
  obtain ⟨⟨t353, t354, t355⟩, A60, H⟩ := H
  replace H : (if a1 ≥ 0 then (mjolnerlaw03_TextLines.j0 k a0 a1 a2 t349 t350 t351 t352 t353 t354 t355 ((t352 == 0) != (decide (a1 ≤ (a0.size : Int))))) else (mjolnerlaw03_TextLines.j0 k a0 a1 a2 t349 t350 t351 t352 t353 t354 t355 ((t352 == 0) != false))) = some r := H
  have A6 := Aside0.mk A60
  clear A60
  have HC7 := Aside0.mk H
  clear H
  go_enter Tryd.func12, Tryd.ntmps12
  go_upto_region 4 with (first | ((with_reducible refine gate_callee (f := 29) rfl ?_); refine goesL_ (some 16) rfl rfl Tryd.func29 (by kernel_rfl) rfl #[] rfl (by (try simp only [List.map_toArray, List.map_cons, List.map_nil]); first | done | rfl | (simp only [List.length_drop, List.length_take]; rfl)) ?_; (with_reducible refine (mjolnerlaw03_sane.calls  t349 _ ?side1 A4.out).mono ?_); (case side1 => exact HG.out _ (by repeat (first | (with_reducible first | exact HB.out | apply below_alloc | apply pw_below_drewN | apply below_drew1) | exact HB.out))); rintro e w8 ⟨rfl, hb⟩; refine ⟨_, rfl, ?_⟩; have n0_ := Aside0.mk (below_step (by repeat (first | (with_reducible first | exact HB.out | apply below_alloc | apply pw_below_drewN | apply below_drew1) | exact HB.out)) hb); clear HB; have HB := n0_; clear n0_; (try clear hb); (try clear hb2); (try clear hk); (try clear hi)) | ((with_reducible refine gate_callee (f := 41) rfl ?_); refine goesL_ (some 20) rfl rfl Tryd.func41 (by kernel_rfl) rfl #[.string a0, .int .i64 a1] rfl (by (try simp only [List.map_toArray, List.map_cons, List.map_nil]); first | done | rfl | (simp only [List.length_drop, List.length_take]; rfl)) ?_; (with_reducible refine (text_Place.calls k a0 a1 t350 t351 t352 _ A5.out).mono ?_); rintro e w9 ⟨rfl, hb⟩; refine ⟨_, rfl, ?_⟩; have n0_ := Aside0.mk (below_step (by repeat (first | (with_reducible first | exact HB.out | apply below_alloc | apply pw_below_drewN | apply below_drew1) | exact HB.out)) hb); clear HB; have HB := n0_; clear n0_; (try clear hb); (try clear hb2); (try clear hk); (try clear hi)) | ((with_reducible refine gate_callee (f := 41) rfl ?_); refine goesL_ (some 27) rfl rfl Tryd.func41 (by kernel_rfl) rfl #[.string a0, .int .i64 a2] rfl (by (try simp only [List.map_toArray, List.map_cons, List.map_nil]); first | done | rfl | (simp only [List.length_drop, List.length_take]; rfl)) ?_; (with_reducible refine (text_Place.calls k a0 a2 t353 t354 t355 _ A6.out).mono ?_); rintro e w10 ⟨rfl, hb⟩; refine ⟨_, rfl, ?_⟩; have n0_ := Aside0.mk (below_step (by repeat (first | (with_reducible first | exact HB.out | apply below_alloc | apply pw_below_drewN | apply below_drew1) | exact HB.out)) hb); clear HB; have HB := n0_; clear n0_; (try clear hb); (try clear hb2); (try clear hk); (try clear hi)))
  (try simp only [Act.put, List.setIfInBounds_toArray, List.set_cons_zero, List.set_cons_succ])
  go_cut [41] (fun v41 wc => ∃ (kq : Nat) (x41_6 : Bool), v41 = .bool x41_6 ∧ Aside0 (mjolnerlaw03_TextLines.j0 kq a0 a1 a2 t349 t350 t351 t352 t353 t354 t355 x41_6 = some r) ∧ Aside0 (kq ≤ k) ∧ Aside0 (Below w.heap.size w wc))
  case first =>
    have H := HC7.out
    clear HC7
    by_cases c11 : a1 ≥ 0
    · rw [if_pos c11] at H
      have c11b0 : decide (0 ≤ a1) = true := decide_eq_true c11
      clear c11
      (first | rw [c11b0] | (simp only [i64_w, i32_w]; rw [c11b0]) | rw [c11b1] | skip)
      have H' := Aside0.mk H
      clear H
      go_wp2
      go_meet
      case rel => exact ⟨_, (((t352 == 0) != (decide (a1 ≤ (a0.size : Int))))), (by first | rfl | (simp; done) | (simp [*]; done)), H', ⟨by first | omega | exact Nat.le_refl _⟩, ⟨by repeat (first | (with_reducible first | exact HB.out | apply below_alloc | apply pw_below_drewN | apply below_drew1) | exact HB.out)⟩⟩
    · rw [if_neg c11] at H
      have c11b0 : decide (0 ≤ a1) = false := decide_eq_false c11
      clear c11
      (first | rw [c11b0] | (simp only [i64_w, i32_w]; rw [c11b0]) | rw [c11b1] | skip)
      have H' := Aside0.mk H
      clear H
      go_wp2
      go_meet
      case rel => exact ⟨_, (((t352 == 0) != false)), (by first | rfl | (simp; done) | (simp [*]; done)), H', ⟨by first | omega | exact Nat.le_refl _⟩, ⟨by repeat (first | (with_reducible first | exact HB.out | apply below_alloc | apply pw_below_drewN | apply below_drew1) | exact HB.out)⟩⟩
  case rest =>
    clear HC7
    try clear c1
    try clear c2
    try clear p2
    try clear c4
    try clear c11
    try clear c11b0
    try clear c11b1
    obtain ⟨kq, x41_6, rfl, HA, HJ6, HB⟩ := hcut
    cases kq with
    | zero => exact absurd HA.out (by simp [mjolnerlaw03_TextLines.j0])
    | succ kj6 =>
      have H := HA.out
      clear HA
      simp only [mjolnerlaw03_TextLines.j0] at H
      by_cases c12 : x41_6 = true
      · subst c12
        have H1 : (some false) = some r := by rw [if_pos rfl] at H; exact H
        clear H
        have H := H1
        clear H1
        obtain rfl := Option.some.inj H
        go_wp2
        go_ret
        exact ⟨by first | rfl | (simp [errW_none, errW_some] <;> rfl) | (simp [*, errW_none, errW_some] <;> rfl), by repeat (first | (with_reducible first | exact HB.out | apply below_alloc | apply pw_below_drewN | apply below_drew1) | exact HB.out)⟩
      · replace c12 := Bool.eq_false_iff.mpr c12
        subst c12
        have H1 : (if t352 = 0 then (mjolnerlaw03_TextLines.j1 kj6 a0 a1 a2 t349 t350 t351 t353 t354 (t355 != 0)) else (mjolnerlaw03_TextLines.j1 kj6 a0 a1 a2 t349 t350 t351 t353 t354 true)) = some r := by rw [if_neg (show ¬ (false = true) by decide)] at H; exact H
        clear H
        have H := H1
        clear H1
        have HC13 := Aside0.mk H
        clear H
        go_upto_region 6 with (fail)
        go_cut [47] (fun v47 wc => ∃ (kq : Nat) (x47_12 : Bool), v47 = .bool x47_12 ∧ Aside0 (mjolnerlaw03_TextLines.j1 kq a0 a1 a2 t349 t350 t351 t353 t354 x47_12 = some r) ∧ Aside0 (kq ≤ kj6) ∧ Aside0 (Below w.heap.size w wc))
        case first =>
          have H := HC13.out
          clear HC13
          by_cases c14 : t352 = 0
          · rw [if_pos c14] at H
            have c14b0 : (t352 == 0) = true := beq_iff_eq.mpr c14
            have c14b1 : (t352 != 0) = false := bne_eq_false_iff_eq.mpr c14
            clear c14
            (first | rw [c14b0] | (simp only [i64_w, i32_w]; rw [c14b0]) | rw [c14b1] | skip)
            have H' := Aside0.mk H
            clear H
            go_wp2
            go_meet
            case rel => exact ⟨_, ((t355 != 0)), (by first | rfl | (simp; done) | (simp [*]; done)), H', ⟨by have := HJ6.out; first | omega | exact Nat.le_refl _⟩, ⟨by repeat (first | (with_reducible first | exact HB.out | apply below_alloc | apply pw_below_drewN | apply below_drew1) | exact HB.out)⟩⟩
          · rw [if_neg c14] at H
            have c14b0 : (t352 == 0) = false := beq_eq_false_iff_ne.mpr c14
            have c14b1 : (t352 != 0) = true := bne_iff_ne.mpr c14
            (first | rw [c14b0] | (simp only [i64_w, i32_w]; rw [c14b0]) | rw [c14b1] | skip)
            have H' := Aside0.mk H
            clear H
            go_wp2
            go_meet
            case rel => exact ⟨_, (true), (by first | rfl | (simp; done) | (simp [*]; done)), H', ⟨by have := HJ6.out; first | omega | exact Nat.le_refl _⟩, ⟨by repeat (first | (with_reducible first | exact HB.out | apply below_alloc | apply pw_below_drewN | apply below_drew1) | exact HB.out)⟩⟩
        case rest =>
          clear HC13
          try clear c1
          try clear c2
          try clear p2
          try clear c4
          try clear c11
          try clear c11b0
          try clear c11b1
          try clear c12
          try clear c14
          try clear c14b0
          try clear c14b1
          try clear p2
          obtain ⟨kq, x47_12, rfl, HA, HJ12, HB⟩ := hcut
          cases kq with
          | zero => exact absurd HA.out (by simp [mjolnerlaw03_TextLines.j1])
          | succ kj12 =>
            have H := HA.out
            clear HA
            simp only [mjolnerlaw03_TextLines.j1] at H
            by_cases c15 : x47_12 = true
            · subst c15
              have H1 : (some t349) = some r := by rw [if_pos rfl] at H; exact H
              clear H
              have H := H1
              clear H1
              obtain rfl := Option.some.inj H
              go_wp2
              go_ret
              exact ⟨by first | rfl | (simp [errW_none, errW_some] <;> rfl) | (simp [*, errW_none, errW_some] <;> rfl), by repeat (first | (with_reducible first | exact HB.out | apply below_alloc | apply pw_below_drewN | apply below_drew1) | exact HB.out)⟩
            · replace c15 := Bool.eq_false_iff.mpr c15
              subst c15
              have H1 : ((text_Offset.f kj12 a0 t350 t351).bind fun bt356 => (if bt356.2 = 0 then (if bt356.1 = a1 then (if t350 < 1 then (mjolnerlaw03_TextLines.j2 kj12 a1 a2 t349 t350 t351 t353 t354 true) else (mjolnerlaw03_TextLines.j2 kj12 a1 a2 t349 t350 t351 t353 t354 (decide (t351 < 1)))) else (mjolnerlaw03_TextLines.j2 kj12 a1 a2 t349 t350 t351 t353 t354 true)) else (mjolnerlaw03_TextLines.j2 kj12 a1 a2 t349 t350 t351 t353 t354 true))) = some r := by rw [if_neg (show ¬ (false = true) by decide)] at H; exact H
              clear H
              have H := H1
              clear H1
              replace H := Option.bind_eq_some_iff.mp H
              obtain ⟨⟨t356, t357⟩, A160, H⟩ := H
              replace H : (if t357 = 0 then (if t356 = a1 then (if t350 < 1 then (mjolnerlaw03_TextLines.j2 kj12 a1 a2 t349 t350 t351 t353 t354 true) else (mjolnerlaw03_TextLines.j2 kj12 a1 a2 t349 t350 t351 t353 t354 (decide (t351 < 1)))) else (mjolnerlaw03_TextLines.j2 kj12 a1 a2 t349 t350 t351 t353 t354 true)) else (mjolnerlaw03_TextLines.j2 kj12 a1 a2 t349 t350 t351 t353 t354 true)) = some r := H
              have A16 := Aside0.mk A160
              clear A160
              have HC17 := Aside0.mk H
              clear H
              go_upto_region 9 with (first | ((with_reducible refine gate_callee (f := 43) rfl ?_); refine goesL_ (some 53) rfl rfl Tryd.func43 (by kernel_rfl) rfl #[.string a0, .int .i64 t350, .int .i64 t351] rfl (by (try simp only [List.map_toArray, List.map_cons, List.map_nil]); first | done | rfl | (simp only [List.length_drop, List.length_take]; rfl)) ?_; (with_reducible refine (text_Offset.calls kj12 a0 t350 t351 t356 t357 _ A16.out).mono ?_); rintro e w18 ⟨rfl, hb⟩; refine ⟨_, rfl, ?_⟩; have n0_ := Aside0.mk (below_step (by repeat (first | (with_reducible first | exact HB.out | apply below_alloc | apply pw_below_drewN | apply below_drew1) | exact HB.out)) hb); clear HB; have HB := n0_; clear n0_; (try clear hb); (try clear hb2); (try clear hk); (try clear hi)))
              (try simp only [Act.put, List.setIfInBounds_toArray, List.set_cons_zero, List.set_cons_succ])
              go_cut [70] (fun v70 wc => ∃ (kq : Nat) (x70_16 : Bool), v70 = .bool x70_16 ∧ Aside0 (mjolnerlaw03_TextLines.j2 kq a1 a2 t349 t350 t351 t353 t354 x70_16 = some r) ∧ Aside0 (kq ≤ kj12) ∧ Aside0 (Below w.heap.size w wc))
              case first =>
                have H := HC17.out
                clear HC17
                by_cases c19 : t357 = 0
                · rw [if_pos c19] at H
                  have c19b0 : (t357 == 0) = true := beq_iff_eq.mpr c19
                  have c19b1 : (t357 != 0) = false := bne_eq_false_iff_eq.mpr c19
                  clear c19
                  (first | rw [c19b0] | (simp only [i64_w, i32_w]; rw [c19b0]) | rw [c19b1] | skip)
                  by_cases c20 : t356 = a1
                  · rw [if_pos c20] at H
                    have c20b0 : (t356 == a1) = true := beq_iff_eq.mpr c20
                    have c20b1 : (t356 != a1) = false := bne_eq_false_iff_eq.mpr c20
                    clear c20
                    by_cases c21 : t350 < 1
                    · rw [if_pos c21] at H
                      have c21b0 : decide (t350 < 1) = true := decide_eq_true c21
                      clear c21
                      have H' := Aside0.mk H
                      clear H
                      go_wp2
                      go_meet
                      case rel => exact ⟨_, (true), (by first | rfl | (simp; done) | (simp [*]; done)), H', ⟨by have := HJ6.out; have := HJ12.out; first | omega | exact Nat.le_refl _⟩, ⟨by repeat (first | (with_reducible first | exact HB.out | apply below_alloc | apply pw_below_drewN | apply below_drew1) | exact HB.out)⟩⟩
                    · rw [if_neg c21] at H
                      have c21b0 : decide (t350 < 1) = false := decide_eq_false c21
                      clear c21
                      have H' := Aside0.mk H
                      clear H
                      go_wp2
                      go_meet
                      case rel => exact ⟨_, (decide (t351 < 1)), (by first | rfl | (simp; done) | (simp [*]; done)), H', ⟨by have := HJ6.out; have := HJ12.out; first | omega | exact Nat.le_refl _⟩, ⟨by repeat (first | (with_reducible first | exact HB.out | apply below_alloc | apply pw_below_drewN | apply below_drew1) | exact HB.out)⟩⟩
                  · rw [if_neg c20] at H
                    have c20b0 : (t356 == a1) = false := beq_eq_false_iff_ne.mpr c20
                    have c20b1 : (t356 != a1) = true := bne_iff_ne.mpr c20
                    have H' := Aside0.mk H
                    clear H
                    go_wp2
                    go_meet
                    case rel => exact ⟨_, (true), (by first | rfl | (simp; done) | (simp [*]; done)), H', ⟨by have := HJ6.out; have := HJ12.out; first | omega | exact Nat.le_refl _⟩, ⟨by repeat (first | (with_reducible first | exact HB.out | apply below_alloc | apply pw_below_drewN | apply below_drew1) | exact HB.out)⟩⟩
                · rw [if_neg c19] at H
                  have c19b0 : (t357 == 0) = false := beq_eq_false_iff_ne.mpr c19
                  have c19b1 : (t357 != 0) = true := bne_iff_ne.mpr c19
                  (first | rw [c19b0] | (simp only [i64_w, i32_w]; rw [c19b0]) | rw [c19b1] | skip)
                  have H' := Aside0.mk H
                  clear H
                  go_wp2
                  go_meet
                  case rel => exact ⟨_, (true), (by first | rfl | (simp; done) | (simp [*]; done)), H', ⟨by have := HJ6.out; have := HJ12.out; first | omega | exact Nat.le_refl _⟩, ⟨by repeat (first | (with_reducible first | exact HB.out | apply below_alloc | apply pw_below_drewN | apply below_drew1) | exact HB.out)⟩⟩
              case rest =>
                clear HC17
                try clear c1
                try clear c2
                try clear p2
                try clear c4
                try clear c11
                try clear c11b0
                try clear c11b1
                try clear c12
                try clear c14
                try clear c14b0
                try clear c14b1
                try clear c15
                try clear c19
                try clear c19b0
                try clear c19b1
                try clear c20
                try clear c20b0
                try clear c20b1
                try clear c21
                try clear c21b0
                try clear p2
                obtain ⟨kq, x70_16, rfl, HA, HJ16, HB⟩ := hcut
                cases kq with
                | zero => exact absurd HA.out (by simp [mjolnerlaw03_TextLines.j2])
                | succ kj16 =>
                  have H := HA.out
                  clear HA
                  simp only [mjolnerlaw03_TextLines.j2] at H
                  by_cases c22 : x70_16 = true
                  · subst c22
                    have H1 : (some false) = some r := by rw [if_pos rfl] at H; exact H
                    clear H
                    have H := H1
                    clear H1
                    obtain rfl := Option.some.inj H
                    go_wp2
                    go_ret
                    exact ⟨by first | rfl | (simp [errW_none, errW_some] <;> rfl) | (simp [*, errW_none, errW_some] <;> rfl), by repeat (first | (with_reducible first | exact HB.out | apply below_alloc | apply pw_below_drewN | apply below_drew1) | exact HB.out)⟩
                  · replace c22 := Bool.eq_false_iff.mpr c22
                    subst c22
                    have H1 : (if a1 < a2 then (if t349 = true then (if t350 < t353 then (some true) else (if t350 = t353 then (some (decide (t351 < t354))) else (some false))) else (some false)) else (if t349 = true then (if a1 > a2 then (some true) else (if t350 = t353 then (some (t351 == t354)) else (some false))) else (some false))) = some r := by rw [if_neg (show ¬ (false = true) by decide)] at H; exact H
                    clear H
                    have H := H1
                    clear H1
                    by_cases c23 : a1 < a2
                    · rw [if_pos c23] at H
                      have c23b0 : decide (a1 < a2) = true := decide_eq_true c23
                      clear c23
                      by_cases c24 : t349 = true
                      · subst c24
                        have H1 : (if t350 < t353 then (some true) else (if t350 = t353 then (some (decide (t351 < t354))) else (some false))) = some r := by rw [if_pos rfl] at H; exact H
                        clear H
                        have H := H1
                        clear H1
                        by_cases c25 : t350 < t353
                        · rw [if_pos c25] at H
                          have c25b0 : decide (t350 < t353) = true := decide_eq_true c25
                          clear c25
                          obtain rfl := Option.some.inj H
                          go_wp2
                          go_ret
                          exact ⟨by first | rfl | (simp [errW_none, errW_some] <;> rfl) | (simp [*, errW_none, errW_some] <;> rfl), by repeat (first | (with_reducible first | exact HB.out | apply below_alloc | apply pw_below_drewN | apply below_drew1) | exact HB.out)⟩
                        · rw [if_neg c25] at H
                          have c25b0 : decide (t350 < t353) = false := decide_eq_false c25
                          clear c25
                          by_cases c26 : t350 = t353
                          · rw [if_pos c26] at H
                            have c26b0 : (t350 == t353) = true := beq_iff_eq.mpr c26
                            have c26b1 : (t350 != t353) = false := bne_eq_false_iff_eq.mpr c26
                            clear c26
                            obtain rfl := Option.some.inj H
                            go_wp2
                            go_ret
                            exact ⟨by first | rfl | (simp [errW_none, errW_some] <;> rfl) | (simp [*, errW_none, errW_some] <;> rfl), by repeat (first | (with_reducible first | exact HB.out | apply below_alloc | apply pw_below_drewN | apply below_drew1) | exact HB.out)⟩
                          · rw [if_neg c26] at H
                            have c26b0 : (t350 == t353) = false := beq_eq_false_iff_ne.mpr c26
                            have c26b1 : (t350 != t353) = true := bne_iff_ne.mpr c26
                            obtain rfl := Option.some.inj H
                            go_wp2
                            go_ret
                            exact ⟨by first | rfl | (simp [errW_none, errW_some] <;> rfl) | (simp [*, errW_none, errW_some] <;> rfl), by repeat (first | (with_reducible first | exact HB.out | apply below_alloc | apply pw_below_drewN | apply below_drew1) | exact HB.out)⟩
                      · replace c24 := Bool.eq_false_iff.mpr c24
                        subst c24
                        have H1 : (some false) = some r := by rw [if_neg (show ¬ (false = true) by decide)] at H; exact H
                        clear H
                        have H := H1
                        clear H1
                        obtain rfl := Option.some.inj H
                        go_wp2
                        go_ret
                        exact ⟨by first | rfl | (simp [errW_none, errW_some] <;> rfl) | (simp [*, errW_none, errW_some] <;> rfl), by repeat (first | (with_reducible first | exact HB.out | apply below_alloc | apply pw_below_drewN | apply below_drew1) | exact HB.out)⟩
                    · rw [if_neg c23] at H
                      have c23b0 : decide (a1 < a2) = false := decide_eq_false c23
                      clear c23
                      by_cases c27 : t349 = true
                      · subst c27
                        have H1 : (if a1 > a2 then (some true) else (if t350 = t353 then (some (t351 == t354)) else (some false))) = some r := by rw [if_pos rfl] at H; exact H
                        clear H
                        have H := H1
                        clear H1
                        by_cases c28 : a1 > a2
                        · rw [if_pos c28] at H
                          have c28b0 : decide (a2 < a1) = true := decide_eq_true c28
                          clear c28
                          obtain rfl := Option.some.inj H
                          go_wp2
                          go_ret
                          exact ⟨by first | rfl | (simp [errW_none, errW_some] <;> rfl) | (simp [*, errW_none, errW_some] <;> rfl), by repeat (first | (with_reducible first | exact HB.out | apply below_alloc | apply pw_below_drewN | apply below_drew1) | exact HB.out)⟩
                        · rw [if_neg c28] at H
                          have c28b0 : decide (a2 < a1) = false := decide_eq_false c28
                          clear c28
                          by_cases c29 : t350 = t353
                          · rw [if_pos c29] at H
                            have c29b0 : (t350 == t353) = true := beq_iff_eq.mpr c29
                            have c29b1 : (t350 != t353) = false := bne_eq_false_iff_eq.mpr c29
                            clear c29
                            obtain rfl := Option.some.inj H
                            go_wp2
                            go_ret
                            exact ⟨by first | rfl | (simp [errW_none, errW_some] <;> rfl) | (simp [*, errW_none, errW_some] <;> rfl), by repeat (first | (with_reducible first | exact HB.out | apply below_alloc | apply pw_below_drewN | apply below_drew1) | exact HB.out)⟩
                          · rw [if_neg c29] at H
                            have c29b0 : (t350 == t353) = false := beq_eq_false_iff_ne.mpr c29
                            have c29b1 : (t350 != t353) = true := bne_iff_ne.mpr c29
                            obtain rfl := Option.some.inj H
                            go_wp2
                            go_ret
                            exact ⟨by first | rfl | (simp [errW_none, errW_some] <;> rfl) | (simp [*, errW_none, errW_some] <;> rfl), by repeat (first | (with_reducible first | exact HB.out | apply below_alloc | apply pw_below_drewN | apply below_drew1) | exact HB.out)⟩
                      · replace c27 := Bool.eq_false_iff.mpr c27
                        subst c27
                        have H1 : (some false) = some r := by rw [if_neg (show ¬ (false = true) by decide)] at H; exact H
                        clear H
                        have H := H1
                        clear H1
                        obtain rfl := Option.some.inj H
                        go_wp2
                        go_ret
                        exact ⟨by first | rfl | (simp [errW_none, errW_some] <;> rfl) | (simp [*, errW_none, errW_some] <;> rfl), by repeat (first | (with_reducible first | exact HB.out | apply below_alloc | apply pw_below_drewN | apply below_drew1) | exact HB.out)⟩

end Go.Proofs.YtdcemnmbfblmiaaDoor.PT
