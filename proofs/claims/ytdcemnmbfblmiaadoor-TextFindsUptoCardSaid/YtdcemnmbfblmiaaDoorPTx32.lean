-- Written by a program of mine (wip/print_given.sh: the kit's print, changed so that some functions are given by contracts).
import Derived.Test.YtdcemnmbfblmiaaDoorPTx0
import Derived.Test.YtdcemnmbfblmiaaDoorPTx2
import Derived.Test.YtdcemnmbfblmiaaDoorSane
namespace Go.Proofs.YtdcemnmbfblmiaaDoor.PT
open Go.RowKit Go.Proofs.YtdcemnmbfblmiaaDoor.Given Go.Proofs.YtdcemnmbfblmiaaDoorW.PrintWords Go.Proofs.YtdcemnmbfblmiaaDoorW.PrintLast Go.Proofs.YtdcemnmbfblmiaaDoorW.PrintMore
attribute [local go_sem] max2_int min2_int max_two min_two max_three min_three max_four min_four   -- for this text's walks alone
set_option linter.unusedVariables false
set_option linter.unusedSimpArgs false

/-! ### mjolnerlaw03_TextFinds: function 9 -/
mutual
def mjolnerlaw03_TextFinds.j0 : Nat → ByteArray → ByteArray → Int → Bool → Int → Int → Bool → Option (Bool)
  | 0, _, _, _, _, _, _, _ => none
  | k + 1, x0, x1, x2, x7, x8, x9, x29 => if x29 = true then (if x7 = true then (some (x9 == 3)) else (some false)) else (if x9 = 0 then ((text_Cut.f x0 x8 (wrap64 (x8 + (x1.size : Int)))).bind fun bt315 => (if bt315.2 = 0 then (if bt315.1.toList = x1.toList then (if x8 < x2 then (some false) else (mjolnerlaw03_TextFinds.j1 k x0 x1 x2 x7 x8)) else (some false)) else (some false))) else (if x9 = 5 then (mjolnerlaw03_TextFinds.j1 k x0 x1 x2 x7 (wrap64 ((x0.size : Int) + 1))) else (some false)))
def mjolnerlaw03_TextFinds.j1 : Nat → ByteArray → ByteArray → Int → Bool → Int → Option (Bool)
  | 0, _, _, _, _, _ => none
  | k + 1, x0, x1, x2, x7, x10 => mjolnerlaw03_TextFinds.l0 k x0 x1 x7 x10 x2
def mjolnerlaw03_TextFinds.l0 : Nat → ByteArray → ByteArray → Bool → Int → Int → Option (Bool)
  | 0, _, _, _, _, _ => none
  | k + 1, x0, x1, x7, x10, x13 => if x13 < x10 then (mjolnerlaw03_TextFinds.j3 k x0 x1 x7 x10 x13 (decide ((wrap64 (x13 + (x1.size : Int))) ≤ (x0.size : Int)))) else (mjolnerlaw03_TextFinds.j3 k x0 x1 x7 x10 x13 false)
def mjolnerlaw03_TextFinds.j3 : Nat → ByteArray → ByteArray → Bool → Int → Int → Bool → Option (Bool)
  | 0, _, _, _, _, _, _ => none
  | k + 1, x0, x1, x7, x10, x13, x77 => if x77 = true then (if 0 ≤ x13 then (if x13 ≤ (wrap64 (x13 + (x1.size : Int))) then (if (wrap64 (x13 + (x1.size : Int))) ≤ (x0.size : Int) then (if (x0.extract (x13 : Int).toNat ((wrap64 (x13 + (x1.size : Int))) : Int).toNat).toList = x1.toList then (some false) else (mjolnerlaw03_TextFinds.l0 k x0 x1 x7 x10 (wrap64 (x13 + 1)))) else (none)) else (none)) else (none)) else (some x7)
end
def mjolnerlaw03_TextFinds.f (k : Nat) (a0 : ByteArray) (a1 : ByteArray) (a2 : Int) : Option (Bool) := (mjolnerlaw03_sane.f).bind fun t312 => ((text_Find.f k a0 a1 a2).bind fun bt313 => (if a2 < 0 then (mjolnerlaw03_TextFinds.j0 k a0 a1 a2 t312 bt313.1 bt313.2 true) else (mjolnerlaw03_TextFinds.j0 k a0 a1 a2 t312 bt313.1 bt313.2 (decide (a2 > (a0.size : Int))))))
theorem mjolnerlaw03_TextFinds.mono_l : ∀ k, (∀ y0 y1 y2 y3 y4 y5 y6, LeO (mjolnerlaw03_TextFinds.j0 k y0 y1 y2 y3 y4 y5 y6) (mjolnerlaw03_TextFinds.j0 (k + 1) y0 y1 y2 y3 y4 y5 y6)) ∧ (∀ y0 y1 y2 y3 y4, LeO (mjolnerlaw03_TextFinds.j1 k y0 y1 y2 y3 y4) (mjolnerlaw03_TextFinds.j1 (k + 1) y0 y1 y2 y3 y4)) ∧ (∀ y0 y1 y2 y3 y4, LeO (mjolnerlaw03_TextFinds.l0 k y0 y1 y2 y3 y4) (mjolnerlaw03_TextFinds.l0 (k + 1) y0 y1 y2 y3 y4)) ∧ (∀ y0 y1 y2 y3 y4 y5, LeO (mjolnerlaw03_TextFinds.j3 k y0 y1 y2 y3 y4 y5) (mjolnerlaw03_TextFinds.j3 (k + 1) y0 y1 y2 y3 y4 y5))
  | 0 => ⟨fun _ _ _ _ _ _ _ r h => by simp [mjolnerlaw03_TextFinds.j0] at h, fun _ _ _ _ _ r h => by simp [mjolnerlaw03_TextFinds.j1] at h, fun _ _ _ _ _ r h => by simp [mjolnerlaw03_TextFinds.l0] at h, fun _ _ _ _ _ _ r h => by simp [mjolnerlaw03_TextFinds.j3] at h⟩
  | k + 1 => by
    obtain ⟨ih0, ih1, ih2, ih3⟩ := mjolnerlaw03_TextFinds.mono_l k
    refine ⟨?_, ?_, ?_, ?_⟩
    · intro y0 y1 y2 y3 y4 y5 y6
      unfold mjolnerlaw03_TextFinds.j0
      repeat' first
      | (with_reducible exact ih0 _ _ _ _ _ _ _)
      | (with_reducible exact ih1 _ _ _ _ _)
      | (with_reducible exact ih2 _ _ _ _ _)
      | (with_reducible exact ih3 _ _ _ _ _ _)
      | (with_reducible exact text_Find.mono _ _ _ _)
      | (with_reducible exact LeO.refl _)
      | (with_reducible exact LeO.none _)
      | (with_reducible refine LeO.ite ?_ ?_)
      | (with_reducible refine LeO.bind ?_ (fun _ => ?_))
      | exact ih0 _ _ _ _ _ _ _
      | exact ih1 _ _ _ _ _
      | exact ih2 _ _ _ _ _
      | exact ih3 _ _ _ _ _ _
      | exact text_Find.mono _ _ _ _
      | exact LeO.none _
      | refine LeO.ite ?_ ?_
      | refine LeO.bind ?_ (fun _ => ?_)
    · intro y0 y1 y2 y3 y4
      unfold mjolnerlaw03_TextFinds.j1
      repeat' first
      | (with_reducible exact ih0 _ _ _ _ _ _ _)
      | (with_reducible exact ih1 _ _ _ _ _)
      | (with_reducible exact ih2 _ _ _ _ _)
      | (with_reducible exact ih3 _ _ _ _ _ _)
      | (with_reducible exact text_Find.mono _ _ _ _)
      | (with_reducible exact LeO.refl _)
      | (with_reducible exact LeO.none _)
      | (with_reducible refine LeO.ite ?_ ?_)
      | (with_reducible refine LeO.bind ?_ (fun _ => ?_))
      | exact ih0 _ _ _ _ _ _ _
      | exact ih1 _ _ _ _ _
      | exact ih2 _ _ _ _ _
      | exact ih3 _ _ _ _ _ _
      | exact text_Find.mono _ _ _ _
      | exact LeO.none _
      | refine LeO.ite ?_ ?_
      | refine LeO.bind ?_ (fun _ => ?_)
    · intro y0 y1 y2 y3 y4
      unfold mjolnerlaw03_TextFinds.l0
      repeat' first
      | (with_reducible exact ih0 _ _ _ _ _ _ _)
      | (with_reducible exact ih1 _ _ _ _ _)
      | (with_reducible exact ih2 _ _ _ _ _)
      | (with_reducible exact ih3 _ _ _ _ _ _)
      | (with_reducible exact text_Find.mono _ _ _ _)
      | (with_reducible exact LeO.refl _)
      | (with_reducible exact LeO.none _)
      | (with_reducible refine LeO.ite ?_ ?_)
      | (with_reducible refine LeO.bind ?_ (fun _ => ?_))
      | exact ih0 _ _ _ _ _ _ _
      | exact ih1 _ _ _ _ _
      | exact ih2 _ _ _ _ _
      | exact ih3 _ _ _ _ _ _
      | exact text_Find.mono _ _ _ _
      | exact LeO.none _
      | refine LeO.ite ?_ ?_
      | refine LeO.bind ?_ (fun _ => ?_)
    · intro y0 y1 y2 y3 y4 y5
      unfold mjolnerlaw03_TextFinds.j3
      repeat' first
      | (with_reducible exact ih0 _ _ _ _ _ _ _)
      | (with_reducible exact ih1 _ _ _ _ _)
      | (with_reducible exact ih2 _ _ _ _ _)
      | (with_reducible exact ih3 _ _ _ _ _ _)
      | (with_reducible exact text_Find.mono _ _ _ _)
      | (with_reducible exact LeO.refl _)
      | (with_reducible exact LeO.none _)
      | (with_reducible refine LeO.ite ?_ ?_)
      | (with_reducible refine LeO.bind ?_ (fun _ => ?_))
      | exact ih0 _ _ _ _ _ _ _
      | exact ih1 _ _ _ _ _
      | exact ih2 _ _ _ _ _
      | exact ih3 _ _ _ _ _ _
      | exact text_Find.mono _ _ _ _
      | exact LeO.none _
      | refine LeO.ite ?_ ?_
      | refine LeO.bind ?_ (fun _ => ?_)
theorem mjolnerlaw03_TextFinds.mono : ∀ a0 a1 a2 k, LeO (mjolnerlaw03_TextFinds.f k a0 a1 a2) (mjolnerlaw03_TextFinds.f (k + 1) a0 a1 a2) := by
  intro a0 a1 a2 k
  obtain ⟨ih0, ih1, ih2, ih3⟩ := mjolnerlaw03_TextFinds.mono_l k
  unfold mjolnerlaw03_TextFinds.f
  repeat' first
      | (with_reducible exact ih0 _ _ _ _ _ _ _)
      | (with_reducible exact ih1 _ _ _ _ _)
      | (with_reducible exact ih2 _ _ _ _ _)
      | (with_reducible exact ih3 _ _ _ _ _ _)
      | (with_reducible exact text_Find.mono _ _ _ _)
      | (with_reducible exact LeO.refl _)
      | (with_reducible exact LeO.none _)
      | (with_reducible refine LeO.ite ?_ ?_)
      | (with_reducible refine LeO.bind ?_ (fun _ => ?_))
      | exact ih0 _ _ _ _ _ _ _
      | exact ih1 _ _ _ _ _
      | exact ih2 _ _ _ _ _
      | exact ih3 _ _ _ _ _ _
      | exact text_Find.mono _ _ _ _
      | exact LeO.none _
      | refine LeO.ite ?_ ?_
      | refine LeO.bind ?_ (fun _ => ?_)
set_option maxHeartbeats 8000000 in
set_option maxRecDepth 100000 in
theorem mjolnerlaw03_TextFinds.calls (k : Nat) (a0 : ByteArray) (a1 : ByteArray) (a2 : Int) (r : Bool) (w : World) (hG : LaidG w) (h : mjolnerlaw03_TextFinds.f k a0 a1 a2 = some r) :
    Calls Tryd.prog 9 #[.string a0, .string a1, .int .i64 a2] w fun e w' => e = .returned (.bool r) ∧ Below w.heap.size w w' := by
  have HB := Aside0.mk (Below.refl w.heap.size w)
  have HG := Aside0.mk (LaidG.keep hG)
  clear hG
  have H : ((mjolnerlaw03_sane.f).bind fun t312 => ((text_Find.f k a0 a1 a2).bind fun bt313 => (if a2 < 0 then (mjolnerlaw03_TextFinds.j0 k a0 a1 a2 t312 bt313.1 bt313.2 true) else (mjolnerlaw03_TextFinds.j0 k a0 a1 a2 t312 bt313.1 bt313.2 (decide (a2 > (a0.size : Int))))))) = some r := h
  clear h
  replace H := Option.bind_eq_some_iff.mp H
  obtain ⟨t312, A40, H⟩ := H
  replace H : ((text_Find.f k a0 a1 a2).bind fun bt313 => (if a2 < 0 then (mjolnerlaw03_TextFinds.j0 k a0 a1 a2 t312 bt313.1 bt313.2 true) else (mjolnerlaw03_TextFinds.j0 k a0 a1 a2 t312 bt313.1 bt313.2 (decide (a2 > (a0.size : Int)))))) = some r := H
  have A4 := Aside0.mk A40
  clear A40
  replace H := Option.bind_eq_some_iff.mp H
  obtain ⟨⟨t313, t314⟩, A50, H⟩ := H
  replace H : (if a2 < 0 then (mjolnerlaw03_TextFinds.j0 k a0 a1 a2 t312 t313 t314 true) else (mjolnerlaw03_TextFinds.j0 k a0 a1 a2 t312 t313 t314 (decide (a2 > (a0.size : Int))))) = some r := H
  have A5 := Aside0.mk A50
  clear A50
  have HC6 := Aside0.mk H
  clear H
  go_enter Tryd.func9, Tryd.ntmps9
  go_upto_region 3 with (first | ((with_reducible refine gate_callee (f := 29) rfl ?_); refine goesL_ (some 14) rfl rfl Tryd.func29 (by kernel_rfl) rfl #[] rfl (by (try simp only [List.map_toArray, List.map_cons, List.map_nil]); first | done | rfl | (simp only [List.length_drop, List.length_take]; rfl)) ?_; (with_reducible refine (mjolnerlaw03_sane.calls  t312 _ ?side1 A4.out).mono ?_); (case side1 => exact HG.out _ (by repeat (first | (with_reducible first | exact HB.out | apply below_alloc | apply pw_below_drewN | apply below_drew1) | exact HB.out))); rintro e w7 ⟨rfl, hb⟩; refine ⟨_, rfl, ?_⟩; have n0_ := Aside0.mk (below_step (by repeat (first | (with_reducible first | exact HB.out | apply below_alloc | apply pw_below_drewN | apply below_drew1) | exact HB.out)) hb); clear HB; have HB := n0_; clear n0_; (try clear hb); (try clear hb2); (try clear hk); (try clear hi)) | ((with_reducible refine gate_callee (f := 27) rfl ?_); refine goesL_ (some 19) rfl rfl Tryd.func27 (by kernel_rfl) rfl #[.string a0, .string a1, .int .i64 a2] rfl (by (try simp only [List.map_toArray, List.map_cons, List.map_nil]); first | done | rfl | (simp only [List.length_drop, List.length_take]; rfl)) ?_; (with_reducible refine (text_Find.calls k a0 a1 a2 t313 t314 _ ?side1 A5.out).mono ?_); (case side1 => exact HG.out _ (by repeat (first | (with_reducible first | exact HB.out | apply below_alloc | apply pw_below_drewN | apply below_drew1) | exact HB.out))); rintro e w8 ⟨rfl, hb⟩; refine ⟨_, rfl, ?_⟩; have n0_ := Aside0.mk (below_step (by repeat (first | (with_reducible first | exact HB.out | apply below_alloc | apply pw_below_drewN | apply below_drew1) | exact HB.out)) hb); clear HB; have HB := n0_; clear n0_; (try clear hb); (try clear hb2); (try clear hk); (try clear hi)))
  (try simp only [Act.put, List.setIfInBounds_toArray, List.set_cons_zero, List.set_cons_succ])
  go_cut [29] (fun v29 wc => ∃ (kq : Nat) (x29_5 : Bool), v29 = .bool x29_5 ∧ Aside0 (mjolnerlaw03_TextFinds.j0 kq a0 a1 a2 t312 t313 t314 x29_5 = some r) ∧ Aside0 (kq ≤ k) ∧ Aside0 (Below w.heap.size w wc))
  case first =>
    have H := HC6.out
    clear HC6
    by_cases c9 : a2 < 0
    · rw [if_pos c9] at H
      have c9b0 : decide (a2 < 0) = true := decide_eq_true c9
      clear c9
      (first | rw [c9b0] | (simp only [i64_w, i32_w]; rw [c9b0]) | rw [c9b1] | skip)
      have H' := Aside0.mk H
      clear H
      go_wp2
      go_meet
      case rel => exact ⟨_, (true), (by first | rfl | (simp; done) | (simp [*]; done)), H', ⟨by first | omega | exact Nat.le_refl _⟩, ⟨by repeat (first | (with_reducible first | exact HB.out | apply below_alloc | apply pw_below_drewN | apply below_drew1) | exact HB.out)⟩⟩
    · rw [if_neg c9] at H
      have c9b0 : decide (a2 < 0) = false := decide_eq_false c9
      clear c9
      (first | rw [c9b0] | (simp only [i64_w, i32_w]; rw [c9b0]) | rw [c9b1] | skip)
      have H' := Aside0.mk H
      clear H
      go_wp2
      go_meet
      case rel => exact ⟨_, (decide (a2 > (a0.size : Int))), (by first | rfl | (simp; done) | (simp [*]; done)), H', ⟨by first | omega | exact Nat.le_refl _⟩, ⟨by repeat (first | (with_reducible first | exact HB.out | apply below_alloc | apply pw_below_drewN | apply below_drew1) | exact HB.out)⟩⟩
  case rest =>
    clear HC6
    try clear c2
    try clear p2
    try clear c9
    try clear c9b0
    try clear c9b1
    obtain ⟨kq, x29_5, rfl, HA, HJ5, HB⟩ := hcut
    cases kq with
    | zero => exact absurd HA.out (by simp [mjolnerlaw03_TextFinds.j0])
    | succ kj5 =>
      have H := HA.out
      clear HA
      simp only [mjolnerlaw03_TextFinds.j0] at H
      by_cases c10 : x29_5 = true
      · subst c10
        have H1 : (if t312 = true then (some (t314 == 3)) else (some false)) = some r := by rw [if_pos rfl] at H; exact H
        clear H
        have H := H1
        clear H1
        by_cases c11 : t312 = true
        · subst c11
          have H1 : (some (t314 == 3)) = some r := by rw [if_pos rfl] at H; exact H
          clear H
          have H := H1
          clear H1
          obtain rfl := Option.some.inj H
          go_wp2
          go_ret
          exact ⟨by first | rfl | (simp [errW_none, errW_some] <;> rfl) | (simp [*, errW_none, errW_some] <;> rfl), by repeat (first | (with_reducible first | exact HB.out | apply below_alloc | apply pw_below_drewN | apply below_drew1) | exact HB.out)⟩
        · replace c11 := Bool.eq_false_iff.mpr c11
          subst c11
          have H1 : (some false) = some r := by rw [if_neg (show ¬ (false = true) by decide)] at H; exact H
          clear H
          have H := H1
          clear H1
          obtain rfl := Option.some.inj H
          go_wp2
          go_ret
          exact ⟨by first | rfl | (simp [errW_none, errW_some] <;> rfl) | (simp [*, errW_none, errW_some] <;> rfl), by repeat (first | (with_reducible first | exact HB.out | apply below_alloc | apply pw_below_drewN | apply below_drew1) | exact HB.out)⟩
      · replace c10 := Bool.eq_false_iff.mpr c10
        subst c10
        have H1 : (if t314 = 0 then ((text_Cut.f a0 t313 (wrap64 (t313 + (a1.size : Int)))).bind fun bt315 => (if bt315.2 = 0 then (if bt315.1.toList = a1.toList then (if t313 < a2 then (some false) else (mjolnerlaw03_TextFinds.j1 kj5 a0 a1 a2 t312 t313)) else (some false)) else (some false))) else (if t314 = 5 then (mjolnerlaw03_TextFinds.j1 kj5 a0 a1 a2 t312 (wrap64 ((a0.size : Int) + 1))) else (some false))) = some r := by rw [if_neg (show ¬ (false = true) by decide)] at H; exact H
        clear H
        have H := H1
        clear H1
        have HC12 := Aside0.mk H
        clear H
        go_upto_if 39 with (fail)
        go_cut [10] (fun v10 wc => ∃ (kq : Nat) (x10_11 : Int), v10 = .int .i64 x10_11 ∧ Aside0 (mjolnerlaw03_TextFinds.j1 kq a0 a1 a2 t312 x10_11 = some r) ∧ Aside0 (kq ≤ kj5) ∧ Aside0 (Below w.heap.size w wc))
        case first =>
          have H := HC12.out
          clear HC12
          by_cases c13 : t314 = 0
          · rw [if_pos c13] at H
            have c13b0 : (t314 == 0) = true := beq_iff_eq.mpr c13
            have c13b1 : (t314 != 0) = false := bne_eq_false_iff_eq.mpr c13
            clear c13
            (first | rw [c13b0] | (simp only [i64_w, i32_w]; rw [c13b0]) | rw [c13b1] | skip)
            replace H := Option.bind_eq_some_iff.mp H
            obtain ⟨⟨t315, t316⟩, A140, H⟩ := H
            replace H : (if t316 = 0 then (if t315.toList = a1.toList then (if t313 < a2 then (some false) else (mjolnerlaw03_TextFinds.j1 kj5 a0 a1 a2 t312 t313)) else (some false)) else (some false)) = some r := H
            have A14 := Aside0.mk A140
            clear A140
            by_cases c15 : t316 = 0
            · rw [if_pos c15] at H
              have c15b0 : (t316 == 0) = true := beq_iff_eq.mpr c15
              have c15b1 : (t316 != 0) = false := bne_eq_false_iff_eq.mpr c15
              clear c15
              by_cases c16 : t315.toList = a1.toList
              · rw [if_pos c16] at H
                have c16b0 : (t315.toList == a1.toList) = true := beq_iff_eq.mpr c16
                have c16b1 : (t315.toList != a1.toList) = false := bne_eq_false_iff_eq.mpr c16
                clear c16
                by_cases c17 : t313 < a2
                · rw [if_pos c17] at H
                  have c17b0 : decide (t313 < a2) = true := decide_eq_true c17
                  clear c17
                  obtain rfl := Option.some.inj H
                  go_wp2_with (first | ((with_reducible refine gate_callee (f := 25) rfl ?_); refine goesL_ (some 47) rfl rfl Tryd.func25 (by kernel_rfl) rfl #[.string a0, .int .i64 t313, .int .i64 (wrap64 (t313 + (a1.size : Int)))] rfl (by (try simp only [List.map_toArray, List.map_cons, List.map_nil]); first | done | rfl | (simp only [List.length_drop, List.length_take]; rfl)) ?_; (with_reducible refine (text_Cut.calls a0 t313 (wrap64 (t313 + (a1.size : Int))) t315 t316 _ A14.out).mono ?_); rintro e w' ⟨rfl, ⟨nd, rfl⟩⟩; refine ⟨_, rfl, ?_⟩))
                  go_ret
                  exact ⟨by first | rfl | (simp [errW_none, errW_some] <;> rfl) | (simp [*, errW_none, errW_some] <;> rfl), by repeat (first | (with_reducible first | exact HB.out | apply below_alloc | apply pw_below_drewN | apply below_drew1) | exact HB.out)⟩
                · rw [if_neg c17] at H
                  have c17b0 : decide (t313 < a2) = false := decide_eq_false c17
                  clear c17
                  have H' := Aside0.mk H
                  clear H
                  go_wp2_with (first | ((with_reducible refine gate_callee (f := 25) rfl ?_); refine goesL_ (some 47) rfl rfl Tryd.func25 (by kernel_rfl) rfl #[.string a0, .int .i64 t313, .int .i64 (wrap64 (t313 + (a1.size : Int)))] rfl (by (try simp only [List.map_toArray, List.map_cons, List.map_nil]); first | done | rfl | (simp only [List.length_drop, List.length_take]; rfl)) ?_; (with_reducible refine (text_Cut.calls a0 t313 (wrap64 (t313 + (a1.size : Int))) t315 t316 _ A14.out).mono ?_); rintro e w' ⟨rfl, ⟨nd, rfl⟩⟩; refine ⟨_, rfl, ?_⟩))
                  go_meet
                  case rel => exact ⟨_, (t313), (by first | rfl | (simp; done) | (simp [*]; done)), H', ⟨by have := HJ5.out; first | omega | exact Nat.le_refl _⟩, ⟨by repeat (first | (with_reducible first | exact HB.out | apply below_alloc | apply pw_below_drewN | apply below_drew1) | exact HB.out)⟩⟩
              · rw [if_neg c16] at H
                have c16b0 : (t315.toList == a1.toList) = false := beq_eq_false_iff_ne.mpr c16
                have c16b1 : (t315.toList != a1.toList) = true := bne_iff_ne.mpr c16
                obtain rfl := Option.some.inj H
                go_wp2_with (first | ((with_reducible refine gate_callee (f := 25) rfl ?_); refine goesL_ (some 47) rfl rfl Tryd.func25 (by kernel_rfl) rfl #[.string a0, .int .i64 t313, .int .i64 (wrap64 (t313 + (a1.size : Int)))] rfl (by (try simp only [List.map_toArray, List.map_cons, List.map_nil]); first | done | rfl | (simp only [List.length_drop, List.length_take]; rfl)) ?_; (with_reducible refine (text_Cut.calls a0 t313 (wrap64 (t313 + (a1.size : Int))) t315 t316 _ A14.out).mono ?_); rintro e w' ⟨rfl, ⟨nd, rfl⟩⟩; refine ⟨_, rfl, ?_⟩))
                go_ret
                exact ⟨by first | rfl | (simp [errW_none, errW_some] <;> rfl) | (simp [*, errW_none, errW_some] <;> rfl), by repeat (first | (with_reducible first | exact HB.out | apply below_alloc | apply pw_below_drewN | apply below_drew1) | exact HB.out)⟩
            · rw [if_neg c15] at H
              have c15b0 : (t316 == 0) = false := beq_eq_false_iff_ne.mpr c15
              have c15b1 : (t316 != 0) = true := bne_iff_ne.mpr c15
              obtain rfl := Option.some.inj H
              go_wp2_with (first | ((with_reducible refine gate_callee (f := 25) rfl ?_); refine goesL_ (some 47) rfl rfl Tryd.func25 (by kernel_rfl) rfl #[.string a0, .int .i64 t313, .int .i64 (wrap64 (t313 + (a1.size : Int)))] rfl (by (try simp only [List.map_toArray, List.map_cons, List.map_nil]); first | done | rfl | (simp only [List.length_drop, List.length_take]; rfl)) ?_; (with_reducible refine (text_Cut.calls a0 t313 (wrap64 (t313 + (a1.size : Int))) t315 t316 _ A14.out).mono ?_); rintro e w' ⟨rfl, ⟨nd, rfl⟩⟩; refine ⟨_, rfl, ?_⟩))
              go_ret
              exact ⟨by first | rfl | (simp [errW_none, errW_some] <;> rfl) | (simp [*, errW_none, errW_some] <;> rfl), by repeat (first | (with_reducible first | exact HB.out | apply below_alloc | apply pw_below_drewN | apply below_drew1) | exact HB.out)⟩
          · rw [if_neg c13] at H
            have c13b0 : (t314 == 0) = false := beq_eq_false_iff_ne.mpr c13
            have c13b1 : (t314 != 0) = true := bne_iff_ne.mpr c13
            (first | rw [c13b0] | (simp only [i64_w, i32_w]; rw [c13b0]) | rw [c13b1] | skip)
            by_cases c18 : t314 = 5
            · rw [if_pos c18] at H
              have c18b0 : (t314 == 5) = true := beq_iff_eq.mpr c18
              have c18b1 : (t314 != 5) = false := bne_eq_false_iff_eq.mpr c18
              clear c18
              have H' := Aside0.mk H
              clear H
              go_wp2
              go_meet
              case rel => exact ⟨_, (wrap64 ((a0.size : Int) + 1)), (by first | rfl | (simp; done) | (simp [*]; done)), H', ⟨by have := HJ5.out; first | omega | exact Nat.le_refl _⟩, ⟨by repeat (first | (with_reducible first | exact HB.out | apply below_alloc | apply pw_below_drewN | apply below_drew1) | exact HB.out)⟩⟩
            · rw [if_neg c18] at H
              have c18b0 : (t314 == 5) = false := beq_eq_false_iff_ne.mpr c18
              have c18b1 : (t314 != 5) = true := bne_iff_ne.mpr c18
              obtain rfl := Option.some.inj H
              go_wp2
              go_ret
              exact ⟨by first | rfl | (simp [errW_none, errW_some] <;> rfl) | (simp [*, errW_none, errW_some] <;> rfl), by repeat (first | (with_reducible first | exact HB.out | apply below_alloc | apply pw_below_drewN | apply below_drew1) | exact HB.out)⟩
        case rest =>
          clear HC12
          try clear c1
          try clear c2
          try clear p2
          try clear p6
          try clear c9
          try clear c9b0
          try clear c9b1
          try clear c10
          try clear c11
          try clear c13
          try clear c13b0
          try clear c13b1
          try clear c15
          try clear c15b0
          try clear c15b1
          try clear c16
          try clear c16b0
          try clear c16b1
          try clear c17
          try clear c17b0
          try clear c18
          try clear c18b0
          try clear c18b1
          try clear p2
          obtain ⟨kq, x10_11, rfl, HA, HJ11, HB⟩ := hcut
          cases kq with
          | zero => exact absurd HA.out (by simp [mjolnerlaw03_TextFinds.j1])
          | succ kj11 =>
            have H := HA.out
            clear HA
            simp only [mjolnerlaw03_TextFinds.j1] at H
            have H' := Aside0.mk H
            clear H
            go_wp2
            go_loopg [13] kj11 (fun kq v13 w' => ∃ (x13_3 : Int), v13 = .int .i64 x13_3 ∧ Aside0 (mjolnerlaw03_TextFinds.l0 kq a0 a1 t312 x10_11 x13_3 = some r) ∧ Aside0 (kq ≤ kj11) ∧ Aside0 (Below w.heap.size w w'))
            case atStart => exact ⟨(a2), (by first | rfl | (simp; done) | (simp [*]; done)), H', ⟨Nat.le_refl _⟩, ⟨by repeat (first | (with_reducible first | exact HB.out | apply below_alloc | apply pw_below_drewN | apply below_drew1) | exact HB.out)⟩⟩
            case round =>
              clear H'
              try clear c1
              try clear c2
              try clear p2
              try clear p6
              try clear c9
              try clear c9b0
              try clear c9b1
              try clear c10
              try clear c11
              try clear c13
              try clear c13b0
              try clear c13b1
              try clear c15
              try clear c15b0
              try clear c15b1
              try clear c16
              try clear c16b0
              try clear c16b1
              try clear c17
              try clear c17b0
              try clear c18
              try clear c18b0
              try clear c18b1
              try clear p2
              try clear p6
              obtain ⟨x13_3, rfl, HA, HK3, HB⟩ := hrel
              cases gk with
              | zero => exact absurd HA.out (by simp [mjolnerlaw03_TextFinds.l0])
              | succ k3 =>
                have H := HA.out
                clear HA
                simp only [mjolnerlaw03_TextFinds.l0] at H
                have HC19 := Aside0.mk H
                clear H
                go_upto_region 14 with (fail)
                go_cut [77] (fun v77 wc => ∃ (kq : Nat) (x77_18 : Bool), v77 = .bool x77_18 ∧ Aside0 (mjolnerlaw03_TextFinds.j3 kq a0 a1 t312 x10_11 x13_3 x77_18 = some r) ∧ Aside0 (kq ≤ k3) ∧ Aside0 (Below w.heap.size w wc))
                case first =>
                  have H := HC19.out
                  clear HC19
                  by_cases c20 : x13_3 < x10_11
                  · rw [if_pos c20] at H
                    have c20b0 : decide (x13_3 < x10_11) = true := decide_eq_true c20
                    clear c20
                    (first | rw [c20b0] | (simp only [i64_w, i32_w]; rw [c20b0]) | rw [c20b1] | skip)
                    have H' := Aside0.mk H
                    clear H
                    go_wp2
                    go_meet
                    case rel => exact ⟨_, (decide ((wrap64 (x13_3 + (a1.size : Int))) ≤ (a0.size : Int))), (by first | rfl | (simp; done) | (simp [*]; done)), H', ⟨by have := HJ5.out; have := HJ11.out; have := HK3.out; first | omega | exact Nat.le_refl _⟩, ⟨by repeat (first | (with_reducible first | exact HB.out | apply below_alloc | apply pw_below_drewN | apply below_drew1) | exact HB.out)⟩⟩
                  · rw [if_neg c20] at H
                    have c20b0 : decide (x13_3 < x10_11) = false := decide_eq_false c20
                    clear c20
                    (first | rw [c20b0] | (simp only [i64_w, i32_w]; rw [c20b0]) | rw [c20b1] | skip)
                    have H' := Aside0.mk H
                    clear H
                    go_wp2
                    go_meet
                    case rel => exact ⟨_, (false), (by first | rfl | (simp; done) | (simp [*]; done)), H', ⟨by have := HJ5.out; have := HJ11.out; have := HK3.out; first | omega | exact Nat.le_refl _⟩, ⟨by repeat (first | (with_reducible first | exact HB.out | apply below_alloc | apply pw_below_drewN | apply below_drew1) | exact HB.out)⟩⟩
                case rest =>
                  clear HC19
                  try clear c1
                  try clear c2
                  try clear p2
                  try clear p6
                  try clear c9
                  try clear c9b0
                  try clear c9b1
                  try clear c10
                  try clear c11
                  try clear c13
                  try clear c13b0
                  try clear c13b1
                  try clear c15
                  try clear c15b0
                  try clear c15b1
                  try clear c16
                  try clear c16b0
                  try clear c16b1
                  try clear c17
                  try clear c17b0
                  try clear c18
                  try clear c18b0
                  try clear c18b1
                  try clear c20
                  try clear c20b0
                  try clear c20b1
                  try clear p2
                  try clear p6
                  obtain ⟨kq, x77_18, rfl, HA, HJ18, HB⟩ := hcut
                  cases kq with
                  | zero => exact absurd HA.out (by simp [mjolnerlaw03_TextFinds.j3])
                  | succ kj18 =>
                    have H := HA.out
                    clear HA
                    simp only [mjolnerlaw03_TextFinds.j3] at H
                    by_cases c21 : x77_18 = true
                    · subst c21
                      have H1 : (if 0 ≤ x13_3 then (if x13_3 ≤ (wrap64 (x13_3 + (a1.size : Int))) then (if (wrap64 (x13_3 + (a1.size : Int))) ≤ (a0.size : Int) then (if (a0.extract (x13_3 : Int).toNat ((wrap64 (x13_3 + (a1.size : Int))) : Int).toNat).toList = a1.toList then (some false) else (mjolnerlaw03_TextFinds.l0 kj18 a0 a1 t312 x10_11 (wrap64 (x13_3 + 1)))) else (none)) else (none)) else (none)) = some r := by rw [if_pos rfl] at H; exact H
                      clear H
                      have H := H1
                      clear H1
                      by_cases c22 : 0 ≤ x13_3
                      · rw [if_pos c22] at H
                        have c22b0 := eq_true c22
                        have c22b1 : decide (0 ≤ x13_3) = true := decide_eq_true c22
                        clear c22
                        by_cases c23 : x13_3 ≤ (wrap64 (x13_3 + (a1.size : Int)))
                        · rw [if_pos c23] at H
                          have c23b0 := eq_true c23
                          have c23b1 : decide (x13_3 ≤ (wrap64 (x13_3 + (a1.size : Int)))) = true := decide_eq_true c23
                          by_cases c24 : (wrap64 (x13_3 + (a1.size : Int))) ≤ (a0.size : Int)
                          · rw [if_pos c24] at H
                            have c24b0 := eq_true c24
                            have c24b1 : decide ((wrap64 (x13_3 + (a1.size : Int))) ≤ (a0.size : Int)) = true := decide_eq_true c24
                            by_cases c25 : (a0.extract (x13_3 : Int).toNat ((wrap64 (x13_3 + (a1.size : Int))) : Int).toNat).toList = a1.toList
                            · rw [if_pos c25] at H
                              have c25b0 : ((a0.extract (x13_3 : Int).toNat ((wrap64 (x13_3 + (a1.size : Int))) : Int).toNat).toList == a1.toList) = true := beq_iff_eq.mpr c25
                              have c25b1 : ((a0.extract (x13_3 : Int).toNat ((wrap64 (x13_3 + (a1.size : Int))) : Int).toNat).toList != a1.toList) = false := bne_eq_false_iff_eq.mpr c25
                              clear c25
                              obtain rfl := Option.some.inj H
                              go_wp2
                              go_ret
                              exact ⟨by first | rfl | (simp [errW_none, errW_some] <;> rfl) | (simp [*, errW_none, errW_some] <;> rfl), by repeat (first | (with_reducible first | exact HB.out | apply below_alloc | apply pw_below_drewN | apply below_drew1) | exact HB.out)⟩
                            · rw [if_neg c25] at H
                              have c25b0 : ((a0.extract (x13_3 : Int).toNat ((wrap64 (x13_3 + (a1.size : Int))) : Int).toNat).toList == a1.toList) = false := beq_eq_false_iff_ne.mpr c25
                              have c25b1 : ((a0.extract (x13_3 : Int).toNat ((wrap64 (x13_3 + (a1.size : Int))) : Int).toNat).toList != a1.toList) = true := bne_iff_ne.mpr c25
                              have H' := Aside0.mk H
                              clear H
                              go_wp2
                              go_roundg kj18
                              case measure => have := HJ5.out; have := HJ11.out; have := HK3.out; have := HJ18.out; omega
                              case rel => exact ⟨(wrap64 (x13_3 + 1)), (by first | rfl | (simp; done) | (simp [*]; done)), H', ⟨by have := HJ5.out; have := HJ11.out; have := HK3.out; have := HJ18.out; omega⟩, ⟨by repeat (first | (with_reducible first | exact HB.out | apply below_alloc | apply pw_below_drewN | apply below_drew1) | exact HB.out)⟩⟩
                          · rw [if_neg c24] at H
                            exact absurd H (by simp)
                        · rw [if_neg c23] at H
                          exact absurd H (by simp)
                      · rw [if_neg c22] at H
                        exact absurd H (by simp)
                    · replace c21 := Bool.eq_false_iff.mpr c21
                      subst c21
                      have H1 : (some t312) = some r := by rw [if_neg (show ¬ (false = true) by decide)] at H; exact H
                      clear H
                      have H := H1
                      clear H1
                      obtain rfl := Option.some.inj H
                      go_wp2
                      go_ret
                      exact ⟨by first | rfl | (simp [errW_none, errW_some] <;> rfl) | (simp [*, errW_none, errW_some] <;> rfl), by repeat (first | (with_reducible first | exact HB.out | apply below_alloc | apply pw_below_drewN | apply below_drew1) | exact HB.out)⟩

end Go.Proofs.YtdcemnmbfblmiaaDoor.PT
