-- Written by a program of mine (wip/print_given.sh: the kit's print, changed so that some functions are given by contracts).
import Derived.Test.YtdcemnmbfblmiaaDoorPTx0
import Derived.Test.YtdcemnmbfblmiaaDoorPTx2
import Derived.Test.YtdcemnmbfblmiaaDoorPTx5
import Derived.Test.YtdcemnmbfblmiaaDoorSane
namespace Go.Proofs.YtdcemnmbfblmiaaDoor.PT
open Go.RowKit Go.Proofs.YtdcemnmbfblmiaaDoor.Given Go.Proofs.YtdcemnmbfblmiaaDoorW.PrintWords Go.Proofs.YtdcemnmbfblmiaaDoorW.PrintLast Go.Proofs.YtdcemnmbfblmiaaDoorW.PrintMore
attribute [local go_sem] max2_int min2_int max_two min_two max_three min_three max_four min_four   -- for this text's walks alone
set_option linter.unusedVariables false
set_option linter.unusedSimpArgs false

/-! ### mjolnerlaw03_TextMatchesReference: function 3 -/
def mjolnerlaw03_TextMatchesReference.j0 : Nat → ByteArray → ByteArray → Int → Int → Bool → Option (Bool)
  | 0, _, _, _, _, _ => none
  | k + 1, x0, x1, x2, x3, x82 => if x82 = true then (some false) else ((text_Cut.f x0 x2 x3).bind fun bt156 => ((mjolnerref03_Cut.f x0 x2 x3).bind fun bt158 => ((text_Find.f k x0 x1 x2).bind fun bt160 => ((mjolnerref03_Find.f k x0 x1 x2).bind fun bt162 => ((mjolnerlaw03_sane.f).bind fun t164 => (if t164 = true then (if bt156.1.toList = bt158.1.toList then (if bt156.2 = bt158.2 then (if bt160.1 = bt162.1 then (some (bt160.2 == bt162.2)) else (some false)) else (some false)) else (some false)) else (some false)))))))
def mjolnerlaw03_TextMatchesReference.f (k : Nat) (a0 : ByteArray) (a1 : ByteArray) (a2 : Int) (a3 : Int) : Option (Bool) := (text_Cat.f a0 a1).bind fun bt144 => ((mjolnerref03_Cat.f a0 a1).bind fun bt146 => ((text_At.f a0 a2).bind fun bt148 => ((mjolnerref03_At.f a0 a2).bind fun bt150 => ((text_Valid.f a0).bind fun t152 => ((mjolnerref03_Valid.f a0).bind fun t153 => (if (t152 != t153) = true then (mjolnerlaw03_TextMatchesReference.j0 k a0 a1 a2 a3 true) else (if bt144.1.toList = bt146.1.toList then (if bt144.2 = bt146.2 then ((text_Compare.f a0 a1).bind fun t154 => ((mjolnerref03_Compare.f k a0 a1).bind fun t155 => (if t154 = t155 then (if bt148.1 = bt150.1 then (mjolnerlaw03_TextMatchesReference.j0 k a0 a1 a2 a3 (bt148.2 != bt150.2)) else (mjolnerlaw03_TextMatchesReference.j0 k a0 a1 a2 a3 true)) else (mjolnerlaw03_TextMatchesReference.j0 k a0 a1 a2 a3 true)))) else (mjolnerlaw03_TextMatchesReference.j0 k a0 a1 a2 a3 true)) else (mjolnerlaw03_TextMatchesReference.j0 k a0 a1 a2 a3 true))))))))
theorem mjolnerlaw03_TextMatchesReference.mono_l : ∀ k, (∀ y0 y1 y2 y3 y4, LeO (mjolnerlaw03_TextMatchesReference.j0 k y0 y1 y2 y3 y4) (mjolnerlaw03_TextMatchesReference.j0 (k + 1) y0 y1 y2 y3 y4))
  | 0 => fun _ _ _ _ _ r h => by simp [mjolnerlaw03_TextMatchesReference.j0] at h
  | k + 1 => by
    have ih0 := mjolnerlaw03_TextMatchesReference.mono_l k
    · intro y0 y1 y2 y3 y4
      unfold mjolnerlaw03_TextMatchesReference.j0
      repeat' first
      | (with_reducible exact ih0 _ _ _ _ _)
      | (with_reducible exact mjolnerref03_Compare.mono _ _ _)
      | (with_reducible exact mjolnerref03_Find.mono _ _ _ _)
      | (with_reducible exact text_Find.mono _ _ _ _)
      | (with_reducible exact LeO.refl _)
      | (with_reducible exact LeO.none _)
      | (with_reducible refine LeO.ite ?_ ?_)
      | (with_reducible refine LeO.bind ?_ (fun _ => ?_))
      | exact ih0 _ _ _ _ _
      | exact mjolnerref03_Compare.mono _ _ _
      | exact mjolnerref03_Find.mono _ _ _ _
      | exact text_Find.mono _ _ _ _
      | exact LeO.none _
      | refine LeO.ite ?_ ?_
      | refine LeO.bind ?_ (fun _ => ?_)
theorem mjolnerlaw03_TextMatchesReference.mono : ∀ a0 a1 a2 a3 k, LeO (mjolnerlaw03_TextMatchesReference.f k a0 a1 a2 a3) (mjolnerlaw03_TextMatchesReference.f (k + 1) a0 a1 a2 a3) := by
  intro a0 a1 a2 a3 k
  have ih0 := mjolnerlaw03_TextMatchesReference.mono_l k
  unfold mjolnerlaw03_TextMatchesReference.f
  repeat' first
      | (with_reducible exact ih0 _ _ _ _ _)
      | (with_reducible exact mjolnerref03_Compare.mono _ _ _)
      | (with_reducible exact mjolnerref03_Find.mono _ _ _ _)
      | (with_reducible exact text_Find.mono _ _ _ _)
      | (with_reducible exact LeO.refl _)
      | (with_reducible exact LeO.none _)
      | (with_reducible refine LeO.ite ?_ ?_)
      | (with_reducible refine LeO.bind ?_ (fun _ => ?_))
      | exact ih0 _ _ _ _ _
      | exact mjolnerref03_Compare.mono _ _ _
      | exact mjolnerref03_Find.mono _ _ _ _
      | exact text_Find.mono _ _ _ _
      | exact LeO.none _
      | refine LeO.ite ?_ ?_
      | refine LeO.bind ?_ (fun _ => ?_)
set_option maxHeartbeats 8000000 in
set_option maxRecDepth 100000 in
theorem mjolnerlaw03_TextMatchesReference.calls (k : Nat) (a0 : ByteArray) (a1 : ByteArray) (a2 : Int) (a3 : Int) (r : Bool) (w : World) (hG : LaidG w) (h : mjolnerlaw03_TextMatchesReference.f k a0 a1 a2 a3 = some r) :
    Calls Tryd.prog 3 #[.string a0, .string a1, .int .i64 a2, .int .i64 a3] w fun e w' => e = .returned (.bool r) ∧ Below w.heap.size w w' := by
  have HB := Aside0.mk (Below.refl w.heap.size w)
  have HG := Aside0.mk (LaidG.keep hG)
  clear hG
  have H : ((text_Cat.f a0 a1).bind fun bt144 => ((mjolnerref03_Cat.f a0 a1).bind fun bt146 => ((text_At.f a0 a2).bind fun bt148 => ((mjolnerref03_At.f a0 a2).bind fun bt150 => ((text_Valid.f a0).bind fun t152 => ((mjolnerref03_Valid.f a0).bind fun t153 => (if (t152 != t153) = true then (mjolnerlaw03_TextMatchesReference.j0 k a0 a1 a2 a3 true) else (if bt144.1.toList = bt146.1.toList then (if bt144.2 = bt146.2 then ((text_Compare.f a0 a1).bind fun t154 => ((mjolnerref03_Compare.f k a0 a1).bind fun t155 => (if t154 = t155 then (if bt148.1 = bt150.1 then (mjolnerlaw03_TextMatchesReference.j0 k a0 a1 a2 a3 (bt148.2 != bt150.2)) else (mjolnerlaw03_TextMatchesReference.j0 k a0 a1 a2 a3 true)) else (mjolnerlaw03_TextMatchesReference.j0 k a0 a1 a2 a3 true)))) else (mjolnerlaw03_TextMatchesReference.j0 k a0 a1 a2 a3 true)) else (mjolnerlaw03_TextMatchesReference.j0 k a0 a1 a2 a3 true))))))))) = some r := h
  clear h
  replace H := Option.bind_eq_some_iff.mp H
  obtain ⟨⟨t144, t145⟩, A50, H⟩ := H
  replace H : ((mjolnerref03_Cat.f a0 a1).bind fun bt146 => ((text_At.f a0 a2).bind fun bt148 => ((mjolnerref03_At.f a0 a2).bind fun bt150 => ((text_Valid.f a0).bind fun t152 => ((mjolnerref03_Valid.f a0).bind fun t153 => (if (t152 != t153) = true then (mjolnerlaw03_TextMatchesReference.j0 k a0 a1 a2 a3 true) else (if t144.toList = bt146.1.toList then (if t145 = bt146.2 then ((text_Compare.f a0 a1).bind fun t154 => ((mjolnerref03_Compare.f k a0 a1).bind fun t155 => (if t154 = t155 then (if bt148.1 = bt150.1 then (mjolnerlaw03_TextMatchesReference.j0 k a0 a1 a2 a3 (bt148.2 != bt150.2)) else (mjolnerlaw03_TextMatchesReference.j0 k a0 a1 a2 a3 true)) else (mjolnerlaw03_TextMatchesReference.j0 k a0 a1 a2 a3 true)))) else (mjolnerlaw03_TextMatchesReference.j0 k a0 a1 a2 a3 true)) else (mjolnerlaw03_TextMatchesReference.j0 k a0 a1 a2 a3 true)))))))) = some r := H
  have A5 := Aside0.mk A50
  clear A50
  replace H := Option.bind_eq_some_iff.mp H
  obtain ⟨⟨t146, t147⟩, A60, H⟩ := H
  replace H : ((text_At.f a0 a2).bind fun bt148 => ((mjolnerref03_At.f a0 a2).bind fun bt150 => ((text_Valid.f a0).bind fun t152 => ((mjolnerref03_Valid.f a0).bind fun t153 => (if (t152 != t153) = true then (mjolnerlaw03_TextMatchesReference.j0 k a0 a1 a2 a3 true) else (if t144.toList = t146.toList then (if t145 = t147 then ((text_Compare.f a0 a1).bind fun t154 => ((mjolnerref03_Compare.f k a0 a1).bind fun t155 => (if t154 = t155 then (if bt148.1 = bt150.1 then (mjolnerlaw03_TextMatchesReference.j0 k a0 a1 a2 a3 (bt148.2 != bt150.2)) else (mjolnerlaw03_TextMatchesReference.j0 k a0 a1 a2 a3 true)) else (mjolnerlaw03_TextMatchesReference.j0 k a0 a1 a2 a3 true)))) else (mjolnerlaw03_TextMatchesReference.j0 k a0 a1 a2 a3 true)) else (mjolnerlaw03_TextMatchesReference.j0 k a0 a1 a2 a3 true))))))) = some r := H
  have A6 := Aside0.mk A60
  clear A60
  replace H := Option.bind_eq_some_iff.mp H
  obtain ⟨⟨t148, t149⟩, A70, H⟩ := H
  replace H : ((mjolnerref03_At.f a0 a2).bind fun bt150 => ((text_Valid.f a0).bind fun t152 => ((mjolnerref03_Valid.f a0).bind fun t153 => (if (t152 != t153) = true then (mjolnerlaw03_TextMatchesReference.j0 k a0 a1 a2 a3 true) else (if t144.toList = t146.toList then (if t145 = t147 then ((text_Compare.f a0 a1).bind fun t154 => ((mjolnerref03_Compare.f k a0 a1).bind fun t155 => (if t154 = t155 then (if t148 = bt150.1 then (mjolnerlaw03_TextMatchesReference.j0 k a0 a1 a2 a3 (t149 != bt150.2)) else (mjolnerlaw03_TextMatchesReference.j0 k a0 a1 a2 a3 true)) else (mjolnerlaw03_TextMatchesReference.j0 k a0 a1 a2 a3 true)))) else (mjolnerlaw03_TextMatchesReference.j0 k a0 a1 a2 a3 true)) else (mjolnerlaw03_TextMatchesReference.j0 k a0 a1 a2 a3 true)))))) = some r := H
  have A7 := Aside0.mk A70
  clear A70
  replace H := Option.bind_eq_some_iff.mp H
  obtain ⟨⟨t150, t151⟩, A80, H⟩ := H
  replace H : ((text_Valid.f a0).bind fun t152 => ((mjolnerref03_Valid.f a0).bind fun t153 => (if (t152 != t153) = true then (mjolnerlaw03_TextMatchesReference.j0 k a0 a1 a2 a3 true) else (if t144.toList = t146.toList then (if t145 = t147 then ((text_Compare.f a0 a1).bind fun t154 => ((mjolnerref03_Compare.f k a0 a1).bind fun t155 => (if t154 = t155 then (if t148 = t150 then (mjolnerlaw03_TextMatchesReference.j0 k a0 a1 a2 a3 (t149 != t151)) else (mjolnerlaw03_TextMatchesReference.j0 k a0 a1 a2 a3 true)) else (mjolnerlaw03_TextMatchesReference.j0 k a0 a1 a2 a3 true)))) else (mjolnerlaw03_TextMatchesReference.j0 k a0 a1 a2 a3 true)) else (mjolnerlaw03_TextMatchesReference.j0 k a0 a1 a2 a3 true))))) = some r := H
  have A8 := Aside0.mk A80
  clear A80
  have HC9 := Aside0.mk H
  clear H
  go_enter Tryd.func3, Tryd.ntmps3
  go_upto_region 5 with (first | ((with_reducible refine gate_callee (f := 17) rfl ?_); refine goesL_ (some 28) rfl rfl Tryd.func17 (by kernel_rfl) rfl #[.string a0, .string a1] rfl (by (try simp only [List.map_toArray, List.map_cons, List.map_nil]); first | done | rfl | (simp only [List.length_drop, List.length_take]; rfl)) ?_; (with_reducible refine (text_Cat.calls a0 a1 t144 t145 _ A5.out).mono ?_); rintro e w10 ⟨rfl, hb⟩; refine ⟨_, rfl, ?_⟩; have n0_ := Aside0.mk (below_step (by repeat (first | (with_reducible first | exact HB.out | apply below_alloc | apply pw_below_drewN | apply below_drew1) | exact HB.out)) hb); clear HB; have HB := n0_; clear n0_; (try clear hb); (try clear hb2); (try clear hk); (try clear hi)) | ((with_reducible refine gate_callee (f := 18) rfl ?_); refine goesL_ (some 34) rfl rfl Tryd.func18 (by kernel_rfl) rfl #[.string a0, .string a1] rfl (by (try simp only [List.map_toArray, List.map_cons, List.map_nil]); first | done | rfl | (simp only [List.length_drop, List.length_take]; rfl)) ?_; (with_reducible refine (mjolnerref03_Cat.calls a0 a1 t146 t147 _ A6.out).mono ?_); rintro e w' ⟨rfl, ⟨nd, rfl⟩⟩; refine ⟨_, rfl, ?_⟩) | ((with_reducible refine gate_callee (f := 19) rfl ?_); refine goesL_ (some 40) rfl rfl Tryd.func19 (by kernel_rfl) rfl #[.string a0, .int .i64 a2] rfl (by (try simp only [List.map_toArray, List.map_cons, List.map_nil]); first | done | rfl | (simp only [List.length_drop, List.length_take]; rfl)) ?_; (with_reducible refine (text_At.calls a0 a2 t148 t149 _ A7.out).mono ?_); rintro e w' ⟨rfl, ⟨nd, rfl⟩⟩; refine ⟨_, rfl, ?_⟩) | ((with_reducible refine gate_callee (f := 20) rfl ?_); refine goesL_ (some 46) rfl rfl Tryd.func20 (by kernel_rfl) rfl #[.string a0, .int .i64 a2] rfl (by (try simp only [List.map_toArray, List.map_cons, List.map_nil]); first | done | rfl | (simp only [List.length_drop, List.length_take]; rfl)) ?_; (with_reducible refine (mjolnerref03_At.calls a0 a2 t150 t151 _ A8.out).mono ?_); rintro e w' ⟨rfl, ⟨nd, rfl⟩⟩; refine ⟨_, rfl, ?_⟩))
  (try simp only [Act.put, List.setIfInBounds_toArray, List.set_cons_zero, List.set_cons_succ])
  go_cut [82] (fun v82 wc => ∃ (kq : Nat) (x82_8 : Bool), v82 = .bool x82_8 ∧ Aside0 (mjolnerlaw03_TextMatchesReference.j0 kq a0 a1 a2 a3 x82_8 = some r) ∧ Aside0 (kq ≤ k) ∧ Aside0 (Below w.heap.size w wc))
  case first =>
    have H := HC9.out
    clear HC9
    replace H := Option.bind_eq_some_iff.mp H
    obtain ⟨t152, A110, H⟩ := H
    replace H : ((mjolnerref03_Valid.f a0).bind fun t153 => (if (t152 != t153) = true then (mjolnerlaw03_TextMatchesReference.j0 k a0 a1 a2 a3 true) else (if t144.toList = t146.toList then (if t145 = t147 then ((text_Compare.f a0 a1).bind fun t154 => ((mjolnerref03_Compare.f k a0 a1).bind fun t155 => (if t154 = t155 then (if t148 = t150 then (mjolnerlaw03_TextMatchesReference.j0 k a0 a1 a2 a3 (t149 != t151)) else (mjolnerlaw03_TextMatchesReference.j0 k a0 a1 a2 a3 true)) else (mjolnerlaw03_TextMatchesReference.j0 k a0 a1 a2 a3 true)))) else (mjolnerlaw03_TextMatchesReference.j0 k a0 a1 a2 a3 true)) else (mjolnerlaw03_TextMatchesReference.j0 k a0 a1 a2 a3 true)))) = some r := H
    have A11 := Aside0.mk A110
    clear A110
    replace H := Option.bind_eq_some_iff.mp H
    obtain ⟨t153, A120, H⟩ := H
    replace H : (if (t152 != t153) = true then (mjolnerlaw03_TextMatchesReference.j0 k a0 a1 a2 a3 true) else (if t144.toList = t146.toList then (if t145 = t147 then ((text_Compare.f a0 a1).bind fun t154 => ((mjolnerref03_Compare.f k a0 a1).bind fun t155 => (if t154 = t155 then (if t148 = t150 then (mjolnerlaw03_TextMatchesReference.j0 k a0 a1 a2 a3 (t149 != t151)) else (mjolnerlaw03_TextMatchesReference.j0 k a0 a1 a2 a3 true)) else (mjolnerlaw03_TextMatchesReference.j0 k a0 a1 a2 a3 true)))) else (mjolnerlaw03_TextMatchesReference.j0 k a0 a1 a2 a3 true)) else (mjolnerlaw03_TextMatchesReference.j0 k a0 a1 a2 a3 true))) = some r := H
    have A12 := Aside0.mk A120
    clear A120
    by_cases c13 : (t152 != t153) = true
    · rw [if_pos c13] at H
      have c13b0 : (t152 != t153) = true := c13
      (try (have c13b1 : decide (t152 = t153) = false := by simpa using c13))
      (try (have c13b2 : (t152 == t153) = false := by simpa using c13))
      (try (have c13b3 : ¬ (t152 = t153) := by simpa using c13))
      clear c13
      (first | rw [c13b0] | (simp only [i64_w, i32_w]; rw [c13b0]) | rw [c13b1] | skip)
      have H' := Aside0.mk H
      clear H
      go_wp2_with (first | ((with_reducible refine gate_callee (f := 21) rfl ?_); refine goesL_ (some 50) rfl rfl Tryd.func21 (by kernel_rfl) rfl #[.string a0] rfl (by (try simp only [List.map_toArray, List.map_cons, List.map_nil]); first | done | rfl | (simp only [List.length_drop, List.length_take]; rfl)) ?_; (with_reducible refine (text_Valid.calls a0 t152 _ A11.out).mono ?_); rintro e w' ⟨rfl, ⟨nd, rfl⟩⟩; refine ⟨_, rfl, ?_⟩) | ((with_reducible refine gate_callee (f := 22) rfl ?_); refine goesL_ (some 52) rfl rfl Tryd.func22 (by kernel_rfl) rfl #[.string a0] rfl (by (try simp only [List.map_toArray, List.map_cons, List.map_nil]); first | done | rfl | (simp only [List.length_drop, List.length_take]; rfl)) ?_; (with_reducible refine (mjolnerref03_Valid.calls a0 t153 _ A12.out).mono ?_); rintro e w' ⟨rfl, ⟨nd, rfl⟩⟩; refine ⟨_, rfl, ?_⟩))
      go_meet
      case rel => exact ⟨_, (true), (by first | rfl | (simp; done) | (simp [*]; done)), H', ⟨by first | omega | exact Nat.le_refl _⟩, ⟨by repeat (first | (with_reducible first | exact HB.out | apply below_alloc | apply pw_below_drewN | apply below_drew1) | exact HB.out)⟩⟩
    · rw [if_neg c13] at H
      have c13b0 : (t152 != t153) = false := by simpa using c13
      (try (have c13b1 : decide (t152 = t153) = true := by simpa using c13))
      (try (have c13b2 : (t152 == t153) = true := by simpa using c13))
      clear c13
      (first | rw [c13b0] | (simp only [i64_w, i32_w]; rw [c13b0]) | rw [c13b1] | skip)
      by_cases c14 : t144.toList = t146.toList
      · rw [if_pos c14] at H
        have c14b0 : (t144.toList == t146.toList) = true := beq_iff_eq.mpr c14
        have c14b1 : (t144.toList != t146.toList) = false := bne_eq_false_iff_eq.mpr c14
        clear c14
        by_cases c15 : t145 = t147
        · rw [if_pos c15] at H
          have c15b0 : (t145 == t147) = true := beq_iff_eq.mpr c15
          have c15b1 : (t145 != t147) = false := bne_eq_false_iff_eq.mpr c15
          clear c15
          replace H := Option.bind_eq_some_iff.mp H
          obtain ⟨t154, A160, H⟩ := H
          replace H : ((mjolnerref03_Compare.f k a0 a1).bind fun t155 => (if t154 = t155 then (if t148 = t150 then (mjolnerlaw03_TextMatchesReference.j0 k a0 a1 a2 a3 (t149 != t151)) else (mjolnerlaw03_TextMatchesReference.j0 k a0 a1 a2 a3 true)) else (mjolnerlaw03_TextMatchesReference.j0 k a0 a1 a2 a3 true))) = some r := H
          have A16 := Aside0.mk A160
          clear A160
          replace H := Option.bind_eq_some_iff.mp H
          obtain ⟨t155, A170, H⟩ := H
          replace H : (if t154 = t155 then (if t148 = t150 then (mjolnerlaw03_TextMatchesReference.j0 k a0 a1 a2 a3 (t149 != t151)) else (mjolnerlaw03_TextMatchesReference.j0 k a0 a1 a2 a3 true)) else (mjolnerlaw03_TextMatchesReference.j0 k a0 a1 a2 a3 true)) = some r := H
          have A17 := Aside0.mk A170
          clear A170
          by_cases c18 : t154 = t155
          · rw [if_pos c18] at H
            have c18b0 : (t154 == t155) = true := beq_iff_eq.mpr c18
            have c18b1 : (t154 != t155) = false := bne_eq_false_iff_eq.mpr c18
            clear c18
            by_cases c19 : t148 = t150
            · rw [if_pos c19] at H
              have c19b0 : (t148 == t150) = true := beq_iff_eq.mpr c19
              have c19b1 : (t148 != t150) = false := bne_eq_false_iff_eq.mpr c19
              clear c19
              have H' := Aside0.mk H
              clear H
              go_wp2_with (first | ((with_reducible refine gate_callee (f := 21) rfl ?_); refine goesL_ (some 50) rfl rfl Tryd.func21 (by kernel_rfl) rfl #[.string a0] rfl (by (try simp only [List.map_toArray, List.map_cons, List.map_nil]); first | done | rfl | (simp only [List.length_drop, List.length_take]; rfl)) ?_; (with_reducible refine (text_Valid.calls a0 t152 _ A11.out).mono ?_); rintro e w' ⟨rfl, ⟨nd, rfl⟩⟩; refine ⟨_, rfl, ?_⟩) | ((with_reducible refine gate_callee (f := 22) rfl ?_); refine goesL_ (some 52) rfl rfl Tryd.func22 (by kernel_rfl) rfl #[.string a0] rfl (by (try simp only [List.map_toArray, List.map_cons, List.map_nil]); first | done | rfl | (simp only [List.length_drop, List.length_take]; rfl)) ?_; (with_reducible refine (mjolnerref03_Valid.calls a0 t153 _ A12.out).mono ?_); rintro e w' ⟨rfl, ⟨nd, rfl⟩⟩; refine ⟨_, rfl, ?_⟩) | (go_at_call 23; (with_reducible refine (text_Compare.calls a0 a1 t154 _ A16.out).mono ?_); rintro e w20 ⟨rfl, hb⟩; have n0_ := Aside0.mk (below_step (by repeat (first | (with_reducible first | exact HB.out | apply below_alloc | apply pw_below_drewN | apply below_drew1) | exact HB.out)) hb); clear HB; have HB := n0_; clear n0_; (try clear hb); (try clear hb2); (try clear hk); (try clear hi)) | (go_at_call 24; (with_reducible refine (mjolnerref03_Compare.calls k a0 a1 t155 _ A17.out).mono ?_); rintro e w' ⟨rfl, ⟨nd, rfl⟩⟩))
              go_meet
              case rel => exact ⟨_, ((t149 != t151)), (by first | rfl | (simp; done) | (simp [*]; done)), H', ⟨by first | omega | exact Nat.le_refl _⟩, ⟨by repeat (first | (with_reducible first | exact HB.out | apply below_alloc | apply pw_below_drewN | apply below_drew1) | exact HB.out)⟩⟩
            · rw [if_neg c19] at H
              have c19b0 : (t148 == t150) = false := beq_eq_false_iff_ne.mpr c19
              have c19b1 : (t148 != t150) = true := bne_iff_ne.mpr c19
              have H' := Aside0.mk H
              clear H
              go_wp2_with (first | ((with_reducible refine gate_callee (f := 21) rfl ?_); refine goesL_ (some 50) rfl rfl Tryd.func21 (by kernel_rfl) rfl #[.string a0] rfl (by (try simp only [List.map_toArray, List.map_cons, List.map_nil]); first | done | rfl | (simp only [List.length_drop, List.length_take]; rfl)) ?_; (with_reducible refine (text_Valid.calls a0 t152 _ A11.out).mono ?_); rintro e w' ⟨rfl, ⟨nd, rfl⟩⟩; refine ⟨_, rfl, ?_⟩) | ((with_reducible refine gate_callee (f := 22) rfl ?_); refine goesL_ (some 52) rfl rfl Tryd.func22 (by kernel_rfl) rfl #[.string a0] rfl (by (try simp only [List.map_toArray, List.map_cons, List.map_nil]); first | done | rfl | (simp only [List.length_drop, List.length_take]; rfl)) ?_; (with_reducible refine (mjolnerref03_Valid.calls a0 t153 _ A12.out).mono ?_); rintro e w' ⟨rfl, ⟨nd, rfl⟩⟩; refine ⟨_, rfl, ?_⟩) | (go_at_call 23; (with_reducible refine (text_Compare.calls a0 a1 t154 _ A16.out).mono ?_); rintro e w21 ⟨rfl, hb⟩; have n0_ := Aside0.mk (below_step (by repeat (first | (with_reducible first | exact HB.out | apply below_alloc | apply pw_below_drewN | apply below_drew1) | exact HB.out)) hb); clear HB; have HB := n0_; clear n0_; (try clear hb); (try clear hb2); (try clear hk); (try clear hi)) | (go_at_call 24; (with_reducible refine (mjolnerref03_Compare.calls k a0 a1 t155 _ A17.out).mono ?_); rintro e w' ⟨rfl, ⟨nd, rfl⟩⟩))
              go_meet
              case rel => exact ⟨_, (true), (by first | rfl | (simp; done) | (simp [*]; done)), H', ⟨by first | omega | exact Nat.le_refl _⟩, ⟨by repeat (first | (with_reducible first | exact HB.out | apply below_alloc | apply pw_below_drewN | apply below_drew1) | exact HB.out)⟩⟩
          · rw [if_neg c18] at H
            have c18b0 : (t154 == t155) = false := beq_eq_false_iff_ne.mpr c18
            have c18b1 : (t154 != t155) = true := bne_iff_ne.mpr c18
            have H' := Aside0.mk H
            clear H
            go_wp2_with (first | ((with_reducible refine gate_callee (f := 21) rfl ?_); refine goesL_ (some 50) rfl rfl Tryd.func21 (by kernel_rfl) rfl #[.string a0] rfl (by (try simp only [List.map_toArray, List.map_cons, List.map_nil]); first | done | rfl | (simp only [List.length_drop, List.length_take]; rfl)) ?_; (with_reducible refine (text_Valid.calls a0 t152 _ A11.out).mono ?_); rintro e w' ⟨rfl, ⟨nd, rfl⟩⟩; refine ⟨_, rfl, ?_⟩) | ((with_reducible refine gate_callee (f := 22) rfl ?_); refine goesL_ (some 52) rfl rfl Tryd.func22 (by kernel_rfl) rfl #[.string a0] rfl (by (try simp only [List.map_toArray, List.map_cons, List.map_nil]); first | done | rfl | (simp only [List.length_drop, List.length_take]; rfl)) ?_; (with_reducible refine (mjolnerref03_Valid.calls a0 t153 _ A12.out).mono ?_); rintro e w' ⟨rfl, ⟨nd, rfl⟩⟩; refine ⟨_, rfl, ?_⟩) | (go_at_call 23; (with_reducible refine (text_Compare.calls a0 a1 t154 _ A16.out).mono ?_); rintro e w22 ⟨rfl, hb⟩; have n0_ := Aside0.mk (below_step (by repeat (first | (with_reducible first | exact HB.out | apply below_alloc | apply pw_below_drewN | apply below_drew1) | exact HB.out)) hb); clear HB; have HB := n0_; clear n0_; (try clear hb); (try clear hb2); (try clear hk); (try clear hi)) | (go_at_call 24; (with_reducible refine (mjolnerref03_Compare.calls k a0 a1 t155 _ A17.out).mono ?_); rintro e w' ⟨rfl, ⟨nd, rfl⟩⟩))
            go_meet
            case rel => exact ⟨_, (true), (by first | rfl | (simp; done) | (simp [*]; done)), H', ⟨by first | omega | exact Nat.le_refl _⟩, ⟨by repeat (first | (with_reducible first | exact HB.out | apply below_alloc | apply pw_below_drewN | apply below_drew1) | exact HB.out)⟩⟩
        · rw [if_neg c15] at H
          have c15b0 : (t145 == t147) = false := beq_eq_false_iff_ne.mpr c15
          have c15b1 : (t145 != t147) = true := bne_iff_ne.mpr c15
          have H' := Aside0.mk H
          clear H
          go_wp2_with (first | ((with_reducible refine gate_callee (f := 21) rfl ?_); refine goesL_ (some 50) rfl rfl Tryd.func21 (by kernel_rfl) rfl #[.string a0] rfl (by (try simp only [List.map_toArray, List.map_cons, List.map_nil]); first | done | rfl | (simp only [List.length_drop, List.length_take]; rfl)) ?_; (with_reducible refine (text_Valid.calls a0 t152 _ A11.out).mono ?_); rintro e w' ⟨rfl, ⟨nd, rfl⟩⟩; refine ⟨_, rfl, ?_⟩) | ((with_reducible refine gate_callee (f := 22) rfl ?_); refine goesL_ (some 52) rfl rfl Tryd.func22 (by kernel_rfl) rfl #[.string a0] rfl (by (try simp only [List.map_toArray, List.map_cons, List.map_nil]); first | done | rfl | (simp only [List.length_drop, List.length_take]; rfl)) ?_; (with_reducible refine (mjolnerref03_Valid.calls a0 t153 _ A12.out).mono ?_); rintro e w' ⟨rfl, ⟨nd, rfl⟩⟩; refine ⟨_, rfl, ?_⟩))
          go_meet
          case rel => exact ⟨_, (true), (by first | rfl | (simp; done) | (simp [*]; done)), H', ⟨by first | omega | exact Nat.le_refl _⟩, ⟨by repeat (first | (with_reducible first | exact HB.out | apply below_alloc | apply pw_below_drewN | apply below_drew1) | exact HB.out)⟩⟩
      · rw [if_neg c14] at H
        have c14b0 : (t144.toList == t146.toList) = false := beq_eq_false_iff_ne.mpr c14
        have c14b1 : (t144.toList != t146.toList) = true := bne_iff_ne.mpr c14
        have H' := Aside0.mk H
        clear H
        go_wp2_with (first | ((with_reducible refine gate_callee (f := 21) rfl ?_); refine goesL_ (some 50) rfl rfl Tryd.func21 (by kernel_rfl) rfl #[.string a0] rfl (by (try simp only [List.map_toArray, List.map_cons, List.map_nil]); first | done | rfl | (simp only [List.length_drop, List.length_take]; rfl)) ?_; (with_reducible refine (text_Valid.calls a0 t152 _ A11.out).mono ?_); rintro e w' ⟨rfl, ⟨nd, rfl⟩⟩; refine ⟨_, rfl, ?_⟩) | ((with_reducible refine gate_callee (f := 22) rfl ?_); refine goesL_ (some 52) rfl rfl Tryd.func22 (by kernel_rfl) rfl #[.string a0] rfl (by (try simp only [List.map_toArray, List.map_cons, List.map_nil]); first | done | rfl | (simp only [List.length_drop, List.length_take]; rfl)) ?_; (with_reducible refine (mjolnerref03_Valid.calls a0 t153 _ A12.out).mono ?_); rintro e w' ⟨rfl, ⟨nd, rfl⟩⟩; refine ⟨_, rfl, ?_⟩))
        go_meet
        case rel => exact ⟨_, (true), (by first | rfl | (simp; done) | (simp [*]; done)), H', ⟨by first | omega | exact Nat.le_refl _⟩, ⟨by repeat (first | (with_reducible first | exact HB.out | apply below_alloc | apply pw_below_drewN | apply below_drew1) | exact HB.out)⟩⟩
  case rest =>
    clear HC9
    try clear c1
    try clear c2
    try clear p2
    try clear c3
    try clear c13
    try clear c13b0
    try clear c13b1
    try clear c13b2
    try clear c14
    try clear c14b0
    try clear c14b1
    try clear c15
    try clear c15b0
    try clear c15b1
    try clear c17
    try clear c18
    try clear c18b0
    try clear c18b1
    try clear c19
    try clear c19b0
    try clear c19b1
    try clear c20
    try clear c21
    try clear c22
    obtain ⟨kq, x82_8, rfl, HA, HJ8, HB⟩ := hcut
    cases kq with
    | zero => exact absurd HA.out (by simp [mjolnerlaw03_TextMatchesReference.j0])
    | succ kj8 =>
      have H := HA.out
      clear HA
      simp only [mjolnerlaw03_TextMatchesReference.j0] at H
      by_cases c23 : x82_8 = true
      · subst c23
        have H1 : (some false) = some r := by rw [if_pos rfl] at H; exact H
        clear H
        have H := H1
        clear H1
        obtain rfl := Option.some.inj H
        go_wp2
        go_ret
        exact ⟨by first | rfl | (simp [errW_none, errW_some] <;> rfl) | (simp [*, errW_none, errW_some] <;> rfl), by repeat (first | (with_reducible first | exact HB.out | apply below_alloc | apply pw_below_drewN | apply below_drew1) | exact HB.out)⟩
      · replace c23 := Bool.eq_false_iff.mpr c23
        subst c23
        have H1 : ((text_Cut.f a0 a2 a3).bind fun bt156 => ((mjolnerref03_Cut.f a0 a2 a3).bind fun bt158 => ((text_Find.f kj8 a0 a1 a2).bind fun bt160 => ((mjolnerref03_Find.f kj8 a0 a1 a2).bind fun bt162 => ((mjolnerlaw03_sane.f).bind fun t164 => (if t164 = true then (if bt156.1.toList = bt158.1.toList then (if bt156.2 = bt158.2 then (if bt160.1 = bt162.1 then (some (bt160.2 == bt162.2)) else (some false)) else (some false)) else (some false)) else (some false))))))) = some r := by rw [if_neg (show ¬ (false = true) by decide)] at H; exact H
        clear H
        have H := H1
        clear H1
        replace H := Option.bind_eq_some_iff.mp H
        obtain ⟨⟨t156, t157⟩, A240, H⟩ := H
        replace H : ((mjolnerref03_Cut.f a0 a2 a3).bind fun bt158 => ((text_Find.f kj8 a0 a1 a2).bind fun bt160 => ((mjolnerref03_Find.f kj8 a0 a1 a2).bind fun bt162 => ((mjolnerlaw03_sane.f).bind fun t164 => (if t164 = true then (if t156.toList = bt158.1.toList then (if t157 = bt158.2 then (if bt160.1 = bt162.1 then (some (bt160.2 == bt162.2)) else (some false)) else (some false)) else (some false)) else (some false)))))) = some r := H
        have A24 := Aside0.mk A240
        clear A240
        replace H := Option.bind_eq_some_iff.mp H
        obtain ⟨⟨t158, t159⟩, A250, H⟩ := H
        replace H : ((text_Find.f kj8 a0 a1 a2).bind fun bt160 => ((mjolnerref03_Find.f kj8 a0 a1 a2).bind fun bt162 => ((mjolnerlaw03_sane.f).bind fun t164 => (if t164 = true then (if t156.toList = t158.toList then (if t157 = t159 then (if bt160.1 = bt162.1 then (some (bt160.2 == bt162.2)) else (some false)) else (some false)) else (some false)) else (some false))))) = some r := H
        have A25 := Aside0.mk A250
        clear A250
        replace H := Option.bind_eq_some_iff.mp H
        obtain ⟨⟨t160, t161⟩, A260, H⟩ := H
        replace H : ((mjolnerref03_Find.f kj8 a0 a1 a2).bind fun bt162 => ((mjolnerlaw03_sane.f).bind fun t164 => (if t164 = true then (if t156.toList = t158.toList then (if t157 = t159 then (if t160 = bt162.1 then (some (t161 == bt162.2)) else (some false)) else (some false)) else (some false)) else (some false)))) = some r := H
        have A26 := Aside0.mk A260
        clear A260
        replace H := Option.bind_eq_some_iff.mp H
        obtain ⟨⟨t162, t163⟩, A270, H⟩ := H
        replace H : ((mjolnerlaw03_sane.f).bind fun t164 => (if t164 = true then (if t156.toList = t158.toList then (if t157 = t159 then (if t160 = t162 then (some (t161 == t163)) else (some false)) else (some false)) else (some false)) else (some false))) = some r := H
        have A27 := Aside0.mk A270
        clear A270
        replace H := Option.bind_eq_some_iff.mp H
        obtain ⟨t164, A280, H⟩ := H
        replace H : (if t164 = true then (if t156.toList = t158.toList then (if t157 = t159 then (if t160 = t162 then (some (t161 == t163)) else (some false)) else (some false)) else (some false)) else (some false)) = some r := H
        have A28 := Aside0.mk A280
        clear A280
        by_cases c29 : t164 = true
        · subst c29
          have H1 : (if t156.toList = t158.toList then (if t157 = t159 then (if t160 = t162 then (some (t161 == t163)) else (some false)) else (some false)) else (some false)) = some r := by rw [if_pos rfl] at H; exact H
          clear H
          have H := H1
          clear H1
          by_cases c30 : t156.toList = t158.toList
          · rw [if_pos c30] at H
            have c30b0 : (t156.toList == t158.toList) = true := beq_iff_eq.mpr c30
            have c30b1 : (t156.toList != t158.toList) = false := bne_eq_false_iff_eq.mpr c30
            clear c30
            by_cases c31 : t157 = t159
            · rw [if_pos c31] at H
              have c31b0 : (t157 == t159) = true := beq_iff_eq.mpr c31
              have c31b1 : (t157 != t159) = false := bne_eq_false_iff_eq.mpr c31
              clear c31
              by_cases c32 : t160 = t162
              · rw [if_pos c32] at H
                have c32b0 : (t160 == t162) = true := beq_iff_eq.mpr c32
                have c32b1 : (t160 != t162) = false := bne_eq_false_iff_eq.mpr c32
                clear c32
                obtain rfl := Option.some.inj H
                go_wp2_with (first | ((with_reducible refine gate_callee (f := 25) rfl ?_); refine goesL_ (some 87) rfl rfl Tryd.func25 (by kernel_rfl) rfl #[.string a0, .int .i64 a2, .int .i64 a3] rfl (by (try simp only [List.map_toArray, List.map_cons, List.map_nil]); first | done | rfl | (simp only [List.length_drop, List.length_take]; rfl)) ?_; (with_reducible refine (text_Cut.calls a0 a2 a3 t156 t157 _ A24.out).mono ?_); rintro e w' ⟨rfl, ⟨nd, rfl⟩⟩; refine ⟨_, rfl, ?_⟩) | ((with_reducible refine gate_callee (f := 26) rfl ?_); refine goesL_ (some 94) rfl rfl Tryd.func26 (by kernel_rfl) rfl #[.string a0, .int .i64 a2, .int .i64 a3] rfl (by (try simp only [List.map_toArray, List.map_cons, List.map_nil]); first | done | rfl | (simp only [List.length_drop, List.length_take]; rfl)) ?_; (with_reducible refine (mjolnerref03_Cut.calls a0 a2 a3 t158 t159 _ A25.out).mono ?_); rintro e w' ⟨rfl, ⟨nd, rfl⟩⟩; refine ⟨_, rfl, ?_⟩) | ((with_reducible refine gate_callee (f := 27) rfl ?_); refine goesL_ (some 101) rfl rfl Tryd.func27 (by kernel_rfl) rfl #[.string a0, .string a1, .int .i64 a2] rfl (by (try simp only [List.map_toArray, List.map_cons, List.map_nil]); first | done | rfl | (simp only [List.length_drop, List.length_take]; rfl)) ?_; (with_reducible refine (text_Find.calls kj8 a0 a1 a2 t160 t161 _ ?side1 A26.out).mono ?_); (case side1 => exact HG.out _ (by repeat (first | (with_reducible first | exact HB.out | apply below_alloc | apply pw_below_drewN | apply below_drew1) | exact HB.out))); rintro e w33 ⟨rfl, hb⟩; refine ⟨_, rfl, ?_⟩; have n0_ := Aside0.mk (below_step (by repeat (first | (with_reducible first | exact HB.out | apply below_alloc | apply pw_below_drewN | apply below_drew1) | exact HB.out)) hb); clear HB; have HB := n0_; clear n0_; (try clear hb); (try clear hb2); (try clear hk); (try clear hi)) | ((with_reducible refine gate_callee (f := 28) rfl ?_); refine goesL_ (some 108) rfl rfl Tryd.func28 (by kernel_rfl) rfl #[.string a0, .string a1, .int .i64 a2] rfl (by (try simp only [List.map_toArray, List.map_cons, List.map_nil]); first | done | rfl | (simp only [List.length_drop, List.length_take]; rfl)) ?_; (with_reducible refine (mjolnerref03_Find.calls kj8 a0 a1 a2 t162 t163 _ A27.out).mono ?_); rintro e w' ⟨rfl, ⟨nd, rfl⟩⟩; refine ⟨_, rfl, ?_⟩) | ((with_reducible refine gate_callee (f := 29) rfl ?_); refine goesL_ (some 111) rfl rfl Tryd.func29 (by kernel_rfl) rfl #[] rfl (by (try simp only [List.map_toArray, List.map_cons, List.map_nil]); first | done | rfl | (simp only [List.length_drop, List.length_take]; rfl)) ?_; (with_reducible refine (mjolnerlaw03_sane.calls  true _ ?side1 A28.out).mono ?_); (case side1 => exact HG.out _ (by repeat (first | (with_reducible first | exact HB.out | apply below_alloc | apply pw_below_drewN | apply below_drew1) | exact HB.out))); rintro e w34 ⟨rfl, hb⟩; refine ⟨_, rfl, ?_⟩; have n0_ := Aside0.mk (below_step (by repeat (first | (with_reducible first | exact HB.out | apply below_alloc | apply pw_below_drewN | apply below_drew1) | exact HB.out)) hb); clear HB; have HB := n0_; clear n0_; (try clear hb); (try clear hb2); (try clear hk); (try clear hi)))
                go_ret
                exact ⟨by first | rfl | (simp [errW_none, errW_some] <;> rfl) | (simp [*, errW_none, errW_some] <;> rfl), by repeat (first | (with_reducible first | exact HB.out | apply below_alloc | apply pw_below_drewN | apply below_drew1) | exact HB.out)⟩
              · rw [if_neg c32] at H
                have c32b0 : (t160 == t162) = false := beq_eq_false_iff_ne.mpr c32
                have c32b1 : (t160 != t162) = true := bne_iff_ne.mpr c32
                obtain rfl := Option.some.inj H
                go_wp2_with (first | ((with_reducible refine gate_callee (f := 25) rfl ?_); refine goesL_ (some 87) rfl rfl Tryd.func25 (by kernel_rfl) rfl #[.string a0, .int .i64 a2, .int .i64 a3] rfl (by (try simp only [List.map_toArray, List.map_cons, List.map_nil]); first | done | rfl | (simp only [List.length_drop, List.length_take]; rfl)) ?_; (with_reducible refine (text_Cut.calls a0 a2 a3 t156 t157 _ A24.out).mono ?_); rintro e w' ⟨rfl, ⟨nd, rfl⟩⟩; refine ⟨_, rfl, ?_⟩) | ((with_reducible refine gate_callee (f := 26) rfl ?_); refine goesL_ (some 94) rfl rfl Tryd.func26 (by kernel_rfl) rfl #[.string a0, .int .i64 a2, .int .i64 a3] rfl (by (try simp only [List.map_toArray, List.map_cons, List.map_nil]); first | done | rfl | (simp only [List.length_drop, List.length_take]; rfl)) ?_; (with_reducible refine (mjolnerref03_Cut.calls a0 a2 a3 t158 t159 _ A25.out).mono ?_); rintro e w' ⟨rfl, ⟨nd, rfl⟩⟩; refine ⟨_, rfl, ?_⟩) | ((with_reducible refine gate_callee (f := 27) rfl ?_); refine goesL_ (some 101) rfl rfl Tryd.func27 (by kernel_rfl) rfl #[.string a0, .string a1, .int .i64 a2] rfl (by (try simp only [List.map_toArray, List.map_cons, List.map_nil]); first | done | rfl | (simp only [List.length_drop, List.length_take]; rfl)) ?_; (with_reducible refine (text_Find.calls kj8 a0 a1 a2 t160 t161 _ ?side1 A26.out).mono ?_); (case side1 => exact HG.out _ (by repeat (first | (with_reducible first | exact HB.out | apply below_alloc | apply pw_below_drewN | apply below_drew1) | exact HB.out))); rintro e w35 ⟨rfl, hb⟩; refine ⟨_, rfl, ?_⟩; have n0_ := Aside0.mk (below_step (by repeat (first | (with_reducible first | exact HB.out | apply below_alloc | apply pw_below_drewN | apply below_drew1) | exact HB.out)) hb); clear HB; have HB := n0_; clear n0_; (try clear hb); (try clear hb2); (try clear hk); (try clear hi)) | ((with_reducible refine gate_callee (f := 28) rfl ?_); refine goesL_ (some 108) rfl rfl Tryd.func28 (by kernel_rfl) rfl #[.string a0, .string a1, .int .i64 a2] rfl (by (try simp only [List.map_toArray, List.map_cons, List.map_nil]); first | done | rfl | (simp only [List.length_drop, List.length_take]; rfl)) ?_; (with_reducible refine (mjolnerref03_Find.calls kj8 a0 a1 a2 t162 t163 _ A27.out).mono ?_); rintro e w' ⟨rfl, ⟨nd, rfl⟩⟩; refine ⟨_, rfl, ?_⟩) | ((with_reducible refine gate_callee (f := 29) rfl ?_); refine goesL_ (some 111) rfl rfl Tryd.func29 (by kernel_rfl) rfl #[] rfl (by (try simp only [List.map_toArray, List.map_cons, List.map_nil]); first | done | rfl | (simp only [List.length_drop, List.length_take]; rfl)) ?_; (with_reducible refine (mjolnerlaw03_sane.calls  true _ ?side1 A28.out).mono ?_); (case side1 => exact HG.out _ (by repeat (first | (with_reducible first | exact HB.out | apply below_alloc | apply pw_below_drewN | apply below_drew1) | exact HB.out))); rintro e w36 ⟨rfl, hb⟩; refine ⟨_, rfl, ?_⟩; have n0_ := Aside0.mk (below_step (by repeat (first | (with_reducible first | exact HB.out | apply below_alloc | apply pw_below_drewN | apply below_drew1) | exact HB.out)) hb); clear HB; have HB := n0_; clear n0_; (try clear hb); (try clear hb2); (try clear hk); (try clear hi)))
                go_ret
                exact ⟨by first | rfl | (simp [errW_none, errW_some] <;> rfl) | (simp [*, errW_none, errW_some] <;> rfl), by repeat (first | (with_reducible first | exact HB.out | apply below_alloc | apply pw_below_drewN | apply below_drew1) | exact HB.out)⟩
            · rw [if_neg c31] at H
              have c31b0 : (t157 == t159) = false := beq_eq_false_iff_ne.mpr c31
              have c31b1 : (t157 != t159) = true := bne_iff_ne.mpr c31
              obtain rfl := Option.some.inj H
              go_wp2_with (first | ((with_reducible refine gate_callee (f := 25) rfl ?_); refine goesL_ (some 87) rfl rfl Tryd.func25 (by kernel_rfl) rfl #[.string a0, .int .i64 a2, .int .i64 a3] rfl (by (try simp only [List.map_toArray, List.map_cons, List.map_nil]); first | done | rfl | (simp only [List.length_drop, List.length_take]; rfl)) ?_; (with_reducible refine (text_Cut.calls a0 a2 a3 t156 t157 _ A24.out).mono ?_); rintro e w' ⟨rfl, ⟨nd, rfl⟩⟩; refine ⟨_, rfl, ?_⟩) | ((with_reducible refine gate_callee (f := 26) rfl ?_); refine goesL_ (some 94) rfl rfl Tryd.func26 (by kernel_rfl) rfl #[.string a0, .int .i64 a2, .int .i64 a3] rfl (by (try simp only [List.map_toArray, List.map_cons, List.map_nil]); first | done | rfl | (simp only [List.length_drop, List.length_take]; rfl)) ?_; (with_reducible refine (mjolnerref03_Cut.calls a0 a2 a3 t158 t159 _ A25.out).mono ?_); rintro e w' ⟨rfl, ⟨nd, rfl⟩⟩; refine ⟨_, rfl, ?_⟩) | ((with_reducible refine gate_callee (f := 27) rfl ?_); refine goesL_ (some 101) rfl rfl Tryd.func27 (by kernel_rfl) rfl #[.string a0, .string a1, .int .i64 a2] rfl (by (try simp only [List.map_toArray, List.map_cons, List.map_nil]); first | done | rfl | (simp only [List.length_drop, List.length_take]; rfl)) ?_; (with_reducible refine (text_Find.calls kj8 a0 a1 a2 t160 t161 _ ?side1 A26.out).mono ?_); (case side1 => exact HG.out _ (by repeat (first | (with_reducible first | exact HB.out | apply below_alloc | apply pw_below_drewN | apply below_drew1) | exact HB.out))); rintro e w37 ⟨rfl, hb⟩; refine ⟨_, rfl, ?_⟩; have n0_ := Aside0.mk (below_step (by repeat (first | (with_reducible first | exact HB.out | apply below_alloc | apply pw_below_drewN | apply below_drew1) | exact HB.out)) hb); clear HB; have HB := n0_; clear n0_; (try clear hb); (try clear hb2); (try clear hk); (try clear hi)) | ((with_reducible refine gate_callee (f := 28) rfl ?_); refine goesL_ (some 108) rfl rfl Tryd.func28 (by kernel_rfl) rfl #[.string a0, .string a1, .int .i64 a2] rfl (by (try simp only [List.map_toArray, List.map_cons, List.map_nil]); first | done | rfl | (simp only [List.length_drop, List.length_take]; rfl)) ?_; (with_reducible refine (mjolnerref03_Find.calls kj8 a0 a1 a2 t162 t163 _ A27.out).mono ?_); rintro e w' ⟨rfl, ⟨nd, rfl⟩⟩; refine ⟨_, rfl, ?_⟩) | ((with_reducible refine gate_callee (f := 29) rfl ?_); refine goesL_ (some 111) rfl rfl Tryd.func29 (by kernel_rfl) rfl #[] rfl (by (try simp only [List.map_toArray, List.map_cons, List.map_nil]); first | done | rfl | (simp only [List.length_drop, List.length_take]; rfl)) ?_; (with_reducible refine (mjolnerlaw03_sane.calls  true _ ?side1 A28.out).mono ?_); (case side1 => exact HG.out _ (by repeat (first | (with_reducible first | exact HB.out | apply below_alloc | apply pw_below_drewN | apply below_drew1) | exact HB.out))); rintro e w38 ⟨rfl, hb⟩; refine ⟨_, rfl, ?_⟩; have n0_ := Aside0.mk (below_step (by repeat (first | (with_reducible first | exact HB.out | apply below_alloc | apply pw_below_drewN | apply below_drew1) | exact HB.out)) hb); clear HB; have HB := n0_; clear n0_; (try clear hb); (try clear hb2); (try clear hk); (try clear hi)))
              go_ret
              exact ⟨by first | rfl | (simp [errW_none, errW_some] <;> rfl) | (simp [*, errW_none, errW_some] <;> rfl), by repeat (first | (with_reducible first | exact HB.out | apply below_alloc | apply pw_below_drewN | apply below_drew1) | exact HB.out)⟩
          · rw [if_neg c30] at H
            have c30b0 : (t156.toList == t158.toList) = false := beq_eq_false_iff_ne.mpr c30
            have c30b1 : (t156.toList != t158.toList) = true := bne_iff_ne.mpr c30
            obtain rfl := Option.some.inj H
            go_wp2_with (first | ((with_reducible refine gate_callee (f := 25) rfl ?_); refine goesL_ (some 87) rfl rfl Tryd.func25 (by kernel_rfl) rfl #[.string a0, .int .i64 a2, .int .i64 a3] rfl (by (try simp only [List.map_toArray, List.map_cons, List.map_nil]); first | done | rfl | (simp only [List.length_drop, List.length_take]; rfl)) ?_; (with_reducible refine (text_Cut.calls a0 a2 a3 t156 t157 _ A24.out).mono ?_); rintro e w' ⟨rfl, ⟨nd, rfl⟩⟩; refine ⟨_, rfl, ?_⟩) | ((with_reducible refine gate_callee (f := 26) rfl ?_); refine goesL_ (some 94) rfl rfl Tryd.func26 (by kernel_rfl) rfl #[.string a0, .int .i64 a2, .int .i64 a3] rfl (by (try simp only [List.map_toArray, List.map_cons, List.map_nil]); first | done | rfl | (simp only [List.length_drop, List.length_take]; rfl)) ?_; (with_reducible refine (mjolnerref03_Cut.calls a0 a2 a3 t158 t159 _ A25.out).mono ?_); rintro e w' ⟨rfl, ⟨nd, rfl⟩⟩; refine ⟨_, rfl, ?_⟩) | ((with_reducible refine gate_callee (f := 27) rfl ?_); refine goesL_ (some 101) rfl rfl Tryd.func27 (by kernel_rfl) rfl #[.string a0, .string a1, .int .i64 a2] rfl (by (try simp only [List.map_toArray, List.map_cons, List.map_nil]); first | done | rfl | (simp only [List.length_drop, List.length_take]; rfl)) ?_; (with_reducible refine (text_Find.calls kj8 a0 a1 a2 t160 t161 _ ?side1 A26.out).mono ?_); (case side1 => exact HG.out _ (by repeat (first | (with_reducible first | exact HB.out | apply below_alloc | apply pw_below_drewN | apply below_drew1) | exact HB.out))); rintro e w39 ⟨rfl, hb⟩; refine ⟨_, rfl, ?_⟩; have n0_ := Aside0.mk (below_step (by repeat (first | (with_reducible first | exact HB.out | apply below_alloc | apply pw_below_drewN | apply below_drew1) | exact HB.out)) hb); clear HB; have HB := n0_; clear n0_; (try clear hb); (try clear hb2); (try clear hk); (try clear hi)) | ((with_reducible refine gate_callee (f := 28) rfl ?_); refine goesL_ (some 108) rfl rfl Tryd.func28 (by kernel_rfl) rfl #[.string a0, .string a1, .int .i64 a2] rfl (by (try simp only [List.map_toArray, List.map_cons, List.map_nil]); first | done | rfl | (simp only [List.length_drop, List.length_take]; rfl)) ?_; (with_reducible refine (mjolnerref03_Find.calls kj8 a0 a1 a2 t162 t163 _ A27.out).mono ?_); rintro e w' ⟨rfl, ⟨nd, rfl⟩⟩; refine ⟨_, rfl, ?_⟩) | ((with_reducible refine gate_callee (f := 29) rfl ?_); refine goesL_ (some 111) rfl rfl Tryd.func29 (by kernel_rfl) rfl #[] rfl (by (try simp only [List.map_toArray, List.map_cons, List.map_nil]); first | done | rfl | (simp only [List.length_drop, List.length_take]; rfl)) ?_; (with_reducible refine (mjolnerlaw03_sane.calls  true _ ?side1 A28.out).mono ?_); (case side1 => exact HG.out _ (by repeat (first | (with_reducible first | exact HB.out | apply below_alloc | apply pw_below_drewN | apply below_drew1) | exact HB.out))); rintro e w40 ⟨rfl, hb⟩; refine ⟨_, rfl, ?_⟩; have n0_ := Aside0.mk (below_step (by repeat (first | (with_reducible first | exact HB.out | apply below_alloc | apply pw_below_drewN | apply below_drew1) | exact HB.out)) hb); clear HB; have HB := n0_; clear n0_; (try clear hb); (try clear hb2); (try clear hk); (try clear hi)))
            go_ret
            exact ⟨by first | rfl | (simp [errW_none, errW_some] <;> rfl) | (simp [*, errW_none, errW_some] <;> rfl), by repeat (first | (with_reducible first | exact HB.out | apply below_alloc | apply pw_below_drewN | apply below_drew1) | exact HB.out)⟩
        · replace c29 := Bool.eq_false_iff.mpr c29
          subst c29
          have H1 : (some false) = some r := by rw [if_neg (show ¬ (false = true) by decide)] at H; exact H
          clear H
          have H := H1
          clear H1
          obtain rfl := Option.some.inj H
          go_wp2_with (first | ((with_reducible refine gate_callee (f := 25) rfl ?_); refine goesL_ (some 87) rfl rfl Tryd.func25 (by kernel_rfl) rfl #[.string a0, .int .i64 a2, .int .i64 a3] rfl (by (try simp only [List.map_toArray, List.map_cons, List.map_nil]); first | done | rfl | (simp only [List.length_drop, List.length_take]; rfl)) ?_; (with_reducible refine (text_Cut.calls a0 a2 a3 t156 t157 _ A24.out).mono ?_); rintro e w' ⟨rfl, ⟨nd, rfl⟩⟩; refine ⟨_, rfl, ?_⟩) | ((with_reducible refine gate_callee (f := 26) rfl ?_); refine goesL_ (some 94) rfl rfl Tryd.func26 (by kernel_rfl) rfl #[.string a0, .int .i64 a2, .int .i64 a3] rfl (by (try simp only [List.map_toArray, List.map_cons, List.map_nil]); first | done | rfl | (simp only [List.length_drop, List.length_take]; rfl)) ?_; (with_reducible refine (mjolnerref03_Cut.calls a0 a2 a3 t158 t159 _ A25.out).mono ?_); rintro e w' ⟨rfl, ⟨nd, rfl⟩⟩; refine ⟨_, rfl, ?_⟩) | ((with_reducible refine gate_callee (f := 27) rfl ?_); refine goesL_ (some 101) rfl rfl Tryd.func27 (by kernel_rfl) rfl #[.string a0, .string a1, .int .i64 a2] rfl (by (try simp only [List.map_toArray, List.map_cons, List.map_nil]); first | done | rfl | (simp only [List.length_drop, List.length_take]; rfl)) ?_; (with_reducible refine (text_Find.calls kj8 a0 a1 a2 t160 t161 _ ?side1 A26.out).mono ?_); (case side1 => exact HG.out _ (by repeat (first | (with_reducible first | exact HB.out | apply below_alloc | apply pw_below_drewN | apply below_drew1) | exact HB.out))); rintro e w41 ⟨rfl, hb⟩; refine ⟨_, rfl, ?_⟩; have n0_ := Aside0.mk (below_step (by repeat (first | (with_reducible first | exact HB.out | apply below_alloc | apply pw_below_drewN | apply below_drew1) | exact HB.out)) hb); clear HB; have HB := n0_; clear n0_; (try clear hb); (try clear hb2); (try clear hk); (try clear hi)) | ((with_reducible refine gate_callee (f := 28) rfl ?_); refine goesL_ (some 108) rfl rfl Tryd.func28 (by kernel_rfl) rfl #[.string a0, .string a1, .int .i64 a2] rfl (by (try simp only [List.map_toArray, List.map_cons, List.map_nil]); first | done | rfl | (simp only [List.length_drop, List.length_take]; rfl)) ?_; (with_reducible refine (mjolnerref03_Find.calls kj8 a0 a1 a2 t162 t163 _ A27.out).mono ?_); rintro e w' ⟨rfl, ⟨nd, rfl⟩⟩; refine ⟨_, rfl, ?_⟩) | ((with_reducible refine gate_callee (f := 29) rfl ?_); refine goesL_ (some 111) rfl rfl Tryd.func29 (by kernel_rfl) rfl #[] rfl (by (try simp only [List.map_toArray, List.map_cons, List.map_nil]); first | done | rfl | (simp only [List.length_drop, List.length_take]; rfl)) ?_; (with_reducible refine (mjolnerlaw03_sane.calls  false _ ?side1 A28.out).mono ?_); (case side1 => exact HG.out _ (by repeat (first | (with_reducible first | exact HB.out | apply below_alloc | apply pw_below_drewN | apply below_drew1) | exact HB.out))); rintro e w42 ⟨rfl, hb⟩; refine ⟨_, rfl, ?_⟩; have n0_ := Aside0.mk (below_step (by repeat (first | (with_reducible first | exact HB.out | apply below_alloc | apply pw_below_drewN | apply below_drew1) | exact HB.out)) hb); clear HB; have HB := n0_; clear n0_; (try clear hb); (try clear hb2); (try clear hk); (try clear hi)))
          go_ret
          exact ⟨by first | rfl | (simp [errW_none, errW_some] <;> rfl) | (simp [*, errW_none, errW_some] <;> rfl), by repeat (first | (with_reducible first | exact HB.out | apply below_alloc | apply pw_below_drewN | apply below_drew1) | exact HB.out)⟩

end Go.Proofs.YtdcemnmbfblmiaaDoor.PT
