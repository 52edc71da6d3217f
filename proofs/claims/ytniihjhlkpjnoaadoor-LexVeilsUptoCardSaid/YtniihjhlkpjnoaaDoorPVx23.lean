-- Written by a program of mine (wip/print_given.sh: the kit's print, changed so that some functions are given by contracts).
-- (made short by wip/short.py)
import Derived.Test.YtniihjhlkpjnoaaDoorJ2
import Derived.Test.YtniihjhlkpjnoaaDoorPVx8
import Derived.Test.YtniihjhlkpjnoaaDoorPVx9
import Derived.Test.YtniihjhlkpjnoaaDoorPVx22
import Derived.Test.YtniihjhlkpjnoaaDoorJ11
namespace Go.Proofs.YtniihjhlkpjnoaaDoor.PV
open Go.RowKit Go.Proofs.YtniihjhlkpjnoaaDoor.Given Go.Proofs.YtniihjhlkpjnoaaDoorW.PrintWords Go.Proofs.YtniihjhlkpjnoaaDoorW.PrintLast Go.Proofs.YtniihjhlkpjnoaaDoorW.PrintMore
attribute [local go_sem] max2_int min2_int max_two min_two max_three min_three max_four min_four   -- for this text's walks alone
set_option linter.unusedVariables false
set_option linter.unusedSimpArgs false

/-! ### mjolnerlaw04_LexVeils: function 9 -/
mutual
def mjolnerlaw04_LexVeils.j0 : Nat → ByteArray → Int → Bool → ByteArray → Int → List (S42) → Int → Bool → Option (Bool)
 | 0, _, _, _, _, _, _, _, _ => none
 | k + 1, x0, x1, x5, x6, x7, x9, x10, x44 => if x44 = true then (if x5 = true then (if x7 = x10 then (some (x6.toList == ([] : List UInt8))) else (some false)) else (some false)) else ((lex_Lex.f x6).bind fun bt372 => ((lex_Spans.f x6).bind fun bt377 => (if bt372.2.1 = 0 then (if bt377.2.1 = 0 then (if (x6.size : Int) = (x0.size : Int) then ((mjolnerref04_Exact.f k x9 bt372.1).bind fun t382 => (mjolnerlaw04_LexVeils.j1 k x0 x1 x5 x6 bt377.1 (!t382))) else (mjolnerlaw04_LexVeils.j1 k x0 x1 x5 x6 bt377.1 true)) else (mjolnerlaw04_LexVeils.j1 k x0 x1 x5 x6 bt377.1 true)) else (mjolnerlaw04_LexVeils.j1 k x0 x1 x5 x6 bt377.1 true))))
def mjolnerlaw04_LexVeils.j1 : Nat → ByteArray → Int → Bool → ByteArray → List (S40) → Bool → Option (Bool)
 | 0, _, _, _, _, _, _ => none
 | k + 1, x0, x1, x5, x6, x15, x85 => if x85 = true then (some false) else (mjolnerlaw04_LexVeils.l0 k x0 x1 x5 x6 x15 0)
def mjolnerlaw04_LexVeils.l0 : Nat → ByteArray → Int → Bool → ByteArray → List (S40) → Int → Option (Bool)
 | 0, _, _, _, _, _, _ => none
 | k + 1, x0, x1, x5, x6, x15, x18 => if x18 < (x15.length : Int) then (if 0 ≤ x18 then (if ((rd_T40 x15 x18).f0) = 2 then (some false) else (mjolnerlaw04_LexVeils.l0 k x0 x1 x5 x6 x15 (wrap64 (x18 + 1)))) else (none)) else ((text_Place.f k x0 x1).bind fun bt384 => ((text_Place.f k x6 x1).bind fun bt387 => (if x5 = true then (if bt384.1 = bt387.1 then (if bt384.2.1 = bt387.2.1 then (some (bt384.2.2 == bt387.2.2)) else (some false)) else (some false)) else (some false))))
end
def mjolnerlaw04_LexVeils.f (k : Nat) (a0 : ByteArray) (a1 : Int) : Option (Bool) := (mjolnerlaw04_sane.f k).bind fun t363 => ((lex_Veil.f a0).bind fun bt364 => ((lex_Lex.f a0).bind fun bt367 => (if bt364.2.1 = bt367.2.1 then (mjolnerlaw04_LexVeils.j0 k a0 a1 t363 bt364.1 bt364.2.1 bt367.1 bt367.2.1 (bt364.2.1 != 0)) else (mjolnerlaw04_LexVeils.j0 k a0 a1 t363 bt364.1 bt364.2.1 bt367.1 bt367.2.1 true))))
theorem mjolnerlaw04_LexVeils.mono_l : ∀ k, (∀ y0 y1 y2 y3 y4 y5 y6 y7, LeO (mjolnerlaw04_LexVeils.j0 k y0 y1 y2 y3 y4 y5 y6 y7) (mjolnerlaw04_LexVeils.j0 (k + 1) y0 y1 y2 y3 y4 y5 y6 y7)) ∧ (∀ y0 y1 y2 y3 y4 y5, LeO (mjolnerlaw04_LexVeils.j1 k y0 y1 y2 y3 y4 y5) (mjolnerlaw04_LexVeils.j1 (k + 1) y0 y1 y2 y3 y4 y5)) ∧ (∀ y0 y1 y2 y3 y4 y5, LeO (mjolnerlaw04_LexVeils.l0 k y0 y1 y2 y3 y4 y5) (mjolnerlaw04_LexVeils.l0 (k + 1) y0 y1 y2 y3 y4 y5))
 | 0 => ⟨fun _ _ _ _ _ _ _ _ r h => by simp [mjolnerlaw04_LexVeils.j0] at h, fun _ _ _ _ _ _ r h => by simp [mjolnerlaw04_LexVeils.j1] at h, fun _ _ _ _ _ _ r h => by simp [mjolnerlaw04_LexVeils.l0] at h⟩
 | k + 1 => by
  obtain ⟨ih0, ih1, ih2⟩ := mjolnerlaw04_LexVeils.mono_l k
  refine ⟨?_, ?_, ?_⟩
  ·intro y0 y1 y2 y3 y4 y5 y6 y7
   unfold mjolnerlaw04_LexVeils.j0
   repeat' first
   | (with_reducible exact ih0 _ _ _ _ _ _ _ _)
   | (with_reducible exact ih1 _ _ _ _ _ _)
   | (with_reducible exact ih2 _ _ _ _ _ _)
   | (with_reducible exact mjolnerlaw04_sane.mono _)
   | (with_reducible exact mjolnerref04_Exact.mono _ _ _)
   | (with_reducible exact text_Place.mono _ _ _)
   | (with_reducible exact LeO.refl _)
   | (with_reducible exact LeO.none _)
   | (with_reducible refine LeO.ite ?_ ?_)
   | (with_reducible refine LeO.bind ?_ (fun _ => ?_))
   | exact ih0 _ _ _ _ _ _ _ _
   | exact ih1 _ _ _ _ _ _
   | exact ih2 _ _ _ _ _ _
   | exact mjolnerlaw04_sane.mono _
   | exact mjolnerref04_Exact.mono _ _ _
   | exact text_Place.mono _ _ _
   | exact LeO.none _
   | refine LeO.ite ?_ ?_
   | refine LeO.bind ?_ (fun _ => ?_)
  ·intro y0 y1 y2 y3 y4 y5
   unfold mjolnerlaw04_LexVeils.j1
   repeat' first
   | (with_reducible exact ih0 _ _ _ _ _ _ _ _)
   | (with_reducible exact ih1 _ _ _ _ _ _)
   | (with_reducible exact ih2 _ _ _ _ _ _)
   | (with_reducible exact mjolnerlaw04_sane.mono _)
   | (with_reducible exact mjolnerref04_Exact.mono _ _ _)
   | (with_reducible exact text_Place.mono _ _ _)
   | (with_reducible exact LeO.refl _)
   | (with_reducible exact LeO.none _)
   | (with_reducible refine LeO.ite ?_ ?_)
   | (with_reducible refine LeO.bind ?_ (fun _ => ?_))
   | exact ih0 _ _ _ _ _ _ _ _
   | exact ih1 _ _ _ _ _ _
   | exact ih2 _ _ _ _ _ _
   | exact mjolnerlaw04_sane.mono _
   | exact mjolnerref04_Exact.mono _ _ _
   | exact text_Place.mono _ _ _
   | exact LeO.none _
   | refine LeO.ite ?_ ?_
   | refine LeO.bind ?_ (fun _ => ?_)
  ·intro y0 y1 y2 y3 y4 y5
   unfold mjolnerlaw04_LexVeils.l0
   repeat' first
   | (with_reducible exact ih0 _ _ _ _ _ _ _ _)
   | (with_reducible exact ih1 _ _ _ _ _ _)
   | (with_reducible exact ih2 _ _ _ _ _ _)
   | (with_reducible exact mjolnerlaw04_sane.mono _)
   | (with_reducible exact mjolnerref04_Exact.mono _ _ _)
   | (with_reducible exact text_Place.mono _ _ _)
   | (with_reducible exact LeO.refl _)
   | (with_reducible exact LeO.none _)
   | (with_reducible refine LeO.ite ?_ ?_)
   | (with_reducible refine LeO.bind ?_ (fun _ => ?_))
   | exact ih0 _ _ _ _ _ _ _ _
   | exact ih1 _ _ _ _ _ _
   | exact ih2 _ _ _ _ _ _
   | exact mjolnerlaw04_sane.mono _
   | exact mjolnerref04_Exact.mono _ _ _
   | exact text_Place.mono _ _ _
   | exact LeO.none _
   | refine LeO.ite ?_ ?_
   | refine LeO.bind ?_ (fun _ => ?_)
theorem mjolnerlaw04_LexVeils.mono : ∀ a0 a1 k, LeO (mjolnerlaw04_LexVeils.f k a0 a1) (mjolnerlaw04_LexVeils.f (k + 1) a0 a1) := by
 intro a0 a1 k
 obtain ⟨ih0, ih1, ih2⟩ := mjolnerlaw04_LexVeils.mono_l k
 unfold mjolnerlaw04_LexVeils.f
 repeat' first
   | (with_reducible exact ih0 _ _ _ _ _ _ _ _)
   | (with_reducible exact ih1 _ _ _ _ _ _)
   | (with_reducible exact ih2 _ _ _ _ _ _)
   | (with_reducible exact mjolnerlaw04_sane.mono _)
   | (with_reducible exact mjolnerref04_Exact.mono _ _ _)
   | (with_reducible exact text_Place.mono _ _ _)
   | (with_reducible exact LeO.refl _)
   | (with_reducible exact LeO.none _)
   | (with_reducible refine LeO.ite ?_ ?_)
   | (with_reducible refine LeO.bind ?_ (fun _ => ?_))
   | exact ih0 _ _ _ _ _ _ _ _
   | exact ih1 _ _ _ _ _ _
   | exact ih2 _ _ _ _ _ _
   | exact mjolnerlaw04_sane.mono _
   | exact mjolnerref04_Exact.mono _ _ _
   | exact text_Place.mono _ _ _
   | exact LeO.none _
   | refine LeO.ite ?_ ?_
   | refine LeO.bind ?_ (fun _ => ?_)
theorem mjolnerlaw04_LexVeils.j1_true : ∀ k y0 y1 y2 y3 y4, mjolnerlaw04_LexVeils.j1 k y0 y1 y2 y3 y4 true ≠ some true := by
 intro k y0 y1 y2 y3 y4
 cases k with
 | zero => rw [mjolnerlaw04_LexVeils.j1]; intro h; cases h
 | succ k => rw [mjolnerlaw04_LexVeils.j1, if_pos rfl]; intro h; cases h
set_option maxHeartbeats 8000000 in
set_option maxRecDepth 100000 in
theorem mjolnerlaw04_LexVeils.calls (k : Nat) (a0 : ByteArray) (a1 : Int) (r : Bool) (w : World) (hG : LaidG w) (h : mjolnerlaw04_LexVeils.f k a0 a1 = some r) (hr : r = true) :
  Calls Tryd.prog 9 #[.string a0, .int .i64 a1] w fun e w' => e = .returned (.bool r) ∧ Below w.heap.size w w' := by
 have HB := Aside0.mk (Below.refl w.heap.size w)
 have HG := Aside0.mk (LaidG.keep hG)
 clear hG
 have HRT := Aside0.mk hr
 clear hr
 have H : ((mjolnerlaw04_sane.f k).bind fun t363 => ((lex_Veil.f a0).bind fun bt364 => ((lex_Lex.f a0).bind fun bt367 => (if bt364.2.1 = bt367.2.1 then (mjolnerlaw04_LexVeils.j0 k a0 a1 t363 bt364.1 bt364.2.1 bt367.1 bt367.2.1 (bt364.2.1 != 0)) else (mjolnerlaw04_LexVeils.j0 k a0 a1 t363 bt364.1 bt364.2.1 bt367.1 bt367.2.1 true))))) = some r := h
 clear h
 replace H := Option.bind_eq_some_iff.mp H
 obtain ⟨t363, A30, H⟩ := H
 replace H : ((lex_Veil.f a0).bind fun bt364 => ((lex_Lex.f a0).bind fun bt367 => (if bt364.2.1 = bt367.2.1 then (mjolnerlaw04_LexVeils.j0 k a0 a1 t363 bt364.1 bt364.2.1 bt367.1 bt367.2.1 (bt364.2.1 != 0)) else (mjolnerlaw04_LexVeils.j0 k a0 a1 t363 bt364.1 bt364.2.1 bt367.1 bt367.2.1 true)))) = some r := H
 have A3 := Aside0.mk A30
 clear A30
 replace H := Option.bind_eq_some_iff.mp H
 obtain ⟨⟨t364, t365, t366⟩, A40, H⟩ := H
 replace H : ((lex_Lex.f a0).bind fun bt367 => (if t365 = bt367.2.1 then (mjolnerlaw04_LexVeils.j0 k a0 a1 t363 t364 t365 bt367.1 bt367.2.1 (t365 != 0)) else (mjolnerlaw04_LexVeils.j0 k a0 a1 t363 t364 t365 bt367.1 bt367.2.1 true))) = some r := H
 have A4 := Aside0.mk A40
 clear A40
 replace H := Option.bind_eq_some_iff.mp H
 obtain ⟨⟨t367, t368, t369⟩, A50, H⟩ := H
 replace H : (if t365 = t368 then (mjolnerlaw04_LexVeils.j0 k a0 a1 t363 t364 t365 t367 t368 (t365 != 0)) else (mjolnerlaw04_LexVeils.j0 k a0 a1 t363 t364 t365 t367 t368 true)) = some r := H
 have A5 := Aside0.mk A50
 clear A50
 have HC6 := Aside0.mk H
 clear H
 go_enter Tryd.func9, Tryd.ntmps9
 go_upto_region 4 with (first | ((with_reducible refine gate_callee (f := 10) rfl ?_); refine goesL_ (some 25) rfl rfl Tryd.func10 (by kernel_rfl) rfl #[] rfl (by (try simp only [List.map_toArray, List.map_cons, List.map_nil]); first | done | rfl | (simp only [List.length_drop, List.length_take]; rfl)) ?_; (with_reducible refine (mjolnerlaw04_sane.calls k  t363 _ ?side1 A3.out).mono ?_); (case side1 => exact HG.out _ (by repeat (first | (with_reducible first | exact HB.out | apply below_alloc | apply pw_below_drewN | apply below_drew1) | exact HB.out))); rintro e w7 ⟨rfl, hb⟩; refine ⟨_, rfl, ?_⟩; have n0_ := Aside0.mk (below_step (by repeat (first | (with_reducible first | exact HB.out | apply below_alloc | apply pw_below_drewN | apply below_drew1) | exact HB.out)) hb); clear HB; have HB := n0_; clear n0_; (try clear hb); (try clear hb2); (try clear hk); (try clear hi)) | ((with_reducible refine gate_callee (f := 24) rfl ?_); refine goesL_ (some 28) rfl rfl Tryd.func24 (by kernel_rfl) rfl #[.string a0] rfl (by (try simp only [List.map_toArray, List.map_cons, List.map_nil]); first | done | rfl | (simp only [List.length_drop, List.length_take]; rfl)) ?_; (with_reducible refine (lex_Veil.calls a0 t364 t365 t366 _ ?side1 A4.out).mono ?_); (case side1 => exact HG.out _ (by repeat (first | (with_reducible first | exact HB.out | apply below_alloc | apply pw_below_drewN | apply below_drew1) | exact HB.out))); rintro e w8 ⟨rfl, hb⟩; refine ⟨_, rfl, ?_⟩; have n0_ := Aside0.mk (below_step (by repeat (first | (with_reducible first | exact HB.out | apply below_alloc | apply pw_below_drewN | apply below_drew1) | exact HB.out)) hb); clear HB; have HB := n0_; clear n0_; (try clear hb); (try clear hb2); (try clear hk); (try clear hi)) | ((with_reducible refine gate_callee (f := 11) rfl ?_); refine goesL_ (some 34) rfl rfl Tryd.func11 (by kernel_rfl) rfl #[.string a0] rfl (by (try simp only [List.map_toArray, List.map_cons, List.map_nil]); first | done | rfl | (simp only [List.length_drop, List.length_take]; rfl)) ?_; (with_reducible refine (lex_Lex.calls a0 t367 t368 t369 _ ?side1 A5.out).mono ?_); (case side1 => exact HG.out _ (by repeat (first | (with_reducible first | exact HB.out | apply below_alloc | apply pw_below_drewN | apply below_drew1) | exact HB.out))); rintro e w9 ⟨v370, rfl, ho0, hb⟩; refine ⟨_, rfl, ?_⟩; have n0_ := Aside0.mk (Kd.R_lower ho0 (below_size (by repeat (first | (with_reducible first | exact HB.out | apply below_alloc | apply pw_below_drewN | apply below_drew1) | exact HB.out)))); have n1_ := Aside0.mk (below_step (by repeat (first | (with_reducible first | exact HB.out | apply below_alloc | apply pw_below_drewN | apply below_drew1) | exact HB.out)) hb); clear HB; have HO371 := n0_; have HB := n1_; clear n0_ n1_; (try clear hb); (try clear hb2); (try clear hk); (try clear hi); (try clear ho0)))
 (try simp only [Act.put, List.setIfInBounds_toArray, List.set_cons_zero, List.set_cons_succ])
 go_cut [44] (fun v44 wc => ∃ (kq : Nat) (x44_5 : Bool), v44 = .bool x44_5 ∧ Aside0 (mjolnerlaw04_LexVeils.j0 kq a0 a1 t363 t364 t365 t367 t368 x44_5 = some r) ∧ Aside0 (kq ≤ k) ∧ Aside0 (Kd.R k42 42 wc w.heap.size (fun _ => True) v370 t367) ∧ Aside0 (Below w.heap.size w wc))
 case first =>
  have H := HC6.out
  clear HC6
  by_cases c10 : t365 = t368
  ·rw [if_pos c10] at H
   have c10b0 : (t365 == t368) = true := beq_iff_eq.mpr c10
   have c10b1 : (t365 != t368) = false := bne_eq_false_iff_eq.mpr c10
   clear c10
   (first | rw [c10b0] | (simp only [i64_w, i32_w]; rw [c10b0]) | rw [c10b1] | skip)
   have H' := Aside0.mk H
   clear H
   go_wp2
   go_meet
   case rel => exact ⟨_, ((t365 != 0)), (by first | rfl | (simp; done) | (simp [*]; done)), H', ⟨by first | omega | exact Nat.le_refl _⟩, ⟨by (with_reducible repeat (first | apply Kd.R_alloc | apply Kd.R_drewN | apply Kd.R_drew)); exact HO371.out⟩, ⟨by repeat (first | (with_reducible first | exact HB.out | apply below_alloc | apply pw_below_drewN | apply below_drew1) | exact HB.out)⟩⟩
  ·rw [if_neg c10] at H
   have c10b0 : (t365 == t368) = false := beq_eq_false_iff_ne.mpr c10
   have c10b1 : (t365 != t368) = true := bne_iff_ne.mpr c10
   (first | rw [c10b0] | (simp only [i64_w, i32_w]; rw [c10b0]) | rw [c10b1] | skip)
   have H' := Aside0.mk H
   clear H
   go_wp2
   go_meet
   case rel => exact ⟨_, (true), (by first | rfl | (simp; done) | (simp [*]; done)), H', ⟨by first | omega | exact Nat.le_refl _⟩, ⟨by (with_reducible repeat (first | apply Kd.R_alloc | apply Kd.R_drewN | apply Kd.R_drew)); exact HO371.out⟩, ⟨by repeat (first | (with_reducible first | exact HB.out | apply below_alloc | apply pw_below_drewN | apply below_drew1) | exact HB.out)⟩⟩
 case rest =>
  clear HC6
  try clear c1
  try clear c2
  try clear p2
  try clear c9
  try clear c10
  try clear c10b0
  try clear c10b1
  obtain ⟨kq, x44_5, rfl, HA, HJ5, HO_9, HB⟩ := hcut
  cases kq with
  | zero => exact absurd HA.out (by simp [mjolnerlaw04_LexVeils.j0])
  | succ kj5 =>
   have H := HA.out
   clear HA
   simp only [mjolnerlaw04_LexVeils.j0] at H
   by_cases c11 : x44_5 = true
   ·subst c11
    have H1 : (if t363 = true then (if t365 = t368 then (some (t364.toList == ([] : List UInt8))) else (some false)) else (some false)) = some r := by rw [if_pos rfl] at H; exact H
    clear H
    have H := H1
    clear H1
    by_cases c12 : t363 = true
    ·subst c12
     have H1 : (if t365 = t368 then (some (t364.toList == ([] : List UInt8))) else (some false)) = some r := by rw [if_pos rfl] at H; exact H
     clear H
     have H := H1
     clear H1
     by_cases c13 : t365 = t368
     ·rw [if_pos c13] at H
      have c13b0 : (t365 == t368) = true := beq_iff_eq.mpr c13
      have c13b1 : (t365 != t368) = false := bne_eq_false_iff_eq.mpr c13
      clear c13
      obtain rfl := Option.some.inj H
      go_wp2
      go_ret
      exact ⟨by first | rfl | (simp [errW_none, errW_some] <;> rfl) | (simp [*, errW_none, errW_some] <;> rfl), by repeat (first | (with_reducible first | exact HB.out | apply below_alloc | apply pw_below_drewN | apply below_drew1) | exact HB.out)⟩
     ·rw [if_neg c13] at H
      first | exact absurd (H.trans (congrArg some HRT.out)) (by simp) | exact absurd (H.trans (congrArg some HRT.out)) (mjolnerlaw04_LexVeils.j1_true _ _ _ _ _ _)
    ·replace c12 := Bool.eq_false_iff.mpr c12
     subst c12
     have H1 : (some false) = some r := by rw [if_neg (show ¬ (false = true) by decide)] at H; exact H
     clear H
     have H := H1
     clear H1
     first | exact absurd (H.trans (congrArg some HRT.out)) (by simp) | exact absurd (H.trans (congrArg some HRT.out)) (mjolnerlaw04_LexVeils.j1_true _ _ _ _ _ _)
   ·replace c11 := Bool.eq_false_iff.mpr c11
    subst c11
    have H1 : ((lex_Lex.f t364).bind fun bt372 => ((lex_Spans.f t364).bind fun bt377 => (if bt372.2.1 = 0 then (if bt377.2.1 = 0 then (if (t364.size : Int) = (a0.size : Int) then ((mjolnerref04_Exact.f kj5 t367 bt372.1).bind fun t382 => (mjolnerlaw04_LexVeils.j1 kj5 a0 a1 t363 t364 bt377.1 (!t382))) else (mjolnerlaw04_LexVeils.j1 kj5 a0 a1 t363 t364 bt377.1 true)) else (mjolnerlaw04_LexVeils.j1 kj5 a0 a1 t363 t364 bt377.1 true)) else (mjolnerlaw04_LexVeils.j1 kj5 a0 a1 t363 t364 bt377.1 true)))) = some r := by rw [if_neg (show ¬ (false = true) by decide)] at H; exact H
    clear H
    have H := H1
    clear H1
    replace H := Option.bind_eq_some_iff.mp H
    obtain ⟨⟨t372, t373, t374⟩, A140, H⟩ := H
    replace H : ((lex_Spans.f t364).bind fun bt377 => (if t373 = 0 then (if bt377.2.1 = 0 then (if (t364.size : Int) = (a0.size : Int) then ((mjolnerref04_Exact.f kj5 t367 t372).bind fun t382 => (mjolnerlaw04_LexVeils.j1 kj5 a0 a1 t363 t364 bt377.1 (!t382))) else (mjolnerlaw04_LexVeils.j1 kj5 a0 a1 t363 t364 bt377.1 true)) else (mjolnerlaw04_LexVeils.j1 kj5 a0 a1 t363 t364 bt377.1 true)) else (mjolnerlaw04_LexVeils.j1 kj5 a0 a1 t363 t364 bt377.1 true))) = some r := H
    have A14 := Aside0.mk A140
    clear A140
    replace H := Option.bind_eq_some_iff.mp H
    obtain ⟨⟨t377, t378, t379⟩, A150, H⟩ := H
    replace H : (if t373 = 0 then (if t378 = 0 then (if (t364.size : Int) = (a0.size : Int) then ((mjolnerref04_Exact.f kj5 t367 t372).bind fun t382 => (mjolnerlaw04_LexVeils.j1 kj5 a0 a1 t363 t364 t377 (!t382))) else (mjolnerlaw04_LexVeils.j1 kj5 a0 a1 t363 t364 t377 true)) else (mjolnerlaw04_LexVeils.j1 kj5 a0 a1 t363 t364 t377 true)) else (mjolnerlaw04_LexVeils.j1 kj5 a0 a1 t363 t364 t377 true)) = some r := H
    have A15 := Aside0.mk A150
    clear A150
    have HC16 := Aside0.mk H
    clear H
    go_upto_region 8 with (first | ((with_reducible refine gate_callee (f := 11) rfl ?_); refine goesL_ (some 57) rfl rfl Tryd.func11 (by kernel_rfl) rfl #[.string t364] rfl (by (try simp only [List.map_toArray, List.map_cons, List.map_nil]); first | done | rfl | (simp only [List.length_drop, List.length_take]; rfl)) ?_; (with_reducible refine (lex_Lex.calls t364 t372 t373 t374 _ ?side1 A14.out).mono ?_); (case side1 => exact HG.out _ (by repeat (first | (with_reducible first | exact HB.out | apply below_alloc | apply pw_below_drewN | apply below_drew1) | exact HB.out))); rintro e w17 ⟨v375, rfl, ho0, hb⟩; refine ⟨_, rfl, ?_⟩; have n0_ := Aside0.mk (Kd.R_elder' (by (with_reducible repeat (first | apply Kd.R_alloc | apply Kd.R_drewN | apply Kd.R_drew)); exact HO_9.out) (Kd.R_base ho0) hb); have n1_ := Aside0.mk (Kd.R_lower (Kd.R_new' ho0 (Kd.R_lt (by (with_reducible repeat (first | apply Kd.R_alloc | apply Kd.R_drewN | apply Kd.R_drew)); exact HO_9.out))) (below_size (by repeat (first | (with_reducible first | exact HB.out | apply below_alloc | apply pw_below_drewN | apply below_drew1) | exact HB.out)))); have n2_ := Aside0.mk (below_step (by repeat (first | (with_reducible first | exact HB.out | apply below_alloc | apply pw_below_drewN | apply below_drew1) | exact HB.out)) hb); clear HO_9; clear HB; have HO_9 := n0_; have HO376 := n1_; have HB := n2_; clear n0_ n1_ n2_; (try clear hb); (try clear hb2); (try clear hk); (try clear hi); (try clear ho0)) | ((with_reducible refine gate_callee (f := 15) rfl ?_); refine goesL_ (some 63) rfl rfl Tryd.func15 (by kernel_rfl) rfl #[.string t364] rfl (by (try simp only [List.map_toArray, List.map_cons, List.map_nil]); first | done | rfl | (simp only [List.length_drop, List.length_take]; rfl)) ?_; (with_reducible refine (lex_Spans.calls t364 t377 t378 t379 _ ?side1 A15.out).mono ?_); (case side1 => exact HG.out _ (by repeat (first | (with_reducible first | exact HB.out | apply below_alloc | apply pw_below_drewN | apply below_drew1) | exact HB.out))); rintro e w18 ⟨v380, rfl, ho0, hb⟩; refine ⟨_, rfl, ?_⟩; have n0_ := Aside0.mk (Kd.R_below (by (with_reducible repeat (first | apply Kd.R_alloc | apply Kd.R_drewN | apply Kd.R_drew)); exact HO_9.out) hb); have n1_ := Aside0.mk (Kd.R_below (by (with_reducible repeat (first | apply Kd.R_alloc | apply Kd.R_drewN | apply Kd.R_drew)); exact HO376.out) hb); have n2_ := Aside0.mk (Kd.R_lower ho0 (below_size (by repeat (first | (with_reducible first | exact HB.out | apply below_alloc | apply pw_below_drewN | apply below_drew1) | exact HB.out)))); have n3_ := Aside0.mk (below_step (by repeat (first | (with_reducible first | exact HB.out | apply below_alloc | apply pw_below_drewN | apply below_drew1) | exact HB.out)) hb); clear HO_9; clear HO376; clear HB; have HO_9 := n0_; have HO376 := n1_; have HO381 := n2_; have HB := n3_; clear n0_ n1_ n2_ n3_; (try clear hb); (try clear hb2); (try clear hk); (try clear hi); (try clear ho0)))
    (try simp only [Act.put, List.setIfInBounds_toArray, List.set_cons_zero, List.set_cons_succ])
    go_cut [85] (fun v85 wc => ∃ (kq : Nat) (x85_15 : Bool), v85 = .bool x85_15 ∧ Aside0 (mjolnerlaw04_LexVeils.j1 kq a0 a1 t363 t364 t377 x85_15 = some r) ∧ Aside0 (kq ≤ kj5) ∧ Aside0 (Kd.R k40 40 wc w.heap.size (fun _ => True) v380 t377) ∧ Aside0 (Below w.heap.size w wc))
    case first =>
     have H := HC16.out
     clear HC16
     by_cases c19 : t373 = 0
     ·rw [if_pos c19] at H
      have c19b0 : (t373 == 0) = true := beq_iff_eq.mpr c19
      have c19b1 : (t373 != 0) = false := bne_eq_false_iff_eq.mpr c19
      clear c19
      (first | rw [c19b0] | (simp only [i64_w, i32_w]; rw [c19b0]) | rw [c19b1] | skip)
      by_cases c20 : t378 = 0
      ·rw [if_pos c20] at H
       have c20b0 : (t378 == 0) = true := beq_iff_eq.mpr c20
       have c20b1 : (t378 != 0) = false := bne_eq_false_iff_eq.mpr c20
       clear c20
       by_cases c21 : (t364.size : Int) = (a0.size : Int)
       ·rw [if_pos c21] at H
        have c21b0 : ((t364.size : Int) == (a0.size : Int)) = true := beq_iff_eq.mpr c21
        have c21b1 : ((t364.size : Int) != (a0.size : Int)) = false := bne_eq_false_iff_eq.mpr c21
        have c21b2 : (t364.size == a0.size) = true := by first | simpa using c21 | (simp at c21 ⊢; omega)
        clear c21
        replace H := Option.bind_eq_some_iff.mp H
        obtain ⟨t382, A220, H⟩ := H
        replace H : (mjolnerlaw04_LexVeils.j1 kj5 a0 a1 t363 t364 t377 (!t382)) = some r := H
        have A22 := Aside0.mk A220
        clear A220
        have H' := Aside0.mk H
        clear H
        obtain ⟨Ao23, co23, eo23⟩ := Kd.R_slice HO_9.out
        subst eo23
        obtain ⟨Ao24, co24, eo24⟩ := Kd.R_slice HO376.out
        subst eo24
        go_wp2_with (first | (go_at_call 13; (with_reducible refine (mjolnerref04_Exact.calls kj5 _ _ t367 _ _ t372 t382 _ ?side1 ?side2 ?side3 ?side4 A22.out).mono ?_); (case side1 => repeat (first | exact (Kd.R_reads' HO_9.out).2.2 | (with_reducible refine Kd.C_alloc ?_ _) | (with_reducible refine Kd.C_drewN ?_ _) | (with_reducible refine Kd.C_drew ?_))); (case side2 => exact (Kd.R_reads' HO_9.out).2.1); (case side3 => repeat (first | exact (Kd.R_reads' HO376.out).2.2 | (with_reducible refine Kd.C_alloc ?_ _) | (with_reducible refine Kd.C_drewN ?_ _) | (with_reducible refine Kd.C_drew ?_))); (case side4 => exact (Kd.R_reads' HO376.out).2.1); rintro e w' ⟨rfl, ⟨nd, rfl⟩⟩))
        go_meet
        case rel => exact ⟨_, (!t382), (by first | rfl | (simp; done) | (simp [*]; done)), H', ⟨by have := HJ5.out; first | omega | exact Nat.le_refl _⟩, ⟨by (with_reducible repeat (first | apply Kd.R_alloc | apply Kd.R_drewN | apply Kd.R_drew)); exact HO381.out⟩, ⟨by repeat (first | (with_reducible first | exact HB.out | apply below_alloc | apply pw_below_drewN | apply below_drew1) | exact HB.out)⟩⟩
       ·rw [if_neg c21] at H
        first | exact absurd (H.trans (congrArg some HRT.out)) (by simp) | exact absurd (H.trans (congrArg some HRT.out)) (mjolnerlaw04_LexVeils.j1_true _ _ _ _ _ _)
      ·rw [if_neg c20] at H
       first | exact absurd (H.trans (congrArg some HRT.out)) (by simp) | exact absurd (H.trans (congrArg some HRT.out)) (mjolnerlaw04_LexVeils.j1_true _ _ _ _ _ _)
     ·rw [if_neg c19] at H
      first | exact absurd (H.trans (congrArg some HRT.out)) (by simp) | exact absurd (H.trans (congrArg some HRT.out)) (mjolnerlaw04_LexVeils.j1_true _ _ _ _ _ _)
    case rest =>
     clear HC16
     try clear c1
     try clear c2
     try clear p2
     try clear c9
     try clear c10
     try clear c10b0
     try clear c10b1
     try clear c11
     try clear c12
     try clear c13
     try clear c13b0
     try clear c13b1
     try clear c15
     try clear c19
     try clear c19b0
     try clear c19b1
     try clear c20
     try clear c20b0
     try clear c20b1
     try clear c21
     try clear c21b0
     try clear c21b1
     try clear c21b2
     try clear c24
     try clear p2
     obtain ⟨kq, x85_15, rfl, HA, HJ15, HO_15, HB⟩ := hcut
     cases kq with
     | zero => exact absurd HA.out (by simp [mjolnerlaw04_LexVeils.j1])
     | succ kj15 =>
      have H := HA.out
      clear HA
      simp only [mjolnerlaw04_LexVeils.j1] at H
      by_cases c25 : x85_15 = true
      ·subst c25
       have H1 : (some false) = some r := by rw [if_pos rfl] at H; exact H
       clear H
       have H := H1
       clear H1
       first | exact absurd (H.trans (congrArg some HRT.out)) (by simp) | exact absurd (H.trans (congrArg some HRT.out)) (mjolnerlaw04_LexVeils.j1_true _ _ _ _ _ _)
      ·replace c25 := Bool.eq_false_iff.mpr c25
       subst c25
       have H1 : (mjolnerlaw04_LexVeils.l0 kj15 a0 a1 t363 t364 t377 0) = some r := by rw [if_neg (show ¬ (false = true) by decide)] at H; exact H
       clear H
       have H := H1
       clear H1
       have H' := Aside0.mk H
       clear H
       go_wp2
       go_loopg [18] kj15 (fun kq v18 w' => ∃ (x18_3 : Int), v18 = .int .i64 x18_3 ∧ Aside0 (mjolnerlaw04_LexVeils.l0 kq a0 a1 t363 t364 t377 x18_3 = some r) ∧ Aside0 (kq ≤ kj15) ∧ Aside0 (Kd.R k40 40 w' w.heap.size (fun _ => True) v380 t377) ∧ Aside0 (Below w.heap.size w w'))
       case atStart => exact ⟨(0), (by first | rfl | (simp; done) | (simp [*]; done)), H', ⟨Nat.le_refl _⟩, ⟨by (with_reducible repeat (first | apply Kd.R_alloc | apply Kd.R_drewN | apply Kd.R_drew)); exact HO_15.out⟩, ⟨by repeat (first | (with_reducible first | exact HB.out | apply below_alloc | apply pw_below_drewN | apply below_drew1) | exact HB.out)⟩⟩
       case round =>
        clear H'
        try clear c1
        try clear c2
        try clear p2
        try clear c9
        try clear c10
        try clear c10b0
        try clear c10b1
        try clear c11
        try clear c12
        try clear c13
        try clear c13b0
        try clear c13b1
        try clear c15
        try clear c19
        try clear c19b0
        try clear c19b1
        try clear c20
        try clear c20b0
        try clear c20b1
        try clear c21
        try clear c21b0
        try clear c21b1
        try clear c21b2
        try clear c24
        try clear c25
        try clear p2
        obtain ⟨x18_3, rfl, HA, HK3, HO_15, HB⟩ := hrel
        cases gk with
        | zero => exact absurd HA.out (by simp [mjolnerlaw04_LexVeils.l0])
        | succ k3 =>
         have H := HA.out
         clear HA
         simp only [mjolnerlaw04_LexVeils.l0] at H
         by_cases c26 : x18_3 < (t377.length : Int)
         ·rw [if_pos c26] at H
          have c26b0 : decide (x18_3 < (t377.length : Int)) = true := decide_eq_true c26
          clear c26
          by_cases c27 : 0 ≤ x18_3
          ·rw [if_pos c27] at H
           have c27b0 : decide (0 ≤ x18_3) = true := decide_eq_true c27
           clear c27
           by_cases c28 : ((rd_T40 t377 x18_3).f0) = 2
           ·rw [if_pos c28] at H
            first | exact absurd (H.trans (congrArg some HRT.out)) (by simp) | exact absurd (H.trans (congrArg some HRT.out)) (mjolnerlaw04_LexVeils.j1_true _ _ _ _ _ _)
           ·rw [if_neg c28] at H
            have c28b0 : (((rd_T40 t377 x18_3).f0) == 2) = false := beq_eq_false_iff_ne.mpr c28
            have c28b1 : (((rd_T40 t377 x18_3).f0) != 2) = true := bne_iff_ne.mpr c28
            have H' := Aside0.mk H
            clear H
            obtain ⟨Ao30, co30, eo30⟩ := Kd.R_slice HO_15.out
            subst eo30
            have p383 : 0 ≤ (x18_3 : Int) := of_decide_eq_true (by first | (with_reducible assumption) | assumption)
            have q383 : x18_3 < (t377.length : Int) := of_decide_eq_true (by first | (with_reducible assumption) | assumption)
            obtain ⟨ad383, e383, hx383_0, hx383_1, hx383_2⟩ := at_T40 (Kd.R_reads' HO_15.out).2.2 x18_3 p383 q383
            cases e383
            replace p383 := eq_true p383
            replace q383 := eq_true q383
            go_wp2
            go_roundg k3
            case measure => have := HJ5.out; have := HJ15.out; have := HK3.out; omega
            case rel => exact ⟨(wrap64 (x18_3 + 1)), (by first | rfl | (simp; done) | (simp [*]; done)), H', ⟨by have := HJ5.out; have := HJ15.out; have := HK3.out; omega⟩, ⟨by (with_reducible repeat (first | apply Kd.R_alloc | apply Kd.R_drewN | apply Kd.R_drew)); exact HO_15.out⟩, ⟨by repeat (first | (with_reducible first | exact HB.out | apply below_alloc | apply pw_below_drewN | apply below_drew1) | exact HB.out)⟩⟩
          ·rw [if_neg c27] at H
           exact absurd H (by simp)
         ·rw [if_neg c26] at H
          have c26b0 : decide (x18_3 < (t377.length : Int)) = false := decide_eq_false c26
          clear c26
          replace H := Option.bind_eq_some_iff.mp H
          obtain ⟨⟨t384, t385, t386⟩, A310, H⟩ := H
          replace H : ((text_Place.f k3 t364 a1).bind fun bt387 => (if t363 = true then (if t384 = bt387.1 then (if t385 = bt387.2.1 then (some (t386 == bt387.2.2)) else (some false)) else (some false)) else (some false))) = some r := H
          have A31 := Aside0.mk A310
          clear A310
          replace H := Option.bind_eq_some_iff.mp H
          obtain ⟨⟨t387, t388, t389⟩, A320, H⟩ := H
          replace H : (if t363 = true then (if t384 = t387 then (if t385 = t388 then (some (t386 == t389)) else (some false)) else (some false)) else (some false)) = some r := H
          have A32 := Aside0.mk A320
          clear A320
          by_cases c33 : t363 = true
          ·subst c33
           have H1 : (if t384 = t387 then (if t385 = t388 then (some (t386 == t389)) else (some false)) else (some false)) = some r := by rw [if_pos rfl] at H; exact H
           clear H
           have H := H1
           clear H1
           by_cases c34 : t384 = t387
           ·rw [if_pos c34] at H
            have c34b0 : (t384 == t387) = true := beq_iff_eq.mpr c34
            have c34b1 : (t384 != t387) = false := bne_eq_false_iff_eq.mpr c34
            clear c34
            by_cases c35 : t385 = t388
            ·rw [if_pos c35] at H
             have c35b0 : (t385 == t388) = true := beq_iff_eq.mpr c35
             have c35b1 : (t385 != t388) = false := bne_eq_false_iff_eq.mpr c35
             clear c35
             obtain rfl := Option.some.inj H
             obtain ⟨Ao36, co36, eo36⟩ := Kd.R_slice HO_15.out
             subst eo36
             go_wp2_with (first | ((with_reducible refine gate_callee (f := 25) rfl ?_); refine goesL_ (some 101) rfl rfl Tryd.func25 (by kernel_rfl) rfl #[.string a0, .int .i64 a1] rfl (by (try simp only [List.map_toArray, List.map_cons, List.map_nil]); first | done | rfl | (simp only [List.length_drop, List.length_take]; rfl)) ?_; (with_reducible refine (text_Place.calls k3 a0 a1 t384 t385 t386 _ A31.out).mono ?_); rintro e w37 ⟨rfl, hb⟩; refine ⟨_, rfl, ?_⟩; have n0_ := Aside0.mk (Kd.R_below (by (with_reducible repeat (first | apply Kd.R_alloc | apply Kd.R_drewN | apply Kd.R_drew)); exact HO_15.out) hb); have n1_ := Aside0.mk (below_step (by repeat (first | (with_reducible first | exact HB.out | apply below_alloc | apply pw_below_drewN | apply below_drew1) | exact HB.out)) hb); clear HO_15; clear HB; have HO_15 := n0_; have HB := n1_; clear n0_ n1_; (try clear hb); (try clear hb2); (try clear hk); (try clear hi)) | ((with_reducible refine gate_callee (f := 25) rfl ?_); refine goesL_ (some 108) rfl rfl Tryd.func25 (by kernel_rfl) rfl #[.string t364, .int .i64 a1] rfl (by (try simp only [List.map_toArray, List.map_cons, List.map_nil]); first | done | rfl | (simp only [List.length_drop, List.length_take]; rfl)) ?_; (with_reducible refine (text_Place.calls k3 t364 a1 t387 t388 t389 _ A32.out).mono ?_); rintro e w38 ⟨rfl, hb⟩; refine ⟨_, rfl, ?_⟩; have n0_ := Aside0.mk (Kd.R_below (by (with_reducible repeat (first | apply Kd.R_alloc | apply Kd.R_drewN | apply Kd.R_drew)); exact HO_15.out) hb); have n1_ := Aside0.mk (below_step (by repeat (first | (with_reducible first | exact HB.out | apply below_alloc | apply pw_below_drewN | apply below_drew1) | exact HB.out)) hb); clear HO_15; clear HB; have HO_15 := n0_; have HB := n1_; clear n0_ n1_; (try clear hb); (try clear hb2); (try clear hk); (try clear hi)))
             go_ret
             exact ⟨by first | rfl | (simp [errW_none, errW_some] <;> rfl) | (simp [*, errW_none, errW_some] <;> rfl), by repeat (first | (with_reducible first | exact HB.out | apply below_alloc | apply pw_below_drewN | apply below_drew1) | exact HB.out)⟩
            ·rw [if_neg c35] at H
             first | exact absurd (H.trans (congrArg some HRT.out)) (by simp) | exact absurd (H.trans (congrArg some HRT.out)) (mjolnerlaw04_LexVeils.j1_true _ _ _ _ _ _)
           ·rw [if_neg c34] at H
            first | exact absurd (H.trans (congrArg some HRT.out)) (by simp) | exact absurd (H.trans (congrArg some HRT.out)) (mjolnerlaw04_LexVeils.j1_true _ _ _ _ _ _)
          ·replace c33 := Bool.eq_false_iff.mpr c33
           subst c33
           have H1 : (some false) = some r := by rw [if_neg (show ¬ (false = true) by decide)] at H; exact H
           clear H
           have H := H1
           clear H1
           first | exact absurd (H.trans (congrArg some HRT.out)) (by simp) | exact absurd (H.trans (congrArg some HRT.out)) (mjolnerlaw04_LexVeils.j1_true _ _ _ _ _ _)
end Go.Proofs.YtniihjhlkpjnoaaDoor.PV
