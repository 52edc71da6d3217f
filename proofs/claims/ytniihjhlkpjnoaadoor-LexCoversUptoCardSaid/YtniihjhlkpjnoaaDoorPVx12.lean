-- Written by a program of mine (wip/print_given.sh: the kit's print, changed so that some functions are given by contracts).
-- (made short by wip/short.py)
import Derived.Test.YtniihjhlkpjnoaaDoorBits
import Derived.Test.YtniihjhlkpjnoaaDoorJ2
import Derived.Test.YtniihjhlkpjnoaaDoorPVx4
import Derived.Test.YtniihjhlkpjnoaaDoorPVx8
import Derived.Test.YtniihjhlkpjnoaaDoorJ11
namespace Go.Proofs.YtniihjhlkpjnoaaDoor.PV
open Go.RowKit Go.Proofs.YtniihjhlkpjnoaaDoor.Given Go.Proofs.YtniihjhlkpjnoaaDoorW.PrintWords Go.Proofs.YtniihjhlkpjnoaaDoorW.PrintLast Go.Proofs.YtniihjhlkpjnoaaDoorW.PrintMore
attribute [local go_sem] max2_int min2_int max_two min_two max_three min_three max_four min_four   -- for this text's walks alone
set_option linter.unusedVariables false
set_option linter.unusedSimpArgs false

/-! ### mjolnerlaw04_LexCovers: function 5 -/
mutual
def mjolnerlaw04_LexCovers.j0 : Nat → ByteArray → Bool → List (S40) → Int → List (S42) → Int → Bool → Option (Bool)
 | 0, _, _, _, _, _, _, _ => none
 | k + 1, x0, x3, x4, x5, x7, x8, x34 => if x34 = true then (if x3 = true then (if x5 = x8 then (if (x4.length : Int) = 0 then (some ((x7.length : Int) == 0)) else (some false)) else (some false)) else (some false)) else (mjolnerlaw04_LexCovers.l0 k x0 x3 x4 x7 0 0 false 0)
def mjolnerlaw04_LexCovers.l0 : Nat → ByteArray → Bool → List (S40) → List (S42) → Int → Int → Bool → Int → Option (Bool)
 | 0, _, _, _, _, _, _, _, _ => none
 | k + 1, x0, x3, x4, x7, x10, x11, x12, x13 => if x13 < (x4.length : Int) then (if 0 ≤ x13 then (if ((rd_T40 x4 x13).f1) = x10 then (if ((rd_T40 x4 x13).f2) ≤ ((rd_T40 x4 x13).f1) then (mjolnerlaw04_LexCovers.j2 k x0 x3 x4 x7 x11 x13 true ((rd_T40 x4 x13).f0) ((rd_T40 x4 x13).f1) ((rd_T40 x4 x13).f2)) else (if ((rd_T40 x4 x13).f2) > (x0.size : Int) then (mjolnerlaw04_LexCovers.j2 k x0 x3 x4 x7 x11 x13 true ((rd_T40 x4 x13).f0) ((rd_T40 x4 x13).f1) ((rd_T40 x4 x13).f2)) else (if x12 = true then (mjolnerlaw04_LexCovers.j2 k x0 x3 x4 x7 x11 x13 (((rd_T40 x4 x13).f0) == 1) ((rd_T40 x4 x13).f0) ((rd_T40 x4 x13).f1) ((rd_T40 x4 x13).f2)) else (mjolnerlaw04_LexCovers.j2 k x0 x3 x4 x7 x11 x13 false ((rd_T40 x4 x13).f0) ((rd_T40 x4 x13).f1) ((rd_T40 x4 x13).f2))))) else (mjolnerlaw04_LexCovers.j2 k x0 x3 x4 x7 x11 x13 true ((rd_T40 x4 x13).f0) ((rd_T40 x4 x13).f1) ((rd_T40 x4 x13).f2))) else (none)) else (if x3 = true then (if x10 = (x0.size : Int) then (some (x11 == (x7.length : Int))) else (some false)) else (some false))
def mjolnerlaw04_LexCovers.j2 : Nat → ByteArray → Bool → List (S40) → List (S42) → Int → Int → Bool → Int → Int → Int → Option (Bool)
 | 0, _, _, _, _, _, _, _, _, _, _ => none
 | k + 1, x0, x3, x4, x7, x11, x13, x86, x274000, x274001, x274002 => if x86 = true then (some false) else (if x274000 = 3 then (if x11 ≥ (x7.length : Int) then (some false) else (if 0 ≤ x11 then (if x11 < (x7.length : Int) then (if ((rd_T42 x7 x11).f3) = x274001 then (if ((rd_T42 x7 x11).f4) = x274002 then ((lex_Valid.f ((rd_T42 x7 x11).f0) ((rd_T42 x7 x11).f1) ((rd_T42 x7 x11).f2) ((rd_T42 x7 x11).f3) ((rd_T42 x7 x11).f4)).bind fun t277 => (if t277 = true then (mjolnerlaw04_LexCovers.l0 k x0 x3 x4 x7 x274002 (wrap64 (x11 + 1)) (x274000 == 1) (wrap64 (x13 + 1))) else (some false))) else (some false)) else (some false)) else (none)) else (none))) else (mjolnerlaw04_LexCovers.l0 k x0 x3 x4 x7 x274002 x11 (x274000 == 1) (wrap64 (x13 + 1))))
end
def mjolnerlaw04_LexCovers.f (k : Nat) (a0 : ByteArray) : Option (Bool) := (mjolnerlaw04_sane.f k).bind fun t261 => ((lex_Spans.f a0).bind fun bt262 => ((lex_Lex.f a0).bind fun bt267 => (if bt262.2.1 = bt267.2.1 then (mjolnerlaw04_LexCovers.j0 k a0 t261 bt262.1 bt262.2.1 bt267.1 bt267.2.1 (bt262.2.1 != 0)) else (mjolnerlaw04_LexCovers.j0 k a0 t261 bt262.1 bt262.2.1 bt267.1 bt267.2.1 true))))
theorem mjolnerlaw04_LexCovers.mono_l : ∀ k, (∀ y0 y1 y2 y3 y4 y5 y6, LeO (mjolnerlaw04_LexCovers.j0 k y0 y1 y2 y3 y4 y5 y6) (mjolnerlaw04_LexCovers.j0 (k + 1) y0 y1 y2 y3 y4 y5 y6)) ∧ (∀ y0 y1 y2 y3 y4 y5 y6 y7, LeO (mjolnerlaw04_LexCovers.l0 k y0 y1 y2 y3 y4 y5 y6 y7) (mjolnerlaw04_LexCovers.l0 (k + 1) y0 y1 y2 y3 y4 y5 y6 y7)) ∧ (∀ y0 y1 y2 y3 y4 y5 y6 y7 y8 y9, LeO (mjolnerlaw04_LexCovers.j2 k y0 y1 y2 y3 y4 y5 y6 y7 y8 y9) (mjolnerlaw04_LexCovers.j2 (k + 1) y0 y1 y2 y3 y4 y5 y6 y7 y8 y9))
 | 0 => ⟨fun _ _ _ _ _ _ _ r h => by simp [mjolnerlaw04_LexCovers.j0] at h, fun _ _ _ _ _ _ _ _ r h => by simp [mjolnerlaw04_LexCovers.l0] at h, fun _ _ _ _ _ _ _ _ _ _ r h => by simp [mjolnerlaw04_LexCovers.j2] at h⟩
 | k + 1 => by
  obtain ⟨ih0, ih1, ih2⟩ := mjolnerlaw04_LexCovers.mono_l k
  refine ⟨?_, ?_, ?_⟩
  ·intro y0 y1 y2 y3 y4 y5 y6
   unfold mjolnerlaw04_LexCovers.j0
   repeat' first
   | (with_reducible exact ih0 _ _ _ _ _ _ _)
   | (with_reducible exact ih1 _ _ _ _ _ _ _ _)
   | (with_reducible exact ih2 _ _ _ _ _ _ _ _ _ _)
   | (with_reducible exact mjolnerlaw04_sane.mono _)
   | (with_reducible exact LeO.refl _)
   | (with_reducible exact LeO.none _)
   | (with_reducible refine LeO.ite ?_ ?_)
   | (with_reducible refine LeO.bind ?_ (fun _ => ?_))
   | exact ih0 _ _ _ _ _ _ _
   | exact ih1 _ _ _ _ _ _ _ _
   | exact ih2 _ _ _ _ _ _ _ _ _ _
   | exact mjolnerlaw04_sane.mono _
   | exact LeO.none _
   | refine LeO.ite ?_ ?_
   | refine LeO.bind ?_ (fun _ => ?_)
  ·intro y0 y1 y2 y3 y4 y5 y6 y7
   unfold mjolnerlaw04_LexCovers.l0
   repeat' first
   | (with_reducible exact ih0 _ _ _ _ _ _ _)
   | (with_reducible exact ih1 _ _ _ _ _ _ _ _)
   | (with_reducible exact ih2 _ _ _ _ _ _ _ _ _ _)
   | (with_reducible exact mjolnerlaw04_sane.mono _)
   | (with_reducible exact LeO.refl _)
   | (with_reducible exact LeO.none _)
   | (with_reducible refine LeO.ite ?_ ?_)
   | (with_reducible refine LeO.bind ?_ (fun _ => ?_))
   | exact ih0 _ _ _ _ _ _ _
   | exact ih1 _ _ _ _ _ _ _ _
   | exact ih2 _ _ _ _ _ _ _ _ _ _
   | exact mjolnerlaw04_sane.mono _
   | exact LeO.none _
   | refine LeO.ite ?_ ?_
   | refine LeO.bind ?_ (fun _ => ?_)
  ·intro y0 y1 y2 y3 y4 y5 y6 y7 y8 y9
   unfold mjolnerlaw04_LexCovers.j2
   repeat' first
   | (with_reducible exact ih0 _ _ _ _ _ _ _)
   | (with_reducible exact ih1 _ _ _ _ _ _ _ _)
   | (with_reducible exact ih2 _ _ _ _ _ _ _ _ _ _)
   | (with_reducible exact mjolnerlaw04_sane.mono _)
   | (with_reducible exact LeO.refl _)
   | (with_reducible exact LeO.none _)
   | (with_reducible refine LeO.ite ?_ ?_)
   | (with_reducible refine LeO.bind ?_ (fun _ => ?_))
   | exact ih0 _ _ _ _ _ _ _
   | exact ih1 _ _ _ _ _ _ _ _
   | exact ih2 _ _ _ _ _ _ _ _ _ _
   | exact mjolnerlaw04_sane.mono _
   | exact LeO.none _
   | refine LeO.ite ?_ ?_
   | refine LeO.bind ?_ (fun _ => ?_)
theorem mjolnerlaw04_LexCovers.mono : ∀ a0 k, LeO (mjolnerlaw04_LexCovers.f k a0) (mjolnerlaw04_LexCovers.f (k + 1) a0) := by
 intro a0 k
 obtain ⟨ih0, ih1, ih2⟩ := mjolnerlaw04_LexCovers.mono_l k
 unfold mjolnerlaw04_LexCovers.f
 repeat' first
   | (with_reducible exact ih0 _ _ _ _ _ _ _)
   | (with_reducible exact ih1 _ _ _ _ _ _ _ _)
   | (with_reducible exact ih2 _ _ _ _ _ _ _ _ _ _)
   | (with_reducible exact mjolnerlaw04_sane.mono _)
   | (with_reducible exact LeO.refl _)
   | (with_reducible exact LeO.none _)
   | (with_reducible refine LeO.ite ?_ ?_)
   | (with_reducible refine LeO.bind ?_ (fun _ => ?_))
   | exact ih0 _ _ _ _ _ _ _
   | exact ih1 _ _ _ _ _ _ _ _
   | exact ih2 _ _ _ _ _ _ _ _ _ _
   | exact mjolnerlaw04_sane.mono _
   | exact LeO.none _
   | refine LeO.ite ?_ ?_
   | refine LeO.bind ?_ (fun _ => ?_)
def mjolnerlaw04_LexCovers.T18 : Bool × List (List Nat × List Nat) := (true, [([], []), ([], []), ([1], [1]), ([0, 2], [0, 2]), ([3], [3]), ([4], [4]), ([4], [4]), ([5, 6, 4], [4, 5, 6]), ([7, 4], [4, 7]), ([8, 4], [4, 8]), ([4], [4]), ([10, 4], [4, 10]), ([9, 11, 4], [4, 9, 11]), ([4, 12], [4, 12]), ([13, 4], [13]), ([14], [14]), ([14], [14]), ([15, 16, 14], [14, 15, 16]), ([17, 14], [14, 17]), ([18, 14], [14, 18]), ([14], [14]), ([20, 14], [14, 20]), ([19, 21, 14], [14, 19, 21]), ([14, 22], [14, 22]), ([23, 14], [23]), ([24], [24]), ([24], [24]), ([25, 26, 24], [24, 25, 26]), ([27, 24], [24, 27]), ([28, 24, 24], [24, 28]), ([29, 24], [24, 29]), ([24, 30], [24, 30])])
def mjolnerlaw04_LexCovers.B18 : List Nat := [0, 0, 2, 7, 15, 31, 31, 127, 255, 511, 31, 1055, 4095, 8191, 16383, 32767, 32767, 131071, 262143, 524287, 32767, 1081343, 4194303, 8388607, 16777215, 33554431, 33554431, 134217727, 268435455, 536870911, 1073741823, 2147483647]
theorem mjolnerlaw04_LexCovers.tab18 : rtab .any (opsOf Tryd.f5 18) = mjolnerlaw04_LexCovers.T18 := by kernel_rfl
theorem mjolnerlaw04_LexCovers.bits18 : waitsOk mjolnerlaw04_LexCovers.T18.2 mjolnerlaw04_LexCovers.B18 = true := by kernel_rfl
theorem mjolnerlaw04_LexCovers.j2_true : ∀ k y0 y1 y2 y3 y4 y5 y7 y8 y9, mjolnerlaw04_LexCovers.j2 k y0 y1 y2 y3 y4 y5 true y7 y8 y9 ≠ some true := by
 intro k y0 y1 y2 y3 y4 y5 y7 y8 y9
 cases k with
 | zero => rw [mjolnerlaw04_LexCovers.j2]; intro h; cases h
 | succ k => rw [mjolnerlaw04_LexCovers.j2, if_pos rfl]; intro h; cases h
set_option maxHeartbeats 8000000 in
set_option maxRecDepth 100000 in
theorem mjolnerlaw04_LexCovers.calls (k : Nat) (a0 : ByteArray) (r : Bool) (w : World) (hG : LaidG w) (h : mjolnerlaw04_LexCovers.f k a0 = some r) (hr : r = true) :
  Calls Tryd.prog 5 #[.string a0] w fun e w' => e = .returned (.bool r) ∧ Below w.heap.size w w' := by
 have hu40 := Tryd.underlying40
 have hu42 := Tryd.underlying42
 have HB := Aside0.mk (Below.refl w.heap.size w)
 have HG := Aside0.mk (LaidG.keep hG)
 clear hG
 have HRT := Aside0.mk hr
 clear hr
 have H : ((mjolnerlaw04_sane.f k).bind fun t261 => ((lex_Spans.f a0).bind fun bt262 => ((lex_Lex.f a0).bind fun bt267 => (if bt262.2.1 = bt267.2.1 then (mjolnerlaw04_LexCovers.j0 k a0 t261 bt262.1 bt262.2.1 bt267.1 bt267.2.1 (bt262.2.1 != 0)) else (mjolnerlaw04_LexCovers.j0 k a0 t261 bt262.1 bt262.2.1 bt267.1 bt267.2.1 true))))) = some r := h
 clear h
 replace H := Option.bind_eq_some_iff.mp H
 obtain ⟨t261, A20, H⟩ := H
 replace H : ((lex_Spans.f a0).bind fun bt262 => ((lex_Lex.f a0).bind fun bt267 => (if bt262.2.1 = bt267.2.1 then (mjolnerlaw04_LexCovers.j0 k a0 t261 bt262.1 bt262.2.1 bt267.1 bt267.2.1 (bt262.2.1 != 0)) else (mjolnerlaw04_LexCovers.j0 k a0 t261 bt262.1 bt262.2.1 bt267.1 bt267.2.1 true)))) = some r := H
 have A2 := Aside0.mk A20
 clear A20
 replace H := Option.bind_eq_some_iff.mp H
 obtain ⟨⟨t262, t263, t264⟩, A30, H⟩ := H
 replace H : ((lex_Lex.f a0).bind fun bt267 => (if t263 = bt267.2.1 then (mjolnerlaw04_LexCovers.j0 k a0 t261 t262 t263 bt267.1 bt267.2.1 (t263 != 0)) else (mjolnerlaw04_LexCovers.j0 k a0 t261 t262 t263 bt267.1 bt267.2.1 true))) = some r := H
 have A3 := Aside0.mk A30
 clear A30
 replace H := Option.bind_eq_some_iff.mp H
 obtain ⟨⟨t267, t268, t269⟩, A40, H⟩ := H
 replace H : (if t263 = t268 then (mjolnerlaw04_LexCovers.j0 k a0 t261 t262 t263 t267 t268 (t263 != 0)) else (mjolnerlaw04_LexCovers.j0 k a0 t261 t262 t263 t267 t268 true)) = some r := H
 have A4 := Aside0.mk A40
 clear A40
 have HC5 := Aside0.mk H
 clear H
 go_enter Tryd.func5, Tryd.ntmps5
 go_upto_region 4 with (first | ((with_reducible refine gate_callee (f := 10) rfl ?_); refine goesL_ (some 15) rfl rfl Tryd.func10 (by kernel_rfl) rfl #[] rfl (by (try simp only [List.map_toArray, List.map_cons, List.map_nil]); first | done | rfl | (simp only [List.length_drop, List.length_take]; rfl)) ?_; (with_reducible refine (mjolnerlaw04_sane.calls k  t261 _ ?side1 A2.out).mono ?_); (case side1 => exact HG.out _ (by repeat (first | (with_reducible first | exact HB.out | apply below_alloc | apply pw_below_drewN | apply below_drew1) | exact HB.out))); rintro e w6 ⟨rfl, hb⟩; refine ⟨_, rfl, ?_⟩; have n0_ := Aside0.mk (below_step (by repeat (first | (with_reducible first | exact HB.out | apply below_alloc | apply pw_below_drewN | apply below_drew1) | exact HB.out)) hb); clear HB; have HB := n0_; clear n0_; (try clear hb); (try clear hb2); (try clear hk); (try clear hi)) | ((with_reducible refine gate_callee (f := 15) rfl ?_); refine goesL_ (some 18) rfl rfl Tryd.func15 (by kernel_rfl) rfl #[.string a0] rfl (by (try simp only [List.map_toArray, List.map_cons, List.map_nil]); first | done | rfl | (simp only [List.length_drop, List.length_take]; rfl)) ?_; (with_reducible refine (lex_Spans.calls a0 t262 t263 t264 _ ?side1 A3.out).mono ?_); (case side1 => exact HG.out _ (by repeat (first | (with_reducible first | exact HB.out | apply below_alloc | apply pw_below_drewN | apply below_drew1) | exact HB.out))); rintro e w7 ⟨v265, rfl, ho0, hb⟩; refine ⟨_, rfl, ?_⟩; have n0_ := Aside0.mk (Kd.R_lower ho0 (below_size (by repeat (first | (with_reducible first | exact HB.out | apply below_alloc | apply pw_below_drewN | apply below_drew1) | exact HB.out)))); have n1_ := Aside0.mk (below_step (by repeat (first | (with_reducible first | exact HB.out | apply below_alloc | apply pw_below_drewN | apply below_drew1) | exact HB.out)) hb); clear HB; have HO266 := n0_; have HB := n1_; clear n0_ n1_; (try clear hb); (try clear hb2); (try clear hk); (try clear hi); (try clear ho0)) | ((with_reducible refine gate_callee (f := 11) rfl ?_); refine goesL_ (some 24) rfl rfl Tryd.func11 (by kernel_rfl) rfl #[.string a0] rfl (by (try simp only [List.map_toArray, List.map_cons, List.map_nil]); first | done | rfl | (simp only [List.length_drop, List.length_take]; rfl)) ?_; (with_reducible refine (lex_Lex.calls a0 t267 t268 t269 _ ?side1 A4.out).mono ?_); (case side1 => exact HG.out _ (by repeat (first | (with_reducible first | exact HB.out | apply below_alloc | apply pw_below_drewN | apply below_drew1) | exact HB.out))); rintro e w8 ⟨v270, rfl, ho0, hb⟩; refine ⟨_, rfl, ?_⟩; have n0_ := Aside0.mk (Kd.R_below (by (with_reducible repeat (first | apply Kd.R_alloc | apply Kd.R_drewN | apply Kd.R_drew)); exact HO266.out) hb); have n1_ := Aside0.mk (Kd.R_lower ho0 (below_size (by repeat (first | (with_reducible first | exact HB.out | apply below_alloc | apply pw_below_drewN | apply below_drew1) | exact HB.out)))); have n2_ := Aside0.mk (below_step (by repeat (first | (with_reducible first | exact HB.out | apply below_alloc | apply pw_below_drewN | apply below_drew1) | exact HB.out)) hb); clear HO266; clear HB; have HO266 := n0_; have HO271 := n1_; have HB := n2_; clear n0_ n1_ n2_; (try clear hb); (try clear hb2); (try clear hk); (try clear hi); (try clear ho0)))
 (try simp only [Act.put, List.setIfInBounds_toArray, List.set_cons_zero, List.set_cons_succ])
 go_cut [34] (fun v34 wc => ∃ (kq : Nat) (x34_4 : Bool), v34 = .bool x34_4 ∧ Aside0 (mjolnerlaw04_LexCovers.j0 kq a0 t261 t262 t263 t267 t268 x34_4 = some r) ∧ Aside0 (kq ≤ k) ∧ Aside0 (Kd.R k40 40 wc w.heap.size (fun _ => True) v265 t262) ∧ Aside0 (Kd.R k42 42 wc w.heap.size (fun _ => True) v270 t267) ∧ Aside0 (Below w.heap.size w wc))
 case first =>
  have H := HC5.out
  clear HC5
  by_cases c9 : t263 = t268
  ·rw [if_pos c9] at H
   have c9b0 : (t263 == t268) = true := beq_iff_eq.mpr c9
   have c9b1 : (t263 != t268) = false := bne_eq_false_iff_eq.mpr c9
   clear c9
   (first | rw [c9b0] | (simp only [i64_w, i32_w]; rw [c9b0]) | rw [c9b1] | skip)
   have H' := Aside0.mk H
   clear H
   go_wp2
   go_meet
   case rel => exact ⟨_, ((t263 != 0)), (by first | rfl | (simp; done) | (simp [*]; done)), H', ⟨by first | omega | exact Nat.le_refl _⟩, ⟨by (with_reducible repeat (first | apply Kd.R_alloc | apply Kd.R_drewN | apply Kd.R_drew)); exact HO266.out⟩, ⟨by (with_reducible repeat (first | apply Kd.R_alloc | apply Kd.R_drewN | apply Kd.R_drew)); exact HO271.out⟩, ⟨by repeat (first | (with_reducible first | exact HB.out | apply below_alloc | apply pw_below_drewN | apply below_drew1) | exact HB.out)⟩⟩
  ·rw [if_neg c9] at H
   have c9b0 : (t263 == t268) = false := beq_eq_false_iff_ne.mpr c9
   have c9b1 : (t263 != t268) = true := bne_iff_ne.mpr c9
   (first | rw [c9b0] | (simp only [i64_w, i32_w]; rw [c9b0]) | rw [c9b1] | skip)
   have H' := Aside0.mk H
   clear H
   go_wp2
   go_meet
   case rel => exact ⟨_, (true), (by first | rfl | (simp; done) | (simp [*]; done)), H', ⟨by first | omega | exact Nat.le_refl _⟩, ⟨by (with_reducible repeat (first | apply Kd.R_alloc | apply Kd.R_drewN | apply Kd.R_drew)); exact HO266.out⟩, ⟨by (with_reducible repeat (first | apply Kd.R_alloc | apply Kd.R_drewN | apply Kd.R_drew)); exact HO271.out⟩, ⟨by repeat (first | (with_reducible first | exact HB.out | apply below_alloc | apply pw_below_drewN | apply below_drew1) | exact HB.out)⟩⟩
 case rest =>
  clear HC5
  try clear c1
  try clear p2
  try clear c5
  try clear c9
  try clear c9b0
  try clear c9b1
  obtain ⟨kq, x34_4, rfl, HA, HJ4, HO_4, HO_7, HB⟩ := hcut
  cases kq with
  | zero => exact absurd HA.out (by simp [mjolnerlaw04_LexCovers.j0])
  | succ kj4 =>
   have H := HA.out
   clear HA
   simp only [mjolnerlaw04_LexCovers.j0] at H
   by_cases c10 : x34_4 = true
   ·subst c10
    have H1 : (if t261 = true then (if t263 = t268 then (if (t262.length : Int) = 0 then (some ((t267.length : Int) == 0)) else (some false)) else (some false)) else (some false)) = some r := by rw [if_pos rfl] at H; exact H
    clear H
    have H := H1
    clear H1
    by_cases c11 : t261 = true
    ·subst c11
     have H1 : (if t263 = t268 then (if (t262.length : Int) = 0 then (some ((t267.length : Int) == 0)) else (some false)) else (some false)) = some r := by rw [if_pos rfl] at H; exact H
     clear H
     have H := H1
     clear H1
     by_cases c12 : t263 = t268
     ·rw [if_pos c12] at H
      have c12b0 : (t263 == t268) = true := beq_iff_eq.mpr c12
      have c12b1 : (t263 != t268) = false := bne_eq_false_iff_eq.mpr c12
      clear c12
      by_cases c13 : (t262.length : Int) = 0
      ·rw [if_pos c13] at H
       have c13b0 : ((t262.length : Int) == 0) = true := beq_iff_eq.mpr c13
       have c13b1 : ((t262.length : Int) != 0) = false := bne_eq_false_iff_eq.mpr c13
       clear c13
       obtain rfl := Option.some.inj H
       obtain ⟨Ao14, co14, eo14⟩ := Kd.R_slice HO_4.out
       subst eo14
       obtain ⟨Ao15, co15, eo15⟩ := Kd.R_slice HO_7.out
       subst eo15
       go_wp2
       go_ret
       exact ⟨by first | rfl | (simp [errW_none, errW_some] <;> rfl) | (simp [*, errW_none, errW_some] <;> rfl), by repeat (first | (with_reducible first | exact HB.out | apply below_alloc | apply pw_below_drewN | apply below_drew1) | exact HB.out)⟩
      ·rw [if_neg c13] at H
       first | exact absurd (H.trans (congrArg some HRT.out)) (by simp) | exact absurd (H.trans (congrArg some HRT.out)) (mjolnerlaw04_LexCovers.j2_true _ _ _ _ _ _ _ _ _ _)
     ·rw [if_neg c12] at H
      first | exact absurd (H.trans (congrArg some HRT.out)) (by simp) | exact absurd (H.trans (congrArg some HRT.out)) (mjolnerlaw04_LexCovers.j2_true _ _ _ _ _ _ _ _ _ _)
    ·replace c11 := Bool.eq_false_iff.mpr c11
     subst c11
     have H1 : (some false) = some r := by rw [if_neg (show ¬ (false = true) by decide)] at H; exact H
     clear H
     have H := H1
     clear H1
     first | exact absurd (H.trans (congrArg some HRT.out)) (by simp) | exact absurd (H.trans (congrArg some HRT.out)) (mjolnerlaw04_LexCovers.j2_true _ _ _ _ _ _ _ _ _ _)
   ·replace c10 := Bool.eq_false_iff.mpr c10
    subst c10
    have H1 : (mjolnerlaw04_LexCovers.l0 kj4 a0 t261 t262 t267 0 0 false 0) = some r := by rw [if_neg (show ¬ (false = true) by decide)] at H; exact H
    clear H
    have H := H1
    clear H1
    have H' := Aside0.mk H
    clear H
    go_wp2
    go_loopg [10, 11, 12, 13] kj4 (fun kq v10 v11 v12 v13 w' => ∃ (x10_2 : Int) (x11_2 : Int) (x12_2 : Bool) (x13_2 : Int), v10 = .int .i64 x10_2 ∧ v11 = .int .i64 x11_2 ∧ v12 = .bool x12_2 ∧ v13 = .int .i64 x13_2 ∧ Aside0 (mjolnerlaw04_LexCovers.l0 kq a0 t261 t262 t267 x10_2 x11_2 x12_2 x13_2 = some r) ∧ Aside0 (kq ≤ kj4) ∧ Aside0 (Kd.R k40 40 w' w.heap.size (fun _ => True) v265 t262) ∧ Aside0 (Kd.R k42 42 w' w.heap.size (fun _ => True) v270 t267) ∧ Aside0 (Below w.heap.size w w'))
    case atStart => exact ⟨(0), (0), (false), (0), (by first | rfl | (simp; done) | (simp [*]; done)), (by first | rfl | (simp; done) | (simp [*]; done)), (by first | rfl | (simp; done) | (simp [*]; done)), (by first | rfl | (simp; done) | (simp [*]; done)), H', ⟨Nat.le_refl _⟩, ⟨by (with_reducible repeat (first | apply Kd.R_alloc | apply Kd.R_drewN | apply Kd.R_drew)); exact HO_4.out⟩, ⟨by (with_reducible repeat (first | apply Kd.R_alloc | apply Kd.R_drewN | apply Kd.R_drew)); exact HO_7.out⟩, ⟨by repeat (first | (with_reducible first | exact HB.out | apply below_alloc | apply pw_below_drewN | apply below_drew1) | exact HB.out)⟩⟩
    case round =>
     clear H'
     try clear c1
     try clear p2
     try clear c5
     try clear c9
     try clear c9b0
     try clear c9b1
     try clear c10
     try clear c11
     try clear c12
     try clear c12b0
     try clear c12b1
     try clear c13
     try clear c13b0
     try clear c13b1
     try clear c13b2
     try clear c15
     try clear p2
     obtain ⟨x10_2, x11_2, x12_2, x13_2, rfl, rfl, rfl, rfl, HA, HK2, HO_4, HO_7, HB⟩ := hrel
     cases gk with
     | zero => exact absurd HA.out (by simp [mjolnerlaw04_LexCovers.l0])
     | succ k2 =>
      have H := HA.out
      clear HA
      simp only [mjolnerlaw04_LexCovers.l0] at H
      by_cases c17 : x13_2 < (t262.length : Int)
      ·rw [if_pos c17] at H
       have c17b0 : decide (x13_2 < (t262.length : Int)) = true := decide_eq_true c17
       clear c17
       by_cases c18 : 0 ≤ x13_2
       ·rw [if_pos c18] at H
        have c18b0 : decide (0 ≤ x13_2) = true := decide_eq_true c18
        clear c18
        have HC19 := Aside0.mk H
        clear H
        obtain ⟨Ao20, co20, eo20⟩ := Kd.R_slice HO_4.out
        subst eo20
        have p272 : 0 ≤ (x13_2 : Int) := of_decide_eq_true (by first | (with_reducible assumption) | assumption)
        have q272 : x13_2 < (t262.length : Int) := of_decide_eq_true (by first | (with_reducible assumption) | assumption)
        obtain ⟨ad272, e272, hx272_0, hx272_1, hx272_2⟩ := at_T40 (Kd.R_reads' HO_4.out).2.2 x13_2 p272 q272
        cases e272
        replace p272 := eq_true p272
        replace q272 := eq_true q272
        go_upto_region 13 with (first | ((with_reducible refine gate_dst (N := 14) rfl ?_); (try (refine gate_guard (by rfl) ?_; dsimp only)); refine box_event ?hg (N := 14) ?hd (cs := #[.int .i64 0, .int .i64 0, .int .i64 0]) (t := 40) ?hr ?_; (case hd => rfl); (case hg => rfl); (case hr => first | (go_simp; done) | (go_simp; rfl)); intro gb273 hg w21 hbox hb; have n0_ := Aside0.mk (Kd.R_below (Kd.R_elderB (by (with_reducible repeat (first | apply Kd.R_alloc | apply Kd.R_drewN | apply Kd.R_drew)); exact HO_4.out) gb273 (Nat.le_of_eq hg.symm)) hb); have n1_ := Aside0.mk (Kd.R_below (by (with_reducible repeat (first | apply Kd.R_alloc | apply Kd.R_drewN | apply Kd.R_drew)); exact HO_7.out) hb); have n2_ := Aside0.mk (below_step (by repeat (first | (with_reducible first | exact HB.out | apply below_alloc | apply pw_below_drewN | apply below_drew1) | exact HB.out)) hb); have n3_ := Aside0.mk (hbox); have n4_ := Aside0.mk ((by rw [hg]; exact (below_size (by repeat (first | (with_reducible first | exact HB.out | apply below_alloc | apply pw_below_drewN | apply below_drew1) | exact HB.out))) : w.heap.size ≤ gb273)); have n5_ := Aside0.mk ((by rw [hg]; exact (below_size (by repeat (first | (with_reducible first | exact HB.out | apply below_alloc | apply pw_below_drewN | apply below_drew1) | exact HB.out))) : w.heap.size ≤ gb273)); clear HO_4; clear HO_7; clear HB; have HO_4 := n0_; have HO_7 := n1_; have HB := n2_; have BK273 := n3_; have GW273 := n4_; have GE273 := n5_; clear n0_ n1_ n2_ n3_ n4_ n5_; clear hb hbox hg; have hcz22_0 : w21.cell? ⟨gb273, 0, none⟩ = some (.int .i64 0) := (blk_cell BK273.out 0).trans rfl; have hcz22_1 : w21.cell? ⟨gb273, 1, none⟩ = some (.int .i64 0) := (blk_cell BK273.out 1).trans rfl; have hcz22_2 : w21.cell? ⟨gb273, 2, none⟩ = some (.int .i64 0) := (blk_cell BK273.out 2).trans rfl; have hfz22_0 := blk_frozen BK273.out 0; have hfz22_1 := blk_frozen BK273.out 1; have hfz22_2 := blk_frozen BK273.out 2))
        (try simp only [Act.put, List.setIfInBounds_toArray, List.set_cons_zero, List.set_cons_succ])
        go_cut [86] (fun v86 wc => ∃ (kq : Nat) (x86_18 : Bool), v86 = .bool x86_18 ∧ Aside0 (mjolnerlaw04_LexCovers.j2 kq a0 t261 t262 t267 x11_2 x13_2 x86_18 ((rd_T40 t262 x13_2).f0) ((rd_T40 t262 x13_2).f1) ((rd_T40 t262 x13_2).f2) = some r) ∧ Aside0 (kq ≤ k2) ∧ Aside0 (Kd.R k40 40 wc w.heap.size (fun k_ => k_ ≠ gb273) (.slice (some ad272) t262.length co20) t262) ∧ Aside0 (Kd.R k42 42 wc w.heap.size (fun _ => True) v270 t267) ∧ Aside0 (wc.heap[gb273]? = some (.cells #[.int .i64 ((rd_T40 t262 x13_2).f0), .int .i64 ((rd_T40 t262 x13_2).f1), .int .i64 ((rd_T40 t262 x13_2).f2)] 40 (0, 0))) ∧ Aside0 (Below w.heap.size w wc))
        case first =>
         have H := HC19.out
         clear HC19
         by_cases c23 : ((rd_T40 t262 x13_2).f1) = x10_2
         ·rw [if_pos c23] at H
          have c23b0 : (((rd_T40 t262 x13_2).f1) == x10_2) = true := beq_iff_eq.mpr c23
          have c23b1 : (((rd_T40 t262 x13_2).f1) != x10_2) = false := bne_eq_false_iff_eq.mpr c23
          clear c23
          (first | rw [c23b0] | (simp only [i64_w, i32_w]; rw [c23b0]) | rw [c23b1] | skip)
          by_cases c24 : ((rd_T40 t262 x13_2).f2) ≤ ((rd_T40 t262 x13_2).f1)
          ·rw [if_pos c24] at H
           first | exact absurd (H.trans (congrArg some HRT.out)) (by simp) | exact absurd (H.trans (congrArg some HRT.out)) (mjolnerlaw04_LexCovers.j2_true _ _ _ _ _ _ _ _ _ _)
          ·rw [if_neg c24] at H
           have c24b0 : decide (((rd_T40 t262 x13_2).f2) ≤ ((rd_T40 t262 x13_2).f1)) = false := decide_eq_false c24
           clear c24
           by_cases c26 : ((rd_T40 t262 x13_2).f2) > (a0.size : Int)
           ·rw [if_pos c26] at H
            first | exact absurd (H.trans (congrArg some HRT.out)) (by simp) | exact absurd (H.trans (congrArg some HRT.out)) (mjolnerlaw04_LexCovers.j2_true _ _ _ _ _ _ _ _ _ _)
           ·rw [if_neg c26] at H
            have c26b0 : decide ((a0.size : Int) < ((rd_T40 t262 x13_2).f2)) = false := decide_eq_false c26
            clear c26
            by_cases c28 : x12_2 = true
            ·subst c28
             have H1 : (mjolnerlaw04_LexCovers.j2 k2 a0 t261 t262 t267 x11_2 x13_2 (((rd_T40 t262 x13_2).f0) == 1) ((rd_T40 t262 x13_2).f0) ((rd_T40 t262 x13_2).f1) ((rd_T40 t262 x13_2).f2)) = some r := by rw [if_pos rfl] at H; exact H
             clear H
             have H := H1
             clear H1
             have H' := Aside0.mk H
             clear H
             have hcz29_0 : w21.cell? ⟨gb273, 0, none⟩ = some (.int .i64 0) := (blk_cell BK273.out 0).trans rfl
             have hcz29_1 : w21.cell? ⟨gb273, 1, none⟩ = some (.int .i64 0) := (blk_cell BK273.out 1).trans rfl
             have hcz29_2 : w21.cell? ⟨gb273, 2, none⟩ = some (.int .i64 0) := (blk_cell BK273.out 2).trans rfl
             have hfz29_0 := blk_frozen BK273.out 0
             have hfz29_1 := blk_frozen BK273.out 1
             have hfz29_2 := blk_frozen BK273.out 2
             go_wp2
             go_meet
             case rel => exact ⟨_, ((((rd_T40 t262 x13_2).f0) == 1)), (by first | rfl | (simp; done) | (simp [*]; done)), H', ⟨by have := HJ4.out; have := HK2.out; first | omega | exact Nat.le_refl _⟩, ⟨by (with_reducible repeat (first | apply Kd.R_alloc | apply Kd.R_drewN | apply Kd.R_drew)); exact Kd.R_mono (Kd.R_far (p := ⟨gb273, 2, none⟩) (Kd.R_far (p := ⟨gb273, 1, none⟩) (Kd.R_far (p := ⟨gb273, 0, none⟩) (Kd.R_mono HO_4.out (fun k_ hk => (⟨hk, hk.2⟩ : _ ∧ k_ ≠ gb273))) (fun _ hk => hk.2) (.int .i64 ((rd_T40 t262 x13_2).f0))) (fun _ hk => hk.2) (.int .i64 ((rd_T40 t262 x13_2).f1))) (fun _ hk => hk.2) (.int .i64 ((rd_T40 t262 x13_2).f2))) (fun _ hk => hk.1.2)⟩, ⟨by (with_reducible repeat (first | apply Kd.R_alloc | apply Kd.R_drewN | apply Kd.R_drew)); exact Kd.R_mono (Kd.R_far (p := ⟨gb273, 2, none⟩) (Kd.R_far (p := ⟨gb273, 1, none⟩) (Kd.R_far (p := ⟨gb273, 0, none⟩) (Kd.R_types HO_7.out BK273.out (by decide)) (fun _ hk => hk.2) (.int .i64 ((rd_T40 t262 x13_2).f0))) (fun _ hk => hk.2) (.int .i64 ((rd_T40 t262 x13_2).f1))) (fun _ hk => hk.2) (.int .i64 ((rd_T40 t262 x13_2).f2))) (fun _ hk => trivial)⟩, ⟨by (with_reducible repeat (first | refine blk_drewN ?_ _ | refine blk_drew ?_ | refine blk_alloc ?_ _)); refine blk_put (cs := #[.int .i64 ((rd_T40 t262 x13_2).f0), .int .i64 ((rd_T40 t262 x13_2).f1), .int .i64 0]) ?_ 2 _ rfl; (with_reducible repeat (first | refine blk_drewN ?_ _ | refine blk_drew ?_ | refine blk_alloc ?_ _)); refine blk_put (cs := #[.int .i64 ((rd_T40 t262 x13_2).f0), .int .i64 0, .int .i64 0]) ?_ 1 _ rfl; (with_reducible repeat (first | refine blk_drewN ?_ _ | refine blk_drew ?_ | refine blk_alloc ?_ _)); refine blk_put (cs := #[.int .i64 0, .int .i64 0, .int .i64 0]) ?_ 0 _ rfl; (with_reducible repeat (first | refine blk_drewN ?_ _ | refine blk_drew ?_ | refine blk_alloc ?_ _)); exact BK273.out⟩, ⟨by repeat (first | (with_reducible first | exact HB.out | apply below_alloc | apply pw_below_drewN | apply below_drew1 | refine below_set ?_ GE273.out) | exact HB.out)⟩⟩
            ·replace c28 := Bool.eq_false_iff.mpr c28
             subst c28
             have H1 : (mjolnerlaw04_LexCovers.j2 k2 a0 t261 t262 t267 x11_2 x13_2 false ((rd_T40 t262 x13_2).f0) ((rd_T40 t262 x13_2).f1) ((rd_T40 t262 x13_2).f2)) = some r := by rw [if_neg (show ¬ (false = true) by decide)] at H; exact H
             clear H
             have H := H1
             clear H1
             have H' := Aside0.mk H
             clear H
             have hcz30_0 : w21.cell? ⟨gb273, 0, none⟩ = some (.int .i64 0) := (blk_cell BK273.out 0).trans rfl
             have hcz30_1 : w21.cell? ⟨gb273, 1, none⟩ = some (.int .i64 0) := (blk_cell BK273.out 1).trans rfl
             have hcz30_2 : w21.cell? ⟨gb273, 2, none⟩ = some (.int .i64 0) := (blk_cell BK273.out 2).trans rfl
             have hfz30_0 := blk_frozen BK273.out 0
             have hfz30_1 := blk_frozen BK273.out 1
             have hfz30_2 := blk_frozen BK273.out 2
             go_wp2
             go_meet
             case rel => exact ⟨_, (false), (by first | rfl | (simp; done) | (simp [*]; done)), H', ⟨by have := HJ4.out; have := HK2.out; first | omega | exact Nat.le_refl _⟩, ⟨by (with_reducible repeat (first | apply Kd.R_alloc | apply Kd.R_drewN | apply Kd.R_drew)); exact Kd.R_mono (Kd.R_far (p := ⟨gb273, 2, none⟩) (Kd.R_far (p := ⟨gb273, 1, none⟩) (Kd.R_far (p := ⟨gb273, 0, none⟩) (Kd.R_mono HO_4.out (fun k_ hk => (⟨hk, hk.2⟩ : _ ∧ k_ ≠ gb273))) (fun _ hk => hk.2) (.int .i64 ((rd_T40 t262 x13_2).f0))) (fun _ hk => hk.2) (.int .i64 ((rd_T40 t262 x13_2).f1))) (fun _ hk => hk.2) (.int .i64 ((rd_T40 t262 x13_2).f2))) (fun _ hk => hk.1.2)⟩, ⟨by (with_reducible repeat (first | apply Kd.R_alloc | apply Kd.R_drewN | apply Kd.R_drew)); exact Kd.R_mono (Kd.R_far (p := ⟨gb273, 2, none⟩) (Kd.R_far (p := ⟨gb273, 1, none⟩) (Kd.R_far (p := ⟨gb273, 0, none⟩) (Kd.R_types HO_7.out BK273.out (by decide)) (fun _ hk => hk.2) (.int .i64 ((rd_T40 t262 x13_2).f0))) (fun _ hk => hk.2) (.int .i64 ((rd_T40 t262 x13_2).f1))) (fun _ hk => hk.2) (.int .i64 ((rd_T40 t262 x13_2).f2))) (fun _ hk => trivial)⟩, ⟨by (with_reducible repeat (first | refine blk_drewN ?_ _ | refine blk_drew ?_ | refine blk_alloc ?_ _)); refine blk_put (cs := #[.int .i64 ((rd_T40 t262 x13_2).f0), .int .i64 ((rd_T40 t262 x13_2).f1), .int .i64 0]) ?_ 2 _ rfl; (with_reducible repeat (first | refine blk_drewN ?_ _ | refine blk_drew ?_ | refine blk_alloc ?_ _)); refine blk_put (cs := #[.int .i64 ((rd_T40 t262 x13_2).f0), .int .i64 0, .int .i64 0]) ?_ 1 _ rfl; (with_reducible repeat (first | refine blk_drewN ?_ _ | refine blk_drew ?_ | refine blk_alloc ?_ _)); refine blk_put (cs := #[.int .i64 0, .int .i64 0, .int .i64 0]) ?_ 0 _ rfl; (with_reducible repeat (first | refine blk_drewN ?_ _ | refine blk_drew ?_ | refine blk_alloc ?_ _)); exact BK273.out⟩, ⟨by repeat (first | (with_reducible first | exact HB.out | apply below_alloc | apply pw_below_drewN | apply below_drew1 | refine below_set ?_ GE273.out) | exact HB.out)⟩⟩
         ·rw [if_neg c23] at H
          first | exact absurd (H.trans (congrArg some HRT.out)) (by simp) | exact absurd (H.trans (congrArg some HRT.out)) (mjolnerlaw04_LexCovers.j2_true _ _ _ _ _ _ _ _ _ _)
        case rest =>
         clear HC19
         try clear c1
         try clear c2
         try clear p2
         try clear q2
         try clear hx2
         try clear c5
         try clear c9
         try clear c9b0
         try clear c9b1
         try clear c10
         try clear c11
         try clear c12
         try clear c12b0
         try clear c12b1
         try clear c13
         try clear c13b0
         try clear c13b1
         try clear c13b2
         try clear c15
         try clear c17
         try clear c17b0
         try clear c18
         try clear c18b0
         try clear c23
         try clear c23b0
         try clear c23b1
         try clear c24
         try clear c24b0
         try clear c26
         try clear c26b0
         try clear p27
         try clear q27
         try clear hx27
         try clear c28
         try clear hcz22_0
         try clear hcz22_1
         try clear hcz22_2
         try clear hcz25_0
         try clear hcz25_1
         try clear hcz25_2
         try clear hcz27_0
         try clear hcz27_1
         try clear hcz27_2
         try clear hcz29_0
         try clear hcz29_1
         try clear hcz29_2
         try clear hcz30_0
         try clear hcz30_1
         try clear hcz30_2
         try clear hcz31_0
         try clear hcz31_1
         try clear hcz31_2
         try clear hfz22_0
         try clear hfz22_1
         try clear hfz22_2
         try clear hfz25_0
         try clear hfz25_1
         try clear hfz25_2
         try clear hfz27_0
         try clear hfz27_1
         try clear hfz27_2
         try clear hfz29_0
         try clear hfz29_1
         try clear hfz29_2
         try clear hfz30_0
         try clear hfz30_1
         try clear hfz30_2
         try clear hfz31_0
         try clear hfz31_1
         try clear hfz31_2
         try clear hx272_0
         try clear hx272_1
         try clear hx272_2
         try clear p2
         try clear p272
         try clear q272
         obtain ⟨kq, x86_18, rfl, HA, HJ18, HO_4, HO_7, BK273, HB⟩ := hcut
         cases kq with
         | zero => exact absurd HA.out (by simp [mjolnerlaw04_LexCovers.j2])
         | succ kj18 =>
          have H := HA.out
          clear HA
          simp only [mjolnerlaw04_LexCovers.j2] at H
          by_cases c32 : x86_18 = true
          ·subst c32
           have H1 : (some false) = some r := by rw [if_pos rfl] at H; exact H
           clear H
           have H := H1
           clear H1
           first | exact absurd (H.trans (congrArg some HRT.out)) (by simp) | exact absurd (H.trans (congrArg some HRT.out)) (mjolnerlaw04_LexCovers.j2_true _ _ _ _ _ _ _ _ _ _)
          ·replace c32 := Bool.eq_false_iff.mpr c32
           subst c32
           have H1 : (if ((rd_T40 t262 x13_2).f0) = 3 then (if x11_2 ≥ (t267.length : Int) then (some false) else (if 0 ≤ x11_2 then (if x11_2 < (t267.length : Int) then (if ((rd_T42 t267 x11_2).f3) = ((rd_T40 t262 x13_2).f1) then (if ((rd_T42 t267 x11_2).f4) = ((rd_T40 t262 x13_2).f2) then ((lex_Valid.f ((rd_T42 t267 x11_2).f0) ((rd_T42 t267 x11_2).f1) ((rd_T42 t267 x11_2).f2) ((rd_T42 t267 x11_2).f3) ((rd_T42 t267 x11_2).f4)).bind fun t277 => (if t277 = true then (mjolnerlaw04_LexCovers.l0 kj18 a0 t261 t262 t267 ((rd_T40 t262 x13_2).f2) (wrap64 (x11_2 + 1)) (((rd_T40 t262 x13_2).f0) == 1) (wrap64 (x13_2 + 1))) else (some false))) else (some false)) else (some false)) else (none)) else (none))) else (mjolnerlaw04_LexCovers.l0 kj18 a0 t261 t262 t267 ((rd_T40 t262 x13_2).f2) x11_2 (((rd_T40 t262 x13_2).f0) == 1) (wrap64 (x13_2 + 1)))) = some r := by rw [if_neg (show ¬ (false = true) by decide)] at H; exact H
           clear H
           have H := H1
           clear H1
           by_cases c33 : ((rd_T40 t262 x13_2).f0) = 3
           ·rw [if_pos c33] at H
            have c33b0 : (((rd_T40 t262 x13_2).f0) == 3) = true := beq_iff_eq.mpr c33
            have c33b1 : (((rd_T40 t262 x13_2).f0) != 3) = false := bne_eq_false_iff_eq.mpr c33
            clear c33
            by_cases c34 : x11_2 ≥ (t267.length : Int)
            ·rw [if_pos c34] at H
             first | exact absurd (H.trans (congrArg some HRT.out)) (by simp) | exact absurd (H.trans (congrArg some HRT.out)) (mjolnerlaw04_LexCovers.j2_true _ _ _ _ _ _ _ _ _ _)
            ·rw [if_neg c34] at H
             have c34b0 : decide ((t267.length : Int) ≤ x11_2) = false := decide_eq_false c34
             clear c34
             by_cases c38 : 0 ≤ x11_2
             ·rw [if_pos c38] at H
              have c38b0 : decide (0 ≤ x11_2) = true := decide_eq_true c38
              clear c38
              by_cases c39 : x11_2 < (t267.length : Int)
              ·rw [if_pos c39] at H
               have c39b0 : decide (x11_2 < (t267.length : Int)) = true := decide_eq_true c39
               clear c39
               by_cases c40 : ((rd_T42 t267 x11_2).f3) = ((rd_T40 t262 x13_2).f1)
               ·rw [if_pos c40] at H
                have c40b0 : (((rd_T42 t267 x11_2).f3) == ((rd_T40 t262 x13_2).f1)) = true := beq_iff_eq.mpr c40
                have c40b1 : (((rd_T42 t267 x11_2).f3) != ((rd_T40 t262 x13_2).f1)) = false := bne_eq_false_iff_eq.mpr c40
                clear c40
                by_cases c41 : ((rd_T42 t267 x11_2).f4) = ((rd_T40 t262 x13_2).f2)
                ·rw [if_pos c41] at H
                 have c41b0 : (((rd_T42 t267 x11_2).f4) == ((rd_T40 t262 x13_2).f2)) = true := beq_iff_eq.mpr c41
                 have c41b1 : (((rd_T42 t267 x11_2).f4) != ((rd_T40 t262 x13_2).f2)) = false := bne_eq_false_iff_eq.mpr c41
                 clear c41
                 replace H := Option.bind_eq_some_iff.mp H
                 obtain ⟨t277, A420, H⟩ := H
                 replace H : (if t277 = true then (mjolnerlaw04_LexCovers.l0 kj18 a0 t261 t262 t267 ((rd_T40 t262 x13_2).f2) (wrap64 (x11_2 + 1)) (((rd_T40 t262 x13_2).f0) == 1) (wrap64 (x13_2 + 1))) else (some false)) = some r := H
                 have A42 := Aside0.mk A420
                 clear A420
                 by_cases c43 : t277 = true
                 ·subst c43
                  have H1 : (mjolnerlaw04_LexCovers.l0 kj18 a0 t261 t262 t267 ((rd_T40 t262 x13_2).f2) (wrap64 (x11_2 + 1)) (((rd_T40 t262 x13_2).f0) == 1) (wrap64 (x13_2 + 1))) = some r := by rw [if_pos rfl] at H; exact H
                  clear H
                  have H := H1
                  clear H1
                  have H' := Aside0.mk H
                  clear H
                  have hcz44_0 : wc.cell? ⟨gb273, 0, none⟩ = some (.int .i64 ((rd_T40 t262 x13_2).f0)) := (blk_cell BK273.out 0).trans rfl
                  have hcz44_1 : wc.cell? ⟨gb273, 1, none⟩ = some (.int .i64 ((rd_T40 t262 x13_2).f1)) := (blk_cell BK273.out 1).trans rfl
                  have hcz44_2 : wc.cell? ⟨gb273, 2, none⟩ = some (.int .i64 ((rd_T40 t262 x13_2).f2)) := (blk_cell BK273.out 2).trans rfl
                  have hfz44_0 := blk_frozen BK273.out 0
                  have hfz44_1 := blk_frozen BK273.out 1
                  have hfz44_2 := blk_frozen BK273.out 2
                  try go_wp2
                  have n0_ := Aside0.mk (Kd.R_drew HO_4.out)
                  have n1_ := Aside0.mk (Kd.R_drew HO_7.out)
                  have n2_ := Aside0.mk (blk_drew BK273.out)
                  have n3_ := Aside0.mk (below_drew1 HB.out)
                  clear HO_4
                  clear HO_7
                  clear BK273
                  clear HB
                  have HO_4 := n0_
                  have HO_7 := n1_
                  have BK273 := n2_
                  have HB := n3_
                  clear n0_ n1_ n2_ n3_
                  obtain ⟨Ao46, co46, eo46⟩ := Kd.R_slice HO_7.out
                  (first | subst eo46 | (injection eo46 with f1_ f2_ f3_; have f4_ := f1_.symm; have f5_ := f3_.symm; clear f1_ f2_ f3_; subst f4_; subst f5_))
                  have p274 : 0 ≤ (x11_2 : Int) := of_decide_eq_true (by first | (with_reducible assumption) | assumption)
                  have q274 : x11_2 < (t267.length : Int) := of_decide_eq_true (by first | (with_reducible assumption) | assumption)
                  obtain ⟨ad274, e274, hx274_0, hx274_1, hx274_2, hx274_3, hx274_4⟩ := at_T42 (Kd.R_reads' HO_7.out).2.2 x11_2 p274 q274
                  cases e274
                  replace p274 := eq_true p274
                  replace q274 := eq_true q274
                  have p275 : 0 ≤ (x11_2 : Int) := of_decide_eq_true (by first | (with_reducible assumption) | assumption)
                  have q275 : x11_2 < (t267.length : Int) := of_decide_eq_true (by first | (with_reducible assumption) | assumption)
                  obtain ⟨ad275, e275, hx275_0, hx275_1, hx275_2, hx275_3, hx275_4⟩ := at_T42 (Kd.R_reads' HO_7.out).2.2 x11_2 p275 q275
                  obtain rfl : ad274 = ad275 := (by injection e275)
                  replace p275 := eq_true p275
                  replace q275 := eq_true q275
                  have p276 : 0 ≤ (x11_2 : Int) := of_decide_eq_true (by first | (with_reducible assumption) | assumption)
                  have q276 : x11_2 < (t267.length : Int) := of_decide_eq_true (by first | (with_reducible assumption) | assumption)
                  obtain ⟨ad276, e276, hx276_0, hx276_1, hx276_2, hx276_3, hx276_4⟩ := at_T42 (Kd.R_reads' HO_7.out).2.2 x11_2 p276 q276
                  obtain rfl : ad274 = ad276 := (by injection e276)
                  replace p276 := eq_true p276
                  replace q276 := eq_true q276
                  refine start_ (n := 32) (S := fun w' => w'.cell? ⟨gb273, 0, none⟩ = some (.int .i64 ((rd_T40 t262 x13_2).f0)) ∧ w'.cell? ⟨gb273, 1, none⟩ = some (.int .i64 ((rd_T40 t262 x13_2).f1)) ∧ w'.cell? ⟨gb273, 2, none⟩ = some (.int .i64 ((rd_T40 t262 x13_2).f2)) ∧ w'.cell? (ad274.add ((x11_2).toNat * 5)) = some (.int .i64 ((rd_T42 t267 x11_2).f0)) ∧ w'.cell? ⟨(ad274.add ((x11_2).toNat * 5)).block, (ad274.add ((x11_2).toNat * 5)).off + 1, none⟩ = some (.string ((rd_T42 t267 x11_2).f1)) ∧ w'.cell? ⟨(ad274.add ((x11_2).toNat * 5)).block, (ad274.add ((x11_2).toNat * 5)).off + 2, none⟩ = some (.int .i64 ((rd_T42 t267 x11_2).f2)) ∧ w'.cell? ⟨(ad274.add ((x11_2).toNat * 5)).block, (ad274.add ((x11_2).toNat * 5)).off + 3, none⟩ = some (.int .i64 ((rd_T42 t267 x11_2).f3)) ∧ w'.cell? ⟨(ad274.add ((x11_2).toNat * 5)).block, (ad274.add ((x11_2).toNat * 5)).off + 4, none⟩ = some (.int .i64 ((rd_T42 t267 x11_2).f4)) ∧ w'.cell? (ad274.add ((x11_2).toNat * 5)) = some (.int .i64 ((rd_T42 t267 x11_2).f0)) ∧ w'.cell? ⟨(ad274.add ((x11_2).toNat * 5)).block, (ad274.add ((x11_2).toNat * 5)).off + 1, none⟩ = some (.string ((rd_T42 t267 x11_2).f1)) ∧ w'.cell? ⟨(ad274.add ((x11_2).toNat * 5)).block, (ad274.add ((x11_2).toNat * 5)).off + 2, none⟩ = some (.int .i64 ((rd_T42 t267 x11_2).f2)) ∧ w'.cell? ⟨(ad274.add ((x11_2).toNat * 5)).block, (ad274.add ((x11_2).toNat * 5)).off + 3, none⟩ = some (.int .i64 ((rd_T42 t267 x11_2).f3)) ∧ w'.cell? ⟨(ad274.add ((x11_2).toNat * 5)).block, (ad274.add ((x11_2).toNat * 5)).off + 4, none⟩ = some (.int .i64 ((rd_T42 t267 x11_2).f4)) ∧ w'.cell? (ad274.add ((x11_2).toNat * 5)) = some (.int .i64 ((rd_T42 t267 x11_2).f0)) ∧ w'.cell? ⟨(ad274.add ((x11_2).toNat * 5)).block, (ad274.add ((x11_2).toNat * 5)).off + 1, none⟩ = some (.string ((rd_T42 t267 x11_2).f1)) ∧ w'.cell? ⟨(ad274.add ((x11_2).toNat * 5)).block, (ad274.add ((x11_2).toNat * 5)).off + 2, none⟩ = some (.int .i64 ((rd_T42 t267 x11_2).f2)) ∧ w'.cell? ⟨(ad274.add ((x11_2).toNat * 5)).block, (ad274.add ((x11_2).toNat * 5)).off + 3, none⟩ = some (.int .i64 ((rd_T42 t267 x11_2).f3)) ∧ w'.cell? ⟨(ad274.add ((x11_2).toNat * 5)).block, (ad274.add ((x11_2).toNat * 5)).off + 4, none⟩ = some (.int .i64 ((rd_T42 t267 x11_2).f4))) (ds := []) (bm 32 0) (by kernel_rfl) rfl rfl ⟨(blk_cell BK273.out 0).trans rfl, (blk_cell BK273.out 1).trans rfl, (blk_cell BK273.out 2).trans rfl, hx274_0, hx274_1, hx274_2, hx274_3, hx274_4, hx275_0, hx275_1, hx275_2, hx275_3, hx275_4, hx276_0, hx276_1, hx276_2, hx276_3, hx276_4⟩ (fun hHeld => ?_); refine with_tabW mjolnerlaw04_LexCovers.tab18 mjolnerlaw04_LexCovers.bits18 (fun HT_ HW_ => ?_)
                  generalize wc.drew = w45 at HO_4 HO_7 BK273 HB hx274_0 hx274_1 hx274_2 hx274_3 hx274_4 hx275_0 hx275_1 hx275_2 hx275_3 hx275_4 hx276_0 hx276_1 hx276_2 hx276_3 hx276_4 hHeld ⊢
                  refine pure_ (i := 0) (N := some 95) (v := ?_) (a' := ?_) (bm 32 1) rfl rfl (any_of HT_.out (by kernel_rfl)) (fun _ _ _ h => h) (Or.inl ⟨by rfl, ?_⟩) ?_ ?_
                  rotate_left
                  ·intro w'
                   go_simp
                   with_reducible rfl
                  rotate_left
                  ·simp only [Act.put, List.setIfInBounds_toArray, List.set_cons_zero, List.set_cons_succ, i64_w, i32_w]
                   rfl
                  refine pure_ (i := 1) (N := some 96) (v := ?_) (a' := ?_) (bm 32 3) rfl rfl (any_of HT_.out (by kernel_rfl)) (fun _ _ _ h => h) (Or.inl ⟨by rfl, ?_⟩) ?_ ?_
                  rotate_left
                  ·intro w'
                   go_simp
                   with_reducible rfl
                  rotate_left
                  ·simp only [Act.put, List.setIfInBounds_toArray, List.set_cons_zero, List.set_cons_succ, i64_w, i32_w]
                   rfl
                  refine pure_ (i := 2) (N := some 97) (v := ?_) (a' := ?_) (bm 32 7) rfl rfl (any_of HT_.out (by kernel_rfl)) (fun _ _ _ h => h) (Or.inl ⟨by rfl, ?_⟩) ?_ ?_
                  rotate_left
                  ·intro w'
                   go_simp
                   with_reducible rfl
                  rotate_left
                  ·simp only [Act.put, List.setIfInBounds_toArray, List.set_cons_zero, List.set_cons_succ, i64_w, i32_w]
                   rfl
                  refine pure_ (i := 3) (N := some 98) (v := ?_) (a' := ?_) (bm 32 15) rfl rfl (any_of HT_.out (by kernel_rfl)) (fun _ _ _ h => h) (Or.inl ⟨by rfl, ?_⟩) ?_ ?_
                  rotate_left
                  ·intro w'
                   go_simp
                   with_reducible rfl
                  rotate_left
                  ·simp only [Act.put, List.setIfInBounds_toArray, List.set_cons_zero, List.set_cons_succ, i64_w, i32_w]
                   rfl
                  refine pure_ (i := 4) (N := some 99) (v := ?_) (a' := ?_) (bm 32 31) rfl rfl (any_of HT_.out (by kernel_rfl)) (fun _ _ _ h => h) (Or.inl ⟨by rfl, ?_⟩) ?_ ?_
                  rotate_left
                  ·intro w'
                   go_simp
                   with_reducible rfl
                  rotate_left
                  ·simp only [Act.put, List.setIfInBounds_toArray, List.set_cons_zero, List.set_cons_succ, i64_w, i32_w]
                   rfl
                  refine pure_ (i := 5) (N := some 100) (v := ?_) (a' := ?_) (bm 32 63) rfl rfl (any_of HT_.out (by kernel_rfl)) (fun _ _ _ h => h) (Or.inl ⟨by rfl, ?_⟩) ?_ ?_
                  rotate_left
                  ·intro w'
                   go_simp
                   with_reducible rfl
                  rotate_left
                  ·simp only [Act.put, List.setIfInBounds_toArray, List.set_cons_zero, List.set_cons_succ, i64_w, i32_w]
                   rfl
                  refine pure_ (i := 6) (N := some 101) (v := ?_) (a' := ?_) (bm 32 127) rfl rfl (any_of HT_.out (by kernel_rfl)) (fun _ _ _ h => h) (Or.inl ⟨by rfl, ?_⟩) ?_ ?_
                  rotate_left
                  ·intro w'
                   go_simp
                   with_reducible rfl
                  rotate_left
                  ·simp only [Act.put, List.setIfInBounds_toArray, List.set_cons_zero, List.set_cons_succ, i64_w, i32_w]
                   rfl
                  refine pure_ (i := 7) (N := some 102) (v := ?_) (a' := ?_) (bm 32 255) rfl rfl (any_of HT_.out (by kernel_rfl)) (fun _ _ _ h => h) (Or.inl ⟨by rfl, ?_⟩) ?_ ?_
                  rotate_left
                  ·intro w'
                   go_simp
                   with_reducible rfl
                  rotate_left
                  ·simp only [Act.put, List.setIfInBounds_toArray, List.set_cons_zero, List.set_cons_succ, i64_w, i32_w]
                   rfl
                  refine pure_ (i := 8) (N := some 103) (v := ?_) (a' := ?_) (bm 32 511) rfl rfl (any_of HT_.out (by kernel_rfl)) (fun _ _ _ h => h) (Or.inl ⟨by rfl, ?_⟩) ?_ ?_
                  rotate_left
                  ·intro w'
                   go_simp
                   with_reducible rfl
                  rotate_left
                  ·simp only [Act.put, List.setIfInBounds_toArray, List.set_cons_zero, List.set_cons_succ, i64_w, i32_w]
                   rfl
                  refine pure_ (i := 10) (N := some 105) (v := ?_) (a' := ?_) (bm 32 1535) rfl rfl (any_of HT_.out (by kernel_rfl)) (fun _ _ _ h => h) (Or.inl ⟨by rfl, ?_⟩) ?_ ?_
                  rotate_left
                  ·intro w'
                   go_simp
                   with_reducible rfl
                  rotate_left
                  ·simp only [Act.put, List.setIfInBounds_toArray, List.set_cons_zero, List.set_cons_succ, i64_w, i32_w]
                   rfl
                  refine take_ (i := 9) (N := some 104) (v := ?_) (a' := ?_) (bm 32 2047) rfl rfl (take_ofW HT_.out HW_.out (by kernel_rfl)) (fun _ _ _ h => h) (Or.inl ⟨by rfl, ?_⟩) hHeld ?_ ?_
                  rotate_left
                  ·rintro w' ⟨s0, s1, s2, s3, s4, s5, s6, s7, s8, s9, s10, s11, s12, s13, s14, s15, s16, s17⟩
                   go_simp
                   with_reducible rfl
                  rotate_left
                  ·simp only [Act.put, List.setIfInBounds_toArray, List.set_cons_zero, List.set_cons_succ, i64_w, i32_w]
                   rfl
                  refine take_ (i := 11) (N := some 106) (v := ?_) (a' := ?_) (bm 32 4095) rfl rfl (take_ofW HT_.out HW_.out (by kernel_rfl)) (fun _ _ _ h => h) (Or.inl ⟨by rfl, ?_⟩) hHeld ?_ ?_
                  rotate_left
                  ·rintro w' ⟨s0, s1, s2, s3, s4, s5, s6, s7, s8, s9, s10, s11, s12, s13, s14, s15, s16, s17⟩
                   go_simp
                   with_reducible rfl
                  rotate_left
                  ·simp only [Act.put, List.setIfInBounds_toArray, List.set_cons_zero, List.set_cons_succ, i64_w, i32_w]
                   rfl
                  refine pure_ (i := 12) (N := some 107) (v := ?_) (a' := ?_) (bm 32 8191) rfl rfl (any_of HT_.out (by kernel_rfl)) (fun _ _ _ h => h) (Or.inl ⟨by rfl, ?_⟩) ?_ ?_
                  rotate_left
                  ·intro w'
                   go_simp
                   with_reducible rfl
                  rotate_left
                  ·simp only [Act.put, List.setIfInBounds_toArray, List.set_cons_zero, List.set_cons_succ, i64_w, i32_w]
                   rfl
                  refine pure_ (i := 13) (N := some 108) (v := ?_) (a' := ?_) (bm 32 16383) rfl rfl (any_of HT_.out (by kernel_rfl)) (fun _ _ _ h => h) (Or.inl ⟨by rfl, ?_⟩) ?_ ?_
                  rotate_left
                  ·intro w'
                   go_simp
                   with_reducible rfl
                  rotate_left
                  ·simp only [Act.put, List.setIfInBounds_toArray, List.set_cons_zero, List.set_cons_succ, i64_w, i32_w]
                   rfl
                  refine pure_ (i := 14) (N := some 109) (v := ?_) (a' := ?_) (bm 32 32767) rfl rfl (any_of HT_.out (by kernel_rfl)) (fun _ _ _ h => h) (Or.inl ⟨by rfl, ?_⟩) ?_ ?_
                  rotate_left
                  ·intro w'
                   go_simp
                   with_reducible rfl
                  rotate_left
                  ·simp only [Act.put, List.setIfInBounds_toArray, List.set_cons_zero, List.set_cons_succ, i64_w, i32_w]
                   rfl
                  refine pure_ (i := 15) (N := some 110) (v := ?_) (a' := ?_) (bm 32 65535) rfl rfl (any_of HT_.out (by kernel_rfl)) (fun _ _ _ h => h) (Or.inl ⟨by rfl, ?_⟩) ?_ ?_
                  rotate_left
                  ·intro w'
                   go_simp
                   with_reducible rfl
                  rotate_left
                  ·simp only [Act.put, List.setIfInBounds_toArray, List.set_cons_zero, List.set_cons_succ, i64_w, i32_w]
                   rfl
                  refine pure_ (i := 16) (N := some 111) (v := ?_) (a' := ?_) (bm 32 131071) rfl rfl (any_of HT_.out (by kernel_rfl)) (fun _ _ _ h => h) (Or.inl ⟨by rfl, ?_⟩) ?_ ?_
                  rotate_left
                  ·intro w'
                   go_simp
                   with_reducible rfl
                  rotate_left
                  ·simp only [Act.put, List.setIfInBounds_toArray, List.set_cons_zero, List.set_cons_succ, i64_w, i32_w]
                   rfl
                  refine pure_ (i := 17) (N := some 112) (v := ?_) (a' := ?_) (bm 32 262143) rfl rfl (any_of HT_.out (by kernel_rfl)) (fun _ _ _ h => h) (Or.inl ⟨by rfl, ?_⟩) ?_ ?_
                  rotate_left
                  ·intro w'
                   go_simp
                   with_reducible rfl
                  rotate_left
                  ·simp only [Act.put, List.setIfInBounds_toArray, List.set_cons_zero, List.set_cons_succ, i64_w, i32_w]
                   rfl
                  refine pure_ (i := 18) (N := some 113) (v := ?_) (a' := ?_) (bm 32 524287) rfl rfl (any_of HT_.out (by kernel_rfl)) (fun _ _ _ h => h) (Or.inl ⟨by rfl, ?_⟩) ?_ ?_
                  rotate_left
                  ·intro w'
                   go_simp
                   with_reducible rfl
                  rotate_left
                  ·simp only [Act.put, List.setIfInBounds_toArray, List.set_cons_zero, List.set_cons_succ, i64_w, i32_w]
                   rfl
                  refine pure_ (i := 20) (N := some 115) (v := ?_) (a' := ?_) (bm 32 1572863) rfl rfl (any_of HT_.out (by kernel_rfl)) (fun _ _ _ h => h) (Or.inl ⟨by rfl, ?_⟩) ?_ ?_
                  rotate_left
                  ·intro w'
                   go_simp
                   with_reducible rfl
                  rotate_left
                  ·simp only [Act.put, List.setIfInBounds_toArray, List.set_cons_zero, List.set_cons_succ, i64_w, i32_w]
                   rfl
                  refine take_ (i := 19) (N := some 114) (v := ?_) (a' := ?_) (bm 32 2097151) rfl rfl (take_ofW HT_.out HW_.out (by kernel_rfl)) (fun _ _ _ h => h) (Or.inl ⟨by rfl, ?_⟩) hHeld ?_ ?_
                  rotate_left
                  ·rintro w' ⟨s0, s1, s2, s3, s4, s5, s6, s7, s8, s9, s10, s11, s12, s13, s14, s15, s16, s17⟩
                   go_simp
                   with_reducible rfl
                  rotate_left
                  ·simp only [Act.put, List.setIfInBounds_toArray, List.set_cons_zero, List.set_cons_succ, i64_w, i32_w]
                   rfl
                  refine take_ (i := 21) (N := some 116) (v := ?_) (a' := ?_) (bm 32 4194303) rfl rfl (take_ofW HT_.out HW_.out (by kernel_rfl)) (fun _ _ _ h => h) (Or.inl ⟨by rfl, ?_⟩) hHeld ?_ ?_
                  rotate_left
                  ·rintro w' ⟨s0, s1, s2, s3, s4, s5, s6, s7, s8, s9, s10, s11, s12, s13, s14, s15, s16, s17⟩
                   go_simp
                   with_reducible rfl
                  rotate_left
                  ·simp only [Act.put, List.setIfInBounds_toArray, List.set_cons_zero, List.set_cons_succ, i64_w, i32_w]
                   rfl
                  refine pure_ (i := 22) (N := some 117) (v := ?_) (a' := ?_) (bm 32 8388607) rfl rfl (any_of HT_.out (by kernel_rfl)) (fun _ _ _ h => h) (Or.inl ⟨by rfl, ?_⟩) ?_ ?_
                  rotate_left
                  ·intro w'
                   go_simp
                   with_reducible rfl
                  rotate_left
                  ·simp only [Act.put, List.setIfInBounds_toArray, List.set_cons_zero, List.set_cons_succ, i64_w, i32_w]
                   rfl
                  refine pure_ (i := 23) (N := some 118) (v := ?_) (a' := ?_) (bm 32 16777215) rfl rfl (any_of HT_.out (by kernel_rfl)) (fun _ _ _ h => h) (Or.inl ⟨by rfl, ?_⟩) ?_ ?_
                  rotate_left
                  ·intro w'
                   go_simp
                   with_reducible rfl
                  rotate_left
                  ·simp only [Act.put, List.setIfInBounds_toArray, List.set_cons_zero, List.set_cons_succ, i64_w, i32_w]
                   rfl
                  refine pure_ (i := 24) (N := some 119) (v := ?_) (a' := ?_) (bm 32 33554431) rfl rfl (any_of HT_.out (by kernel_rfl)) (fun _ _ _ h => h) (Or.inl ⟨by rfl, ?_⟩) ?_ ?_
                  rotate_left
                  ·intro w'
                   go_simp
                   with_reducible rfl
                  rotate_left
                  ·simp only [Act.put, List.setIfInBounds_toArray, List.set_cons_zero, List.set_cons_succ, i64_w, i32_w]
                   rfl
                  refine pure_ (i := 25) (N := some 120) (v := ?_) (a' := ?_) (bm 32 67108863) rfl rfl (any_of HT_.out (by kernel_rfl)) (fun _ _ _ h => h) (Or.inl ⟨by rfl, ?_⟩) ?_ ?_
                  rotate_left
                  ·intro w'
                   go_simp
                   with_reducible rfl
                  rotate_left
                  ·simp only [Act.put, List.setIfInBounds_toArray, List.set_cons_zero, List.set_cons_succ, i64_w, i32_w]
                   rfl
                  refine pure_ (i := 26) (N := some 121) (v := ?_) (a' := ?_) (bm 32 134217727) rfl rfl (any_of HT_.out (by kernel_rfl)) (fun _ _ _ h => h) (Or.inl ⟨by rfl, ?_⟩) ?_ ?_
                  rotate_left
                  ·intro w'
                   go_simp
                   with_reducible rfl
                  rotate_left
                  ·simp only [Act.put, List.setIfInBounds_toArray, List.set_cons_zero, List.set_cons_succ, i64_w, i32_w]
                   rfl
                  refine pure_ (i := 27) (N := some 122) (v := ?_) (a' := ?_) (bm 32 268435455) rfl rfl (any_of HT_.out (by kernel_rfl)) (fun _ _ _ h => h) (Or.inl ⟨by rfl, ?_⟩) ?_ ?_
                  rotate_left
                  ·intro w'
                   go_simp
                   with_reducible rfl
                  rotate_left
                  ·simp only [Act.put, List.setIfInBounds_toArray, List.set_cons_zero, List.set_cons_succ, i64_w, i32_w]
                   rfl
                  refine take_ (i := 28) (N := some 123) (v := ?_) (a' := ?_) (bm 32 536870911) rfl rfl (take_ofW HT_.out HW_.out (by kernel_rfl)) (fun _ _ _ h => h) (Or.inl ⟨by rfl, ?_⟩) hHeld ?_ ?_
                  rotate_left
                  ·rintro w' ⟨s0, s1, s2, s3, s4, s5, s6, s7, s8, s9, s10, s11, s12, s13, s14, s15, s16, s17⟩
                   go_simp
                   with_reducible rfl
                  rotate_left
                  ·simp only [Act.put, List.setIfInBounds_toArray, List.set_cons_zero, List.set_cons_succ, i64_w, i32_w]
                   rfl
                  refine one_ (i := 29) (N := some 124) (bm 32 1073741823) rfl rfl (one_of HT_.out (by kernel_rfl)) (by decide) (fun K hK => ?_)
                  refine goes_ Tryd.func16 (by kernel_rfl) rfl #[.agg #[.int .i64 ((rd_T42 t267 x11_2).f0), .string ((rd_T42 t267 x11_2).f1), .int .i64 ((rd_T42 t267 x11_2).f2), .int .i64 ((rd_T42 t267 x11_2).f3), .int .i64 ((rd_T42 t267 x11_2).f4)]] (by rfl) rfl rfl (by (try simp only [List.map_toArray, List.map_cons, List.map_nil]); first | done | rfl | (simp only [List.length_drop, List.length_take]; rfl)) ?_
                  with_reducible refine (lex_Valid.calls ((rd_T42 t267 x11_2).f0) ((rd_T42 t267 x11_2).f1) ((rd_T42 t267 x11_2).f2) ((rd_T42 t267 x11_2).f3) ((rd_T42 t267 x11_2).f4) true _ ?side1 A42.out).mono ?_
                  (case side1 => exact HG.out _ (by repeat (first | (with_reducible first | exact HB.out | apply below_alloc | apply pw_below_drewN | apply below_drew1 | refine below_set ?_ GE273.out) | exact HB.out)))
                  rintro e w47 ⟨rfl, hb⟩
                  have HS3_ := (hb.cell (World.block_lt_of_cell? _ _ (hHeld.2.2.2.1))).trans (hHeld.2.2.2.1)
                  have HS4_ := (hb.cell (World.block_lt_of_cell? _ _ (hHeld.2.2.2.2.1))).trans (hHeld.2.2.2.2.1)
                  have HS5_ := (hb.cell (World.block_lt_of_cell? _ _ (hHeld.2.2.2.2.2.1))).trans (hHeld.2.2.2.2.2.1)
                  have HS6_ := (hb.cell (World.block_lt_of_cell? _ _ (hHeld.2.2.2.2.2.2.1))).trans (hHeld.2.2.2.2.2.2.1)
                  have HS7_ := (hb.cell (World.block_lt_of_cell? _ _ (hHeld.2.2.2.2.2.2.2.1))).trans (hHeld.2.2.2.2.2.2.2.1)
                  have HS8_ := (hb.cell (World.block_lt_of_cell? _ _ (hHeld.2.2.2.2.2.2.2.2.1))).trans (hHeld.2.2.2.2.2.2.2.2.1)
                  have HS9_ := (hb.cell (World.block_lt_of_cell? _ _ (hHeld.2.2.2.2.2.2.2.2.2.1))).trans (hHeld.2.2.2.2.2.2.2.2.2.1)
                  have HS10_ := (hb.cell (World.block_lt_of_cell? _ _ (hHeld.2.2.2.2.2.2.2.2.2.2.1))).trans (hHeld.2.2.2.2.2.2.2.2.2.2.1)
                  have HS11_ := (hb.cell (World.block_lt_of_cell? _ _ (hHeld.2.2.2.2.2.2.2.2.2.2.2.1))).trans (hHeld.2.2.2.2.2.2.2.2.2.2.2.1)
                  have HS12_ := (hb.cell (World.block_lt_of_cell? _ _ (hHeld.2.2.2.2.2.2.2.2.2.2.2.2.1))).trans (hHeld.2.2.2.2.2.2.2.2.2.2.2.2.1)
                  have HS13_ := (hb.cell (World.block_lt_of_cell? _ _ (hHeld.2.2.2.2.2.2.2.2.2.2.2.2.2.1))).trans (hHeld.2.2.2.2.2.2.2.2.2.2.2.2.2.1)
                  have HS14_ := (hb.cell (World.block_lt_of_cell? _ _ (hHeld.2.2.2.2.2.2.2.2.2.2.2.2.2.2.1))).trans (hHeld.2.2.2.2.2.2.2.2.2.2.2.2.2.2.1)
                  have HS15_ := (hb.cell (World.block_lt_of_cell? _ _ (hHeld.2.2.2.2.2.2.2.2.2.2.2.2.2.2.2.1))).trans (hHeld.2.2.2.2.2.2.2.2.2.2.2.2.2.2.2.1)
                  have HS16_ := (hb.cell (World.block_lt_of_cell? _ _ (hHeld.2.2.2.2.2.2.2.2.2.2.2.2.2.2.2.2.1))).trans (hHeld.2.2.2.2.2.2.2.2.2.2.2.2.2.2.2.2.1)
                  have HS17_ := (hb.cell (World.block_lt_of_cell? _ _ (hHeld.2.2.2.2.2.2.2.2.2.2.2.2.2.2.2.2.2))).trans (hHeld.2.2.2.2.2.2.2.2.2.2.2.2.2.2.2.2.2)
                  refine ⟨_, rfl, ?_⟩
                  have n0_ := Aside0.mk (Kd.R_below (by (with_reducible repeat (first | apply Kd.R_alloc | apply Kd.R_drewN | apply Kd.R_drew)); exact HO_4.out) hb)
                  have n1_ := Aside0.mk (Kd.R_below (by (with_reducible repeat (first | apply Kd.R_alloc | apply Kd.R_drewN | apply Kd.R_drew)); exact HO_7.out) hb)
                  have n2_ := Aside0.mk (blk_below (g := gb273) (o := .cells #[.int .i64 ((rd_T40 t262 x13_2).f0), .int .i64 ((rd_T40 t262 x13_2).f1), .int .i64 ((rd_T40 t262 x13_2).f2)] 40 (0, 0)) (by (with_reducible repeat (first | refine blk_drewN ?_ _ | refine blk_drew ?_ | refine blk_alloc ?_ _)); exact BK273.out) hb)
                  have n3_ := Aside0.mk (below_step (by repeat (first | (with_reducible first | exact HB.out | apply below_alloc | apply pw_below_drewN | apply below_drew1 | refine below_set ?_ GE273.out) | exact HB.out)) hb)
                  clear HO_4
                  clear HO_7
                  clear BK273
                  clear HB
                  have HO_4 := n0_
                  have HO_7 := n1_
                  have BK273 := n2_
                  have HB := n3_
                  clear n0_ n1_ n2_ n3_
                  (try clear hb)
                  (try clear hb2)
                  (try clear hk)
                  (try clear hi)
                  refine hK.out _ _ ⟨(blk_cell BK273.out 0).trans rfl, (blk_cell BK273.out 1).trans rfl, (blk_cell BK273.out 2).trans rfl, HS3_, HS4_, HS5_, HS6_, HS7_, HS8_, HS9_, HS10_, HS11_, HS12_, HS13_, HS14_, HS15_, HS16_, HS17_⟩ (fun hHeld => ?_)
                  clear hK K
                  refine norm_ (a' := ?_) ?_ ?_
                  rotate_left
                  ·show Act.put _ (some 124) _ = _
                   simp only [Act.put, List.setIfInBounds_toArray, List.set_cons_zero, List.set_cons_succ, i64_w, i32_w]
                   rfl
                  refine pure_ (i := 30) (N := some 125) (v := ?_) (a' := ?_) (bm 32 2147483647) rfl rfl (any_of HT_.out (by kernel_rfl)) (fun _ _ _ h => h) (Or.inl ⟨by rfl, ?_⟩) ?_ ?_
                  rotate_left
                  ·intro w'
                   go_simp
                   with_reducible rfl
                  rotate_left
                  ·simp only [Act.put, List.setIfInBounds_toArray, List.set_cons_zero, List.set_cons_succ, i64_w, i32_w]
                   rfl
                  refine pure_ (i := 31) (N := some 126) (v := ?_) (a' := ?_) (bm 32 4294967295) rfl rfl (any_of HT_.out (by kernel_rfl)) (fun _ _ _ h => h) (Or.inl ⟨by rfl, ?_⟩) ?_ ?_
                  rotate_left
                  ·intro w'
                   go_simp
                   with_reducible rfl
                  rotate_left
                  ·simp only [Act.put, List.setIfInBounds_toArray, List.set_cons_zero, List.set_cons_succ, i64_w, i32_w]
                   rfl
                  refine done_ (done_of HT_.out (by kernel_rfl)) ?_
                  try go_wp2
                  go_roundg kj18
                  case measure => have := HJ4.out; have := HK2.out; have := HJ18.out; omega
                  case rel => exact ⟨(((rd_T40 t262 x13_2).f2)), (wrap64 (x11_2 + 1)), ((((rd_T40 t262 x13_2).f0) == 1)), (wrap64 (x13_2 + 1)), (by first | rfl | (simp; done) | (simp [*]; done)), (by first | rfl | (simp; done) | (simp [*]; done)), (by first | rfl | (simp; done) | (simp [*]; done)), (by first | rfl | (simp; done) | (simp [*]; done)), H', ⟨by have := HJ4.out; have := HK2.out; have := HJ18.out; omega⟩, ⟨by (with_reducible repeat (first | apply Kd.R_alloc | apply Kd.R_drewN | apply Kd.R_drew)); exact Kd.R_mono HO_4.out (fun _ hk => trivial)⟩, ⟨by (with_reducible repeat (first | apply Kd.R_alloc | apply Kd.R_drewN | apply Kd.R_drew)); exact HO_7.out⟩, ⟨by repeat (first | (with_reducible first | exact HB.out | apply below_alloc | apply pw_below_drewN | apply below_drew1 | refine below_set ?_ GE273.out) | exact HB.out)⟩⟩
                 ·replace c43 := Bool.eq_false_iff.mpr c43
                  subst c43
                  have H1 : (some false) = some r := by rw [if_neg (show ¬ (false = true) by decide)] at H; exact H
                  clear H
                  have H := H1
                  clear H1
                  first | exact absurd (H.trans (congrArg some HRT.out)) (by simp) | exact absurd (H.trans (congrArg some HRT.out)) (mjolnerlaw04_LexCovers.j2_true _ _ _ _ _ _ _ _ _ _)
                ·rw [if_neg c41] at H
                 first | exact absurd (H.trans (congrArg some HRT.out)) (by simp) | exact absurd (H.trans (congrArg some HRT.out)) (mjolnerlaw04_LexCovers.j2_true _ _ _ _ _ _ _ _ _ _)
               ·rw [if_neg c40] at H
                first | exact absurd (H.trans (congrArg some HRT.out)) (by simp) | exact absurd (H.trans (congrArg some HRT.out)) (mjolnerlaw04_LexCovers.j2_true _ _ _ _ _ _ _ _ _ _)
              ·rw [if_neg c39] at H
               exact absurd H (by simp)
             ·rw [if_neg c38] at H
              exact absurd H (by simp)
           ·rw [if_neg c33] at H
            have c33b0 : (((rd_T40 t262 x13_2).f0) == 3) = false := beq_eq_false_iff_ne.mpr c33
            have c33b1 : (((rd_T40 t262 x13_2).f0) != 3) = true := bne_iff_ne.mpr c33
            have H' := Aside0.mk H
            clear H
            have hcz58_0 : wc.cell? ⟨gb273, 0, none⟩ = some (.int .i64 ((rd_T40 t262 x13_2).f0)) := (blk_cell BK273.out 0).trans rfl
            have hcz58_1 : wc.cell? ⟨gb273, 1, none⟩ = some (.int .i64 ((rd_T40 t262 x13_2).f1)) := (blk_cell BK273.out 1).trans rfl
            have hcz58_2 : wc.cell? ⟨gb273, 2, none⟩ = some (.int .i64 ((rd_T40 t262 x13_2).f2)) := (blk_cell BK273.out 2).trans rfl
            have hfz58_0 := blk_frozen BK273.out 0
            have hfz58_1 := blk_frozen BK273.out 1
            have hfz58_2 := blk_frozen BK273.out 2
            go_wp2
            go_roundg kj18
            case measure => have := HJ4.out; have := HK2.out; have := HJ18.out; omega
            case rel => exact ⟨(((rd_T40 t262 x13_2).f2)), (x11_2), ((((rd_T40 t262 x13_2).f0) == 1)), (wrap64 (x13_2 + 1)), (by first | rfl | (simp; done) | (simp [*]; done)), (by first | rfl | (simp; done) | (simp [*]; done)), (by first | rfl | (simp; done) | (simp [*]; done)), (by first | rfl | (simp; done) | (simp [*]; done)), H', ⟨by have := HJ4.out; have := HK2.out; have := HJ18.out; omega⟩, ⟨by (with_reducible repeat (first | apply Kd.R_alloc | apply Kd.R_drewN | apply Kd.R_drew)); exact Kd.R_mono HO_4.out (fun _ hk => trivial)⟩, ⟨by (with_reducible repeat (first | apply Kd.R_alloc | apply Kd.R_drewN | apply Kd.R_drew)); exact HO_7.out⟩, ⟨by repeat (first | (with_reducible first | exact HB.out | apply below_alloc | apply pw_below_drewN | apply below_drew1 | refine below_set ?_ GE273.out) | exact HB.out)⟩⟩
       ·rw [if_neg c18] at H
        exact absurd H (by simp)
      ·rw [if_neg c17] at H
       have c17b0 : decide (x13_2 < (t262.length : Int)) = false := decide_eq_false c17
       clear c17
       by_cases c59 : t261 = true
       ·subst c59
        have H1 : (if x10_2 = (a0.size : Int) then (some (x11_2 == (t267.length : Int))) else (some false)) = some r := by rw [if_pos rfl] at H; exact H
        clear H
        have H := H1
        clear H1
        by_cases c60 : x10_2 = (a0.size : Int)
        ·rw [if_pos c60] at H
         have c60b0 : (x10_2 == (a0.size : Int)) = true := beq_iff_eq.mpr c60
         have c60b1 : (x10_2 != (a0.size : Int)) = false := bne_eq_false_iff_eq.mpr c60
         clear c60
         obtain rfl := Option.some.inj H
         obtain ⟨Ao61, co61, eo61⟩ := Kd.R_slice HO_4.out
         subst eo61
         obtain ⟨Ao62, co62, eo62⟩ := Kd.R_slice HO_7.out
         subst eo62
         go_wp2
         go_ret
         exact ⟨by first | rfl | (simp [errW_none, errW_some] <;> rfl) | (simp [*, errW_none, errW_some] <;> rfl), by repeat (first | (with_reducible first | exact HB.out | apply below_alloc | apply pw_below_drewN | apply below_drew1) | exact HB.out)⟩
        ·rw [if_neg c60] at H
         first | exact absurd (H.trans (congrArg some HRT.out)) (by simp) | exact absurd (H.trans (congrArg some HRT.out)) (mjolnerlaw04_LexCovers.j2_true _ _ _ _ _ _ _ _ _ _)
       ·replace c59 := Bool.eq_false_iff.mpr c59
        subst c59
        have H1 : (some false) = some r := by rw [if_neg (show ¬ (false = true) by decide)] at H; exact H
        clear H
        have H := H1
        clear H1
        first | exact absurd (H.trans (congrArg some HRT.out)) (by simp) | exact absurd (H.trans (congrArg some HRT.out)) (mjolnerlaw04_LexCovers.j2_true _ _ _ _ _ _ _ _ _ _)
end Go.Proofs.YtniihjhlkpjnoaaDoor.PV
