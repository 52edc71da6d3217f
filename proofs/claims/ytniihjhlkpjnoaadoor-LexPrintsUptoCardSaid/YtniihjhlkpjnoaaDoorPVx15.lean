-- Written by a program of mine (wip/print_given.sh: the kit's print, changed so that some functions are given by contracts).
-- (made short by wip/short.py)
import Derived.Test.YtniihjhlkpjnoaaDoorBits
import Derived.Test.YtniihjhlkpjnoaaDoorJ2
import Derived.Test.YtniihjhlkpjnoaaDoorPVx6
import Derived.Test.YtniihjhlkpjnoaaDoorPVx8
import Derived.Test.YtniihjhlkpjnoaaDoorPVx14
import Derived.Test.YtniihjhlkpjnoaaDoorJ11
import Derived.Test.YtniihjhlkpjnoaaDoorLy
namespace Go.Proofs.YtniihjhlkpjnoaaDoor.PV
open Go.RowKit Go.Proofs.YtniihjhlkpjnoaaDoor.Given Go.Proofs.YtniihjhlkpjnoaaDoorW.PrintWords Go.Proofs.YtniihjhlkpjnoaaDoorW.PrintLast Go.Proofs.YtniihjhlkpjnoaaDoorW.PrintMore
attribute [local go_sem] max2_int min2_int max_two min_two max_three min_three max_four min_four   -- for this text's walks alone
set_option linter.unusedVariables false
set_option linter.unusedSimpArgs false

/-! ### mjolnerlaw04_LexPrints: function 6 -/
mutual
def mjolnerlaw04_LexPrints.j0 : Nat → ByteArray → Bool → Bool → Option (Bool)
 | 0, _, _, _ => none
 | k + 1, x1, x5, x42 => if x42 = true then (some false) else ((lex_Lex.f x1).bind fun bt293 => (mjolnerlaw04_LexPrints.l0 k x5 bt293.1 bt293.2.1 1))
def mjolnerlaw04_LexPrints.l0 : Nat → Bool → List (S42) → Int → Int → Option (Bool)
 | 0, _, _, _, _ => none
 | k + 1, x5, x12, x13, x15 => if x13 = 0 then (mjolnerlaw04_LexPrints.j2 k x5 x12 x13 x15 (decide (x15 < (x12.length : Int)))) else (mjolnerlaw04_LexPrints.j2 k x5 x12 x13 x15 false)
def mjolnerlaw04_LexPrints.j2 : Nat → Bool → List (S42) → Int → Int → Bool → Option (Bool)
 | 0, _, _, _, _, _ => none
 | k + 1, x5, x12, x13, x15, x56 => if x56 = true then (if 0 ≤ (wrap64 (x15 - 1)) then (if (wrap64 (x15 - 1)) < (x12.length : Int) then (if 0 ≤ x15 then (if x15 < (x12.length : Int) then ((lex_Touch.f k ((rd_T42 x12 (wrap64 (x15 - 1))).f0) ((rd_T42 x12 (wrap64 (x15 - 1))).f1) ((rd_T42 x12 (wrap64 (x15 - 1))).f2) ((rd_T42 x12 (wrap64 (x15 - 1))).f3) ((rd_T42 x12 (wrap64 (x15 - 1))).f4) ((rd_T42 x12 x15).f0) ((rd_T42 x12 x15).f1) ((rd_T42 x12 x15).f2) ((rd_T42 x12 x15).f3) ((rd_T42 x12 x15).f4)).bind fun bt300 => (if bt300.2 = 0 then (if ((rd_T42 x12 (wrap64 (x15 - 1))).f4) = ((rd_T42 x12 x15).f3) then (if bt300.1 = true then (mjolnerlaw04_LexPrints.l0 k x5 x12 x13 (wrap64 (x15 + 1))) else (some false)) else (mjolnerlaw04_LexPrints.l0 k x5 x12 x13 (wrap64 (x15 + 1)))) else (some false))) else (none)) else (none)) else (none)) else (none)) else (some x5)
end
def mjolnerlaw04_LexPrints.f (k : Nat) (l0 : List (S42)) (a1 : ByteArray) : Option (Bool) := (mjolnerlaw04_sane.f k).bind fun t283 => ((lex_Print.f l0).bind fun bt284 => ((lex_Lex.f bt284.1).bind fun bt287 => (if bt284.2.1 = 0 then (if bt287.2.1 = 0 then ((mjolnerref04_Same.f k l0 bt287.1).bind fun t292 => (mjolnerlaw04_LexPrints.j0 k a1 t283 (!t292))) else (mjolnerlaw04_LexPrints.j0 k a1 t283 true)) else (mjolnerlaw04_LexPrints.j0 k a1 t283 false))))
theorem mjolnerlaw04_LexPrints.mono_l : ∀ k, (∀ y0 y1 y2, LeO (mjolnerlaw04_LexPrints.j0 k y0 y1 y2) (mjolnerlaw04_LexPrints.j0 (k + 1) y0 y1 y2)) ∧ (∀ y0 y1 y2 y3, LeO (mjolnerlaw04_LexPrints.l0 k y0 y1 y2 y3) (mjolnerlaw04_LexPrints.l0 (k + 1) y0 y1 y2 y3)) ∧ (∀ y0 y1 y2 y3 y4, LeO (mjolnerlaw04_LexPrints.j2 k y0 y1 y2 y3 y4) (mjolnerlaw04_LexPrints.j2 (k + 1) y0 y1 y2 y3 y4))
 | 0 => ⟨fun _ _ _ r h => by simp [mjolnerlaw04_LexPrints.j0] at h, fun _ _ _ _ r h => by simp [mjolnerlaw04_LexPrints.l0] at h, fun _ _ _ _ _ r h => by simp [mjolnerlaw04_LexPrints.j2] at h⟩
 | k + 1 => by
  obtain ⟨ih0, ih1, ih2⟩ := mjolnerlaw04_LexPrints.mono_l k
  refine ⟨?_, ?_, ?_⟩
  ·intro y0 y1 y2
   unfold mjolnerlaw04_LexPrints.j0
   repeat' first
   | (with_reducible exact ih0 _ _ _)
   | (with_reducible exact ih1 _ _ _ _)
   | (with_reducible exact ih2 _ _ _ _ _)
   | (with_reducible exact lex_Touch.mono _ _ _ _ _ _ _ _ _ _ _)
   | (with_reducible exact mjolnerlaw04_sane.mono _)
   | (with_reducible exact mjolnerref04_Same.mono _ _ _)
   | (with_reducible exact LeO.refl _)
   | (with_reducible exact LeO.none _)
   | (with_reducible refine LeO.ite ?_ ?_)
   | (with_reducible refine LeO.bind ?_ (fun _ => ?_))
   | exact ih0 _ _ _
   | exact ih1 _ _ _ _
   | exact ih2 _ _ _ _ _
   | exact lex_Touch.mono _ _ _ _ _ _ _ _ _ _ _
   | exact mjolnerlaw04_sane.mono _
   | exact mjolnerref04_Same.mono _ _ _
   | exact LeO.none _
   | refine LeO.ite ?_ ?_
   | refine LeO.bind ?_ (fun _ => ?_)
  ·intro y0 y1 y2 y3
   unfold mjolnerlaw04_LexPrints.l0
   repeat' first
   | (with_reducible exact ih0 _ _ _)
   | (with_reducible exact ih1 _ _ _ _)
   | (with_reducible exact ih2 _ _ _ _ _)
   | (with_reducible exact lex_Touch.mono _ _ _ _ _ _ _ _ _ _ _)
   | (with_reducible exact mjolnerlaw04_sane.mono _)
   | (with_reducible exact mjolnerref04_Same.mono _ _ _)
   | (with_reducible exact LeO.refl _)
   | (with_reducible exact LeO.none _)
   | (with_reducible refine LeO.ite ?_ ?_)
   | (with_reducible refine LeO.bind ?_ (fun _ => ?_))
   | exact ih0 _ _ _
   | exact ih1 _ _ _ _
   | exact ih2 _ _ _ _ _
   | exact lex_Touch.mono _ _ _ _ _ _ _ _ _ _ _
   | exact mjolnerlaw04_sane.mono _
   | exact mjolnerref04_Same.mono _ _ _
   | exact LeO.none _
   | refine LeO.ite ?_ ?_
   | refine LeO.bind ?_ (fun _ => ?_)
  ·intro y0 y1 y2 y3 y4
   unfold mjolnerlaw04_LexPrints.j2
   repeat' first
   | (with_reducible exact ih0 _ _ _)
   | (with_reducible exact ih1 _ _ _ _)
   | (with_reducible exact ih2 _ _ _ _ _)
   | (with_reducible exact lex_Touch.mono _ _ _ _ _ _ _ _ _ _ _)
   | (with_reducible exact mjolnerlaw04_sane.mono _)
   | (with_reducible exact mjolnerref04_Same.mono _ _ _)
   | (with_reducible exact LeO.refl _)
   | (with_reducible exact LeO.none _)
   | (with_reducible refine LeO.ite ?_ ?_)
   | (with_reducible refine LeO.bind ?_ (fun _ => ?_))
   | exact ih0 _ _ _
   | exact ih1 _ _ _ _
   | exact ih2 _ _ _ _ _
   | exact lex_Touch.mono _ _ _ _ _ _ _ _ _ _ _
   | exact mjolnerlaw04_sane.mono _
   | exact mjolnerref04_Same.mono _ _ _
   | exact LeO.none _
   | refine LeO.ite ?_ ?_
   | refine LeO.bind ?_ (fun _ => ?_)
theorem mjolnerlaw04_LexPrints.mono : ∀ a0 a1 k, LeO (mjolnerlaw04_LexPrints.f k a0 a1) (mjolnerlaw04_LexPrints.f (k + 1) a0 a1) := by
 intro a0 a1 k
 obtain ⟨ih0, ih1, ih2⟩ := mjolnerlaw04_LexPrints.mono_l k
 unfold mjolnerlaw04_LexPrints.f
 repeat' first
   | (with_reducible exact ih0 _ _ _)
   | (with_reducible exact ih1 _ _ _ _)
   | (with_reducible exact ih2 _ _ _ _ _)
   | (with_reducible exact lex_Touch.mono _ _ _ _ _ _ _ _ _ _ _)
   | (with_reducible exact mjolnerlaw04_sane.mono _)
   | (with_reducible exact mjolnerref04_Same.mono _ _ _)
   | (with_reducible exact LeO.refl _)
   | (with_reducible exact LeO.none _)
   | (with_reducible refine LeO.ite ?_ ?_)
   | (with_reducible refine LeO.bind ?_ (fun _ => ?_))
   | exact ih0 _ _ _
   | exact ih1 _ _ _ _
   | exact ih2 _ _ _ _ _
   | exact lex_Touch.mono _ _ _ _ _ _ _ _ _ _ _
   | exact mjolnerlaw04_sane.mono _
   | exact mjolnerref04_Same.mono _ _ _
   | exact LeO.none _
   | refine LeO.ite ?_ ?_
   | refine LeO.bind ?_ (fun _ => ?_)
def mjolnerlaw04_LexPrints.T10 : Bool × List (List Nat × List Nat) := (true, [([], []), ([], []), ([1], [1]), ([0, 2], [0, 2]), ([3], [3]), ([], []), ([], []), ([5, 6], [5, 6]), ([7], [7]), ([4, 8], [4, 8]), ([9], [9]), ([10], [10]), ([10], [10]), ([11, 9, 0, 1, 2, 3, 4, 5, 6, 7, 8, 9, 10, 11], [11]), ([12, 13, 0, 1, 2, 3, 4, 5, 6, 7, 8, 9, 10, 11, 12, 13], [12])])
def mjolnerlaw04_LexPrints.B10 : List Nat := [0, 0, 2, 7, 15, 0, 0, 96, 224, 511, 1023, 2047, 2047, 4095, 16383]
theorem mjolnerlaw04_LexPrints.tab10 : rtab .any (opsOf Tryd.f6 10) = mjolnerlaw04_LexPrints.T10 := by kernel_rfl
theorem mjolnerlaw04_LexPrints.bits10 : waitsOk mjolnerlaw04_LexPrints.T10.2 mjolnerlaw04_LexPrints.B10 = true := by kernel_rfl
def mjolnerlaw04_LexPrints.T11 : Bool × List (List Nat × List Nat) := (true, [([], []), ([0], [0]), ([1], [1]), ([2], [2]), ([2], [2]), ([4, 2], [2, 4]), ([3, 5, 2], [2, 3, 5]), ([6, 2], [2, 6]), ([7, 2], [2, 7]), ([2], [2]), ([2], [2]), ([9, 10, 2], [2, 9, 10]), ([11, 2], [2, 11]), ([12, 2], [2, 12]), ([8, 13, 2], [2, 8, 13]), ([14, 2, 2], [2, 14]), ([15], [15]), ([16, 15], [15, 16]), ([15, 17, 2], [2, 15, 17]), ([2, 18], [2, 18])])
def mjolnerlaw04_LexPrints.B11 : List Nat := [0, 1, 3, 7, 7, 23, 63, 127, 255, 7, 7, 1543, 3591, 7687, 16383, 32767, 65535, 131071, 262143, 524287]
theorem mjolnerlaw04_LexPrints.tab11 : rtab .any (opsOf Tryd.f6 11) = mjolnerlaw04_LexPrints.T11 := by kernel_rfl
theorem mjolnerlaw04_LexPrints.bits11 : waitsOk mjolnerlaw04_LexPrints.T11.2 mjolnerlaw04_LexPrints.B11 = true := by kernel_rfl
theorem mjolnerlaw04_LexPrints.j0_true : ∀ k y0 y1, mjolnerlaw04_LexPrints.j0 k y0 y1 true ≠ some true := by
 intro k y0 y1
 cases k with
 | zero => rw [mjolnerlaw04_LexPrints.j0]; intro h; cases h
 | succ k => rw [mjolnerlaw04_LexPrints.j0, if_pos rfl]; intro h; cases h
set_option maxHeartbeats 8000000 in
set_option maxRecDepth 100000 in
theorem mjolnerlaw04_LexPrints.calls (k : Nat) (A0 : Option Addr) (c0 : Nat) (l0 : List (S42)) (a1 : ByteArray) (r : Bool) (w : World) (hG : LaidG w) (hr0 : Kd.C k42 w A0 l0.length l0) (hc0 : l0.length ≤ c0) (h : mjolnerlaw04_LexPrints.f k l0 a1 = some r) (hr : r = true) :
  Calls Tryd.prog 6 #[.slice A0 l0.length c0, .string a1] w fun e w' => e = .returned (.bool r) ∧ Below w.heap.size w w' := by
 have hu42 := Tryd.underlying42
 have HR0 := Aside0.mk hr0
 have HC0 := Aside0.mk hc0
 clear hr0 hc0
 have HB := Aside0.mk (Below.refl w.heap.size w)
 have HG := Aside0.mk (LaidG.keep hG)
 clear hG
 have HRT := Aside0.mk hr
 clear hr
 have H : ((mjolnerlaw04_sane.f k).bind fun t283 => ((lex_Print.f l0).bind fun bt284 => ((lex_Lex.f bt284.1).bind fun bt287 => (if bt284.2.1 = 0 then (if bt287.2.1 = 0 then ((mjolnerref04_Same.f k l0 bt287.1).bind fun t292 => (mjolnerlaw04_LexPrints.j0 k a1 t283 (!t292))) else (mjolnerlaw04_LexPrints.j0 k a1 t283 true)) else (mjolnerlaw04_LexPrints.j0 k a1 t283 false))))) = some r := h
 clear h
 replace H := Option.bind_eq_some_iff.mp H
 obtain ⟨t283, A30, H⟩ := H
 replace H : ((lex_Print.f l0).bind fun bt284 => ((lex_Lex.f bt284.1).bind fun bt287 => (if bt284.2.1 = 0 then (if bt287.2.1 = 0 then ((mjolnerref04_Same.f k l0 bt287.1).bind fun t292 => (mjolnerlaw04_LexPrints.j0 k a1 t283 (!t292))) else (mjolnerlaw04_LexPrints.j0 k a1 t283 true)) else (mjolnerlaw04_LexPrints.j0 k a1 t283 false)))) = some r := H
 have A3 := Aside0.mk A30
 clear A30
 replace H := Option.bind_eq_some_iff.mp H
 obtain ⟨⟨t284, t285, t286⟩, A40, H⟩ := H
 replace H : ((lex_Lex.f t284).bind fun bt287 => (if t285 = 0 then (if bt287.2.1 = 0 then ((mjolnerref04_Same.f k l0 bt287.1).bind fun t292 => (mjolnerlaw04_LexPrints.j0 k a1 t283 (!t292))) else (mjolnerlaw04_LexPrints.j0 k a1 t283 true)) else (mjolnerlaw04_LexPrints.j0 k a1 t283 false))) = some r := H
 have A4 := Aside0.mk A40
 clear A40
 replace H := Option.bind_eq_some_iff.mp H
 obtain ⟨⟨t287, t288, t289⟩, A50, H⟩ := H
 replace H : (if t285 = 0 then (if t288 = 0 then ((mjolnerref04_Same.f k l0 t287).bind fun t292 => (mjolnerlaw04_LexPrints.j0 k a1 t283 (!t292))) else (mjolnerlaw04_LexPrints.j0 k a1 t283 true)) else (mjolnerlaw04_LexPrints.j0 k a1 t283 false)) = some r := H
 have A5 := Aside0.mk A50
 clear A50
 have HC6 := Aside0.mk H
 clear H
 go_enter Tryd.func6, Tryd.ntmps6
 go_upto_region 4 with (first | ((with_reducible refine gate_callee (f := 10) rfl ?_); refine goesL_ (some 18) rfl rfl Tryd.func10 (by kernel_rfl) rfl #[] rfl (by (try simp only [List.map_toArray, List.map_cons, List.map_nil]); first | done | rfl | (simp only [List.length_drop, List.length_take]; rfl)) ?_; (with_reducible refine (mjolnerlaw04_sane.calls k  t283 _ ?side1 A3.out).mono ?_); (case side1 => exact HG.out _ (by repeat (first | (with_reducible first | exact HB.out | apply below_alloc | apply pw_below_drewN | apply below_drew1) | exact HB.out))); rintro e w7 ⟨rfl, hb⟩; refine ⟨_, rfl, ?_⟩; have n0_ := Aside0.mk (below_step (by repeat (first | (with_reducible first | exact HB.out | apply below_alloc | apply pw_below_drewN | apply below_drew1) | exact HB.out)) hb); clear HB; have HB := n0_; clear n0_; (try clear hb); (try clear hb2); (try clear hk); (try clear hi)) | ((with_reducible refine gate_callee (f := 17) rfl ?_); refine goesL_ (some 21) rfl rfl Tryd.func17 (by kernel_rfl) rfl #[.slice A0 l0.length c0] rfl (by (try simp only [List.map_toArray, List.map_cons, List.map_nil]); first | done | rfl | (simp only [List.length_drop, List.length_take]; rfl)) ?_; (with_reducible refine (lex_Print.calls _ _ l0 t284 t285 t286 _ ?side3 ?side1 ?side2 A4.out).mono ?_); (case side1 => repeat (first | exact (Kd.C_below HR0.out HB.out) | (with_reducible refine Kd.C_alloc ?_ _) | (with_reducible refine Kd.C_drewN ?_ _) | (with_reducible refine Kd.C_drew ?_))); (case side2 => exact HC0.out); (case side3 => exact HG.out _ (by repeat (first | (with_reducible first | exact HB.out | apply below_alloc | apply pw_below_drewN | apply below_drew1) | exact HB.out))); rintro e w8 ⟨rfl, hb⟩; refine ⟨_, rfl, ?_⟩; have n0_ := Aside0.mk (below_step (by repeat (first | (with_reducible first | exact HB.out | apply below_alloc | apply pw_below_drewN | apply below_drew1) | exact HB.out)) hb); clear HB; have HB := n0_; clear n0_; (try clear hb); (try clear hb2); (try clear hk); (try clear hi)) | ((with_reducible refine gate_callee (f := 11) rfl ?_); refine goesL_ (some 27) rfl rfl Tryd.func11 (by kernel_rfl) rfl #[.string t284] rfl (by (try simp only [List.map_toArray, List.map_cons, List.map_nil]); first | done | rfl | (simp only [List.length_drop, List.length_take]; rfl)) ?_; (with_reducible refine (lex_Lex.calls t284 t287 t288 t289 _ ?side1 A5.out).mono ?_); (case side1 => exact HG.out _ (by repeat (first | (with_reducible first | exact HB.out | apply below_alloc | apply pw_below_drewN | apply below_drew1) | exact HB.out))); rintro e w9 ⟨v290, rfl, ho0, hb⟩; refine ⟨_, rfl, ?_⟩; have n0_ := Aside0.mk (Kd.R_lower ho0 (below_size (by repeat (first | (with_reducible first | exact HB.out | apply below_alloc | apply pw_below_drewN | apply below_drew1) | exact HB.out)))); have n1_ := Aside0.mk (below_step (by repeat (first | (with_reducible first | exact HB.out | apply below_alloc | apply pw_below_drewN | apply below_drew1) | exact HB.out)) hb); clear HB; have HO291 := n0_; have HB := n1_; clear n0_ n1_; (try clear hb); (try clear hb2); (try clear hk); (try clear hi); (try clear ho0)))
 (try simp only [Act.put, List.setIfInBounds_toArray, List.set_cons_zero, List.set_cons_succ])
 go_cut [42] (fun v42 wc => ∃ (kq : Nat) (x42_5 : Bool), v42 = .bool x42_5 ∧ Aside0 (mjolnerlaw04_LexPrints.j0 kq a1 t283 x42_5 = some r) ∧ Aside0 (kq ≤ k) ∧ Aside0 (Below w.heap.size w wc))
 case first =>
  have H := HC6.out
  clear HC6
  by_cases c10 : t285 = 0
  ·rw [if_pos c10] at H
   have c10b0 : (t285 == 0) = true := beq_iff_eq.mpr c10
   have c10b1 : (t285 != 0) = false := bne_eq_false_iff_eq.mpr c10
   clear c10
   (first | rw [c10b0] | (simp only [i64_w, i32_w]; rw [c10b0]) | rw [c10b1] | skip)
   by_cases c11 : t288 = 0
   ·rw [if_pos c11] at H
    have c11b0 : (t288 == 0) = true := beq_iff_eq.mpr c11
    have c11b1 : (t288 != 0) = false := bne_eq_false_iff_eq.mpr c11
    clear c11
    replace H := Option.bind_eq_some_iff.mp H
    obtain ⟨t292, A120, H⟩ := H
    replace H : (mjolnerlaw04_LexPrints.j0 k a1 t283 (!t292)) = some r := H
    have A12 := Aside0.mk A120
    clear A120
    have H' := Aside0.mk H
    clear H
    obtain ⟨Ao13, co13, eo13⟩ := Kd.R_slice HO291.out
    subst eo13
    go_wp2_with (first | (go_at_call 18; (with_reducible refine (mjolnerref04_Same.calls k _ _ l0 _ _ t287 t292 _ ?side1 ?side2 ?side3 ?side4 A12.out).mono ?_); (case side1 => repeat (first | exact (Kd.C_below HR0.out HB.out) | (with_reducible refine Kd.C_alloc ?_ _) | (with_reducible refine Kd.C_drewN ?_ _) | (with_reducible refine Kd.C_drew ?_))); (case side2 => exact HC0.out); (case side3 => repeat (first | exact (Kd.R_reads' HO291.out).2.2 | (with_reducible refine Kd.C_alloc ?_ _) | (with_reducible refine Kd.C_drewN ?_ _) | (with_reducible refine Kd.C_drew ?_))); (case side4 => exact (Kd.R_reads' HO291.out).2.1); rintro e w14 ⟨rfl, hb⟩; have n0_ := Aside0.mk (Kd.R_below (by (with_reducible repeat (first | apply Kd.R_alloc | apply Kd.R_drewN | apply Kd.R_drew)); exact HO291.out) hb); have n1_ := Aside0.mk (below_step (by repeat (first | (with_reducible first | exact HB.out | apply below_alloc | apply pw_below_drewN | apply below_drew1) | exact HB.out)) hb); clear HO291; clear HB; have HO291 := n0_; have HB := n1_; clear n0_ n1_; (try clear hb); (try clear hb2); (try clear hk); (try clear hi)))
    go_meet
    case rel => exact ⟨_, (!t292), (by first | rfl | (simp; done) | (simp [*]; done)), H', ⟨by first | omega | exact Nat.le_refl _⟩, ⟨by repeat (first | (with_reducible first | exact HB.out | apply below_alloc | apply pw_below_drewN | apply below_drew1) | exact HB.out)⟩⟩
   ·rw [if_neg c11] at H
    first | exact absurd (H.trans (congrArg some HRT.out)) (by simp) | exact absurd (H.trans (congrArg some HRT.out)) (mjolnerlaw04_LexPrints.j0_true _ _ _)
  ·rw [if_neg c10] at H
   have c10b0 : (t285 == 0) = false := beq_eq_false_iff_ne.mpr c10
   have c10b1 : (t285 != 0) = true := bne_iff_ne.mpr c10
   (first | rw [c10b0] | (simp only [i64_w, i32_w]; rw [c10b0]) | rw [c10b1] | skip)
   have H' := Aside0.mk H
   clear H
   go_wp2
   go_meet
   case rel => exact ⟨_, (false), (by first | rfl | (simp; done) | (simp [*]; done)), H', ⟨by first | omega | exact Nat.le_refl _⟩, ⟨by repeat (first | (with_reducible first | exact HB.out | apply below_alloc | apply pw_below_drewN | apply below_drew1) | exact HB.out)⟩⟩
 case rest =>
  clear HC6
  try clear c1
  try clear p2
  try clear c6
  try clear c10
  try clear c10b0
  try clear c10b1
  try clear c11
  try clear c11b0
  try clear c11b1
  obtain ⟨kq, x42_5, rfl, HA, HJ5, HB⟩ := hcut
  cases kq with
  | zero => exact absurd HA.out (by simp [mjolnerlaw04_LexPrints.j0])
  | succ kj5 =>
   have H := HA.out
   clear HA
   simp only [mjolnerlaw04_LexPrints.j0] at H
   by_cases c15 : x42_5 = true
   ·subst c15
    have H1 : (some false) = some r := by rw [if_pos rfl] at H; exact H
    clear H
    have H := H1
    clear H1
    first | exact absurd (H.trans (congrArg some HRT.out)) (by simp) | exact absurd (H.trans (congrArg some HRT.out)) (mjolnerlaw04_LexPrints.j0_true _ _ _)
   ·replace c15 := Bool.eq_false_iff.mpr c15
    subst c15
    have H1 : ((lex_Lex.f a1).bind fun bt293 => (mjolnerlaw04_LexPrints.l0 kj5 t283 bt293.1 bt293.2.1 1)) = some r := by rw [if_neg (show ¬ (false = true) by decide)] at H; exact H
    clear H
    have H := H1
    clear H1
    replace H := Option.bind_eq_some_iff.mp H
    obtain ⟨⟨t293, t294, t295⟩, A160, H⟩ := H
    replace H : (mjolnerlaw04_LexPrints.l0 kj5 t283 t293 t294 1) = some r := H
    have A16 := Aside0.mk A160
    clear A160
    have H' := Aside0.mk H
    clear H
    go_wp2_with (first | ((with_reducible refine gate_callee (f := 11) rfl ?_); refine goesL_ (some 45) rfl rfl Tryd.func11 (by kernel_rfl) rfl #[.string a1] rfl (by (try simp only [List.map_toArray, List.map_cons, List.map_nil]); first | done | rfl | (simp only [List.length_drop, List.length_take]; rfl)) ?_; (with_reducible refine (lex_Lex.calls a1 t293 t294 t295 _ ?side1 A16.out).mono ?_); (case side1 => exact HG.out _ (by repeat (first | (with_reducible first | exact HB.out | apply below_alloc | apply pw_below_drewN | apply below_drew1) | exact HB.out))); rintro e w17 ⟨v296, rfl, ho0, hb⟩; refine ⟨_, rfl, ?_⟩; have n0_ := Aside0.mk (Kd.R_lower ho0 (below_size (by repeat (first | (with_reducible first | exact HB.out | apply below_alloc | apply pw_below_drewN | apply below_drew1) | exact HB.out)))); have n1_ := Aside0.mk (below_step (by repeat (first | (with_reducible first | exact HB.out | apply below_alloc | apply pw_below_drewN | apply below_drew1) | exact HB.out)) hb); clear HB; have HO297 := n0_; have HB := n1_; clear n0_ n1_; (try clear hb); (try clear hb2); (try clear hk); (try clear hi); (try clear ho0)))
    go_loopg [15] kj5 (fun kq v15 w' => ∃ (x15_2 : Int), v15 = .int .i64 x15_2 ∧ Aside0 (mjolnerlaw04_LexPrints.l0 kq t283 t293 t294 x15_2 = some r) ∧ Aside0 (kq ≤ kj5) ∧ Aside0 (Kd.R k42 42 w' w.heap.size (fun _ => True) v296 t293) ∧ Aside0 (Below w.heap.size w w'))
    case atStart => exact ⟨(1), (by first | rfl | (simp; done) | (simp [*]; done)), H', ⟨Nat.le_refl _⟩, ⟨by (with_reducible repeat (first | apply Kd.R_alloc | apply Kd.R_drewN | apply Kd.R_drew)); exact HO297.out⟩, ⟨by repeat (first | (with_reducible first | exact HB.out | apply below_alloc | apply pw_below_drewN | apply below_drew1) | exact HB.out)⟩⟩
    case round =>
     clear H'
     try clear c1
     try clear p2
     try clear c6
     try clear c10
     try clear c10b0
     try clear c10b1
     try clear c11
     try clear c11b0
     try clear c11b1
     try clear c15
     try clear c17
     try clear p2
     obtain ⟨x15_2, rfl, HA, HK2, HO_12, HB⟩ := hrel
     cases gk with
     | zero => exact absurd HA.out (by simp [mjolnerlaw04_LexPrints.l0])
     | succ k2 =>
      have H := HA.out
      clear HA
      simp only [mjolnerlaw04_LexPrints.l0] at H
      have HC18 := Aside0.mk H
      clear H
      go_upto_region 8 with (fail)
      go_cut [56] (fun v56 wc => ∃ (kq : Nat) (x56_17 : Bool), v56 = .bool x56_17 ∧ Aside0 (mjolnerlaw04_LexPrints.j2 kq t283 t293 t294 x15_2 x56_17 = some r) ∧ Aside0 (kq ≤ k2) ∧ Aside0 (Kd.R k42 42 wc w.heap.size (fun _ => True) v296 t293) ∧ Aside0 (Below w.heap.size w wc))
      case first =>
       have H := HC18.out
       clear HC18
       by_cases c19 : t294 = 0
       ·rw [if_pos c19] at H
        have c19b0 : (t294 == 0) = true := beq_iff_eq.mpr c19
        have c19b1 : (t294 != 0) = false := bne_eq_false_iff_eq.mpr c19
        clear c19
        (first | rw [c19b0] | (simp only [i64_w, i32_w]; rw [c19b0]) | rw [c19b1] | skip)
        have H' := Aside0.mk H
        clear H
        obtain ⟨Ao20, co20, eo20⟩ := Kd.R_slice HO_12.out
        subst eo20
        go_wp2
        go_meet
        case rel => exact ⟨_, (decide (x15_2 < (t293.length : Int))), (by first | rfl | (simp; done) | (simp [*]; done)), H', ⟨by have := HJ5.out; have := HK2.out; first | omega | exact Nat.le_refl _⟩, ⟨by (with_reducible repeat (first | apply Kd.R_alloc | apply Kd.R_drewN | apply Kd.R_drew)); exact HO_12.out⟩, ⟨by repeat (first | (with_reducible first | exact HB.out | apply below_alloc | apply pw_below_drewN | apply below_drew1) | exact HB.out)⟩⟩
       ·rw [if_neg c19] at H
        have c19b0 : (t294 == 0) = false := beq_eq_false_iff_ne.mpr c19
        have c19b1 : (t294 != 0) = true := bne_iff_ne.mpr c19
        (first | rw [c19b0] | (simp only [i64_w, i32_w]; rw [c19b0]) | rw [c19b1] | skip)
        have H' := Aside0.mk H
        clear H
        go_wp2
        go_meet
        case rel => exact ⟨_, (false), (by first | rfl | (simp; done) | (simp [*]; done)), H', ⟨by have := HJ5.out; have := HK2.out; first | omega | exact Nat.le_refl _⟩, ⟨by (with_reducible repeat (first | apply Kd.R_alloc | apply Kd.R_drewN | apply Kd.R_drew)); exact HO_12.out⟩, ⟨by repeat (first | (with_reducible first | exact HB.out | apply below_alloc | apply pw_below_drewN | apply below_drew1) | exact HB.out)⟩⟩
      case rest =>
       clear HC18
       try clear c1
       try clear p2
       try clear c6
       try clear c10
       try clear c10b0
       try clear c10b1
       try clear c11
       try clear c11b0
       try clear c11b1
       try clear c15
       try clear c17
       try clear c19
       try clear c19b0
       try clear c19b1
       try clear p2
       obtain ⟨kq, x56_17, rfl, HA, HJ17, HO_12, HB⟩ := hcut
       cases kq with
       | zero => exact absurd HA.out (by simp [mjolnerlaw04_LexPrints.j2])
       | succ kj17 =>
        have H := HA.out
        clear HA
        simp only [mjolnerlaw04_LexPrints.j2] at H
        by_cases c21 : x56_17 = true
        ·subst c21
         have H1 : (if 0 ≤ (wrap64 (x15_2 - 1)) then (if (wrap64 (x15_2 - 1)) < (t293.length : Int) then (if 0 ≤ x15_2 then (if x15_2 < (t293.length : Int) then ((lex_Touch.f kj17 ((rd_T42 t293 (wrap64 (x15_2 - 1))).f0) ((rd_T42 t293 (wrap64 (x15_2 - 1))).f1) ((rd_T42 t293 (wrap64 (x15_2 - 1))).f2) ((rd_T42 t293 (wrap64 (x15_2 - 1))).f3) ((rd_T42 t293 (wrap64 (x15_2 - 1))).f4) ((rd_T42 t293 x15_2).f0) ((rd_T42 t293 x15_2).f1) ((rd_T42 t293 x15_2).f2) ((rd_T42 t293 x15_2).f3) ((rd_T42 t293 x15_2).f4)).bind fun bt300 => (if bt300.2 = 0 then (if ((rd_T42 t293 (wrap64 (x15_2 - 1))).f4) = ((rd_T42 t293 x15_2).f3) then (if bt300.1 = true then (mjolnerlaw04_LexPrints.l0 kj17 t283 t293 t294 (wrap64 (x15_2 + 1))) else (some false)) else (mjolnerlaw04_LexPrints.l0 kj17 t283 t293 t294 (wrap64 (x15_2 + 1)))) else (some false))) else (none)) else (none)) else (none)) else (none)) = some r := by rw [if_pos rfl] at H; exact H
         clear H
         have H := H1
         clear H1
         obtain ⟨ji22, hji22⟩ : ∃ j_ : Int, (wrap64 (x15_2 - 1)) = j_ := ⟨_, rfl⟩
         replace H : (if 0 ≤ (ji22) then (if (ji22) < (t293.length : Int) then (if 0 ≤ x15_2 then (if x15_2 < (t293.length : Int) then ((lex_Touch.f kj17 ((rd_T42 t293 (ji22)).f0) ((rd_T42 t293 (ji22)).f1) ((rd_T42 t293 (ji22)).f2) ((rd_T42 t293 (ji22)).f3) ((rd_T42 t293 (ji22)).f4) ((rd_T42 t293 x15_2).f0) ((rd_T42 t293 x15_2).f1) ((rd_T42 t293 x15_2).f2) ((rd_T42 t293 x15_2).f3) ((rd_T42 t293 x15_2).f4)).bind fun bt300 => (if bt300.2 = 0 then (if ((rd_T42 t293 (ji22)).f4) = ((rd_T42 t293 x15_2).f3) then (if bt300.1 = true then (mjolnerlaw04_LexPrints.l0 kj17 t283 t293 t294 (wrap64 (x15_2 + 1))) else (some false)) else (mjolnerlaw04_LexPrints.l0 kj17 t283 t293 t294 (wrap64 (x15_2 + 1)))) else (some false))) else (none)) else (none)) else (none)) else (none)) = some r := by first | (rw [hji22] at H; exact H) | (simp only [hji22] at H ⊢; exact H)
         have hji22w : (IntKind.i64.wrap (x15_2 - 1)) = ji22 := (i64_w _).trans hji22
         by_cases c23 : 0 ≤ (ji22)
         ·rw [if_pos c23] at H
          have c23b0 : decide (0 ≤ (ji22)) = true := decide_eq_true c23
          clear c23
          by_cases c24 : (ji22) < (t293.length : Int)
          ·rw [if_pos c24] at H
           have c24b0 : decide ((ji22) < (t293.length : Int)) = true := decide_eq_true c24
           clear c24
           by_cases c25 : 0 ≤ x15_2
           ·rw [if_pos c25] at H
            have c25b0 : decide (0 ≤ x15_2) = true := decide_eq_true c25
            clear c25
            by_cases c26 : x15_2 < (t293.length : Int)
            ·rw [if_pos c26] at H
             have c26b0 : decide (x15_2 < (t293.length : Int)) = true := decide_eq_true c26
             clear c26
             replace H := Option.bind_eq_some_iff.mp H
             obtain ⟨⟨t300, t301⟩, A270, H⟩ := H
             replace H : (if t301 = 0 then (if ((rd_T42 t293 (ji22)).f4) = ((rd_T42 t293 x15_2).f3) then (if t300 = true then (mjolnerlaw04_LexPrints.l0 kj17 t283 t293 t294 (wrap64 (x15_2 + 1))) else (some false)) else (mjolnerlaw04_LexPrints.l0 kj17 t283 t293 t294 (wrap64 (x15_2 + 1)))) else (some false)) = some r := H
             have A27 := Aside0.mk A270
             clear A270
             by_cases c28 : t301 = 0
             ·rw [if_pos c28] at H
              have c28b0 : (t301 == 0) = true := beq_iff_eq.mpr c28
              have c28b1 : (t301 != 0) = false := bne_eq_false_iff_eq.mpr c28
              clear c28
              by_cases c29 : ((rd_T42 t293 (ji22)).f4) = ((rd_T42 t293 x15_2).f3)
              ·rw [if_pos c29] at H
               have c29b0 : (((rd_T42 t293 (ji22)).f4) == ((rd_T42 t293 x15_2).f3)) = true := beq_iff_eq.mpr c29
               have c29b1 : (((rd_T42 t293 (ji22)).f4) != ((rd_T42 t293 x15_2).f3)) = false := bne_eq_false_iff_eq.mpr c29
               clear c29
               by_cases c30 : t300 = true
               ·subst c30
                have H1 : (mjolnerlaw04_LexPrints.l0 kj17 t283 t293 t294 (wrap64 (x15_2 + 1))) = some r := by rw [if_pos rfl] at H; exact H
                clear H
                have H := H1
                clear H1
                have H' := Aside0.mk H
                clear H
                try go_wp2
                have n0_ := Aside0.mk (Kd.R_drew HO_12.out)
                have n1_ := Aside0.mk (below_drew1 HB.out)
                clear HO_12
                clear HB
                have HO_12 := n0_
                have HB := n1_
                clear n0_ n1_
                obtain ⟨Ao32, co32, eo32⟩ := Kd.R_slice HO_12.out
                (first | subst eo32 | (injection eo32 with f1_ f2_ f3_; have f4_ := f1_.symm; have f5_ := f3_.symm; clear f1_ f2_ f3_; subst f4_; subst f5_))
                have p298 : 0 ≤ ((ji22) : Int) := of_decide_eq_true (by first | (with_reducible assumption) | assumption)
                have q298 : (ji22) < (t293.length : Int) := of_decide_eq_true (by first | (with_reducible assumption) | assumption)
                obtain ⟨ad298, e298, hx298_0, hx298_1, hx298_2, hx298_3, hx298_4⟩ := at_T42 (Kd.R_reads' HO_12.out).2.2 (ji22) p298 q298
                cases e298
                replace p298 := eq_true p298
                replace q298 := eq_true q298
                have p299 : 0 ≤ (x15_2 : Int) := of_decide_eq_true (by first | (with_reducible assumption) | assumption)
                have q299 : x15_2 < (t293.length : Int) := of_decide_eq_true (by first | (with_reducible assumption) | assumption)
                obtain ⟨ad299, e299, hx299_0, hx299_1, hx299_2, hx299_3, hx299_4⟩ := at_T42 (Kd.R_reads' HO_12.out).2.2 x15_2 p299 q299
                obtain rfl : ad298 = ad299 := (by injection e299)
                replace p299 := eq_true p299
                replace q299 := eq_true q299
                refine start_ (n := 15) (S := fun w' => w'.cell? (ad298.add (((ji22)).toNat * 5)) = some (.int .i64 ((rd_T42 t293 (ji22)).f0)) ∧ w'.cell? ⟨(ad298.add (((ji22)).toNat * 5)).block, (ad298.add (((ji22)).toNat * 5)).off + 1, none⟩ = some (.string ((rd_T42 t293 (ji22)).f1)) ∧ w'.cell? ⟨(ad298.add (((ji22)).toNat * 5)).block, (ad298.add (((ji22)).toNat * 5)).off + 2, none⟩ = some (.int .i64 ((rd_T42 t293 (ji22)).f2)) ∧ w'.cell? ⟨(ad298.add (((ji22)).toNat * 5)).block, (ad298.add (((ji22)).toNat * 5)).off + 3, none⟩ = some (.int .i64 ((rd_T42 t293 (ji22)).f3)) ∧ w'.cell? ⟨(ad298.add (((ji22)).toNat * 5)).block, (ad298.add (((ji22)).toNat * 5)).off + 4, none⟩ = some (.int .i64 ((rd_T42 t293 (ji22)).f4)) ∧ w'.cell? (ad298.add ((x15_2).toNat * 5)) = some (.int .i64 ((rd_T42 t293 x15_2).f0)) ∧ w'.cell? ⟨(ad298.add ((x15_2).toNat * 5)).block, (ad298.add ((x15_2).toNat * 5)).off + 1, none⟩ = some (.string ((rd_T42 t293 x15_2).f1)) ∧ w'.cell? ⟨(ad298.add ((x15_2).toNat * 5)).block, (ad298.add ((x15_2).toNat * 5)).off + 2, none⟩ = some (.int .i64 ((rd_T42 t293 x15_2).f2)) ∧ w'.cell? ⟨(ad298.add ((x15_2).toNat * 5)).block, (ad298.add ((x15_2).toNat * 5)).off + 3, none⟩ = some (.int .i64 ((rd_T42 t293 x15_2).f3)) ∧ w'.cell? ⟨(ad298.add ((x15_2).toNat * 5)).block, (ad298.add ((x15_2).toNat * 5)).off + 4, none⟩ = some (.int .i64 ((rd_T42 t293 x15_2).f4))) (ds := []) (bm 15 0) (by kernel_rfl) rfl rfl ⟨hx298_0, hx298_1, hx298_2, hx298_3, hx298_4, hx299_0, hx299_1, hx299_2, hx299_3, hx299_4⟩ (fun hHeld => ?_); refine with_tabW mjolnerlaw04_LexPrints.tab10 mjolnerlaw04_LexPrints.bits10 (fun HT_ HW_ => ?_)
                generalize wc.drew = w31 at HO_12 HB hx298_0 hx298_1 hx298_2 hx298_3 hx298_4 hx299_0 hx299_1 hx299_2 hx299_3 hx299_4 hHeld ⊢
                refine pure_ (i := 0) (N := some 60) (v := ?_) (a' := ?_) (bm 15 1) rfl rfl (any_of HT_.out (by kernel_rfl)) (fun _ _ _ h => h) (Or.inl ⟨by rfl, ?_⟩) ?_ ?_
                rotate_left
                ·intro w'
                 go_simp
                 with_reducible rfl
                rotate_left
                ·simp only [Act.put, List.setIfInBounds_toArray, List.set_cons_zero, List.set_cons_succ, i64_w, i32_w]
                 rfl
                refine pure_ (i := 1) (N := some 61) (v := ?_) (a' := ?_) (bm 15 3) rfl rfl (any_of HT_.out (by kernel_rfl)) (fun _ _ _ h => h) (Or.inl ⟨by rfl, ?_⟩) ?_ ?_
                rotate_left
                ·intro w'
                 go_simp
                 with_reducible rfl
                rotate_left
                ·simp only [Act.put, List.setIfInBounds_toArray, List.set_cons_zero, List.set_cons_succ, i64_w, i32_w]
                 rfl
                refine pure_ (i := 2) (N := some 62) (v := ?_) (a' := ?_) (bm 15 7) rfl rfl (any_of HT_.out (by kernel_rfl)) (fun _ _ _ h => h) (Or.inl ⟨by rfl, ?_⟩) ?_ ?_
                rotate_left
                ·intro w'
                 go_simp
                 with_reducible rfl
                rotate_left
                ·simp only [Act.put, List.setIfInBounds_toArray, List.set_cons_zero, List.set_cons_succ, i64_w, i32_w]
                 rfl
                refine pure_ (i := 3) (N := some 63) (v := ?_) (a' := ?_) (bm 15 15) rfl rfl (any_of HT_.out (by kernel_rfl)) (fun _ _ _ h => h) (Or.inl ⟨by rfl, ?_⟩) ?_ ?_
                rotate_left
                ·intro w'
                 go_simp
                 with_reducible rfl
                rotate_left
                ·simp only [Act.put, List.setIfInBounds_toArray, List.set_cons_zero, List.set_cons_succ, i64_w, i32_w]
                 rfl
                refine pure_ (i := 5) (N := some 65) (v := ?_) (a' := ?_) (bm 15 47) rfl rfl (any_of HT_.out (by kernel_rfl)) (fun _ _ _ h => h) (Or.inl ⟨by rfl, ?_⟩) ?_ ?_
                rotate_left
                ·intro w'
                 go_simp
                 with_reducible rfl
                rotate_left
                ·simp only [Act.put, List.setIfInBounds_toArray, List.set_cons_zero, List.set_cons_succ, i64_w, i32_w]
                 rfl
                refine pure_ (i := 6) (N := some 66) (v := ?_) (a' := ?_) (bm 15 111) rfl rfl (any_of HT_.out (by kernel_rfl)) (fun _ _ _ h => h) (Or.inl ⟨by rfl, ?_⟩) ?_ ?_
                rotate_left
                ·intro w'
                 go_simp
                 with_reducible rfl
                rotate_left
                ·simp only [Act.put, List.setIfInBounds_toArray, List.set_cons_zero, List.set_cons_succ, i64_w, i32_w]
                 rfl
                refine pure_ (i := 7) (N := some 67) (v := ?_) (a' := ?_) (bm 15 239) rfl rfl (any_of HT_.out (by kernel_rfl)) (fun _ _ _ h => h) (Or.inl ⟨by rfl, ?_⟩) ?_ ?_
                rotate_left
                ·intro w'
                 go_simp
                 with_reducible rfl
                rotate_left
                ·simp only [Act.put, List.setIfInBounds_toArray, List.set_cons_zero, List.set_cons_succ, i64_w, i32_w]
                 rfl
                refine take_ (i := 4) (N := some 64) (v := ?_) (a' := ?_) (bm 15 255) rfl rfl (take_ofW HT_.out HW_.out (by kernel_rfl)) (fun _ _ _ h => h) (Or.inl ⟨by rfl, ?_⟩) hHeld ?_ ?_
                rotate_left
                ·rintro w' ⟨s0, s1, s2, s3, s4, s5, s6, s7, s8, s9⟩
                 go_simp
                 with_reducible rfl
                rotate_left
                ·simp only [Act.put, List.setIfInBounds_toArray, List.set_cons_zero, List.set_cons_succ, i64_w, i32_w]
                 rfl
                refine take_ (i := 8) (N := some 68) (v := ?_) (a' := ?_) (bm 15 511) rfl rfl (take_ofW HT_.out HW_.out (by kernel_rfl)) (fun _ _ _ h => h) (Or.inl ⟨by rfl, ?_⟩) hHeld ?_ ?_
                rotate_left
                ·rintro w' ⟨s0, s1, s2, s3, s4, s5, s6, s7, s8, s9⟩
                 go_simp
                 with_reducible rfl
                rotate_left
                ·simp only [Act.put, List.setIfInBounds_toArray, List.set_cons_zero, List.set_cons_succ, i64_w, i32_w]
                 rfl
                refine one_ (i := 9) (N := some 69) (bm 15 1023) rfl rfl (one_of HT_.out (by kernel_rfl)) (by decide) (fun K hK => ?_)
                refine goes_ Tryd.func19 (by kernel_rfl) rfl #[.agg #[.int .i64 ((rd_T42 t293 (ji22)).f0), .string ((rd_T42 t293 (ji22)).f1), .int .i64 ((rd_T42 t293 (ji22)).f2), .int .i64 ((rd_T42 t293 (ji22)).f3), .int .i64 ((rd_T42 t293 (ji22)).f4)], .agg #[.int .i64 ((rd_T42 t293 x15_2).f0), .string ((rd_T42 t293 x15_2).f1), .int .i64 ((rd_T42 t293 x15_2).f2), .int .i64 ((rd_T42 t293 x15_2).f3), .int .i64 ((rd_T42 t293 x15_2).f4)]] (by rfl) rfl rfl (by (try simp only [List.map_toArray, List.map_cons, List.map_nil]); first | done | (simp only [hji22]; rfl) | rfl | (simp only [List.length_drop, List.length_take]; rfl)) ?_
                with_reducible refine (lex_Touch.calls kj17 ((rd_T42 t293 (ji22)).f0) ((rd_T42 t293 (ji22)).f1) ((rd_T42 t293 (ji22)).f2) ((rd_T42 t293 (ji22)).f3) ((rd_T42 t293 (ji22)).f4) ((rd_T42 t293 x15_2).f0) ((rd_T42 t293 x15_2).f1) ((rd_T42 t293 x15_2).f2) ((rd_T42 t293 x15_2).f3) ((rd_T42 t293 x15_2).f4) true t301 _ ?side1 A27.out).mono ?_
                (case side1 => exact HG.out _ (by repeat (first | (with_reducible first | exact HB.out | apply below_alloc | apply pw_below_drewN | apply below_drew1) | exact HB.out)))
                rintro e w33 ⟨rfl, hb⟩
                have HS0_ := (hb.cell (World.block_lt_of_cell? _ _ (hHeld.1))).trans (hHeld.1)
                have HS1_ := (hb.cell (World.block_lt_of_cell? _ _ (hHeld.2.1))).trans (hHeld.2.1)
                have HS2_ := (hb.cell (World.block_lt_of_cell? _ _ (hHeld.2.2.1))).trans (hHeld.2.2.1)
                have HS3_ := (hb.cell (World.block_lt_of_cell? _ _ (hHeld.2.2.2.1))).trans (hHeld.2.2.2.1)
                have HS4_ := (hb.cell (World.block_lt_of_cell? _ _ (hHeld.2.2.2.2.1))).trans (hHeld.2.2.2.2.1)
                have HS5_ := (hb.cell (World.block_lt_of_cell? _ _ (hHeld.2.2.2.2.2.1))).trans (hHeld.2.2.2.2.2.1)
                have HS6_ := (hb.cell (World.block_lt_of_cell? _ _ (hHeld.2.2.2.2.2.2.1))).trans (hHeld.2.2.2.2.2.2.1)
                have HS7_ := (hb.cell (World.block_lt_of_cell? _ _ (hHeld.2.2.2.2.2.2.2.1))).trans (hHeld.2.2.2.2.2.2.2.1)
                have HS8_ := (hb.cell (World.block_lt_of_cell? _ _ (hHeld.2.2.2.2.2.2.2.2.1))).trans (hHeld.2.2.2.2.2.2.2.2.1)
                have HS9_ := (hb.cell (World.block_lt_of_cell? _ _ (hHeld.2.2.2.2.2.2.2.2.2))).trans (hHeld.2.2.2.2.2.2.2.2.2)
                refine ⟨_, rfl, ?_⟩
                have n0_ := Aside0.mk (Kd.R_below (by (with_reducible repeat (first | apply Kd.R_alloc | apply Kd.R_drewN | apply Kd.R_drew)); exact HO_12.out) hb)
                have n1_ := Aside0.mk (below_step (by repeat (first | (with_reducible first | exact HB.out | apply below_alloc | apply pw_below_drewN | apply below_drew1) | exact HB.out)) hb)
                clear HO_12
                clear HB
                have HO_12 := n0_
                have HB := n1_
                clear n0_ n1_
                (try clear hb)
                (try clear hb2)
                (try clear hk)
                (try clear hi)
                refine hK.out _ _ ⟨HS0_, HS1_, HS2_, HS3_, HS4_, HS5_, HS6_, HS7_, HS8_, HS9_⟩ (fun hHeld => ?_)
                clear hK K
                refine norm_ (a' := ?_) ?_ ?_
                rotate_left
                ·show Act.put _ (some 69) _ = _
                 simp only [Act.put, List.setIfInBounds_toArray, List.set_cons_zero, List.set_cons_succ, i64_w, i32_w]
                 rfl
                refine pure_ (i := 10) (N := some 59) (v := ?_) (a' := ?_) (bm 15 2047) rfl rfl (any_of HT_.out (by kernel_rfl)) (fun _ _ _ h => h) (Or.inl ⟨by rfl, ?_⟩) ?_ ?_
                rotate_left
                ·intro w'
                 go_simp
                 with_reducible rfl
                rotate_left
                ·simp only [Act.put, List.setIfInBounds_toArray, List.set_cons_zero, List.set_cons_succ, i64_w, i32_w]
                 rfl
                refine pure_ (i := 11) (N := some 70) (v := ?_) (a' := ?_) (bm 15 4095) rfl rfl (any_of HT_.out (by kernel_rfl)) (fun _ _ _ h => h) (Or.inl ⟨by rfl, ?_⟩) ?_ ?_
                rotate_left
                ·intro w'
                 go_simp
                 with_reducible rfl
                rotate_left
                ·simp only [Act.put, List.setIfInBounds_toArray, List.set_cons_zero, List.set_cons_succ, i64_w, i32_w]
                 rfl
                refine pure_ (i := 12) (N := some 71) (v := ?_) (a' := ?_) (bm 15 8191) rfl rfl (any_of HT_.out (by kernel_rfl)) (fun _ _ _ h => h) (Or.inl ⟨by rfl, ?_⟩) ?_ ?_
                rotate_left
                ·intro w'
                 go_simp
                 with_reducible rfl
                rotate_left
                ·simp only [Act.put, List.setIfInBounds_toArray, List.set_cons_zero, List.set_cons_succ, i64_w, i32_w]
                 rfl
                refine pure_ (i := 13) (N := some 16) (v := ?_) (a' := ?_) (bm 15 16383) rfl rfl (any_of HT_.out (by kernel_rfl)) (fun _ _ _ h => h) (Or.inl ⟨by rfl, ?_⟩) ?_ ?_
                rotate_left
                ·intro w'
                 go_simp
                 with_reducible rfl
                rotate_left
                ·simp only [Act.put, List.setIfInBounds_toArray, List.set_cons_zero, List.set_cons_succ, i64_w, i32_w]
                 rfl
                refine pure_ (i := 14) (N := some 17) (v := ?_) (a' := ?_) (bm 15 32767) rfl rfl (any_of HT_.out (by kernel_rfl)) (fun _ _ _ h => h) (Or.inl ⟨by rfl, ?_⟩) ?_ ?_
                rotate_left
                ·intro w'
                 go_simp
                 with_reducible rfl
                rotate_left
                ·simp only [Act.put, List.setIfInBounds_toArray, List.set_cons_zero, List.set_cons_succ, i64_w, i32_w]
                 rfl
                refine done_ (done_of HT_.out (by kernel_rfl)) ?_
                try go_wp2
                have n0_ := Aside0.mk (Kd.R_drew HO_12.out)
                have n1_ := Aside0.mk (below_drew1 HB.out)
                clear HO_12
                clear HB
                have HO_12 := n0_
                have HB := n1_
                clear n0_ n1_
                have p302 : 0 ≤ ((ji22) : Int) := of_decide_eq_true (by first | (with_reducible assumption) | assumption)
                have q302 : (ji22) < (t293.length : Int) := of_decide_eq_true (by first | (with_reducible assumption) | assumption)
                obtain ⟨ad302, e302, hx302_0, hx302_1, hx302_2, hx302_3, hx302_4⟩ := at_T42 (Kd.R_reads' HO_12.out).2.2 (ji22) p302 q302
                obtain rfl : ad298 = ad302 := (by injection e302)
                replace p302 := eq_true p302
                replace q302 := eq_true q302
                have p303 : 0 ≤ (x15_2 : Int) := of_decide_eq_true (by first | (with_reducible assumption) | assumption)
                have q303 : x15_2 < (t293.length : Int) := of_decide_eq_true (by first | (with_reducible assumption) | assumption)
                obtain ⟨ad303, e303, hx303_0, hx303_1, hx303_2, hx303_3, hx303_4⟩ := at_T42 (Kd.R_reads' HO_12.out).2.2 x15_2 p303 q303
                obtain rfl : ad298 = ad303 := (by injection e303)
                replace p303 := eq_true p303
                replace q303 := eq_true q303
                refine start_ (n := 20) (S := fun w' => w'.cell? (ad298.add (((ji22)).toNat * 5)) = some (.int .i64 ((rd_T42 t293 (ji22)).f0)) ∧ w'.cell? ⟨(ad298.add (((ji22)).toNat * 5)).block, (ad298.add (((ji22)).toNat * 5)).off + 1, none⟩ = some (.string ((rd_T42 t293 (ji22)).f1)) ∧ w'.cell? ⟨(ad298.add (((ji22)).toNat * 5)).block, (ad298.add (((ji22)).toNat * 5)).off + 2, none⟩ = some (.int .i64 ((rd_T42 t293 (ji22)).f2)) ∧ w'.cell? ⟨(ad298.add (((ji22)).toNat * 5)).block, (ad298.add (((ji22)).toNat * 5)).off + 3, none⟩ = some (.int .i64 ((rd_T42 t293 (ji22)).f3)) ∧ w'.cell? ⟨(ad298.add (((ji22)).toNat * 5)).block, (ad298.add (((ji22)).toNat * 5)).off + 4, none⟩ = some (.int .i64 ((rd_T42 t293 (ji22)).f4)) ∧ w'.cell? (ad298.add ((x15_2).toNat * 5)) = some (.int .i64 ((rd_T42 t293 x15_2).f0)) ∧ w'.cell? ⟨(ad298.add ((x15_2).toNat * 5)).block, (ad298.add ((x15_2).toNat * 5)).off + 1, none⟩ = some (.string ((rd_T42 t293 x15_2).f1)) ∧ w'.cell? ⟨(ad298.add ((x15_2).toNat * 5)).block, (ad298.add ((x15_2).toNat * 5)).off + 2, none⟩ = some (.int .i64 ((rd_T42 t293 x15_2).f2)) ∧ w'.cell? ⟨(ad298.add ((x15_2).toNat * 5)).block, (ad298.add ((x15_2).toNat * 5)).off + 3, none⟩ = some (.int .i64 ((rd_T42 t293 x15_2).f3)) ∧ w'.cell? ⟨(ad298.add ((x15_2).toNat * 5)).block, (ad298.add ((x15_2).toNat * 5)).off + 4, none⟩ = some (.int .i64 ((rd_T42 t293 x15_2).f4))) (ds := []) (bm 20 0) (by kernel_rfl) rfl rfl ⟨hx302_0, hx302_1, hx302_2, hx302_3, hx302_4, hx303_0, hx303_1, hx303_2, hx303_3, hx303_4⟩ (fun hHeld => ?_); refine with_tabW mjolnerlaw04_LexPrints.tab11 mjolnerlaw04_LexPrints.bits11 (fun HT_ HW_ => ?_)
                generalize w33.drew = w34 at HO_12 HB hx302_0 hx302_1 hx302_2 hx302_3 hx302_4 hx303_0 hx303_1 hx303_2 hx303_3 hx303_4 hHeld ⊢
                refine pure_ (i := 0) (N := some 72) (v := ?_) (a' := ?_) (bm 20 1) rfl rfl (any_of HT_.out (by kernel_rfl)) (fun _ _ _ h => h) (Or.inl ⟨by rfl, ?_⟩) ?_ ?_
                rotate_left
                ·intro w'
                 go_simp
                 with_reducible rfl
                rotate_left
                ·simp only [Act.put, List.setIfInBounds_toArray, List.set_cons_zero, List.set_cons_succ, i64_w, i32_w]
                 rfl
                refine pure_ (i := 1) (N := some 73) (v := ?_) (a' := ?_) (bm 20 3) rfl rfl (any_of HT_.out (by kernel_rfl)) (fun _ _ _ h => h) (Or.inl ⟨by rfl, ?_⟩) ?_ ?_
                rotate_left
                ·intro w'
                 go_simp
                 with_reducible rfl
                rotate_left
                ·simp only [Act.put, List.setIfInBounds_toArray, List.set_cons_zero, List.set_cons_succ, i64_w, i32_w]
                 rfl
                refine pure_ (i := 2) (N := some 74) (v := ?_) (a' := ?_) (bm 20 7) rfl rfl (any_of HT_.out (by kernel_rfl)) (fun _ _ _ h => h) (Or.inl ⟨by rfl, ?_⟩) ?_ ?_
                rotate_left
                ·intro w'
                 go_simp
                 with_reducible rfl
                rotate_left
                ·simp only [Act.put, List.setIfInBounds_toArray, List.set_cons_zero, List.set_cons_succ, i64_w, i32_w]
                 rfl
                refine pure_ (i := 3) (N := some 75) (v := ?_) (a' := ?_) (bm 20 15) rfl rfl (any_of HT_.out (by kernel_rfl)) (fun _ _ _ h => h) (Or.inl ⟨by rfl, ?_⟩) ?_ ?_
                rotate_left
                ·intro w'
                 go_simp
                 with_reducible rfl
                rotate_left
                ·simp only [Act.put, List.setIfInBounds_toArray, List.set_cons_zero, List.set_cons_succ, i64_w, i32_w]
                 rfl
                refine pure_ (i := 4) (N := some 76) (v := ?_) (a' := ?_) (bm 20 31) rfl rfl (any_of HT_.out (by kernel_rfl)) (fun _ _ _ h => h) (Or.inl ⟨by rfl, ?_⟩) ?_ ?_
                rotate_left
                ·intro w'
                 go_simp
                 with_reducible rfl
                rotate_left
                ·simp only [Act.put, List.setIfInBounds_toArray, List.set_cons_zero, List.set_cons_succ, i64_w, i32_w]
                 rfl
                refine pure_ (i := 5) (N := some 77) (v := ?_) (a' := ?_) (bm 20 63) rfl rfl (any_of HT_.out (by kernel_rfl)) (fun _ _ _ h => h) (Or.inl ⟨by rfl, ?_⟩) ?_ ?_
                rotate_left
                ·intro w'
                 go_simp
                 with_reducible rfl
                rotate_left
                ·simp only [Act.put, List.setIfInBounds_toArray, List.set_cons_zero, List.set_cons_succ, i64_w, i32_w]
                 rfl
                refine pure_ (i := 6) (N := some 78) (v := ?_) (a' := ?_) (bm 20 127) rfl rfl (any_of HT_.out (by kernel_rfl)) (fun _ _ _ h => h) (Or.inl ⟨by rfl, ?_⟩) ?_ ?_
                rotate_left
                ·intro w'
                 go_simp
                 with_reducible rfl
                rotate_left
                ·simp only [Act.put, List.setIfInBounds_toArray, List.set_cons_zero, List.set_cons_succ, i64_w, i32_w]
                 rfl
                refine pure_ (i := 7) (N := some 79) (v := ?_) (a' := ?_) (bm 20 255) rfl rfl (any_of HT_.out (by kernel_rfl)) (fun _ _ _ h => h) (Or.inl ⟨by rfl, ?_⟩) ?_ ?_
                rotate_left
                ·intro w'
                 go_simp
                 with_reducible rfl
                rotate_left
                ·simp only [Act.put, List.setIfInBounds_toArray, List.set_cons_zero, List.set_cons_succ, i64_w, i32_w]
                 rfl
                refine pure_ (i := 9) (N := some 81) (v := ?_) (a' := ?_) (bm 20 767) rfl rfl (any_of HT_.out (by kernel_rfl)) (fun _ _ _ h => h) (Or.inl ⟨by rfl, ?_⟩) ?_ ?_
                rotate_left
                ·intro w'
                 go_simp
                 with_reducible rfl
                rotate_left
                ·simp only [Act.put, List.setIfInBounds_toArray, List.set_cons_zero, List.set_cons_succ, i64_w, i32_w]
                 rfl
                refine pure_ (i := 10) (N := some 82) (v := ?_) (a' := ?_) (bm 20 1791) rfl rfl (any_of HT_.out (by kernel_rfl)) (fun _ _ _ h => h) (Or.inl ⟨by rfl, ?_⟩) ?_ ?_
                rotate_left
                ·intro w'
                 go_simp
                 with_reducible rfl
                rotate_left
                ·simp only [Act.put, List.setIfInBounds_toArray, List.set_cons_zero, List.set_cons_succ, i64_w, i32_w]
                 rfl
                refine pure_ (i := 11) (N := some 83) (v := ?_) (a' := ?_) (bm 20 3839) rfl rfl (any_of HT_.out (by kernel_rfl)) (fun _ _ _ h => h) (Or.inl ⟨by rfl, ?_⟩) ?_ ?_
                rotate_left
                ·intro w'
                 go_simp
                 with_reducible rfl
                rotate_left
                ·simp only [Act.put, List.setIfInBounds_toArray, List.set_cons_zero, List.set_cons_succ, i64_w, i32_w]
                 rfl
                refine pure_ (i := 12) (N := some 84) (v := ?_) (a' := ?_) (bm 20 7935) rfl rfl (any_of HT_.out (by kernel_rfl)) (fun _ _ _ h => h) (Or.inl ⟨by rfl, ?_⟩) ?_ ?_
                rotate_left
                ·intro w'
                 go_simp
                 with_reducible rfl
                rotate_left
                ·simp only [Act.put, List.setIfInBounds_toArray, List.set_cons_zero, List.set_cons_succ, i64_w, i32_w]
                 rfl
                refine take_ (i := 8) (N := some 80) (v := ?_) (a' := ?_) (bm 20 8191) rfl rfl (take_ofW HT_.out HW_.out (by kernel_rfl)) (fun _ _ _ h => h) (Or.inl ⟨by rfl, ?_⟩) hHeld ?_ ?_
                rotate_left
                ·rintro w' ⟨s0, s1, s2, s3, s4, s5, s6, s7, s8, s9⟩
                 go_simp
                 with_reducible rfl
                rotate_left
                ·simp only [Act.put, List.setIfInBounds_toArray, List.set_cons_zero, List.set_cons_succ, i64_w, i32_w]
                 rfl
                refine take_ (i := 13) (N := some 85) (v := ?_) (a' := ?_) (bm 20 16383) rfl rfl (take_ofW HT_.out HW_.out (by kernel_rfl)) (fun _ _ _ h => h) (Or.inl ⟨by rfl, ?_⟩) hHeld ?_ ?_
                rotate_left
                ·rintro w' ⟨s0, s1, s2, s3, s4, s5, s6, s7, s8, s9⟩
                 go_simp
                 with_reducible rfl
                rotate_left
                ·simp only [Act.put, List.setIfInBounds_toArray, List.set_cons_zero, List.set_cons_succ, i64_w, i32_w]
                 rfl
                refine pure_ (i := 14) (N := some 86) (v := ?_) (a' := ?_) (bm 20 32767) rfl rfl (any_of HT_.out (by kernel_rfl)) (fun _ _ _ h => h) (Or.inl ⟨by rfl, ?_⟩) ?_ ?_
                rotate_left
                ·intro w'
                 go_simp
                 with_reducible rfl
                rotate_left
                ·simp only [Act.put, List.setIfInBounds_toArray, List.set_cons_zero, List.set_cons_succ, i64_w, i32_w]
                 rfl
                refine pure_ (i := 15) (N := some 87) (v := ?_) (a' := ?_) (bm 20 65535) rfl rfl (any_of HT_.out (by kernel_rfl)) (fun _ _ _ h => h) (Or.inl ⟨by rfl, ?_⟩) ?_ ?_
                rotate_left
                ·intro w'
                 go_simp
                 with_reducible rfl
                rotate_left
                ·simp only [Act.put, List.setIfInBounds_toArray, List.set_cons_zero, List.set_cons_succ, i64_w, i32_w]
                 rfl
                refine pure_ (i := 16) (N := some 88) (v := ?_) (a' := ?_) (bm 20 131071) rfl rfl (any_of HT_.out (by kernel_rfl)) (fun _ _ _ h => h) (Or.inl ⟨by rfl, ?_⟩) ?_ ?_
                rotate_left
                ·intro w'
                 go_simp
                 with_reducible rfl
                rotate_left
                ·simp only [Act.put, List.setIfInBounds_toArray, List.set_cons_zero, List.set_cons_succ, i64_w, i32_w]
                 rfl
                refine pure_ (i := 17) (N := some 89) (v := ?_) (a' := ?_) (bm 20 262143) rfl rfl (any_of HT_.out (by kernel_rfl)) (fun _ _ _ h => h) (Or.inl ⟨by rfl, ?_⟩) ?_ ?_
                rotate_left
                ·intro w'
                 go_simp
                 with_reducible rfl
                rotate_left
                ·simp only [Act.put, List.setIfInBounds_toArray, List.set_cons_zero, List.set_cons_succ, i64_w, i32_w]
                 rfl
                refine pure_ (i := 18) (N := some 90) (v := ?_) (a' := ?_) (bm 20 524287) rfl rfl (any_of HT_.out (by kernel_rfl)) (fun _ _ _ h => h) (Or.inl ⟨by rfl, ?_⟩) ?_ ?_
                rotate_left
                ·intro w'
                 go_simp
                 with_reducible rfl
                rotate_left
                ·simp only [Act.put, List.setIfInBounds_toArray, List.set_cons_zero, List.set_cons_succ, i64_w, i32_w]
                 rfl
                refine pure_ (i := 19) (N := some 91) (v := ?_) (a' := ?_) (bm 20 1048575) rfl rfl (any_of HT_.out (by kernel_rfl)) (fun _ _ _ h => h) (Or.inl ⟨by rfl, ?_⟩) ?_ ?_
                rotate_left
                ·intro w'
                 go_simp
                 with_reducible rfl
                rotate_left
                ·simp only [Act.put, List.setIfInBounds_toArray, List.set_cons_zero, List.set_cons_succ, i64_w, i32_w]
                 rfl
                refine done_ (done_of HT_.out (by kernel_rfl)) ?_
                try go_wp2
                go_roundg kj17
                case measure => have := HJ5.out; have := HK2.out; have := HJ17.out; omega
                case rel => exact ⟨(wrap64 (x15_2 + 1)), (by first | rfl | (simp; done) | (simp [*]; done)), H', ⟨by have := HJ5.out; have := HK2.out; have := HJ17.out; omega⟩, ⟨by (with_reducible repeat (first | apply Kd.R_alloc | apply Kd.R_drewN | apply Kd.R_drew)); exact HO_12.out⟩, ⟨by repeat (first | (with_reducible first | exact HB.out | apply below_alloc | apply pw_below_drewN | apply below_drew1) | exact HB.out)⟩⟩
               ·replace c30 := Bool.eq_false_iff.mpr c30
                subst c30
                have H1 : (some false) = some r := by rw [if_neg (show ¬ (false = true) by decide)] at H; exact H
                clear H
                have H := H1
                clear H1
                first | exact absurd (H.trans (congrArg some HRT.out)) (by simp) | exact absurd (H.trans (congrArg some HRT.out)) (mjolnerlaw04_LexPrints.j0_true _ _ _)
              ·rw [if_neg c29] at H
               have c29b0 : (((rd_T42 t293 (ji22)).f4) == ((rd_T42 t293 x15_2).f3)) = false := beq_eq_false_iff_ne.mpr c29
               have c29b1 : (((rd_T42 t293 (ji22)).f4) != ((rd_T42 t293 x15_2).f3)) = true := bne_iff_ne.mpr c29
               have H' := Aside0.mk H
               clear H
               try go_wp2
               have n0_ := Aside0.mk (Kd.R_drew HO_12.out)
               have n1_ := Aside0.mk (below_drew1 HB.out)
               clear HO_12
               clear HB
               have HO_12 := n0_
               have HB := n1_
               clear n0_ n1_
               obtain ⟨Ao40, co40, eo40⟩ := Kd.R_slice HO_12.out
               (first | subst eo40 | (injection eo40 with f1_ f2_ f3_; have f4_ := f1_.symm; have f5_ := f3_.symm; clear f1_ f2_ f3_; subst f4_; subst f5_))
               have p298 : 0 ≤ ((ji22) : Int) := of_decide_eq_true (by first | (with_reducible assumption) | assumption)
               have q298 : (ji22) < (t293.length : Int) := of_decide_eq_true (by first | (with_reducible assumption) | assumption)
               obtain ⟨ad298, e298, hx298_0, hx298_1, hx298_2, hx298_3, hx298_4⟩ := at_T42 (Kd.R_reads' HO_12.out).2.2 (ji22) p298 q298
               cases e298
               replace p298 := eq_true p298
               replace q298 := eq_true q298
               have p299 : 0 ≤ (x15_2 : Int) := of_decide_eq_true (by first | (with_reducible assumption) | assumption)
               have q299 : x15_2 < (t293.length : Int) := of_decide_eq_true (by first | (with_reducible assumption) | assumption)
               obtain ⟨ad299, e299, hx299_0, hx299_1, hx299_2, hx299_3, hx299_4⟩ := at_T42 (Kd.R_reads' HO_12.out).2.2 x15_2 p299 q299
               obtain rfl : ad298 = ad299 := (by injection e299)
               replace p299 := eq_true p299
               replace q299 := eq_true q299
               refine start_ (n := 15) (S := fun w' => w'.cell? (ad298.add (((ji22)).toNat * 5)) = some (.int .i64 ((rd_T42 t293 (ji22)).f0)) ∧ w'.cell? ⟨(ad298.add (((ji22)).toNat * 5)).block, (ad298.add (((ji22)).toNat * 5)).off + 1, none⟩ = some (.string ((rd_T42 t293 (ji22)).f1)) ∧ w'.cell? ⟨(ad298.add (((ji22)).toNat * 5)).block, (ad298.add (((ji22)).toNat * 5)).off + 2, none⟩ = some (.int .i64 ((rd_T42 t293 (ji22)).f2)) ∧ w'.cell? ⟨(ad298.add (((ji22)).toNat * 5)).block, (ad298.add (((ji22)).toNat * 5)).off + 3, none⟩ = some (.int .i64 ((rd_T42 t293 (ji22)).f3)) ∧ w'.cell? ⟨(ad298.add (((ji22)).toNat * 5)).block, (ad298.add (((ji22)).toNat * 5)).off + 4, none⟩ = some (.int .i64 ((rd_T42 t293 (ji22)).f4)) ∧ w'.cell? (ad298.add ((x15_2).toNat * 5)) = some (.int .i64 ((rd_T42 t293 x15_2).f0)) ∧ w'.cell? ⟨(ad298.add ((x15_2).toNat * 5)).block, (ad298.add ((x15_2).toNat * 5)).off + 1, none⟩ = some (.string ((rd_T42 t293 x15_2).f1)) ∧ w'.cell? ⟨(ad298.add ((x15_2).toNat * 5)).block, (ad298.add ((x15_2).toNat * 5)).off + 2, none⟩ = some (.int .i64 ((rd_T42 t293 x15_2).f2)) ∧ w'.cell? ⟨(ad298.add ((x15_2).toNat * 5)).block, (ad298.add ((x15_2).toNat * 5)).off + 3, none⟩ = some (.int .i64 ((rd_T42 t293 x15_2).f3)) ∧ w'.cell? ⟨(ad298.add ((x15_2).toNat * 5)).block, (ad298.add ((x15_2).toNat * 5)).off + 4, none⟩ = some (.int .i64 ((rd_T42 t293 x15_2).f4))) (ds := []) (bm 15 0) (by kernel_rfl) rfl rfl ⟨hx298_0, hx298_1, hx298_2, hx298_3, hx298_4, hx299_0, hx299_1, hx299_2, hx299_3, hx299_4⟩ (fun hHeld => ?_); refine with_tabW mjolnerlaw04_LexPrints.tab10 mjolnerlaw04_LexPrints.bits10 (fun HT_ HW_ => ?_)
               generalize wc.drew = w39 at HO_12 HB hx298_0 hx298_1 hx298_2 hx298_3 hx298_4 hx299_0 hx299_1 hx299_2 hx299_3 hx299_4 hHeld ⊢
               refine pure_ (i := 0) (N := some 60) (v := ?_) (a' := ?_) (bm 15 1) rfl rfl (any_of HT_.out (by kernel_rfl)) (fun _ _ _ h => h) (Or.inl ⟨by rfl, ?_⟩) ?_ ?_
               rotate_left
               ·intro w'
                go_simp
                with_reducible rfl
               rotate_left
               ·simp only [Act.put, List.setIfInBounds_toArray, List.set_cons_zero, List.set_cons_succ, i64_w, i32_w]
                rfl
               refine pure_ (i := 1) (N := some 61) (v := ?_) (a' := ?_) (bm 15 3) rfl rfl (any_of HT_.out (by kernel_rfl)) (fun _ _ _ h => h) (Or.inl ⟨by rfl, ?_⟩) ?_ ?_
               rotate_left
               ·intro w'
                go_simp
                with_reducible rfl
               rotate_left
               ·simp only [Act.put, List.setIfInBounds_toArray, List.set_cons_zero, List.set_cons_succ, i64_w, i32_w]
                rfl
               refine pure_ (i := 2) (N := some 62) (v := ?_) (a' := ?_) (bm 15 7) rfl rfl (any_of HT_.out (by kernel_rfl)) (fun _ _ _ h => h) (Or.inl ⟨by rfl, ?_⟩) ?_ ?_
               rotate_left
               ·intro w'
                go_simp
                with_reducible rfl
               rotate_left
               ·simp only [Act.put, List.setIfInBounds_toArray, List.set_cons_zero, List.set_cons_succ, i64_w, i32_w]
                rfl
               refine pure_ (i := 3) (N := some 63) (v := ?_) (a' := ?_) (bm 15 15) rfl rfl (any_of HT_.out (by kernel_rfl)) (fun _ _ _ h => h) (Or.inl ⟨by rfl, ?_⟩) ?_ ?_
               rotate_left
               ·intro w'
                go_simp
                with_reducible rfl
               rotate_left
               ·simp only [Act.put, List.setIfInBounds_toArray, List.set_cons_zero, List.set_cons_succ, i64_w, i32_w]
                rfl
               refine pure_ (i := 5) (N := some 65) (v := ?_) (a' := ?_) (bm 15 47) rfl rfl (any_of HT_.out (by kernel_rfl)) (fun _ _ _ h => h) (Or.inl ⟨by rfl, ?_⟩) ?_ ?_
               rotate_left
               ·intro w'
                go_simp
                with_reducible rfl
               rotate_left
               ·simp only [Act.put, List.setIfInBounds_toArray, List.set_cons_zero, List.set_cons_succ, i64_w, i32_w]
                rfl
               refine pure_ (i := 6) (N := some 66) (v := ?_) (a' := ?_) (bm 15 111) rfl rfl (any_of HT_.out (by kernel_rfl)) (fun _ _ _ h => h) (Or.inl ⟨by rfl, ?_⟩) ?_ ?_
               rotate_left
               ·intro w'
                go_simp
                with_reducible rfl
               rotate_left
               ·simp only [Act.put, List.setIfInBounds_toArray, List.set_cons_zero, List.set_cons_succ, i64_w, i32_w]
                rfl
               refine pure_ (i := 7) (N := some 67) (v := ?_) (a' := ?_) (bm 15 239) rfl rfl (any_of HT_.out (by kernel_rfl)) (fun _ _ _ h => h) (Or.inl ⟨by rfl, ?_⟩) ?_ ?_
               rotate_left
               ·intro w'
                go_simp
                with_reducible rfl
               rotate_left
               ·simp only [Act.put, List.setIfInBounds_toArray, List.set_cons_zero, List.set_cons_succ, i64_w, i32_w]
                rfl
               refine take_ (i := 4) (N := some 64) (v := ?_) (a' := ?_) (bm 15 255) rfl rfl (take_ofW HT_.out HW_.out (by kernel_rfl)) (fun _ _ _ h => h) (Or.inl ⟨by rfl, ?_⟩) hHeld ?_ ?_
               rotate_left
               ·rintro w' ⟨s0, s1, s2, s3, s4, s5, s6, s7, s8, s9⟩
                go_simp
                with_reducible rfl
               rotate_left
               ·simp only [Act.put, List.setIfInBounds_toArray, List.set_cons_zero, List.set_cons_succ, i64_w, i32_w]
                rfl
               refine take_ (i := 8) (N := some 68) (v := ?_) (a' := ?_) (bm 15 511) rfl rfl (take_ofW HT_.out HW_.out (by kernel_rfl)) (fun _ _ _ h => h) (Or.inl ⟨by rfl, ?_⟩) hHeld ?_ ?_
               rotate_left
               ·rintro w' ⟨s0, s1, s2, s3, s4, s5, s6, s7, s8, s9⟩
                go_simp
                with_reducible rfl
               rotate_left
               ·simp only [Act.put, List.setIfInBounds_toArray, List.set_cons_zero, List.set_cons_succ, i64_w, i32_w]
                rfl
               refine one_ (i := 9) (N := some 69) (bm 15 1023) rfl rfl (one_of HT_.out (by kernel_rfl)) (by decide) (fun K hK => ?_)
               refine goes_ Tryd.func19 (by kernel_rfl) rfl #[.agg #[.int .i64 ((rd_T42 t293 (ji22)).f0), .string ((rd_T42 t293 (ji22)).f1), .int .i64 ((rd_T42 t293 (ji22)).f2), .int .i64 ((rd_T42 t293 (ji22)).f3), .int .i64 ((rd_T42 t293 (ji22)).f4)], .agg #[.int .i64 ((rd_T42 t293 x15_2).f0), .string ((rd_T42 t293 x15_2).f1), .int .i64 ((rd_T42 t293 x15_2).f2), .int .i64 ((rd_T42 t293 x15_2).f3), .int .i64 ((rd_T42 t293 x15_2).f4)]] (by rfl) rfl rfl (by (try simp only [List.map_toArray, List.map_cons, List.map_nil]); first | done | (simp only [hji22]; rfl) | rfl | (simp only [List.length_drop, List.length_take]; rfl)) ?_
               with_reducible refine (lex_Touch.calls kj17 ((rd_T42 t293 (ji22)).f0) ((rd_T42 t293 (ji22)).f1) ((rd_T42 t293 (ji22)).f2) ((rd_T42 t293 (ji22)).f3) ((rd_T42 t293 (ji22)).f4) ((rd_T42 t293 x15_2).f0) ((rd_T42 t293 x15_2).f1) ((rd_T42 t293 x15_2).f2) ((rd_T42 t293 x15_2).f3) ((rd_T42 t293 x15_2).f4) t300 t301 _ ?side1 A27.out).mono ?_
               (case side1 => exact HG.out _ (by repeat (first | (with_reducible first | exact HB.out | apply below_alloc | apply pw_below_drewN | apply below_drew1) | exact HB.out)))
               rintro e w41 ⟨rfl, hb⟩
               have HS0_ := (hb.cell (World.block_lt_of_cell? _ _ (hHeld.1))).trans (hHeld.1)
               have HS1_ := (hb.cell (World.block_lt_of_cell? _ _ (hHeld.2.1))).trans (hHeld.2.1)
               have HS2_ := (hb.cell (World.block_lt_of_cell? _ _ (hHeld.2.2.1))).trans (hHeld.2.2.1)
               have HS3_ := (hb.cell (World.block_lt_of_cell? _ _ (hHeld.2.2.2.1))).trans (hHeld.2.2.2.1)
               have HS4_ := (hb.cell (World.block_lt_of_cell? _ _ (hHeld.2.2.2.2.1))).trans (hHeld.2.2.2.2.1)
               have HS5_ := (hb.cell (World.block_lt_of_cell? _ _ (hHeld.2.2.2.2.2.1))).trans (hHeld.2.2.2.2.2.1)
               have HS6_ := (hb.cell (World.block_lt_of_cell? _ _ (hHeld.2.2.2.2.2.2.1))).trans (hHeld.2.2.2.2.2.2.1)
               have HS7_ := (hb.cell (World.block_lt_of_cell? _ _ (hHeld.2.2.2.2.2.2.2.1))).trans (hHeld.2.2.2.2.2.2.2.1)
               have HS8_ := (hb.cell (World.block_lt_of_cell? _ _ (hHeld.2.2.2.2.2.2.2.2.1))).trans (hHeld.2.2.2.2.2.2.2.2.1)
               have HS9_ := (hb.cell (World.block_lt_of_cell? _ _ (hHeld.2.2.2.2.2.2.2.2.2))).trans (hHeld.2.2.2.2.2.2.2.2.2)
               refine ⟨_, rfl, ?_⟩
               have n0_ := Aside0.mk (Kd.R_below (by (with_reducible repeat (first | apply Kd.R_alloc | apply Kd.R_drewN | apply Kd.R_drew)); exact HO_12.out) hb)
               have n1_ := Aside0.mk (below_step (by repeat (first | (with_reducible first | exact HB.out | apply below_alloc | apply pw_below_drewN | apply below_drew1) | exact HB.out)) hb)
               clear HO_12
               clear HB
               have HO_12 := n0_
               have HB := n1_
               clear n0_ n1_
               (try clear hb)
               (try clear hb2)
               (try clear hk)
               (try clear hi)
               refine hK.out _ _ ⟨HS0_, HS1_, HS2_, HS3_, HS4_, HS5_, HS6_, HS7_, HS8_, HS9_⟩ (fun hHeld => ?_)
               clear hK K
               refine norm_ (a' := ?_) ?_ ?_
               rotate_left
               ·show Act.put _ (some 69) _ = _
                simp only [Act.put, List.setIfInBounds_toArray, List.set_cons_zero, List.set_cons_succ, i64_w, i32_w]
                rfl
               refine pure_ (i := 10) (N := some 59) (v := ?_) (a' := ?_) (bm 15 2047) rfl rfl (any_of HT_.out (by kernel_rfl)) (fun _ _ _ h => h) (Or.inl ⟨by rfl, ?_⟩) ?_ ?_
               rotate_left
               ·intro w'
                go_simp
                with_reducible rfl
               rotate_left
               ·simp only [Act.put, List.setIfInBounds_toArray, List.set_cons_zero, List.set_cons_succ, i64_w, i32_w]
                rfl
               refine pure_ (i := 11) (N := some 70) (v := ?_) (a' := ?_) (bm 15 4095) rfl rfl (any_of HT_.out (by kernel_rfl)) (fun _ _ _ h => h) (Or.inl ⟨by rfl, ?_⟩) ?_ ?_
               rotate_left
               ·intro w'
                go_simp
                with_reducible rfl
               rotate_left
               ·simp only [Act.put, List.setIfInBounds_toArray, List.set_cons_zero, List.set_cons_succ, i64_w, i32_w]
                rfl
               refine pure_ (i := 12) (N := some 71) (v := ?_) (a' := ?_) (bm 15 8191) rfl rfl (any_of HT_.out (by kernel_rfl)) (fun _ _ _ h => h) (Or.inl ⟨by rfl, ?_⟩) ?_ ?_
               rotate_left
               ·intro w'
                go_simp
                with_reducible rfl
               rotate_left
               ·simp only [Act.put, List.setIfInBounds_toArray, List.set_cons_zero, List.set_cons_succ, i64_w, i32_w]
                rfl
               refine pure_ (i := 13) (N := some 16) (v := ?_) (a' := ?_) (bm 15 16383) rfl rfl (any_of HT_.out (by kernel_rfl)) (fun _ _ _ h => h) (Or.inl ⟨by rfl, ?_⟩) ?_ ?_
               rotate_left
               ·intro w'
                go_simp
                with_reducible rfl
               rotate_left
               ·simp only [Act.put, List.setIfInBounds_toArray, List.set_cons_zero, List.set_cons_succ, i64_w, i32_w]
                rfl
               refine pure_ (i := 14) (N := some 17) (v := ?_) (a' := ?_) (bm 15 32767) rfl rfl (any_of HT_.out (by kernel_rfl)) (fun _ _ _ h => h) (Or.inl ⟨by rfl, ?_⟩) ?_ ?_
               rotate_left
               ·intro w'
                go_simp
                with_reducible rfl
               rotate_left
               ·simp only [Act.put, List.setIfInBounds_toArray, List.set_cons_zero, List.set_cons_succ, i64_w, i32_w]
                rfl
               refine done_ (done_of HT_.out (by kernel_rfl)) ?_
               try go_wp2
               have n0_ := Aside0.mk (Kd.R_drew HO_12.out)
               have n1_ := Aside0.mk (below_drew1 HB.out)
               clear HO_12
               clear HB
               have HO_12 := n0_
               have HB := n1_
               clear n0_ n1_
               have p302 : 0 ≤ ((ji22) : Int) := of_decide_eq_true (by first | (with_reducible assumption) | assumption)
               have q302 : (ji22) < (t293.length : Int) := of_decide_eq_true (by first | (with_reducible assumption) | assumption)
               obtain ⟨ad302, e302, hx302_0, hx302_1, hx302_2, hx302_3, hx302_4⟩ := at_T42 (Kd.R_reads' HO_12.out).2.2 (ji22) p302 q302
               obtain rfl : ad298 = ad302 := (by injection e302)
               replace p302 := eq_true p302
               replace q302 := eq_true q302
               have p303 : 0 ≤ (x15_2 : Int) := of_decide_eq_true (by first | (with_reducible assumption) | assumption)
               have q303 : x15_2 < (t293.length : Int) := of_decide_eq_true (by first | (with_reducible assumption) | assumption)
               obtain ⟨ad303, e303, hx303_0, hx303_1, hx303_2, hx303_3, hx303_4⟩ := at_T42 (Kd.R_reads' HO_12.out).2.2 x15_2 p303 q303
               obtain rfl : ad298 = ad303 := (by injection e303)
               replace p303 := eq_true p303
               replace q303 := eq_true q303
               refine start_ (n := 20) (S := fun w' => w'.cell? (ad298.add (((ji22)).toNat * 5)) = some (.int .i64 ((rd_T42 t293 (ji22)).f0)) ∧ w'.cell? ⟨(ad298.add (((ji22)).toNat * 5)).block, (ad298.add (((ji22)).toNat * 5)).off + 1, none⟩ = some (.string ((rd_T42 t293 (ji22)).f1)) ∧ w'.cell? ⟨(ad298.add (((ji22)).toNat * 5)).block, (ad298.add (((ji22)).toNat * 5)).off + 2, none⟩ = some (.int .i64 ((rd_T42 t293 (ji22)).f2)) ∧ w'.cell? ⟨(ad298.add (((ji22)).toNat * 5)).block, (ad298.add (((ji22)).toNat * 5)).off + 3, none⟩ = some (.int .i64 ((rd_T42 t293 (ji22)).f3)) ∧ w'.cell? ⟨(ad298.add (((ji22)).toNat * 5)).block, (ad298.add (((ji22)).toNat * 5)).off + 4, none⟩ = some (.int .i64 ((rd_T42 t293 (ji22)).f4)) ∧ w'.cell? (ad298.add ((x15_2).toNat * 5)) = some (.int .i64 ((rd_T42 t293 x15_2).f0)) ∧ w'.cell? ⟨(ad298.add ((x15_2).toNat * 5)).block, (ad298.add ((x15_2).toNat * 5)).off + 1, none⟩ = some (.string ((rd_T42 t293 x15_2).f1)) ∧ w'.cell? ⟨(ad298.add ((x15_2).toNat * 5)).block, (ad298.add ((x15_2).toNat * 5)).off + 2, none⟩ = some (.int .i64 ((rd_T42 t293 x15_2).f2)) ∧ w'.cell? ⟨(ad298.add ((x15_2).toNat * 5)).block, (ad298.add ((x15_2).toNat * 5)).off + 3, none⟩ = some (.int .i64 ((rd_T42 t293 x15_2).f3)) ∧ w'.cell? ⟨(ad298.add ((x15_2).toNat * 5)).block, (ad298.add ((x15_2).toNat * 5)).off + 4, none⟩ = some (.int .i64 ((rd_T42 t293 x15_2).f4))) (ds := []) (bm 20 0) (by kernel_rfl) rfl rfl ⟨hx302_0, hx302_1, hx302_2, hx302_3, hx302_4, hx303_0, hx303_1, hx303_2, hx303_3, hx303_4⟩ (fun hHeld => ?_); refine with_tabW mjolnerlaw04_LexPrints.tab11 mjolnerlaw04_LexPrints.bits11 (fun HT_ HW_ => ?_)
               generalize w41.drew = w42 at HO_12 HB hx302_0 hx302_1 hx302_2 hx302_3 hx302_4 hx303_0 hx303_1 hx303_2 hx303_3 hx303_4 hHeld ⊢
               refine pure_ (i := 0) (N := some 72) (v := ?_) (a' := ?_) (bm 20 1) rfl rfl (any_of HT_.out (by kernel_rfl)) (fun _ _ _ h => h) (Or.inl ⟨by rfl, ?_⟩) ?_ ?_
               rotate_left
               ·intro w'
                go_simp
                with_reducible rfl
               rotate_left
               ·simp only [Act.put, List.setIfInBounds_toArray, List.set_cons_zero, List.set_cons_succ, i64_w, i32_w]
                rfl
               refine pure_ (i := 1) (N := some 73) (v := ?_) (a' := ?_) (bm 20 3) rfl rfl (any_of HT_.out (by kernel_rfl)) (fun _ _ _ h => h) (Or.inl ⟨by rfl, ?_⟩) ?_ ?_
               rotate_left
               ·intro w'
                go_simp
                with_reducible rfl
               rotate_left
               ·simp only [Act.put, List.setIfInBounds_toArray, List.set_cons_zero, List.set_cons_succ, i64_w, i32_w]
                rfl
               refine pure_ (i := 2) (N := some 74) (v := ?_) (a' := ?_) (bm 20 7) rfl rfl (any_of HT_.out (by kernel_rfl)) (fun _ _ _ h => h) (Or.inl ⟨by rfl, ?_⟩) ?_ ?_
               rotate_left
               ·intro w'
                go_simp
                with_reducible rfl
               rotate_left
               ·simp only [Act.put, List.setIfInBounds_toArray, List.set_cons_zero, List.set_cons_succ, i64_w, i32_w]
                rfl
               refine pure_ (i := 3) (N := some 75) (v := ?_) (a' := ?_) (bm 20 15) rfl rfl (any_of HT_.out (by kernel_rfl)) (fun _ _ _ h => h) (Or.inl ⟨by rfl, ?_⟩) ?_ ?_
               rotate_left
               ·intro w'
                go_simp
                with_reducible rfl
               rotate_left
               ·simp only [Act.put, List.setIfInBounds_toArray, List.set_cons_zero, List.set_cons_succ, i64_w, i32_w]
                rfl
               refine pure_ (i := 4) (N := some 76) (v := ?_) (a' := ?_) (bm 20 31) rfl rfl (any_of HT_.out (by kernel_rfl)) (fun _ _ _ h => h) (Or.inl ⟨by rfl, ?_⟩) ?_ ?_
               rotate_left
               ·intro w'
                go_simp
                with_reducible rfl
               rotate_left
               ·simp only [Act.put, List.setIfInBounds_toArray, List.set_cons_zero, List.set_cons_succ, i64_w, i32_w]
                rfl
               refine pure_ (i := 5) (N := some 77) (v := ?_) (a' := ?_) (bm 20 63) rfl rfl (any_of HT_.out (by kernel_rfl)) (fun _ _ _ h => h) (Or.inl ⟨by rfl, ?_⟩) ?_ ?_
               rotate_left
               ·intro w'
                go_simp
                with_reducible rfl
               rotate_left
               ·simp only [Act.put, List.setIfInBounds_toArray, List.set_cons_zero, List.set_cons_succ, i64_w, i32_w]
                rfl
               refine pure_ (i := 6) (N := some 78) (v := ?_) (a' := ?_) (bm 20 127) rfl rfl (any_of HT_.out (by kernel_rfl)) (fun _ _ _ h => h) (Or.inl ⟨by rfl, ?_⟩) ?_ ?_
               rotate_left
               ·intro w'
                go_simp
                with_reducible rfl
               rotate_left
               ·simp only [Act.put, List.setIfInBounds_toArray, List.set_cons_zero, List.set_cons_succ, i64_w, i32_w]
                rfl
               refine pure_ (i := 7) (N := some 79) (v := ?_) (a' := ?_) (bm 20 255) rfl rfl (any_of HT_.out (by kernel_rfl)) (fun _ _ _ h => h) (Or.inl ⟨by rfl, ?_⟩) ?_ ?_
               rotate_left
               ·intro w'
                go_simp
                with_reducible rfl
               rotate_left
               ·simp only [Act.put, List.setIfInBounds_toArray, List.set_cons_zero, List.set_cons_succ, i64_w, i32_w]
                rfl
               refine pure_ (i := 9) (N := some 81) (v := ?_) (a' := ?_) (bm 20 767) rfl rfl (any_of HT_.out (by kernel_rfl)) (fun _ _ _ h => h) (Or.inl ⟨by rfl, ?_⟩) ?_ ?_
               rotate_left
               ·intro w'
                go_simp
                with_reducible rfl
               rotate_left
               ·simp only [Act.put, List.setIfInBounds_toArray, List.set_cons_zero, List.set_cons_succ, i64_w, i32_w]
                rfl
               refine pure_ (i := 10) (N := some 82) (v := ?_) (a' := ?_) (bm 20 1791) rfl rfl (any_of HT_.out (by kernel_rfl)) (fun _ _ _ h => h) (Or.inl ⟨by rfl, ?_⟩) ?_ ?_
               rotate_left
               ·intro w'
                go_simp
                with_reducible rfl
               rotate_left
               ·simp only [Act.put, List.setIfInBounds_toArray, List.set_cons_zero, List.set_cons_succ, i64_w, i32_w]
                rfl
               refine pure_ (i := 11) (N := some 83) (v := ?_) (a' := ?_) (bm 20 3839) rfl rfl (any_of HT_.out (by kernel_rfl)) (fun _ _ _ h => h) (Or.inl ⟨by rfl, ?_⟩) ?_ ?_
               rotate_left
               ·intro w'
                go_simp
                with_reducible rfl
               rotate_left
               ·simp only [Act.put, List.setIfInBounds_toArray, List.set_cons_zero, List.set_cons_succ, i64_w, i32_w]
                rfl
               refine pure_ (i := 12) (N := some 84) (v := ?_) (a' := ?_) (bm 20 7935) rfl rfl (any_of HT_.out (by kernel_rfl)) (fun _ _ _ h => h) (Or.inl ⟨by rfl, ?_⟩) ?_ ?_
               rotate_left
               ·intro w'
                go_simp
                with_reducible rfl
               rotate_left
               ·simp only [Act.put, List.setIfInBounds_toArray, List.set_cons_zero, List.set_cons_succ, i64_w, i32_w]
                rfl
               refine take_ (i := 8) (N := some 80) (v := ?_) (a' := ?_) (bm 20 8191) rfl rfl (take_ofW HT_.out HW_.out (by kernel_rfl)) (fun _ _ _ h => h) (Or.inl ⟨by rfl, ?_⟩) hHeld ?_ ?_
               rotate_left
               ·rintro w' ⟨s0, s1, s2, s3, s4, s5, s6, s7, s8, s9⟩
                go_simp
                with_reducible rfl
               rotate_left
               ·simp only [Act.put, List.setIfInBounds_toArray, List.set_cons_zero, List.set_cons_succ, i64_w, i32_w]
                rfl
               refine take_ (i := 13) (N := some 85) (v := ?_) (a' := ?_) (bm 20 16383) rfl rfl (take_ofW HT_.out HW_.out (by kernel_rfl)) (fun _ _ _ h => h) (Or.inl ⟨by rfl, ?_⟩) hHeld ?_ ?_
               rotate_left
               ·rintro w' ⟨s0, s1, s2, s3, s4, s5, s6, s7, s8, s9⟩
                go_simp
                with_reducible rfl
               rotate_left
               ·simp only [Act.put, List.setIfInBounds_toArray, List.set_cons_zero, List.set_cons_succ, i64_w, i32_w]
                rfl
               refine pure_ (i := 14) (N := some 86) (v := ?_) (a' := ?_) (bm 20 32767) rfl rfl (any_of HT_.out (by kernel_rfl)) (fun _ _ _ h => h) (Or.inl ⟨by rfl, ?_⟩) ?_ ?_
               rotate_left
               ·intro w'
                go_simp
                with_reducible rfl
               rotate_left
               ·simp only [Act.put, List.setIfInBounds_toArray, List.set_cons_zero, List.set_cons_succ, i64_w, i32_w]
                rfl
               refine pure_ (i := 15) (N := some 87) (v := ?_) (a' := ?_) (bm 20 65535) rfl rfl (any_of HT_.out (by kernel_rfl)) (fun _ _ _ h => h) (Or.inl ⟨by rfl, ?_⟩) ?_ ?_
               rotate_left
               ·intro w'
                go_simp
                with_reducible rfl
               rotate_left
               ·simp only [Act.put, List.setIfInBounds_toArray, List.set_cons_zero, List.set_cons_succ, i64_w, i32_w]
                rfl
               refine pure_ (i := 16) (N := some 88) (v := undef) (a' := ?_) (bm 20 131071) rfl rfl (any_of HT_.out (by kernel_rfl)) (fun _ _ _ h => h) (Or.inr ⟨by rfl, rfl⟩) ?_ ?_
               rotate_left
               ·simp only [Act.put, List.setIfInBounds_toArray, List.set_cons_zero, List.set_cons_succ, i64_w, i32_w]
                rfl
               refine pure_ (i := 17) (N := some 89) (v := undef) (a' := ?_) (bm 20 262143) rfl rfl (any_of HT_.out (by kernel_rfl)) (fun _ _ _ h => h) (Or.inr ⟨by rfl, rfl⟩) ?_ ?_
               rotate_left
               ·simp only [Act.put, List.setIfInBounds_toArray, List.set_cons_zero, List.set_cons_succ, i64_w, i32_w]
                rfl
               refine pure_ (i := 18) (N := some 90) (v := ?_) (a' := ?_) (bm 20 524287) rfl rfl (any_of HT_.out (by kernel_rfl)) (fun _ _ _ h => h) (Or.inl ⟨by rfl, ?_⟩) ?_ ?_
               rotate_left
               ·intro w'
                go_simp
                with_reducible rfl
               rotate_left
               ·simp only [Act.put, List.setIfInBounds_toArray, List.set_cons_zero, List.set_cons_succ, i64_w, i32_w]
                rfl
               refine pure_ (i := 19) (N := some 91) (v := ?_) (a' := ?_) (bm 20 1048575) rfl rfl (any_of HT_.out (by kernel_rfl)) (fun _ _ _ h => h) (Or.inl ⟨by rfl, ?_⟩) ?_ ?_
               rotate_left
               ·intro w'
                go_simp
                with_reducible rfl
               rotate_left
               ·simp only [Act.put, List.setIfInBounds_toArray, List.set_cons_zero, List.set_cons_succ, i64_w, i32_w]
                rfl
               refine done_ (done_of HT_.out (by kernel_rfl)) ?_
               try go_wp2
               go_roundg kj17
               case measure => have := HJ5.out; have := HK2.out; have := HJ17.out; omega
               case rel => exact ⟨(wrap64 (x15_2 + 1)), (by first | rfl | (simp; done) | (simp [*]; done)), H', ⟨by have := HJ5.out; have := HK2.out; have := HJ17.out; omega⟩, ⟨by (with_reducible repeat (first | apply Kd.R_alloc | apply Kd.R_drewN | apply Kd.R_drew)); exact HO_12.out⟩, ⟨by repeat (first | (with_reducible first | exact HB.out | apply below_alloc | apply pw_below_drewN | apply below_drew1) | exact HB.out)⟩⟩
             ·rw [if_neg c28] at H
              first | exact absurd (H.trans (congrArg some HRT.out)) (by simp) | exact absurd (H.trans (congrArg some HRT.out)) (mjolnerlaw04_LexPrints.j0_true _ _ _)
            ·rw [if_neg c26] at H
             exact absurd H (by simp)
           ·rw [if_neg c25] at H
            exact absurd H (by simp)
          ·rw [if_neg c24] at H
           exact absurd H (by simp)
         ·rw [if_neg c23] at H
          exact absurd H (by simp)
        ·replace c21 := Bool.eq_false_iff.mpr c21
         subst c21
         have H1 : (some t283) = some r := by rw [if_neg (show ¬ (false = true) by decide)] at H; exact H
         clear H
         have H := H1
         clear H1
         obtain rfl := Option.some.inj H
         go_wp2
         go_ret
         exact ⟨by first | rfl | (simp [errW_none, errW_some] <;> rfl) | (simp [*, errW_none, errW_some] <;> rfl), by repeat (first | (with_reducible first | exact HB.out | apply below_alloc | apply pw_below_drewN | apply below_drew1) | exact HB.out)⟩

end Go.Proofs.YtniihjhlkpjnoaaDoor.PV
