-- Written by a program of mine (wip/print_given.sh: the kit's print, changed so that some functions are given by contracts).
-- (made short by wip/short.py)
import Derived.Test.YtniihjhlkpjnoaaDoorJ2
import Derived.Test.YtniihjhlkpjnoaaDoorJ12
import Derived.Test.YtniihjhlkpjnoaaDoorPVx7
import Derived.Test.YtniihjhlkpjnoaaDoorPVx8
import Derived.Test.YtniihjhlkpjnoaaDoorPVx9
import Derived.Test.YtniihjhlkpjnoaaDoorJ11
namespace Go.Proofs.YtniihjhlkpjnoaaDoor.PV
open Go.RowKit Go.Proofs.YtniihjhlkpjnoaaDoor.Given Go.Proofs.YtniihjhlkpjnoaaDoorW.PrintWords Go.Proofs.YtniihjhlkpjnoaaDoorW.PrintLast Go.Proofs.YtniihjhlkpjnoaaDoorW.PrintMore
attribute [local go_sem] max2_int min2_int max_two min_two max_three min_three max_four min_four   -- for this text's walks alone
set_option linter.unusedVariables false
set_option linter.unusedSimpArgs false

attribute [local go_sem high] eqA29
/-! ### mjolnerlaw04_LexPieces: function 3 -/
def mjolnerlaw04_LexPieces.j0 : Nat → Bool → List (S42) → Int → Int → List (S42) → Int → Int → Bool → Int → ByteArray → Int → Option (Bool)
 | 0, _, _, _, _, _, _, _, _, _, _, _ => none
 | k + 1, x7, x8, x9, x10, x11, x13, x14, x66, x217000, x217001, x217002 => if x66 = true then (some false) else (if x13 = 0 then ((lex_Finish.f x217000 x217001 x217002).bind fun bt227 => (if bt227.2.1 = 0 then (if x7 = true then (if x9 = 0 then (if x11.length + bt227.1.length < 2932031007402 then ((mjolnerref04_Exact.f k (x11 ++ bt227.1) x8).bind fun t235 => (some t235)) else (none)) else (some false)) else (some false)) else (if x7 = true then (if x9 = bt227.2.1 then (some (x10 == bt227.2.2)) else (some false)) else (some false)))) else (if x7 = true then (if x9 = x13 then (some (x10 == x14)) else (some false)) else (some false)))
def mjolnerlaw04_LexPieces.f (k : Nat) (a0 : ByteArray) (l1 : List Int) (l2 : List Int) : Option (Bool) := (mjolnerlaw04_sane.f k).bind fun t202 => (if (a0.size : Int) > 400 then (some t202) else ((lex_Lex.f a0).bind fun bt203 => ((mjolnerlaw04_fed.f k a0 l1).bind fun bt208 => ((mjolnerlaw04_fed.f k a0 l2).bind fun bt217 => (if bt208.2.2.2.2.1 = bt217.2.2.2.2.1 then (if (!(bt208.2.1 == bt217.2.1) || (!(bt208.2.2.1.toList == bt217.2.2.1.toList) || (!(bt208.2.2.2.1 == bt217.2.2.2.1)))) = true then (mjolnerlaw04_LexPieces.j0 k t202 bt203.1 bt203.2.1 bt203.2.2 bt208.1 bt208.2.2.2.2.1 bt208.2.2.2.2.2 true bt208.2.1 bt208.2.2.1 bt208.2.2.2.1) else (if bt208.2.2.2.2.1 = 0 then ((mjolnerref04_Exact.f k bt208.1 bt217.1).bind fun t226 => (mjolnerlaw04_LexPieces.j0 k t202 bt203.1 bt203.2.1 bt203.2.2 bt208.1 bt208.2.2.2.2.1 bt208.2.2.2.2.2 (!t226) bt208.2.1 bt208.2.2.1 bt208.2.2.2.1)) else (mjolnerlaw04_LexPieces.j0 k t202 bt203.1 bt203.2.1 bt203.2.2 bt208.1 bt208.2.2.2.2.1 bt208.2.2.2.2.2 false bt208.2.1 bt208.2.2.1 bt208.2.2.2.1))) else (mjolnerlaw04_LexPieces.j0 k t202 bt203.1 bt203.2.1 bt203.2.2 bt208.1 bt208.2.2.2.2.1 bt208.2.2.2.2.2 true bt208.2.1 bt208.2.2.1 bt208.2.2.2.1))))))
theorem mjolnerlaw04_LexPieces.mono_l : ∀ k, (∀ y0 y1 y2 y3 y4 y5 y6 y7 y8 y9 y10, LeO (mjolnerlaw04_LexPieces.j0 k y0 y1 y2 y3 y4 y5 y6 y7 y8 y9 y10) (mjolnerlaw04_LexPieces.j0 (k + 1) y0 y1 y2 y3 y4 y5 y6 y7 y8 y9 y10))
 | 0 => fun _ _ _ _ _ _ _ _ _ _ _ r h => by simp [mjolnerlaw04_LexPieces.j0] at h
 | k + 1 => by
  have ih0 := mjolnerlaw04_LexPieces.mono_l k
  ·intro y0 y1 y2 y3 y4 y5 y6 y7 y8 y9 y10
   unfold mjolnerlaw04_LexPieces.j0
   repeat' first
   | (with_reducible exact ih0 _ _ _ _ _ _ _ _ _ _ _)
   | (with_reducible exact mjolnerlaw04_fed.mono _ _ _)
   | (with_reducible exact mjolnerlaw04_sane.mono _)
   | (with_reducible exact mjolnerref04_Exact.mono _ _ _)
   | (with_reducible exact LeO.refl _)
   | (with_reducible exact LeO.none _)
   | (with_reducible refine LeO.ite ?_ ?_)
   | (with_reducible refine LeO.bind ?_ (fun _ => ?_))
   | exact ih0 _ _ _ _ _ _ _ _ _ _ _
   | exact mjolnerlaw04_fed.mono _ _ _
   | exact mjolnerlaw04_sane.mono _
   | exact mjolnerref04_Exact.mono _ _ _
   | exact LeO.none _
   | refine LeO.ite ?_ ?_
   | refine LeO.bind ?_ (fun _ => ?_)
theorem mjolnerlaw04_LexPieces.mono : ∀ a0 a1 a2 k, LeO (mjolnerlaw04_LexPieces.f k a0 a1 a2) (mjolnerlaw04_LexPieces.f (k + 1) a0 a1 a2) := by
 intro a0 a1 a2 k
 have ih0 := mjolnerlaw04_LexPieces.mono_l k
 unfold mjolnerlaw04_LexPieces.f
 repeat' first
   | (with_reducible exact ih0 _ _ _ _ _ _ _ _ _ _ _)
   | (with_reducible exact mjolnerlaw04_fed.mono _ _ _)
   | (with_reducible exact mjolnerlaw04_sane.mono _)
   | (with_reducible exact mjolnerref04_Exact.mono _ _ _)
   | (with_reducible exact LeO.refl _)
   | (with_reducible exact LeO.none _)
   | (with_reducible refine LeO.ite ?_ ?_)
   | (with_reducible refine LeO.bind ?_ (fun _ => ?_))
   | exact ih0 _ _ _ _ _ _ _ _ _ _ _
   | exact mjolnerlaw04_fed.mono _ _ _
   | exact mjolnerlaw04_sane.mono _
   | exact mjolnerref04_Exact.mono _ _ _
   | exact LeO.none _
   | refine LeO.ite ?_ ?_
   | refine LeO.bind ?_ (fun _ => ?_)
theorem mjolnerlaw04_LexPieces.j0_true : ∀ k y0 y1 y2 y3 y4 y5 y6 y8 y9 y10, mjolnerlaw04_LexPieces.j0 k y0 y1 y2 y3 y4 y5 y6 true y8 y9 y10 ≠ some true := by
 intro k y0 y1 y2 y3 y4 y5 y6 y8 y9 y10
 cases k with
 | zero => rw [mjolnerlaw04_LexPieces.j0]; intro h; cases h
 | succ k => rw [mjolnerlaw04_LexPieces.j0, if_pos rfl]; intro h; cases h
set_option maxHeartbeats 8000000 in
set_option maxRecDepth 100000 in
theorem mjolnerlaw04_LexPieces.calls (k : Nat) (a0 : ByteArray) (A1 : Option Addr) (c1 : Nat) (l1 : List Int) (A2 : Option Addr) (c2 : Nat) (l2 : List Int) (r : Bool) (w : World) (hG : LaidG w) (hr1 : Kd.C (Kd.int .i64) w A1 l1.length l1) (hc1 : l1.length ≤ c1) (hr2 : Kd.C (Kd.int .i64) w A2 l2.length l2) (hc2 : l2.length ≤ c2) (h : mjolnerlaw04_LexPieces.f k a0 l1 l2 = some r) (hr : r = true) :
  Calls Tryd.prog 3 #[.string a0, .slice A1 l1.length c1, .slice A2 l2.length c2] w fun e w' => e = .returned (.bool r) ∧ Below w.heap.size w w' := by
 have hu29 := Tryd.underlying29
 have HR1 := Aside0.mk hr1
 have HC1 := Aside0.mk hc1
 clear hr1 hc1
 have HR2 := Aside0.mk hr2
 have HC2 := Aside0.mk hc2
 clear hr2 hc2
 have HB := Aside0.mk (Below.refl w.heap.size w)
 have HG := Aside0.mk (LaidG.keep hG)
 clear hG
 have HRT := Aside0.mk hr
 clear hr
 have H : ((mjolnerlaw04_sane.f k).bind fun t202 => (if (a0.size : Int) > 400 then (some t202) else ((lex_Lex.f a0).bind fun bt203 => ((mjolnerlaw04_fed.f k a0 l1).bind fun bt208 => ((mjolnerlaw04_fed.f k a0 l2).bind fun bt217 => (if bt208.2.2.2.2.1 = bt217.2.2.2.2.1 then (if (!(bt208.2.1 == bt217.2.1) || (!(bt208.2.2.1.toList == bt217.2.2.1.toList) || (!(bt208.2.2.2.1 == bt217.2.2.2.1)))) = true then (mjolnerlaw04_LexPieces.j0 k t202 bt203.1 bt203.2.1 bt203.2.2 bt208.1 bt208.2.2.2.2.1 bt208.2.2.2.2.2 true bt208.2.1 bt208.2.2.1 bt208.2.2.2.1) else (if bt208.2.2.2.2.1 = 0 then ((mjolnerref04_Exact.f k bt208.1 bt217.1).bind fun t226 => (mjolnerlaw04_LexPieces.j0 k t202 bt203.1 bt203.2.1 bt203.2.2 bt208.1 bt208.2.2.2.2.1 bt208.2.2.2.2.2 (!t226) bt208.2.1 bt208.2.2.1 bt208.2.2.2.1)) else (mjolnerlaw04_LexPieces.j0 k t202 bt203.1 bt203.2.1 bt203.2.2 bt208.1 bt208.2.2.2.2.1 bt208.2.2.2.2.2 false bt208.2.1 bt208.2.2.1 bt208.2.2.2.1))) else (mjolnerlaw04_LexPieces.j0 k t202 bt203.1 bt203.2.1 bt203.2.2 bt208.1 bt208.2.2.2.2.1 bt208.2.2.2.2.2 true bt208.2.1 bt208.2.2.1 bt208.2.2.2.1))))))) = some r := h
 clear h
 replace H := Option.bind_eq_some_iff.mp H
 obtain ⟨t202, A40, H⟩ := H
 replace H : (if (a0.size : Int) > 400 then (some t202) else ((lex_Lex.f a0).bind fun bt203 => ((mjolnerlaw04_fed.f k a0 l1).bind fun bt208 => ((mjolnerlaw04_fed.f k a0 l2).bind fun bt217 => (if bt208.2.2.2.2.1 = bt217.2.2.2.2.1 then (if (!(bt208.2.1 == bt217.2.1) || (!(bt208.2.2.1.toList == bt217.2.2.1.toList) || (!(bt208.2.2.2.1 == bt217.2.2.2.1)))) = true then (mjolnerlaw04_LexPieces.j0 k t202 bt203.1 bt203.2.1 bt203.2.2 bt208.1 bt208.2.2.2.2.1 bt208.2.2.2.2.2 true bt208.2.1 bt208.2.2.1 bt208.2.2.2.1) else (if bt208.2.2.2.2.1 = 0 then ((mjolnerref04_Exact.f k bt208.1 bt217.1).bind fun t226 => (mjolnerlaw04_LexPieces.j0 k t202 bt203.1 bt203.2.1 bt203.2.2 bt208.1 bt208.2.2.2.2.1 bt208.2.2.2.2.2 (!t226) bt208.2.1 bt208.2.2.1 bt208.2.2.2.1)) else (mjolnerlaw04_LexPieces.j0 k t202 bt203.1 bt203.2.1 bt203.2.2 bt208.1 bt208.2.2.2.2.1 bt208.2.2.2.2.2 false bt208.2.1 bt208.2.2.1 bt208.2.2.2.1))) else (mjolnerlaw04_LexPieces.j0 k t202 bt203.1 bt203.2.1 bt203.2.2 bt208.1 bt208.2.2.2.2.1 bt208.2.2.2.2.2 true bt208.2.1 bt208.2.2.1 bt208.2.2.2.1)))))) = some r := H
 have A4 := Aside0.mk A40
 clear A40
 by_cases c5 : (a0.size : Int) > 400
 ·rw [if_pos c5] at H
  have c5b0 : decide (400 < (a0.size : Int)) = true := decide_eq_true c5
  have c5b1 : decide (400 < a0.size) = true := decide_eq_true (by omega)
  clear c5
  obtain rfl := Option.some.inj H
  go_enter Tryd.func3, Tryd.ntmps3
  go_wp2_with (first | ((with_reducible refine gate_callee (f := 10) rfl ?_); refine goesL_ (some 22) rfl rfl Tryd.func10 (by kernel_rfl) rfl #[] rfl (by (try simp only [List.map_toArray, List.map_cons, List.map_nil]); first | done | rfl | (simp only [List.length_drop, List.length_take]; rfl)) ?_; (with_reducible refine (mjolnerlaw04_sane.calls k  t202 _ ?side1 A4.out).mono ?_); (case side1 => exact HG.out _ (by repeat (first | (with_reducible first | exact HB.out | apply below_alloc | apply pw_below_drewN | apply below_drew1) | exact HB.out))); rintro e w6 ⟨rfl, hb⟩; refine ⟨_, rfl, ?_⟩; have n0_ := Aside0.mk (below_step (by repeat (first | (with_reducible first | exact HB.out | apply below_alloc | apply pw_below_drewN | apply below_drew1) | exact HB.out)) hb); clear HB; have HB := n0_; clear n0_; (try clear hb); (try clear hb2); (try clear hk); (try clear hi)))
  go_ret
  exact ⟨by first | rfl | (simp [errW_none, errW_some] <;> rfl) | (simp [*, errW_none, errW_some] <;> rfl), by repeat (first | (with_reducible first | exact HB.out | apply below_alloc | apply pw_below_drewN | apply below_drew1) | exact HB.out)⟩
 ·rw [if_neg c5] at H
  have c5b0 : decide (400 < (a0.size : Int)) = false := decide_eq_false c5
  have c5b1 : decide (400 < a0.size) = false := decide_eq_false (by omega)
  clear c5
  replace H := Option.bind_eq_some_iff.mp H
  obtain ⟨⟨t203, t204, t205⟩, A70, H⟩ := H
  replace H : ((mjolnerlaw04_fed.f k a0 l1).bind fun bt208 => ((mjolnerlaw04_fed.f k a0 l2).bind fun bt217 => (if bt208.2.2.2.2.1 = bt217.2.2.2.2.1 then (if (!(bt208.2.1 == bt217.2.1) || (!(bt208.2.2.1.toList == bt217.2.2.1.toList) || (!(bt208.2.2.2.1 == bt217.2.2.2.1)))) = true then (mjolnerlaw04_LexPieces.j0 k t202 t203 t204 t205 bt208.1 bt208.2.2.2.2.1 bt208.2.2.2.2.2 true bt208.2.1 bt208.2.2.1 bt208.2.2.2.1) else (if bt208.2.2.2.2.1 = 0 then ((mjolnerref04_Exact.f k bt208.1 bt217.1).bind fun t226 => (mjolnerlaw04_LexPieces.j0 k t202 t203 t204 t205 bt208.1 bt208.2.2.2.2.1 bt208.2.2.2.2.2 (!t226) bt208.2.1 bt208.2.2.1 bt208.2.2.2.1)) else (mjolnerlaw04_LexPieces.j0 k t202 t203 t204 t205 bt208.1 bt208.2.2.2.2.1 bt208.2.2.2.2.2 false bt208.2.1 bt208.2.2.1 bt208.2.2.2.1))) else (mjolnerlaw04_LexPieces.j0 k t202 t203 t204 t205 bt208.1 bt208.2.2.2.2.1 bt208.2.2.2.2.2 true bt208.2.1 bt208.2.2.1 bt208.2.2.2.1)))) = some r := H
  have A7 := Aside0.mk A70
  clear A70
  replace H := Option.bind_eq_some_iff.mp H
  obtain ⟨⟨t208, t211, t212, t213, t214, t215⟩, A80, H⟩ := H
  replace H : ((mjolnerlaw04_fed.f k a0 l2).bind fun bt217 => (if t214 = bt217.2.2.2.2.1 then (if (!(t211 == bt217.2.1) || (!(t212.toList == bt217.2.2.1.toList) || (!(t213 == bt217.2.2.2.1)))) = true then (mjolnerlaw04_LexPieces.j0 k t202 t203 t204 t205 t208 t214 t215 true t211 t212 t213) else (if t214 = 0 then ((mjolnerref04_Exact.f k t208 bt217.1).bind fun t226 => (mjolnerlaw04_LexPieces.j0 k t202 t203 t204 t205 t208 t214 t215 (!t226) t211 t212 t213)) else (mjolnerlaw04_LexPieces.j0 k t202 t203 t204 t205 t208 t214 t215 false t211 t212 t213))) else (mjolnerlaw04_LexPieces.j0 k t202 t203 t204 t205 t208 t214 t215 true t211 t212 t213))) = some r := H
  have A8 := Aside0.mk A80
  clear A80
  replace H := Option.bind_eq_some_iff.mp H
  obtain ⟨⟨t217, t220, t221, t222, t223, t224⟩, A90, H⟩ := H
  replace H : (if t214 = t223 then (if (!(t211 == t220) || (!(t212.toList == t221.toList) || (!(t213 == t222)))) = true then (mjolnerlaw04_LexPieces.j0 k t202 t203 t204 t205 t208 t214 t215 true t211 t212 t213) else (if t214 = 0 then ((mjolnerref04_Exact.f k t208 t217).bind fun t226 => (mjolnerlaw04_LexPieces.j0 k t202 t203 t204 t205 t208 t214 t215 (!t226) t211 t212 t213)) else (mjolnerlaw04_LexPieces.j0 k t202 t203 t204 t205 t208 t214 t215 false t211 t212 t213))) else (mjolnerlaw04_LexPieces.j0 k t202 t203 t204 t205 t208 t214 t215 true t211 t212 t213)) = some r := H
  have A9 := Aside0.mk A90
  clear A90
  have HC10 := Aside0.mk H
  clear H
  go_enter Tryd.func3, Tryd.ntmps3
  go_upto_region 7 with (first | ((with_reducible refine gate_callee (f := 10) rfl ?_); refine goesL_ (some 22) rfl rfl Tryd.func10 (by kernel_rfl) rfl #[] rfl (by (try simp only [List.map_toArray, List.map_cons, List.map_nil]); first | done | rfl | (simp only [List.length_drop, List.length_take]; rfl)) ?_; (with_reducible refine (mjolnerlaw04_sane.calls k  t202 _ ?side1 A4.out).mono ?_); (case side1 => exact HG.out _ (by repeat (first | (with_reducible first | exact HB.out | apply below_alloc | apply pw_below_drewN | apply below_drew1) | exact HB.out))); rintro e w11 ⟨rfl, hb⟩; refine ⟨_, rfl, ?_⟩; have n0_ := Aside0.mk (below_step (by repeat (first | (with_reducible first | exact HB.out | apply below_alloc | apply pw_below_drewN | apply below_drew1) | exact HB.out)) hb); clear HB; have HB := n0_; clear n0_; (try clear hb); (try clear hb2); (try clear hk); (try clear hi)) | ((with_reducible refine gate_callee (f := 11) rfl ?_); refine goesL_ (some 29) rfl rfl Tryd.func11 (by kernel_rfl) rfl #[.string a0] rfl (by (try simp only [List.map_toArray, List.map_cons, List.map_nil]); first | done | rfl | (simp only [List.length_drop, List.length_take]; rfl)) ?_; (with_reducible refine (lex_Lex.calls a0 t203 t204 t205 _ ?side1 A7.out).mono ?_); (case side1 => exact HG.out _ (by repeat (first | (with_reducible first | exact HB.out | apply below_alloc | apply pw_below_drewN | apply below_drew1) | exact HB.out))); rintro e w12 ⟨v206, rfl, ho0, hb⟩; refine ⟨_, rfl, ?_⟩; have n0_ := Aside0.mk (Kd.R_lower ho0 (below_size (by repeat (first | (with_reducible first | exact HB.out | apply below_alloc | apply pw_below_drewN | apply below_drew1) | exact HB.out)))); have n1_ := Aside0.mk (below_step (by repeat (first | (with_reducible first | exact HB.out | apply below_alloc | apply pw_below_drewN | apply below_drew1) | exact HB.out)) hb); clear HB; have HO207 := n0_; have HB := n1_; clear n0_ n1_; (try clear hb); (try clear hb2); (try clear hk); (try clear hi); (try clear ho0)) | ((with_reducible refine gate_callee (f := 12) rfl ?_); refine goesL_ (some 36) rfl rfl Tryd.func12 (by kernel_rfl) rfl #[.string a0, .slice A1 l1.length c1] rfl (by (try simp only [List.map_toArray, List.map_cons, List.map_nil]); first | done | rfl | (simp only [List.length_drop, List.length_take]; rfl)) ?_; (with_reducible refine (mjolnerlaw04_fed.calls k a0 _ _ l1 t208 t211 t212 t213 t214 t215 _ ?side3 ?side1 ?side2 A8.out).mono ?_); (case side1 => repeat (first | exact (Kd.C_below HR1.out HB.out) | (with_reducible refine Kd.C_alloc ?_ _) | (with_reducible refine Kd.C_drewN ?_ _) | (with_reducible refine Kd.C_drew ?_))); (case side2 => exact HC1.out); (case side3 => exact HG.out _ (by repeat (first | (with_reducible first | exact HB.out | apply below_alloc | apply pw_below_drewN | apply below_drew1) | exact HB.out))); rintro e w13 ⟨v209, rfl, ho0, hb⟩; refine ⟨_, rfl, ?_⟩; have n0_ := Aside0.mk (Kd.R_elder' (by (with_reducible repeat (first | apply Kd.R_alloc | apply Kd.R_drewN | apply Kd.R_drew)); exact HO207.out) (Kd.R_base ho0) hb); have n1_ := Aside0.mk (Kd.R_lower (Kd.R_new' ho0 (Kd.R_lt (by (with_reducible repeat (first | apply Kd.R_alloc | apply Kd.R_drewN | apply Kd.R_drew)); exact HO207.out))) (below_size (by repeat (first | (with_reducible first | exact HB.out | apply below_alloc | apply pw_below_drewN | apply below_drew1) | exact HB.out)))); have n2_ := Aside0.mk (below_step (by repeat (first | (with_reducible first | exact HB.out | apply below_alloc | apply pw_below_drewN | apply below_drew1) | exact HB.out)) hb); clear HO207; clear HB; have HO207 := n0_; have HO210 := n1_; have HB := n2_; clear n0_ n1_ n2_; (try clear hb); (try clear hb2); (try clear hk); (try clear hi); (try clear ho0)) | ((with_reducible refine gate_dst (N := 12) rfl ?_); (try (refine gate_guard (by rfl) ?_; dsimp only)); refine box_event ?hg (N := 12) ?hd (cs := #[.int .i64 0, .string (⟨#[]⟩ : ByteArray), .int .i64 0]) (t := 29) ?hr ?_; (case hd => rfl); (case hg => rfl); (case hr => first | (go_simp; done) | (go_simp; rfl)); intro gb216 hg w14 hbox hb; have n0_ := Aside0.mk (Kd.R_below (by (with_reducible repeat (first | apply Kd.R_alloc | apply Kd.R_drewN | apply Kd.R_drew)); exact HO207.out) hb); have n1_ := Aside0.mk (Kd.R_below (by (with_reducible repeat (first | apply Kd.R_alloc | apply Kd.R_drewN | apply Kd.R_drew)); exact HO210.out) hb); have n2_ := Aside0.mk (below_step (by repeat (first | (with_reducible first | exact HB.out | apply below_alloc | apply pw_below_drewN | apply below_drew1) | exact HB.out)) hb); have n3_ := Aside0.mk (hbox); have n4_ := Aside0.mk ((by rw [hg]; exact (below_size (by repeat (first | (with_reducible first | exact HB.out | apply below_alloc | apply pw_below_drewN | apply below_drew1) | exact HB.out))) : w.heap.size ≤ gb216)); have n5_ := Aside0.mk ((by rw [hg]; exact (below_size (by repeat (first | (with_reducible first | exact HB.out | apply below_alloc | apply pw_below_drewN | apply below_drew1) | exact HB.out))) : w.heap.size ≤ gb216)); clear HO207; clear HO210; clear HB; have HO207 := n0_; have HO210 := n1_; have HB := n2_; have BK216 := n3_; have GW216 := n4_; have GE216 := n5_; clear n0_ n1_ n2_ n3_ n4_ n5_; clear hb hbox hg; have hcz15_0 : w14.cell? ⟨gb216, 0, none⟩ = some (.int .i64 0) := (blk_cell BK216.out 0).trans rfl; have hcz15_1 : w14.cell? ⟨gb216, 1, none⟩ = some (.string (⟨#[]⟩ : ByteArray)) := (blk_cell BK216.out 1).trans rfl; have hcz15_2 : w14.cell? ⟨gb216, 2, none⟩ = some (.int .i64 0) := (blk_cell BK216.out 2).trans rfl; have hfz15_0 := blk_frozen BK216.out 0; have hfz15_1 := blk_frozen BK216.out 1; have hfz15_2 := blk_frozen BK216.out 2) | ((with_reducible refine gate_callee (f := 12) rfl ?_); refine goesL_ (some 44) rfl rfl Tryd.func12 (by kernel_rfl) rfl #[.string a0, .slice A2 l2.length c2] rfl (by (try simp only [List.map_toArray, List.map_cons, List.map_nil]); first | done | rfl | (simp only [List.length_drop, List.length_take]; rfl)) ?_; (with_reducible refine (mjolnerlaw04_fed.calls k a0 _ _ l2 t217 t220 t221 t222 t223 t224 _ ?side3 ?side1 ?side2 A9.out).mono ?_); (case side1 => exact Kd.C_below HR2.out (by repeat (first | (with_reducible first | exact HB.out | apply below_alloc | apply pw_below_drewN | apply below_drew1 | refine below_set ?_ GE216.out) | exact HB.out))); (case side2 => exact HC2.out); (case side3 => exact HG.out _ (by repeat (first | (with_reducible first | exact HB.out | apply below_alloc | apply pw_below_drewN | apply below_drew1 | refine below_set ?_ GE216.out) | exact HB.out))); rintro e w16 ⟨v218, rfl, ho0, hb⟩; refine ⟨_, rfl, ?_⟩; have n0_ := Aside0.mk (Kd.R_elder' (by (with_reducible repeat (first | apply Kd.R_alloc | apply Kd.R_drewN | apply Kd.R_drew)); exact (Kd.R_mono (Kd.R_far (p := ⟨gb216, 2, none⟩) (Kd.R_far (p := ⟨gb216, 1, none⟩) (Kd.R_far (p := ⟨gb216, 0, none⟩) (Kd.R_types HO207.out BK216.out (by decide)) (fun _ hk => hk.2) (.int .i64 t211)) (fun _ hk => hk.2) (.string t212)) (fun _ hk => hk.2) (.int .i64 t213)) (fun _ h_ => h_.1))) (Kd.R_base ho0) hb); have n1_ := Aside0.mk (Kd.R_elder' (by (with_reducible repeat (first | apply Kd.R_alloc | apply Kd.R_drewN | apply Kd.R_drew)); exact (Kd.R_mono (Kd.R_far (p := ⟨gb216, 2, none⟩) (Kd.R_far (p := ⟨gb216, 1, none⟩) (Kd.R_far (p := ⟨gb216, 0, none⟩) (Kd.R_types HO210.out BK216.out (by decide)) (fun _ hk => hk.2) (.int .i64 t211)) (fun _ hk => hk.2) (.string t212)) (fun _ hk => hk.2) (.int .i64 t213)) (fun _ h_ => h_.1))) (Kd.R_base ho0) hb); have n2_ := Aside0.mk (Kd.R_lower (Kd.R_new' (Kd.R_new' ho0 (Kd.R_lt (by (with_reducible repeat (first | apply Kd.R_alloc | apply Kd.R_drewN | apply Kd.R_drew)); exact (Kd.R_mono (Kd.R_far (p := ⟨gb216, 2, none⟩) (Kd.R_far (p := ⟨gb216, 1, none⟩) (Kd.R_far (p := ⟨gb216, 0, none⟩) (Kd.R_types HO207.out BK216.out (by decide)) (fun _ hk => hk.2) (.int .i64 t211)) (fun _ hk => hk.2) (.string t212)) (fun _ hk => hk.2) (.int .i64 t213)) (fun _ h_ => h_.1))))) (Kd.R_lt (by (with_reducible repeat (first | apply Kd.R_alloc | apply Kd.R_drewN | apply Kd.R_drew)); exact (Kd.R_mono (Kd.R_far (p := ⟨gb216, 2, none⟩) (Kd.R_far (p := ⟨gb216, 1, none⟩) (Kd.R_far (p := ⟨gb216, 0, none⟩) (Kd.R_types HO210.out BK216.out (by decide)) (fun _ hk => hk.2) (.int .i64 t211)) (fun _ hk => hk.2) (.string t212)) (fun _ hk => hk.2) (.int .i64 t213)) (fun _ h_ => h_.1))))) (below_size (by repeat (first | (with_reducible first | exact HB.out | apply below_alloc | apply pw_below_drewN | apply below_drew1 | refine below_set ?_ GE216.out) | exact HB.out)))); have n3_ := Aside0.mk (blk_below (g := gb216) (o := .cells #[.int .i64 t211, .string t212, .int .i64 t213] 29 (0, 0)) (by (with_reducible repeat (first | refine blk_drewN ?_ _ | refine blk_drew ?_ | refine blk_alloc ?_ _)); refine blk_put (cs := #[.int .i64 t211, .string t212, .int .i64 0]) ?_ 2 _ rfl; (with_reducible repeat (first | refine blk_drewN ?_ _ | refine blk_drew ?_ | refine blk_alloc ?_ _)); refine blk_put (cs := #[.int .i64 t211, .string (⟨#[]⟩ : ByteArray), .int .i64 0]) ?_ 1 _ rfl; (with_reducible repeat (first | refine blk_drewN ?_ _ | refine blk_drew ?_ | refine blk_alloc ?_ _)); refine blk_put (cs := #[.int .i64 0, .string (⟨#[]⟩ : ByteArray), .int .i64 0]) ?_ 0 _ rfl; (with_reducible repeat (first | refine blk_drewN ?_ _ | refine blk_drew ?_ | refine blk_alloc ?_ _)); exact BK216.out) hb); have n4_ := Aside0.mk (below_step (by repeat (first | (with_reducible first | exact HB.out | apply below_alloc | apply pw_below_drewN | apply below_drew1 | refine below_set ?_ GE216.out) | exact HB.out)) hb); clear HO207; clear HO210; clear BK216; clear HB; have HO207 := n0_; have HO210 := n1_; have HO219 := n2_; have BK216 := n3_; have HB := n4_; clear n0_ n1_ n2_ n3_ n4_; (try clear hb); (try clear hb2); (try clear hk); (try clear hi); (try clear ho0)) | ((with_reducible refine gate_dst (N := 16) rfl ?_); (try (refine gate_guard (by rfl) ?_; dsimp only)); refine box_event ?hg (N := 16) ?hd (cs := #[.int .i64 0, .string (⟨#[]⟩ : ByteArray), .int .i64 0]) (t := 29) ?hr ?_; (case hd => rfl); (case hg => rfl); (case hr => first | (go_simp; done) | (go_simp; rfl)); intro gb225 hg w17 hbox hb; have n0_ := Aside0.mk (Kd.R_below (by (with_reducible repeat (first | apply Kd.R_alloc | apply Kd.R_drewN | apply Kd.R_drew)); exact HO207.out) hb); have n1_ := Aside0.mk (Kd.R_below (by (with_reducible repeat (first | apply Kd.R_alloc | apply Kd.R_drewN | apply Kd.R_drew)); exact HO210.out) hb); have n2_ := Aside0.mk (Kd.R_below (by (with_reducible repeat (first | apply Kd.R_alloc | apply Kd.R_drewN | apply Kd.R_drew)); exact HO219.out) hb); have n3_ := Aside0.mk (blk_below (g := gb216) (o := .cells #[.int .i64 t211, .string t212, .int .i64 t213] 29 (0, 0)) (by (with_reducible repeat (first | refine blk_drewN ?_ _ | refine blk_drew ?_ | refine blk_alloc ?_ _)); exact BK216.out) hb); have n4_ := Aside0.mk (below_step (by repeat (first | (with_reducible first | exact HB.out | apply below_alloc | apply pw_below_drewN | apply below_drew1 | refine below_set ?_ GE216.out) | exact HB.out)) hb); have n5_ := Aside0.mk (hbox); have n6_ := Aside0.mk ((by rw [hg]; exact (below_size (by repeat (first | (with_reducible first | exact HB.out | apply below_alloc | apply pw_below_drewN | apply below_drew1 | refine below_set ?_ GE216.out) | exact HB.out))) : w.heap.size ≤ gb225)); have n7_ := Aside0.mk ((by rw [hg]; exact (below_size (by repeat (first | (with_reducible first | exact HB.out | apply below_alloc | apply pw_below_drewN | apply below_drew1 | refine below_set ?_ GE216.out) | exact HB.out))) : w.heap.size ≤ gb225)); have n8_ := Aside0.mk ((by rw [hg]; exact Nat.ne_of_lt (blk_lt (g := gb216) (o := .cells #[.int .i64 t211, .string t212, .int .i64 t213] 29 (0, 0)) (by (with_reducible repeat (first | refine blk_drewN ?_ _ | refine blk_drew ?_ | refine blk_alloc ?_ _)); exact BK216.out)) : gb216 ≠ gb225)); have n9_ := Aside0.mk ((by rw [hg]; exact Nat.ne_of_gt (blk_lt (g := gb216) (o := .cells #[.int .i64 t211, .string t212, .int .i64 t213] 29 (0, 0)) (by (with_reducible repeat (first | refine blk_drewN ?_ _ | refine blk_drew ?_ | refine blk_alloc ?_ _)); exact BK216.out)) : gb225 ≠ gb216)); clear HO207; clear HO210; clear HO219; clear BK216; clear HB; have HO207 := n0_; have HO210 := n1_; have HO219 := n2_; have BK216 := n3_; have HB := n4_; have BK225 := n5_; have GW225 := n6_; have GE225 := n7_; have NB216_225 := n8_; have NB225_216 := n9_; clear n0_ n1_ n2_ n3_ n4_ n5_ n6_ n7_ n8_ n9_; clear hb hbox hg; have hnb18 := NB225_216.out; have hnc18 := NB216_225.out; have hcz19_0 : w17.cell? ⟨gb225, 0, none⟩ = some (.int .i64 0) := (blk_cell BK225.out 0).trans rfl; have hcz19_1 : w17.cell? ⟨gb225, 1, none⟩ = some (.string (⟨#[]⟩ : ByteArray)) := (blk_cell BK225.out 1).trans rfl; have hcz19_2 : w17.cell? ⟨gb225, 2, none⟩ = some (.int .i64 0) := (blk_cell BK225.out 2).trans rfl; have hfz19_0 := blk_frozen BK225.out 0; have hfz19_1 := blk_frozen BK225.out 1; have hfz19_2 := blk_frozen BK225.out 2))
  (try simp only [Act.put, List.setIfInBounds_toArray, List.set_cons_zero, List.set_cons_succ])
  go_cut [66] (fun v66 wc => ∃ (kq : Nat) (x66_9 : Bool), v66 = .bool x66_9 ∧ Aside0 (mjolnerlaw04_LexPieces.j0 kq t202 t203 t204 t205 t208 t214 t215 x66_9 t211 t212 t213 = some r) ∧ Aside0 (kq ≤ k) ∧ Aside0 (Kd.R k42 42 wc w.heap.size (fun k_ => some k_ ≠ (v209 : Value).ownBlock) v206 t203) ∧ Aside0 (Kd.R k42 42 wc w.heap.size (fun k_ => some k_ ≠ (v206 : Value).ownBlock) v209 t208) ∧ Aside0 (wc.heap[gb216]? = some (.cells #[.int .i64 t211, .string t212, .int .i64 t213] 29 (0, 0))) ∧ Aside0 (wc.heap[gb225]? = some (.cells #[.int .i64 t220, .string t221, .int .i64 t222] 29 (0, 0))) ∧ Aside0 (Below w.heap.size w wc))
  case first =>
   have H := HC10.out
   clear HC10
   by_cases c20 : t214 = t223
   ·rw [if_pos c20] at H
    have c20b0 : (t214 == t223) = true := beq_iff_eq.mpr c20
    have c20b1 : (t214 != t223) = false := bne_eq_false_iff_eq.mpr c20
    clear c20
    (first | rw [c20b0] | (simp only [i64_w, i32_w]; rw [c20b0]) | rw [c20b1] | skip)
    by_cases c21 : (!(t211 == t220) || (!(t212.toList == t221.toList) || (!(t213 == t222)))) = true
    ·rw [if_pos c21] at H
     first | exact absurd (H.trans (congrArg some HRT.out)) (by simp) | exact absurd (H.trans (congrArg some HRT.out)) (mjolnerlaw04_LexPieces.j0_true _ _ _ _ _ _ _ _ _ _ _)
    ·rw [if_neg c21] at H
     have c21b0 : (!(t211 == t220) || (!(t212.toList == t221.toList) || (!(t213 == t222)))) = false := by simpa using c21
     clear c21
     by_cases c25 : t214 = 0
     ·rw [if_pos c25] at H
      have c25b0 : (t214 == 0) = true := beq_iff_eq.mpr c25
      have c25b1 : (t214 != 0) = false := bne_eq_false_iff_eq.mpr c25
      clear c25
      replace H := Option.bind_eq_some_iff.mp H
      obtain ⟨t226, A260, H⟩ := H
      replace H : (mjolnerlaw04_LexPieces.j0 k t202 t203 t204 t205 t208 t214 t215 (!t226) t211 t212 t213) = some r := H
      have A26 := Aside0.mk A260
      clear A260
      have H' := Aside0.mk H
      clear H
      have hnb27 := NB216_225.out
      have hnc27 := NB225_216.out
      have hcz28_0 : w17.cell? ⟨gb216, 0, none⟩ = some (.int .i64 t211) := (blk_cell BK216.out 0).trans rfl
      have hcz28_1 : w17.cell? ⟨gb216, 1, none⟩ = some (.string t212) := (blk_cell BK216.out 1).trans rfl
      have hcz28_2 : w17.cell? ⟨gb216, 2, none⟩ = some (.int .i64 t213) := (blk_cell BK216.out 2).trans rfl
      have hfz28_0 := blk_frozen BK216.out 0
      have hfz28_1 := blk_frozen BK216.out 1
      have hfz28_2 := blk_frozen BK216.out 2
      have hcz29_0 : w17.cell? ⟨gb225, 0, none⟩ = some (.int .i64 0) := (blk_cell BK225.out 0).trans rfl
      have hcz29_1 : w17.cell? ⟨gb225, 1, none⟩ = some (.string (⟨#[]⟩ : ByteArray)) := (blk_cell BK225.out 1).trans rfl
      have hcz29_2 : w17.cell? ⟨gb225, 2, none⟩ = some (.int .i64 0) := (blk_cell BK225.out 2).trans rfl
      have hfz29_0 := blk_frozen BK225.out 0
      have hfz29_1 := blk_frozen BK225.out 1
      have hfz29_2 := blk_frozen BK225.out 2
      obtain ⟨Ao30, co30, eo30⟩ := Kd.R_slice HO210.out
      subst eo30
      obtain ⟨Ao31, co31, eo31⟩ := Kd.R_slice HO219.out
      subst eo31
      go_wp2_with (first | (go_at_call 13; (with_reducible refine (mjolnerref04_Exact.calls k _ _ t208 _ _ t217 t226 _ ?side1 ?side2 ?side3 ?side4 A26.out).mono ?_); (case side1 => refine (Kd.R_reads' (e := 42) (base := w.heap.size) (ok := fun k_ => ((True ∧ some k_ ≠ (v206 : Value).ownBlock) ∧ some k_ ≠ (.slice Ao31 t217.length co31 : Value).ownBlock)) (n := t208.length) (c := co30) ?_).2.2; exact (by (with_reducible repeat (first | apply Kd.R_alloc | apply Kd.R_drewN | apply Kd.R_drew)); exact (Kd.R_mono (Kd.R_far (p := ⟨gb225, 2, none⟩) (Kd.R_far (p := ⟨gb225, 1, none⟩) (Kd.R_far (p := ⟨gb225, 0, none⟩) (Kd.R_types HO210.out BK225.out (by decide)) (fun _ hk => hk.2) (.int .i64 t220)) (fun _ hk => hk.2) (.string t221)) (fun _ hk => hk.2) (.int .i64 t222)) (fun _ h_ => h_.1)))); (case side2 => exact (Kd.R_reads' HO210.out).2.1); (case side3 => refine (Kd.R_reads' (e := 42) (base := w.heap.size) (ok := fun k_ => ((True ∧ some k_ ≠ (v206 : Value).ownBlock) ∧ some k_ ≠ (.slice Ao30 t208.length co30 : Value).ownBlock)) (n := t217.length) (c := co31) ?_).2.2; exact (by (with_reducible repeat (first | apply Kd.R_alloc | apply Kd.R_drewN | apply Kd.R_drew)); exact (Kd.R_mono (Kd.R_far (p := ⟨gb225, 2, none⟩) (Kd.R_far (p := ⟨gb225, 1, none⟩) (Kd.R_far (p := ⟨gb225, 0, none⟩) (Kd.R_types HO219.out BK225.out (by decide)) (fun _ hk => hk.2) (.int .i64 t220)) (fun _ hk => hk.2) (.string t221)) (fun _ hk => hk.2) (.int .i64 t222)) (fun _ h_ => h_.1)))); (case side4 => exact (Kd.R_reads' HO219.out).2.1); rintro e w' ⟨rfl, ⟨nd, rfl⟩⟩))
      go_meet
      case rel => exact ⟨_, (!t226), (by first | rfl | (simp; done) | (simp [*]; done)), H', ⟨by first | omega | exact Nat.le_refl _⟩, ⟨by (with_reducible repeat (first | apply Kd.R_alloc | apply Kd.R_drewN | apply Kd.R_drew)); exact Kd.R_mono (Kd.R_far (p := ⟨gb225, 2, none⟩) (Kd.R_far (p := ⟨gb225, 1, none⟩) (Kd.R_far (p := ⟨gb225, 0, none⟩) (Kd.R_types HO207.out BK225.out (by decide)) (fun _ hk => hk.2) (.int .i64 t220)) (fun _ hk => hk.2) (.string t221)) (fun _ hk => hk.2) (.int .i64 t222)) (fun _ hk => hk.1.1.2)⟩, ⟨by (with_reducible repeat (first | apply Kd.R_alloc | apply Kd.R_drewN | apply Kd.R_drew)); exact Kd.R_mono (Kd.R_far (p := ⟨gb225, 2, none⟩) (Kd.R_far (p := ⟨gb225, 1, none⟩) (Kd.R_far (p := ⟨gb225, 0, none⟩) (Kd.R_types HO210.out BK225.out (by decide)) (fun _ hk => hk.2) (.int .i64 t220)) (fun _ hk => hk.2) (.string t221)) (fun _ hk => hk.2) (.int .i64 t222)) (fun _ hk => hk.1.1.2)⟩, ⟨by (with_reducible repeat (first | refine blk_drewN ?_ _ | refine blk_drew ?_ | refine blk_alloc ?_ _)); refine blk_far ?_ NB216_225.out _; (with_reducible repeat (first | refine blk_drewN ?_ _ | refine blk_drew ?_ | refine blk_alloc ?_ _)); refine blk_far ?_ NB216_225.out _; (with_reducible repeat (first | refine blk_drewN ?_ _ | refine blk_drew ?_ | refine blk_alloc ?_ _)); refine blk_far ?_ NB216_225.out _; (with_reducible repeat (first | refine blk_drewN ?_ _ | refine blk_drew ?_ | refine blk_alloc ?_ _)); exact BK216.out⟩, ⟨by (with_reducible repeat (first | refine blk_drewN ?_ _ | refine blk_drew ?_ | refine blk_alloc ?_ _)); refine blk_put (cs := #[.int .i64 t220, .string t221, .int .i64 0]) ?_ 2 _ rfl; (with_reducible repeat (first | refine blk_drewN ?_ _ | refine blk_drew ?_ | refine blk_alloc ?_ _)); refine blk_put (cs := #[.int .i64 t220, .string (⟨#[]⟩ : ByteArray), .int .i64 0]) ?_ 1 _ rfl; (with_reducible repeat (first | refine blk_drewN ?_ _ | refine blk_drew ?_ | refine blk_alloc ?_ _)); refine blk_put (cs := #[.int .i64 0, .string (⟨#[]⟩ : ByteArray), .int .i64 0]) ?_ 0 _ rfl; (with_reducible repeat (first | refine blk_drewN ?_ _ | refine blk_drew ?_ | refine blk_alloc ?_ _)); exact BK225.out⟩, ⟨by repeat (first | (with_reducible first | exact HB.out | apply below_alloc | apply pw_below_drewN | apply below_drew1 | refine below_set ?_ GE216.out | refine below_set ?_ GE225.out) | exact HB.out)⟩⟩
     ·rw [if_neg c25] at H
      have c25b0 : (t214 == 0) = false := beq_eq_false_iff_ne.mpr c25
      have c25b1 : (t214 != 0) = true := bne_iff_ne.mpr c25
      have H' := Aside0.mk H
      clear H
      have hnb32 := NB216_225.out
      have hnc32 := NB225_216.out
      have hcz33_0 : w17.cell? ⟨gb216, 0, none⟩ = some (.int .i64 t211) := (blk_cell BK216.out 0).trans rfl
      have hcz33_1 : w17.cell? ⟨gb216, 1, none⟩ = some (.string t212) := (blk_cell BK216.out 1).trans rfl
      have hcz33_2 : w17.cell? ⟨gb216, 2, none⟩ = some (.int .i64 t213) := (blk_cell BK216.out 2).trans rfl
      have hfz33_0 := blk_frozen BK216.out 0
      have hfz33_1 := blk_frozen BK216.out 1
      have hfz33_2 := blk_frozen BK216.out 2
      have hcz34_0 : w17.cell? ⟨gb225, 0, none⟩ = some (.int .i64 0) := (blk_cell BK225.out 0).trans rfl
      have hcz34_1 : w17.cell? ⟨gb225, 1, none⟩ = some (.string (⟨#[]⟩ : ByteArray)) := (blk_cell BK225.out 1).trans rfl
      have hcz34_2 : w17.cell? ⟨gb225, 2, none⟩ = some (.int .i64 0) := (blk_cell BK225.out 2).trans rfl
      have hfz34_0 := blk_frozen BK225.out 0
      have hfz34_1 := blk_frozen BK225.out 1
      have hfz34_2 := blk_frozen BK225.out 2
      go_wp2
      go_meet
      case rel => exact ⟨_, (false), (by first | rfl | (simp; done) | (simp [*]; done)), H', ⟨by first | omega | exact Nat.le_refl _⟩, ⟨by (with_reducible repeat (first | apply Kd.R_alloc | apply Kd.R_drewN | apply Kd.R_drew)); exact Kd.R_mono (Kd.R_far (p := ⟨gb225, 2, none⟩) (Kd.R_far (p := ⟨gb225, 1, none⟩) (Kd.R_far (p := ⟨gb225, 0, none⟩) (Kd.R_types HO207.out BK225.out (by decide)) (fun _ hk => hk.2) (.int .i64 t220)) (fun _ hk => hk.2) (.string t221)) (fun _ hk => hk.2) (.int .i64 t222)) (fun _ hk => hk.1.1.2)⟩, ⟨by (with_reducible repeat (first | apply Kd.R_alloc | apply Kd.R_drewN | apply Kd.R_drew)); exact Kd.R_mono (Kd.R_far (p := ⟨gb225, 2, none⟩) (Kd.R_far (p := ⟨gb225, 1, none⟩) (Kd.R_far (p := ⟨gb225, 0, none⟩) (Kd.R_types HO210.out BK225.out (by decide)) (fun _ hk => hk.2) (.int .i64 t220)) (fun _ hk => hk.2) (.string t221)) (fun _ hk => hk.2) (.int .i64 t222)) (fun _ hk => hk.1.1.2)⟩, ⟨by (with_reducible repeat (first | refine blk_drewN ?_ _ | refine blk_drew ?_ | refine blk_alloc ?_ _)); refine blk_far ?_ NB216_225.out _; (with_reducible repeat (first | refine blk_drewN ?_ _ | refine blk_drew ?_ | refine blk_alloc ?_ _)); refine blk_far ?_ NB216_225.out _; (with_reducible repeat (first | refine blk_drewN ?_ _ | refine blk_drew ?_ | refine blk_alloc ?_ _)); refine blk_far ?_ NB216_225.out _; (with_reducible repeat (first | refine blk_drewN ?_ _ | refine blk_drew ?_ | refine blk_alloc ?_ _)); exact BK216.out⟩, ⟨by (with_reducible repeat (first | refine blk_drewN ?_ _ | refine blk_drew ?_ | refine blk_alloc ?_ _)); refine blk_put (cs := #[.int .i64 t220, .string t221, .int .i64 0]) ?_ 2 _ rfl; (with_reducible repeat (first | refine blk_drewN ?_ _ | refine blk_drew ?_ | refine blk_alloc ?_ _)); refine blk_put (cs := #[.int .i64 t220, .string (⟨#[]⟩ : ByteArray), .int .i64 0]) ?_ 1 _ rfl; (with_reducible repeat (first | refine blk_drewN ?_ _ | refine blk_drew ?_ | refine blk_alloc ?_ _)); refine blk_put (cs := #[.int .i64 0, .string (⟨#[]⟩ : ByteArray), .int .i64 0]) ?_ 0 _ rfl; (with_reducible repeat (first | refine blk_drewN ?_ _ | refine blk_drew ?_ | refine blk_alloc ?_ _)); exact BK225.out⟩, ⟨by repeat (first | (with_reducible first | exact HB.out | apply below_alloc | apply pw_below_drewN | apply below_drew1 | refine below_set ?_ GE216.out | refine below_set ?_ GE225.out) | exact HB.out)⟩⟩
   ·rw [if_neg c20] at H
    first | exact absurd (H.trans (congrArg some HRT.out)) (by simp) | exact absurd (H.trans (congrArg some HRT.out)) (mjolnerlaw04_LexPieces.j0_true _ _ _ _ _ _ _ _ _ _ _)
  case rest =>
   clear HC10
   try clear c1
   try clear c2
   try clear p2
   try clear c3
   try clear c5
   try clear c5b0
   try clear c5b1
   try clear c10
   try clear c11
   try clear c12
   try clear c18
   try clear c20
   try clear c20b0
   try clear c20b1
   try clear c21
   try clear c21b0
   try clear c22
   try clear c25
   try clear c25b0
   try clear c25b1
   try clear c27
   try clear c32
   try clear hcz15_0
   try clear hcz15_1
   try clear hcz15_2
   try clear hcz19_0
   try clear hcz19_1
   try clear hcz19_2
   try clear hcz23_0
   try clear hcz23_1
   try clear hcz23_2
   try clear hcz24_0
   try clear hcz24_1
   try clear hcz24_2
   try clear hcz28_0
   try clear hcz28_1
   try clear hcz28_2
   try clear hcz29_0
   try clear hcz29_1
   try clear hcz29_2
   try clear hcz33_0
   try clear hcz33_1
   try clear hcz33_2
   try clear hcz34_0
   try clear hcz34_1
   try clear hcz34_2
   try clear hfz15_0
   try clear hfz15_1
   try clear hfz15_2
   try clear hfz19_0
   try clear hfz19_1
   try clear hfz19_2
   try clear hfz23_0
   try clear hfz23_1
   try clear hfz23_2
   try clear hfz24_0
   try clear hfz24_1
   try clear hfz24_2
   try clear hfz28_0
   try clear hfz28_1
   try clear hfz28_2
   try clear hfz29_0
   try clear hfz29_1
   try clear hfz29_2
   try clear hfz33_0
   try clear hfz33_1
   try clear hfz33_2
   try clear hfz34_0
   try clear hfz34_1
   try clear hfz34_2
   obtain ⟨kq, x66_9, rfl, HA, HJ9, HO_8, HO_11, BK216, BK225, HB⟩ := hcut
   cases kq with
   | zero => exact absurd HA.out (by simp [mjolnerlaw04_LexPieces.j0])
   | succ kj9 =>
    have H := HA.out
    clear HA
    simp only [mjolnerlaw04_LexPieces.j0] at H
    by_cases c35 : x66_9 = true
    ·subst c35
     have H1 : (some false) = some r := by rw [if_pos rfl] at H; exact H
     clear H
     have H := H1
     clear H1
     first | exact absurd (H.trans (congrArg some HRT.out)) (by simp) | exact absurd (H.trans (congrArg some HRT.out)) (mjolnerlaw04_LexPieces.j0_true _ _ _ _ _ _ _ _ _ _ _)
    ·replace c35 := Bool.eq_false_iff.mpr c35
     subst c35
     have H1 : (if t214 = 0 then ((lex_Finish.f t211 t212 t213).bind fun bt227 => (if bt227.2.1 = 0 then (if t202 = true then (if t204 = 0 then (if t208.length + bt227.1.length < 2932031007402 then ((mjolnerref04_Exact.f kj9 (t208 ++ bt227.1) t203).bind fun t235 => (some t235)) else (none)) else (some false)) else (some false)) else (if t202 = true then (if t204 = bt227.2.1 then (some (t205 == bt227.2.2)) else (some false)) else (some false)))) else (if t202 = true then (if t204 = t214 then (some (t205 == t215)) else (some false)) else (some false))) = some r := by rw [if_neg (show ¬ (false = true) by decide)] at H; exact H
     clear H
     have H := H1
     clear H1
     by_cases c36 : t214 = 0
     ·rw [if_pos c36] at H
      have c36b0 : (t214 == 0) = true := beq_iff_eq.mpr c36
      have c36b1 : (t214 != 0) = false := bne_eq_false_iff_eq.mpr c36
      clear c36
      replace H := Option.bind_eq_some_iff.mp H
      obtain ⟨⟨t227, t230, t231⟩, A370, H⟩ := H
      replace H : (if t230 = 0 then (if t202 = true then (if t204 = 0 then (if t208.length + t227.length < 2932031007402 then ((mjolnerref04_Exact.f kj9 (t208 ++ t227) t203).bind fun t235 => (some t235)) else (none)) else (some false)) else (some false)) else (if t202 = true then (if t204 = t230 then (some (t205 == t231)) else (some false)) else (some false))) = some r := H
      have A37 := Aside0.mk A370
      clear A370
      by_cases c38 : t230 = 0
      ·rw [if_pos c38] at H
       have c38b0 : (t230 == 0) = true := beq_iff_eq.mpr c38
       have c38b1 : (t230 != 0) = false := bne_eq_false_iff_eq.mpr c38
       clear c38
       by_cases c39 : t202 = true
       ·subst c39
        have H1 : (if t204 = 0 then (if t208.length + t227.length < 2932031007402 then ((mjolnerref04_Exact.f kj9 (t208 ++ t227) t203).bind fun t235 => (some t235)) else (none)) else (some false)) = some r := by rw [if_pos rfl] at H; exact H
        clear H
        have H := H1
        clear H1
        by_cases c40 : t204 = 0
        ·rw [if_pos c40] at H
         have c40b0 : (t204 == 0) = true := beq_iff_eq.mpr c40
         have c40b1 : (t204 != 0) = false := bne_eq_false_iff_eq.mpr c40
         clear c40
         by_cases c41 : t208.length + t227.length < 2932031007402
         ·rw [if_pos c41] at H
          have LMc41 := Aside0.mk c41
          clear c41
          obtain ⟨y232, hy232⟩ : ∃ y_ : List (S42), y_ = (t208 ++ t227) := ⟨_, rfl⟩
          replace H : ((mjolnerref04_Exact.f kj9 y232 t203).bind fun t235 => (some t235)) = some r := by first | (rw [hy232]; with_reducible exact H) | (have H2_ := (Option.bind_some _ _).symm.trans H; rw [hy232]; with_reducible exact H2_) | (have H2_ := (Option.bind_some _ _).symm.trans H; with_reducible exact H2_) | with_reducible exact H | (rw [hy232]; exact H) | exact H
          have Ny232 := Aside0.mk hy232
          clear hy232
          replace H := Option.bind_eq_some_iff.mp H
          obtain ⟨t235, A420, H⟩ := H
          replace H : (some t235) = some r := H
          have A42 := Aside0.mk A420
          clear A420
          obtain rfl := Option.some.inj H
          have hnb43 := NB216_225.out
          have hnc43 := NB225_216.out
          have hcz44_0 : wc.cell? ⟨gb216, 0, none⟩ = some (.int .i64 t211) := (blk_cell BK216.out 0).trans rfl
          have hcz44_1 : wc.cell? ⟨gb216, 1, none⟩ = some (.string t212) := (blk_cell BK216.out 1).trans rfl
          have hcz44_2 : wc.cell? ⟨gb216, 2, none⟩ = some (.int .i64 t213) := (blk_cell BK216.out 2).trans rfl
          have hfz44_0 := blk_frozen BK216.out 0
          have hfz44_1 := blk_frozen BK216.out 1
          have hfz44_2 := blk_frozen BK216.out 2
          go_wp2_with (first | ((with_reducible refine gate_callee (f := 14) rfl ?_); refine goesL_ (some 82) rfl rfl Tryd.func14 (by kernel_rfl) rfl #[.agg #[.int .i64 t211, .string t212, .int .i64 t213]] rfl (by (try simp only [List.map_toArray, List.map_cons, List.map_nil]); first | done | rfl | (simp only [List.length_drop, List.length_take]; rfl)) ?_; (with_reducible refine (lex_Finish.calls t211 t212 t213 t227 t230 t231 _ ?side1 A37.out).mono ?_); (case side1 => exact HG.out _ (by repeat (first | (with_reducible first | exact HB.out | apply below_alloc | apply pw_below_drewN | apply below_drew1 | refine below_set ?_ GE216.out | refine below_set ?_ GE225.out) | exact HB.out))); rintro e w45 ⟨v228, rfl, ho0, hb⟩; refine ⟨_, rfl, ?_⟩; have n0_ := Aside0.mk (Kd.R_elder' (by (with_reducible repeat (first | apply Kd.R_alloc | apply Kd.R_drewN | apply Kd.R_drew)); exact HO_8.out) (Kd.R_base ho0) hb); have n1_ := Aside0.mk (Kd.R_elder' (by (with_reducible repeat (first | apply Kd.R_alloc | apply Kd.R_drewN | apply Kd.R_drew)); exact HO_11.out) (Kd.R_base ho0) hb); have n2_ := Aside0.mk (Kd.R_lower (Kd.R_new' (Kd.R_new' ho0 (Kd.R_lt (by (with_reducible repeat (first | apply Kd.R_alloc | apply Kd.R_drewN | apply Kd.R_drew)); exact HO_8.out))) (Kd.R_lt (by (with_reducible repeat (first | apply Kd.R_alloc | apply Kd.R_drewN | apply Kd.R_drew)); exact HO_11.out))) (below_size (by repeat (first | (with_reducible first | exact HB.out | apply below_alloc | apply pw_below_drewN | apply below_drew1 | refine below_set ?_ GE216.out | refine below_set ?_ GE225.out) | exact HB.out)))); have n3_ := Aside0.mk (blk_below (g := gb216) (o := .cells #[.int .i64 t211, .string t212, .int .i64 t213] 29 (0, 0)) (by (with_reducible repeat (first | refine blk_drewN ?_ _ | refine blk_drew ?_ | refine blk_alloc ?_ _)); exact BK216.out) hb); have n4_ := Aside0.mk (blk_below (g := gb225) (o := .cells #[.int .i64 t220, .string t221, .int .i64 t222] 29 (0, 0)) (by (with_reducible repeat (first | refine blk_drewN ?_ _ | refine blk_drew ?_ | refine blk_alloc ?_ _)); exact BK225.out) hb); have n5_ := Aside0.mk (below_step (by repeat (first | (with_reducible first | exact HB.out | apply below_alloc | apply pw_below_drewN | apply below_drew1 | refine below_set ?_ GE216.out | refine below_set ?_ GE225.out) | exact HB.out)) hb); clear HO_8; clear HO_11; clear BK216; clear BK225; clear HB; have HO_8 := n0_; have HO_11 := n1_; have HO229 := n2_; have BK216 := n3_; have BK225 := n4_; have HB := n5_; clear n0_ n1_ n2_ n3_ n4_ n5_; (try clear hb); (try clear hb2); (try clear hk); (try clear hi); (try clear ho0); obtain ⟨Ao47, co47, eo47⟩ := Kd.R_slice HO229.out; subst eo47) | ((with_reducible refine gate_builtin (b := .append) (xs := #[.tmp 105, .tmp 106]) rfl ?_); (try (refine gate_guard (by rfl) ?_; dsimp only)); at_builtin; refine Kd.R_append_rows k42 (w0 := w) w.heap.size rfl (.tmp 105) (.tmp 106) 24 42 (.agg #[(.int .i64 0), (.string ⟨#[]⟩), (.int .i64 0), (.int .i64 0), (.int .i64 0)]) 48 rfl Tryd.underlying24 info42 rfl (by decide) (by omega) v209 t208 t227 _ _ _ (fun k_ => some k_ ≠ (v206 : Value).ownBlock ∧ some k_ ≠ (.slice Ao47 t227.length co47 : Value).ownBlock) (fun _ => False) rfl rfl ?aO ?aR (fun _ _ h => h) (fun _ h => h.elim) ?aF ?aB ?aS ?aL ?_; (case aR => repeat (first | exact (Kd.R_reads' HO229.out).2.2 | (with_reducible refine Kd.C_alloc ?_ _) | (with_reducible refine Kd.C_drewN ?_ _) | (with_reducible refine Kd.C_drew ?_))); (case aB => exact (by repeat (first | (with_reducible first | exact HB.out | apply below_alloc | apply pw_below_drewN | apply below_drew1 | refine below_set ?_ GE216.out | refine below_set ?_ GE225.out) | exact HB.out))); (case aF => exact (fun k_ hk => ⟨Kd.fresh' (Kd.R_lt (by (with_reducible repeat (first | apply Kd.R_alloc | apply Kd.R_drewN | apply Kd.R_drew)); exact HO_8.out)) k_ hk, Kd.fresh' (Kd.R_lt (by (with_reducible repeat (first | apply Kd.R_alloc | apply Kd.R_drewN | apply Kd.R_drew)); exact HO229.out)) k_ hk⟩)); (case aO => exact (by (with_reducible repeat (first | apply Kd.R_alloc | apply Kd.R_drewN | apply Kd.R_drew)); exact HO_11.out)); (case aS => exact (below_size (by repeat (first | (with_reducible first | exact HB.out | apply below_alloc | apply pw_below_drewN | apply below_drew1 | refine below_set ?_ GE216.out | refine below_set ?_ GE225.out) | exact HB.out)))); (case aL => have := LMc41.out; omega); intro v233 w46 ho hb hg hat; rw [← Ny232.out] at ho; have n0_ := Aside0.mk (Kd.R_after (ok := (fun k_ => some k_ ≠ (.slice Ao47 t227.length co47 : Value).ownBlock)) (by (with_reducible repeat (first | apply Kd.R_alloc | apply Kd.R_drewN | apply Kd.R_drew)); exact Kd.R_mono HO_8.out (fun _ hk => ⟨hk.2, hk.1⟩)) hg hat); have n1_ := Aside0.mk (blk_grown (g := gb216) (o := .cells #[.int .i64 t211, .string t212, .int .i64 t213] 29 (0, 0)) (by (with_reducible repeat (first | refine blk_drewN ?_ _ | refine blk_drew ?_ | refine blk_alloc ?_ _)); exact BK216.out) hg (Kd.R_ne HO_11.out BK216.out (by decide))); have n2_ := Aside0.mk (blk_grown (g := gb225) (o := .cells #[.int .i64 t220, .string t221, .int .i64 t222] 29 (0, 0)) (by (with_reducible repeat (first | refine blk_drewN ?_ _ | refine blk_drew ?_ | refine blk_alloc ?_ _)); exact BK225.out) hg (Kd.R_ne HO_11.out BK225.out (by decide))); have n3_ := Aside0.mk (Kd.R_after (ok := (fun k_ => some k_ ≠ (v206 : Value).ownBlock)) (by (with_reducible repeat (first | apply Kd.R_alloc | apply Kd.R_drewN | apply Kd.R_drew)); exact Kd.R_mono HO229.out (fun _ hk => ⟨hk.1.2, hk.2⟩)) hg hat); have n4_ := Aside0.mk (hb); have n5_ := Aside0.mk (ho); clear HO_8; clear BK216; clear BK225; clear HO229; clear HB; clear HO_11; have HO_8 := n0_; have BK216 := n1_; have BK225 := n2_; have HO229 := n3_; have HB := n4_; have HO234 := n5_; clear n0_ n1_ n2_ n3_ n4_ n5_; clear ho hb hg hat; obtain ⟨Ao48, co48, eo48⟩ := Kd.R_slice HO234.out; subst eo48; obtain ⟨Ao49, co49, eo49⟩ := Kd.R_slice HO_8.out; subst eo49) | (go_at_call 13; (with_reducible refine (mjolnerref04_Exact.calls kj9 _ _ y232 _ _ t203 t235 _ ?side1 ?side2 ?side3 ?side4 A42.out).mono ?_); (case side1 => repeat (first | exact (Kd.R_reads' HO234.out).2.2 | (with_reducible refine Kd.C_alloc ?_ _) | (with_reducible refine Kd.C_drewN ?_ _) | (with_reducible refine Kd.C_drew ?_))); (case side2 => exact (Kd.R_reads' HO234.out).2.1); (case side3 => repeat (first | exact (Kd.R_reads' HO_8.out).2.2 | (with_reducible refine Kd.C_alloc ?_ _) | (with_reducible refine Kd.C_drewN ?_ _) | (with_reducible refine Kd.C_drew ?_))); (case side4 => exact (Kd.R_reads' HO_8.out).2.1); rintro e w' ⟨rfl, ⟨nd, rfl⟩⟩))
          go_ret
          exact ⟨by first | rfl | (simp [errW_none, errW_some] <;> rfl) | (simp [*, errW_none, errW_some] <;> rfl), by repeat (first | (with_reducible first | exact HB.out | apply below_alloc | apply pw_below_drewN | apply below_drew1 | refine below_set ?_ GE216.out | refine below_set ?_ GE225.out) | exact HB.out)⟩
         ·rw [if_neg c41] at H
          exact absurd H (by simp)
        ·rw [if_neg c40] at H
         first | exact absurd (H.trans (congrArg some HRT.out)) (by simp) | exact absurd (H.trans (congrArg some HRT.out)) (mjolnerlaw04_LexPieces.j0_true _ _ _ _ _ _ _ _ _ _ _)
       ·replace c39 := Bool.eq_false_iff.mpr c39
        subst c39
        have H1 : (some false) = some r := by rw [if_neg (show ¬ (false = true) by decide)] at H; exact H
        clear H
        have H := H1
        clear H1
        first | exact absurd (H.trans (congrArg some HRT.out)) (by simp) | exact absurd (H.trans (congrArg some HRT.out)) (mjolnerlaw04_LexPieces.j0_true _ _ _ _ _ _ _ _ _ _ _)
      ·rw [if_neg c38] at H
       have c38b0 : (t230 == 0) = false := beq_eq_false_iff_ne.mpr c38
       have c38b1 : (t230 != 0) = true := bne_iff_ne.mpr c38
       by_cases c56 : t202 = true
       ·subst c56
        have H1 : (if t204 = t230 then (some (t205 == t231)) else (some false)) = some r := by rw [if_pos rfl] at H; exact H
        clear H
        have H := H1
        clear H1
        by_cases c57 : t204 = t230
        ·rw [if_pos c57] at H
         have c57b0 : (t204 == t230) = true := beq_iff_eq.mpr c57
         have c57b1 : (t204 != t230) = false := bne_eq_false_iff_eq.mpr c57
         clear c57
         obtain rfl := Option.some.inj H
         have hnb58 := NB216_225.out
         have hnc58 := NB225_216.out
         have hcz59_0 : wc.cell? ⟨gb216, 0, none⟩ = some (.int .i64 t211) := (blk_cell BK216.out 0).trans rfl
         have hcz59_1 : wc.cell? ⟨gb216, 1, none⟩ = some (.string t212) := (blk_cell BK216.out 1).trans rfl
         have hcz59_2 : wc.cell? ⟨gb216, 2, none⟩ = some (.int .i64 t213) := (blk_cell BK216.out 2).trans rfl
         have hfz59_0 := blk_frozen BK216.out 0
         have hfz59_1 := blk_frozen BK216.out 1
         have hfz59_2 := blk_frozen BK216.out 2
         go_wp2_with (first | ((with_reducible refine gate_callee (f := 14) rfl ?_); refine goesL_ (some 82) rfl rfl Tryd.func14 (by kernel_rfl) rfl #[.agg #[.int .i64 t211, .string t212, .int .i64 t213]] rfl (by (try simp only [List.map_toArray, List.map_cons, List.map_nil]); first | done | rfl | (simp only [List.length_drop, List.length_take]; rfl)) ?_; (with_reducible refine (lex_Finish.calls t211 t212 t213 t227 t230 t231 _ ?side1 A37.out).mono ?_); (case side1 => exact HG.out _ (by repeat (first | (with_reducible first | exact HB.out | apply below_alloc | apply pw_below_drewN | apply below_drew1 | refine below_set ?_ GE216.out | refine below_set ?_ GE225.out) | exact HB.out))); rintro e w60 ⟨v228, rfl, ho0, hb⟩; refine ⟨_, rfl, ?_⟩; have n0_ := Aside0.mk (Kd.R_elder' (by (with_reducible repeat (first | apply Kd.R_alloc | apply Kd.R_drewN | apply Kd.R_drew)); exact HO_8.out) (Kd.R_base ho0) hb); have n1_ := Aside0.mk (Kd.R_elder' (by (with_reducible repeat (first | apply Kd.R_alloc | apply Kd.R_drewN | apply Kd.R_drew)); exact HO_11.out) (Kd.R_base ho0) hb); have n2_ := Aside0.mk (Kd.R_lower (Kd.R_new' (Kd.R_new' ho0 (Kd.R_lt (by (with_reducible repeat (first | apply Kd.R_alloc | apply Kd.R_drewN | apply Kd.R_drew)); exact HO_8.out))) (Kd.R_lt (by (with_reducible repeat (first | apply Kd.R_alloc | apply Kd.R_drewN | apply Kd.R_drew)); exact HO_11.out))) (below_size (by repeat (first | (with_reducible first | exact HB.out | apply below_alloc | apply pw_below_drewN | apply below_drew1 | refine below_set ?_ GE216.out | refine below_set ?_ GE225.out) | exact HB.out)))); have n3_ := Aside0.mk (blk_below (g := gb216) (o := .cells #[.int .i64 t211, .string t212, .int .i64 t213] 29 (0, 0)) (by (with_reducible repeat (first | refine blk_drewN ?_ _ | refine blk_drew ?_ | refine blk_alloc ?_ _)); exact BK216.out) hb); have n4_ := Aside0.mk (blk_below (g := gb225) (o := .cells #[.int .i64 t220, .string t221, .int .i64 t222] 29 (0, 0)) (by (with_reducible repeat (first | refine blk_drewN ?_ _ | refine blk_drew ?_ | refine blk_alloc ?_ _)); exact BK225.out) hb); have n5_ := Aside0.mk (below_step (by repeat (first | (with_reducible first | exact HB.out | apply below_alloc | apply pw_below_drewN | apply below_drew1 | refine below_set ?_ GE216.out | refine below_set ?_ GE225.out) | exact HB.out)) hb); clear HO_8; clear HO_11; clear BK216; clear BK225; clear HB; have HO_8 := n0_; have HO_11 := n1_; have HO229 := n2_; have BK216 := n3_; have BK225 := n4_; have HB := n5_; clear n0_ n1_ n2_ n3_ n4_ n5_; (try clear hb); (try clear hb2); (try clear hk); (try clear hi); (try clear ho0)))
         go_ret
         exact ⟨by first | rfl | (simp [errW_none, errW_some] <;> rfl) | (simp [*, errW_none, errW_some] <;> rfl), by repeat (first | (with_reducible first | exact HB.out | apply below_alloc | apply pw_below_drewN | apply below_drew1 | refine below_set ?_ GE216.out | refine below_set ?_ GE225.out) | exact HB.out)⟩
        ·rw [if_neg c57] at H
         first | exact absurd (H.trans (congrArg some HRT.out)) (by simp) | exact absurd (H.trans (congrArg some HRT.out)) (mjolnerlaw04_LexPieces.j0_true _ _ _ _ _ _ _ _ _ _ _)
       ·replace c56 := Bool.eq_false_iff.mpr c56
        subst c56
        have H1 : (some false) = some r := by rw [if_neg (show ¬ (false = true) by decide)] at H; exact H
        clear H
        have H := H1
        clear H1
        first | exact absurd (H.trans (congrArg some HRT.out)) (by simp) | exact absurd (H.trans (congrArg some HRT.out)) (mjolnerlaw04_LexPieces.j0_true _ _ _ _ _ _ _ _ _ _ _)
     ·rw [if_neg c36] at H
      have c36b0 : (t214 == 0) = false := beq_eq_false_iff_ne.mpr c36
      have c36b1 : (t214 != 0) = true := bne_iff_ne.mpr c36
      by_cases c67 : t202 = true
      ·subst c67
       have H1 : (if t204 = t214 then (some (t205 == t215)) else (some false)) = some r := by rw [if_pos rfl] at H; exact H
       clear H
       have H := H1
       clear H1
       by_cases c68 : t204 = t214
       ·rw [if_pos c68] at H
        have c68b0 : (t204 == t214) = true := beq_iff_eq.mpr c68
        have c68b1 : (t204 != t214) = false := bne_eq_false_iff_eq.mpr c68
        clear c68
        obtain rfl := Option.some.inj H
        go_wp2
        go_ret
        exact ⟨by first | rfl | (simp [errW_none, errW_some] <;> rfl) | (simp [*, errW_none, errW_some] <;> rfl), by repeat (first | (with_reducible first | exact HB.out | apply below_alloc | apply pw_below_drewN | apply below_drew1 | refine below_set ?_ GE216.out | refine below_set ?_ GE225.out) | exact HB.out)⟩
       ·rw [if_neg c68] at H
        first | exact absurd (H.trans (congrArg some HRT.out)) (by simp) | exact absurd (H.trans (congrArg some HRT.out)) (mjolnerlaw04_LexPieces.j0_true _ _ _ _ _ _ _ _ _ _ _)
      ·replace c67 := Bool.eq_false_iff.mpr c67
       subst c67
       have H1 : (some false) = some r := by rw [if_neg (show ¬ (false = true) by decide)] at H; exact H
       clear H
       have H := H1
       clear H1
       first | exact absurd (H.trans (congrArg some HRT.out)) (by simp) | exact absurd (H.trans (congrArg some HRT.out)) (mjolnerlaw04_LexPieces.j0_true _ _ _ _ _ _ _ _ _ _ _)
end Go.Proofs.YtniihjhlkpjnoaaDoor.PV
