-- Written by a program of mine (wip/print_given.sh: the kit's print, changed so that some functions are given by contracts).
import Derived.Test.YtdcemnmbfblmiaaDoorPTx0
import Derived.Test.YtdcemnmbfblmiaaDoorPTx3
import Derived.Test.YtdcemnmbfblmiaaDoorSane
namespace Go.Proofs.YtdcemnmbfblmiaaDoor.PT
open Go.RowKit Go.Proofs.YtdcemnmbfblmiaaDoor.Given Go.Proofs.YtdcemnmbfblmiaaDoorW.PrintWords Go.Proofs.YtdcemnmbfblmiaaDoorW.PrintLast Go.Proofs.YtdcemnmbfblmiaaDoorW.PrintMore
attribute [local go_sem] max2_int min2_int max_two min_two max_three min_three max_four min_four   -- for this text's walks alone
set_option linter.unusedVariables false
set_option linter.unusedSimpArgs false

/-! ### mjolnerlaw03_TextDiffs: function 13 -/
mutual
def mjolnerlaw03_TextDiffs.j0 : Nat → ByteArray → ByteArray → Bool → Bool → Option (Bool)
  | 0, _, _, _, _ => none
  | k + 1, x0, x1, x5, x17 => if x17 = true then (some x5) else ((text_Diff.f k x0 x1).bind fun bt359 => ((text_Apply.f x0 bt359.1 bt359.2.1 bt359.2.2).bind fun bt363 => (if bt363.2 = 0 then (if bt363.1.toList = x1.toList then (if bt359.2.1 = 0 then (mjolnerlaw03_TextDiffs.j1 k x0 x5 ((bt359.2.2.toList == ([] : List UInt8)) != (x0.toList == x1.toList)) bt359.1 bt359.2.1 bt359.2.2) else (mjolnerlaw03_TextDiffs.j1 k x0 x5 (false != (x0.toList == x1.toList)) bt359.1 bt359.2.1 bt359.2.2)) else (mjolnerlaw03_TextDiffs.j1 k x0 x5 true bt359.1 bt359.2.1 bt359.2.2)) else (mjolnerlaw03_TextDiffs.j1 k x0 x5 true bt359.1 bt359.2.1 bt359.2.2))))
def mjolnerlaw03_TextDiffs.j1 : Nat → ByteArray → Bool → Bool → Int → Int → ByteArray → Option (Bool)
  | 0, _, _, _, _, _, _ => none
  | k + 1, x0, x5, x48, x363000, x363001, x363002 => if x48 = true then (some false) else (if x363001 > 0 then (if x363002.toList = ([] : List UInt8) then (some x5) else (if x5 = true then (if 0 ≤ x363000 then (if x363000 < (x0.size : Int) then (if 0 < (x363002.size : Int) then (if (bt x0 x363000) = (bt x363002 0) then (some false) else (if 0 ≤ (wrap64 ((wrap64 (x363000 + x363001)) - 1)) then (if (wrap64 ((wrap64 (x363000 + x363001)) - 1)) < (x0.size : Int) then (if 0 ≤ (wrap64 ((x363002.size : Int) - 1)) then (if (wrap64 ((x363002.size : Int) - 1)) < (x363002.size : Int) then (some ((bt x0 (wrap64 ((wrap64 (x363000 + x363001)) - 1))) != (bt x363002 (wrap64 ((x363002.size : Int) - 1))))) else (none)) else (none)) else (none)) else (none))) else (none)) else (none)) else (none)) else (some false))) else (some x5))
end
def mjolnerlaw03_TextDiffs.f (k : Nat) (a0 : ByteArray) (a1 : ByteArray) : Option (Bool) := (mjolnerlaw03_sane.f).bind fun t358 => (if (a0.size : Int) > 1048576 then (mjolnerlaw03_TextDiffs.j0 k a0 a1 t358 true) else (mjolnerlaw03_TextDiffs.j0 k a0 a1 t358 (decide ((a1.size : Int) > 1048576))))
theorem mjolnerlaw03_TextDiffs.mono_l : ∀ k, (∀ y0 y1 y2 y3, LeO (mjolnerlaw03_TextDiffs.j0 k y0 y1 y2 y3) (mjolnerlaw03_TextDiffs.j0 (k + 1) y0 y1 y2 y3)) ∧ (∀ y0 y1 y2 y3 y4 y5, LeO (mjolnerlaw03_TextDiffs.j1 k y0 y1 y2 y3 y4 y5) (mjolnerlaw03_TextDiffs.j1 (k + 1) y0 y1 y2 y3 y4 y5))
  | 0 => ⟨fun _ _ _ _ r h => by simp [mjolnerlaw03_TextDiffs.j0] at h, fun _ _ _ _ _ _ r h => by simp [mjolnerlaw03_TextDiffs.j1] at h⟩
  | k + 1 => by
    obtain ⟨ih0, ih1⟩ := mjolnerlaw03_TextDiffs.mono_l k
    refine ⟨?_, ?_⟩
    · intro y0 y1 y2 y3
      unfold mjolnerlaw03_TextDiffs.j0
      repeat' first
      | (with_reducible exact ih0 _ _ _ _)
      | (with_reducible exact ih1 _ _ _ _ _ _)
      | (with_reducible exact text_Diff.mono _ _ _)
      | (with_reducible exact LeO.refl _)
      | (with_reducible exact LeO.none _)
      | (with_reducible refine LeO.ite ?_ ?_)
      | (with_reducible refine LeO.bind ?_ (fun _ => ?_))
      | exact ih0 _ _ _ _
      | exact ih1 _ _ _ _ _ _
      | exact text_Diff.mono _ _ _
      | exact LeO.none _
      | refine LeO.ite ?_ ?_
      | refine LeO.bind ?_ (fun _ => ?_)
    · intro y0 y1 y2 y3 y4 y5
      unfold mjolnerlaw03_TextDiffs.j1
      repeat' first
      | (with_reducible exact ih0 _ _ _ _)
      | (with_reducible exact ih1 _ _ _ _ _ _)
      | (with_reducible exact text_Diff.mono _ _ _)
      | (with_reducible exact LeO.refl _)
      | (with_reducible exact LeO.none _)
      | (with_reducible refine LeO.ite ?_ ?_)
      | (with_reducible refine LeO.bind ?_ (fun _ => ?_))
      | exact ih0 _ _ _ _
      | exact ih1 _ _ _ _ _ _
      | exact text_Diff.mono _ _ _
      | exact LeO.none _
      | refine LeO.ite ?_ ?_
      | refine LeO.bind ?_ (fun _ => ?_)
theorem mjolnerlaw03_TextDiffs.mono : ∀ a0 a1 k, LeO (mjolnerlaw03_TextDiffs.f k a0 a1) (mjolnerlaw03_TextDiffs.f (k + 1) a0 a1) := by
  intro a0 a1 k
  obtain ⟨ih0, ih1⟩ := mjolnerlaw03_TextDiffs.mono_l k
  unfold mjolnerlaw03_TextDiffs.f
  repeat' first
      | (with_reducible exact ih0 _ _ _ _)
      | (with_reducible exact ih1 _ _ _ _ _ _)
      | (with_reducible exact text_Diff.mono _ _ _)
      | (with_reducible exact LeO.refl _)
      | (with_reducible exact LeO.none _)
      | (with_reducible refine LeO.ite ?_ ?_)
      | (with_reducible refine LeO.bind ?_ (fun _ => ?_))
      | exact ih0 _ _ _ _
      | exact ih1 _ _ _ _ _ _
      | exact text_Diff.mono _ _ _
      | exact LeO.none _
      | refine LeO.ite ?_ ?_
      | refine LeO.bind ?_ (fun _ => ?_)
set_option maxHeartbeats 8000000 in
set_option maxRecDepth 100000 in
theorem mjolnerlaw03_TextDiffs.calls (k : Nat) (a0 : ByteArray) (a1 : ByteArray) (r : Bool) (w : World) (hG : LaidG w) (h : mjolnerlaw03_TextDiffs.f k a0 a1 = some r) :
    Calls Tryd.prog 13 #[.string a0, .string a1] w fun e w' => e = .returned (.bool r) ∧ Below w.heap.size w w' := by
  have hu47 := Tryd.underlying47
  have HB := Aside0.mk (Below.refl w.heap.size w)
  have HG := Aside0.mk (LaidG.keep hG)
  clear hG
  have H : ((mjolnerlaw03_sane.f).bind fun t358 => (if (a0.size : Int) > 1048576 then (mjolnerlaw03_TextDiffs.j0 k a0 a1 t358 true) else (mjolnerlaw03_TextDiffs.j0 k a0 a1 t358 (decide ((a1.size : Int) > 1048576))))) = some r := h
  clear h
  replace H := Option.bind_eq_some_iff.mp H
  obtain ⟨t358, A30, H⟩ := H
  replace H : (if (a0.size : Int) > 1048576 then (mjolnerlaw03_TextDiffs.j0 k a0 a1 t358 true) else (mjolnerlaw03_TextDiffs.j0 k a0 a1 t358 (decide ((a1.size : Int) > 1048576)))) = some r := H
  have A3 := Aside0.mk A30
  clear A30
  have HC4 := Aside0.mk H
  clear H
  go_enter Tryd.func13, Tryd.ntmps13
  go_upto_region 2 with (first | (go_at_call 29; (with_reducible refine (mjolnerlaw03_sane.calls  t358 _ ?side1 A3.out).mono ?_); (case side1 => exact HG.out _ (by repeat (first | (with_reducible first | exact HB.out | apply below_alloc | apply pw_below_drewN | apply below_drew1) | exact HB.out))); rintro e w5 ⟨rfl, hb⟩; have n0_ := Aside0.mk (below_step (by repeat (first | (with_reducible first | exact HB.out | apply below_alloc | apply pw_below_drewN | apply below_drew1) | exact HB.out)) hb); clear HB; have HB := n0_; clear n0_; (try clear hb); (try clear hb2); (try clear hk); (try clear hi)))
  repeat (go_quiet (first | (go_at_call 29; (with_reducible refine (mjolnerlaw03_sane.calls  t358 _ ?side1 A3.out).mono ?_); (case side1 => exact HG.out _ (by repeat (first | (with_reducible first | exact HB.out | apply below_alloc | apply pw_below_drewN | apply below_drew1) | exact HB.out))); rintro e w5 ⟨rfl, hb⟩; have n0_ := Aside0.mk (below_step (by repeat (first | (with_reducible first | exact HB.out | apply below_alloc | apply pw_below_drewN | apply below_drew1) | exact HB.out)) hb); clear HB; have HB := n0_; clear n0_; (try clear hb); (try clear hb2); (try clear hk); (try clear hi))); go_upto_region 2 with (first | (go_at_call 29; (with_reducible refine (mjolnerlaw03_sane.calls  t358 _ ?side1 A3.out).mono ?_); (case side1 => exact HG.out _ (by repeat (first | (with_reducible first | exact HB.out | apply below_alloc | apply pw_below_drewN | apply below_drew1) | exact HB.out))); rintro e w5 ⟨rfl, hb⟩; have n0_ := Aside0.mk (below_step (by repeat (first | (with_reducible first | exact HB.out | apply below_alloc | apply pw_below_drewN | apply below_drew1) | exact HB.out)) hb); clear HB; have HB := n0_; clear n0_; (try clear hb); (try clear hb2); (try clear hk); (try clear hi))))
  (try simp only [Act.put, List.setIfInBounds_toArray, List.set_cons_zero, List.set_cons_succ])
  go_cut [17] (fun v17 wc => ∃ (kq : Nat) (x17_3 : Bool), v17 = .bool x17_3 ∧ Aside0 (mjolnerlaw03_TextDiffs.j0 kq a0 a1 t358 x17_3 = some r) ∧ Aside0 (kq ≤ k) ∧ Aside0 (Below w.heap.size w wc))
  case first =>
    have H := HC4.out
    clear HC4
    by_cases c6 : (a0.size : Int) > 1048576
    · rw [if_pos c6] at H
      have c6b0 : decide (1048576 < (a0.size : Int)) = true := decide_eq_true c6
      have c6b1 : decide (1048576 < a0.size) = true := decide_eq_true (by omega)
      clear c6
      (first | rw [c6b0] | (simp only [i64_w, i32_w]; rw [c6b0]) | rw [c6b1] | skip)
      have H' := Aside0.mk H
      clear H
      go_wp2
      repeat (go_quiet (fail); try go_wp2)
      go_meet
      case rel => exact ⟨_, (true), (by first | rfl | (simp; done) | (simp [*]; done) | (simp; exact ((by decide : ∀ a b : Bool, (a == b) = (!a != b)) _ _))), H', ⟨by first | omega | exact Nat.le_refl _⟩, ⟨by repeat (first | (with_reducible first | exact HB.out | apply below_alloc | apply pw_below_drewN | apply below_drew1) | exact HB.out)⟩⟩
    · rw [if_neg c6] at H
      have c6b0 : decide (1048576 < (a0.size : Int)) = false := decide_eq_false c6
      have c6b1 : decide (1048576 < a0.size) = false := decide_eq_false (by omega)
      clear c6
      (first | rw [c6b0] | (simp only [i64_w, i32_w]; rw [c6b0]) | rw [c6b1] | skip)
      have H' := Aside0.mk H
      clear H
      go_wp2
      repeat (go_quiet (fail); try go_wp2)
      go_meet
      case rel => exact ⟨_, (decide ((a1.size : Int) > 1048576)), (by first | rfl | (simp; done) | (simp [*]; done) | (simp; exact ((by decide : ∀ a b : Bool, (a == b) = (!a != b)) _ _))), H', ⟨by first | omega | exact Nat.le_refl _⟩, ⟨by repeat (first | (with_reducible first | exact HB.out | apply below_alloc | apply pw_below_drewN | apply below_drew1) | exact HB.out)⟩⟩
  case rest =>
    clear HC4
    try clear c1
    try clear p2
    try clear c6
    try clear c6b0
    try clear c6b1
    obtain ⟨kq, x17_3, rfl, HA, HJ3, HB⟩ := hcut
    cases kq with
    | zero => exact absurd HA.out (by simp [mjolnerlaw03_TextDiffs.j0])
    | succ kj3 =>
      have H := HA.out
      clear HA
      simp only [mjolnerlaw03_TextDiffs.j0] at H
      by_cases c7 : x17_3 = true
      · subst c7
        have H1 : (some t358) = some r := by rw [if_pos rfl] at H; exact H
        clear H
        have H := H1
        clear H1
        obtain rfl := Option.some.inj H
        go_wp2
        repeat (go_quiet (fail); try go_wp2)
        go_ret
        exact ⟨by first | rfl | (simp [errW_none, errW_some] <;> rfl) | (simp [*, errW_none, errW_some] <;> rfl), by repeat (first | (with_reducible first | exact HB.out | apply below_alloc | apply pw_below_drewN | apply below_drew1) | exact HB.out)⟩
      · replace c7 := Bool.eq_false_iff.mpr c7
        subst c7
        have H1 : ((text_Diff.f kj3 a0 a1).bind fun bt359 => ((text_Apply.f a0 bt359.1 bt359.2.1 bt359.2.2).bind fun bt363 => (if bt363.2 = 0 then (if bt363.1.toList = a1.toList then (if bt359.2.1 = 0 then (mjolnerlaw03_TextDiffs.j1 kj3 a0 t358 ((bt359.2.2.toList == ([] : List UInt8)) != (a0.toList == a1.toList)) bt359.1 bt359.2.1 bt359.2.2) else (mjolnerlaw03_TextDiffs.j1 kj3 a0 t358 (false != (a0.toList == a1.toList)) bt359.1 bt359.2.1 bt359.2.2)) else (mjolnerlaw03_TextDiffs.j1 kj3 a0 t358 true bt359.1 bt359.2.1 bt359.2.2)) else (mjolnerlaw03_TextDiffs.j1 kj3 a0 t358 true bt359.1 bt359.2.1 bt359.2.2)))) = some r := by rw [if_neg (show ¬ (false = true) by decide)] at H; exact H
        clear H
        have H := H1
        clear H1
        replace H := Option.bind_eq_some_iff.mp H
        obtain ⟨⟨t359, t360, t361⟩, A80, H⟩ := H
        replace H : ((text_Apply.f a0 t359 t360 t361).bind fun bt363 => (if bt363.2 = 0 then (if bt363.1.toList = a1.toList then (if t360 = 0 then (mjolnerlaw03_TextDiffs.j1 kj3 a0 t358 ((t361.toList == ([] : List UInt8)) != (a0.toList == a1.toList)) t359 t360 t361) else (mjolnerlaw03_TextDiffs.j1 kj3 a0 t358 (false != (a0.toList == a1.toList)) t359 t360 t361)) else (mjolnerlaw03_TextDiffs.j1 kj3 a0 t358 true t359 t360 t361)) else (mjolnerlaw03_TextDiffs.j1 kj3 a0 t358 true t359 t360 t361))) = some r := H
        have A8 := Aside0.mk A80
        clear A80
        replace H := Option.bind_eq_some_iff.mp H
        obtain ⟨⟨t363, t364⟩, A90, H⟩ := H
        replace H : (if t364 = 0 then (if t363.toList = a1.toList then (if t360 = 0 then (mjolnerlaw03_TextDiffs.j1 kj3 a0 t358 ((t361.toList == ([] : List UInt8)) != (a0.toList == a1.toList)) t359 t360 t361) else (mjolnerlaw03_TextDiffs.j1 kj3 a0 t358 (false != (a0.toList == a1.toList)) t359 t360 t361)) else (mjolnerlaw03_TextDiffs.j1 kj3 a0 t358 true t359 t360 t361)) else (mjolnerlaw03_TextDiffs.j1 kj3 a0 t358 true t359 t360 t361)) = some r := H
        have A9 := Aside0.mk A90
        clear A90
        have HC10 := Aside0.mk H
        clear H
        go_upto_region 6 with (first | (go_at_call 49; (with_reducible refine (text_Diff.calls kj3 a0 a1 t359 t360 t361 _ A8.out).mono ?_); rintro e w11 ⟨rfl, hb⟩; have n0_ := Aside0.mk (below_step (by repeat (first | (with_reducible first | exact HB.out | apply below_alloc | apply pw_below_drewN | apply below_drew1) | exact HB.out)) hb); clear HB; have HB := n0_; clear n0_; (try clear hb); (try clear hb2); (try clear hk); (try clear hi)) | ((with_reducible refine gate_dst (N := 6) rfl ?_); (try (refine gate_guard (by rfl) ?_; dsimp only)); refine box_event ?hg (N := 6) ?hd (cs := #[.int .i64 0, .int .i64 0, .string (⟨#[]⟩ : ByteArray)]) (t := 47) ?hr ?_; (case hd => rfl); (case hg => rfl); (case hr => first | (go_simp; done) | (go_simp; rfl)); intro gb362 hg w12 hbox hb; have n0_ := Aside0.mk (below_step (by repeat (first | (with_reducible first | exact HB.out | apply below_alloc | apply pw_below_drewN | apply below_drew1) | exact HB.out)) hb); have n1_ := Aside0.mk (hbox); have n2_ := Aside0.mk ((by rw [hg]; exact (below_size (by repeat (first | (with_reducible first | exact HB.out | apply below_alloc | apply pw_below_drewN | apply below_drew1) | exact HB.out))) : w.heap.size ≤ gb362)); have n3_ := Aside0.mk ((by rw [hg]; exact (below_size (by repeat (first | (with_reducible first | exact HB.out | apply below_alloc | apply pw_below_drewN | apply below_drew1) | exact HB.out))) : w.heap.size ≤ gb362)); clear HB; have HB := n0_; have BK362 := n1_; have GW362 := n2_; have GE362 := n3_; clear n0_ n1_ n2_ n3_; clear hb hbox hg; have hcz13_0 : w12.cell? ⟨gb362, 0, none⟩ = some (.int .i64 0) := (blk_cell BK362.out 0).trans rfl; have hcz13_1 : w12.cell? ⟨gb362, 1, none⟩ = some (.int .i64 0) := (blk_cell BK362.out 1).trans rfl; have hcz13_2 : w12.cell? ⟨gb362, 2, none⟩ = some (.string (⟨#[]⟩ : ByteArray)) := (blk_cell BK362.out 2).trans rfl; have hfz13_0 := blk_frozen BK362.out 0; have hfz13_1 := blk_frozen BK362.out 1; have hfz13_2 := blk_frozen BK362.out 2) | (go_at_call 45; (with_reducible refine (text_Apply.calls a0 t359 t360 t361 t363 t364 _ A9.out).mono ?_); rintro e w14 ⟨rfl, hb⟩; have n0_ := Aside0.mk (blk_below (g := gb362) (o := .cells #[.int .i64 t359, .int .i64 t360, .string t361] 47 (0, 0)) (by (with_reducible repeat (first | refine blk_drewN ?_ _ | refine blk_drew ?_ | refine blk_alloc ?_ _)); refine blk_put (cs := #[.int .i64 t359, .int .i64 t360, .string (⟨#[]⟩ : ByteArray)]) ?_ 2 _ rfl; (with_reducible repeat (first | refine blk_drewN ?_ _ | refine blk_drew ?_ | refine blk_alloc ?_ _)); refine blk_put (cs := #[.int .i64 t359, .int .i64 0, .string (⟨#[]⟩ : ByteArray)]) ?_ 1 _ rfl; (with_reducible repeat (first | refine blk_drewN ?_ _ | refine blk_drew ?_ | refine blk_alloc ?_ _)); refine blk_put (cs := #[.int .i64 0, .int .i64 0, .string (⟨#[]⟩ : ByteArray)]) ?_ 0 _ rfl; (with_reducible repeat (first | refine blk_drewN ?_ _ | refine blk_drew ?_ | refine blk_alloc ?_ _)); exact BK362.out) hb); have n1_ := Aside0.mk (below_step (by repeat (first | (with_reducible first | exact HB.out | apply below_alloc | apply pw_below_drewN | apply below_drew1 | refine below_set ?_ GE362.out) | exact HB.out)) hb); clear BK362; clear HB; have BK362 := n0_; have HB := n1_; clear n0_ n1_; (try clear hb); (try clear hb2); (try clear hk); (try clear hi)))
        repeat (go_quiet (first | (go_at_call 49; (with_reducible refine (text_Diff.calls kj3 a0 a1 t359 t360 t361 _ A8.out).mono ?_); rintro e w11 ⟨rfl, hb⟩; have n0_ := Aside0.mk (below_step (by repeat (first | (with_reducible first | exact HB.out | apply below_alloc | apply pw_below_drewN | apply below_drew1) | exact HB.out)) hb); clear HB; have HB := n0_; clear n0_; (try clear hb); (try clear hb2); (try clear hk); (try clear hi)) | ((with_reducible refine gate_dst (N := 6) rfl ?_); (try (refine gate_guard (by rfl) ?_; dsimp only)); refine box_event ?hg (N := 6) ?hd (cs := #[.int .i64 0, .int .i64 0, .string (⟨#[]⟩ : ByteArray)]) (t := 47) ?hr ?_; (case hd => rfl); (case hg => rfl); (case hr => first | (go_simp; done) | (go_simp; rfl)); intro gb362 hg w12 hbox hb; have n0_ := Aside0.mk (below_step (by repeat (first | (with_reducible first | exact HB.out | apply below_alloc | apply pw_below_drewN | apply below_drew1) | exact HB.out)) hb); have n1_ := Aside0.mk (hbox); have n2_ := Aside0.mk ((by rw [hg]; exact (below_size (by repeat (first | (with_reducible first | exact HB.out | apply below_alloc | apply pw_below_drewN | apply below_drew1) | exact HB.out))) : w.heap.size ≤ gb362)); have n3_ := Aside0.mk ((by rw [hg]; exact (below_size (by repeat (first | (with_reducible first | exact HB.out | apply below_alloc | apply pw_below_drewN | apply below_drew1) | exact HB.out))) : w.heap.size ≤ gb362)); clear HB; have HB := n0_; have BK362 := n1_; have GW362 := n2_; have GE362 := n3_; clear n0_ n1_ n2_ n3_; clear hb hbox hg; have hcz13_0 : w12.cell? ⟨gb362, 0, none⟩ = some (.int .i64 0) := (blk_cell BK362.out 0).trans rfl; have hcz13_1 : w12.cell? ⟨gb362, 1, none⟩ = some (.int .i64 0) := (blk_cell BK362.out 1).trans rfl; have hcz13_2 : w12.cell? ⟨gb362, 2, none⟩ = some (.string (⟨#[]⟩ : ByteArray)) := (blk_cell BK362.out 2).trans rfl; have hfz13_0 := blk_frozen BK362.out 0; have hfz13_1 := blk_frozen BK362.out 1; have hfz13_2 := blk_frozen BK362.out 2) | (go_at_call 45; (with_reducible refine (text_Apply.calls a0 t359 t360 t361 t363 t364 _ A9.out).mono ?_); rintro e w14 ⟨rfl, hb⟩; have n0_ := Aside0.mk (blk_below (g := gb362) (o := .cells #[.int .i64 t359, .int .i64 t360, .string t361] 47 (0, 0)) (by (with_reducible repeat (first | refine blk_drewN ?_ _ | refine blk_drew ?_ | refine blk_alloc ?_ _)); refine blk_put (cs := #[.int .i64 t359, .int .i64 t360, .string (⟨#[]⟩ : ByteArray)]) ?_ 2 _ rfl; (with_reducible repeat (first | refine blk_drewN ?_ _ | refine blk_drew ?_ | refine blk_alloc ?_ _)); refine blk_put (cs := #[.int .i64 t359, .int .i64 0, .string (⟨#[]⟩ : ByteArray)]) ?_ 1 _ rfl; (with_reducible repeat (first | refine blk_drewN ?_ _ | refine blk_drew ?_ | refine blk_alloc ?_ _)); refine blk_put (cs := #[.int .i64 0, .int .i64 0, .string (⟨#[]⟩ : ByteArray)]) ?_ 0 _ rfl; (with_reducible repeat (first | refine blk_drewN ?_ _ | refine blk_drew ?_ | refine blk_alloc ?_ _)); exact BK362.out) hb); have n1_ := Aside0.mk (below_step (by repeat (first | (with_reducible first | exact HB.out | apply below_alloc | apply pw_below_drewN | apply below_drew1 | refine below_set ?_ GE362.out) | exact HB.out)) hb); clear BK362; clear HB; have BK362 := n0_; have HB := n1_; clear n0_ n1_; (try clear hb); (try clear hb2); (try clear hk); (try clear hi))); go_upto_region 6 with (first | (go_at_call 49; (with_reducible refine (text_Diff.calls kj3 a0 a1 t359 t360 t361 _ A8.out).mono ?_); rintro e w11 ⟨rfl, hb⟩; have n0_ := Aside0.mk (below_step (by repeat (first | (with_reducible first | exact HB.out | apply below_alloc | apply pw_below_drewN | apply below_drew1) | exact HB.out)) hb); clear HB; have HB := n0_; clear n0_; (try clear hb); (try clear hb2); (try clear hk); (try clear hi)) | ((with_reducible refine gate_dst (N := 6) rfl ?_); (try (refine gate_guard (by rfl) ?_; dsimp only)); refine box_event ?hg (N := 6) ?hd (cs := #[.int .i64 0, .int .i64 0, .string (⟨#[]⟩ : ByteArray)]) (t := 47) ?hr ?_; (case hd => rfl); (case hg => rfl); (case hr => first | (go_simp; done) | (go_simp; rfl)); intro gb362 hg w12 hbox hb; have n0_ := Aside0.mk (below_step (by repeat (first | (with_reducible first | exact HB.out | apply below_alloc | apply pw_below_drewN | apply below_drew1) | exact HB.out)) hb); have n1_ := Aside0.mk (hbox); have n2_ := Aside0.mk ((by rw [hg]; exact (below_size (by repeat (first | (with_reducible first | exact HB.out | apply below_alloc | apply pw_below_drewN | apply below_drew1) | exact HB.out))) : w.heap.size ≤ gb362)); have n3_ := Aside0.mk ((by rw [hg]; exact (below_size (by repeat (first | (with_reducible first | exact HB.out | apply below_alloc | apply pw_below_drewN | apply below_drew1) | exact HB.out))) : w.heap.size ≤ gb362)); clear HB; have HB := n0_; have BK362 := n1_; have GW362 := n2_; have GE362 := n3_; clear n0_ n1_ n2_ n3_; clear hb hbox hg; have hcz13_0 : w12.cell? ⟨gb362, 0, none⟩ = some (.int .i64 0) := (blk_cell BK362.out 0).trans rfl; have hcz13_1 : w12.cell? ⟨gb362, 1, none⟩ = some (.int .i64 0) := (blk_cell BK362.out 1).trans rfl; have hcz13_2 : w12.cell? ⟨gb362, 2, none⟩ = some (.string (⟨#[]⟩ : ByteArray)) := (blk_cell BK362.out 2).trans rfl; have hfz13_0 := blk_frozen BK362.out 0; have hfz13_1 := blk_frozen BK362.out 1; have hfz13_2 := blk_frozen BK362.out 2) | (go_at_call 45; (with_reducible refine (text_Apply.calls a0 t359 t360 t361 t363 t364 _ A9.out).mono ?_); rintro e w14 ⟨rfl, hb⟩; have n0_ := Aside0.mk (blk_below (g := gb362) (o := .cells #[.int .i64 t359, .int .i64 t360, .string t361] 47 (0, 0)) (by (with_reducible repeat (first | refine blk_drewN ?_ _ | refine blk_drew ?_ | refine blk_alloc ?_ _)); refine blk_put (cs := #[.int .i64 t359, .int .i64 t360, .string (⟨#[]⟩ : ByteArray)]) ?_ 2 _ rfl; (with_reducible repeat (first | refine blk_drewN ?_ _ | refine blk_drew ?_ | refine blk_alloc ?_ _)); refine blk_put (cs := #[.int .i64 t359, .int .i64 0, .string (⟨#[]⟩ : ByteArray)]) ?_ 1 _ rfl; (with_reducible repeat (first | refine blk_drewN ?_ _ | refine blk_drew ?_ | refine blk_alloc ?_ _)); refine blk_put (cs := #[.int .i64 0, .int .i64 0, .string (⟨#[]⟩ : ByteArray)]) ?_ 0 _ rfl; (with_reducible repeat (first | refine blk_drewN ?_ _ | refine blk_drew ?_ | refine blk_alloc ?_ _)); exact BK362.out) hb); have n1_ := Aside0.mk (below_step (by repeat (first | (with_reducible first | exact HB.out | apply below_alloc | apply pw_below_drewN | apply below_drew1 | refine below_set ?_ GE362.out) | exact HB.out)) hb); clear BK362; clear HB; have BK362 := n0_; have HB := n1_; clear n0_ n1_; (try clear hb); (try clear hb2); (try clear hk); (try clear hi))))
        (try simp only [Act.put, List.setIfInBounds_toArray, List.set_cons_zero, List.set_cons_succ])
        go_cut [48] (fun v48 wc => ∃ (kq : Nat) (x48_9 : Bool), v48 = .bool x48_9 ∧ Aside0 (mjolnerlaw03_TextDiffs.j1 kq a0 t358 x48_9 t359 t360 t361 = some r) ∧ Aside0 (kq ≤ kj3) ∧ Aside0 (wc.heap[gb362]? = some (.cells #[.int .i64 t359, .int .i64 t360, .string t361] 47 (0, 0))) ∧ Aside0 (Below w.heap.size w wc))
        case first =>
          have H := HC10.out
          clear HC10
          by_cases c15 : t364 = 0
          · rw [if_pos c15] at H
            have c15b0 : (t364 == 0) = true := beq_iff_eq.mpr c15
            have c15b1 : (t364 != 0) = false := bne_eq_false_iff_eq.mpr c15
            clear c15
            (first | rw [c15b0] | (simp only [i64_w, i32_w]; rw [c15b0]) | rw [c15b1] | skip)
            by_cases c16 : t363.toList = a1.toList
            · rw [if_pos c16] at H
              have c16b0 : (t363.toList == a1.toList) = true := beq_iff_eq.mpr c16
              have c16b1 : (t363.toList != a1.toList) = false := bne_eq_false_iff_eq.mpr c16
              clear c16
              by_cases c17 : t360 = 0
              · rw [if_pos c17] at H
                have c17b0 : (t360 == 0) = true := beq_iff_eq.mpr c17
                have c17b1 : (t360 != 0) = false := bne_eq_false_iff_eq.mpr c17
                clear c17
                have H' := Aside0.mk H
                clear H
                have hcz18_0 : w14.cell? ⟨gb362, 0, none⟩ = some (.int .i64 t359) := (blk_cell BK362.out 0).trans rfl
                have hcz18_1 : w14.cell? ⟨gb362, 1, none⟩ = some (.int .i64 t360) := (blk_cell BK362.out 1).trans rfl
                have hcz18_2 : w14.cell? ⟨gb362, 2, none⟩ = some (.string t361) := (blk_cell BK362.out 2).trans rfl
                have hfz18_0 := blk_frozen BK362.out 0
                have hfz18_1 := blk_frozen BK362.out 1
                have hfz18_2 := blk_frozen BK362.out 2
                go_wp2
                repeat (go_quiet (fail); try go_wp2)
                go_meet
                case rel => exact ⟨_, (((t361.toList == ([] : List UInt8)) != (a0.toList == a1.toList))), (by first | rfl | (simp; done) | (simp [*]; done) | (simp; exact ((by decide : ∀ a b : Bool, (a == b) = (!a != b)) _ _))), H', ⟨by have := HJ3.out; first | omega | exact Nat.le_refl _⟩, ⟨by (with_reducible repeat (first | refine blk_drewN ?_ _ | refine blk_drew ?_ | refine blk_alloc ?_ _)); exact BK362.out⟩, ⟨by repeat (first | (with_reducible first | exact HB.out | apply below_alloc | apply pw_below_drewN | apply below_drew1 | refine below_set ?_ GE362.out) | exact HB.out)⟩⟩
              · rw [if_neg c17] at H
                have c17b0 : (t360 == 0) = false := beq_eq_false_iff_ne.mpr c17
                have c17b1 : (t360 != 0) = true := bne_iff_ne.mpr c17
                have H' := Aside0.mk H
                clear H
                have hcz19_0 : w14.cell? ⟨gb362, 0, none⟩ = some (.int .i64 t359) := (blk_cell BK362.out 0).trans rfl
                have hcz19_1 : w14.cell? ⟨gb362, 1, none⟩ = some (.int .i64 t360) := (blk_cell BK362.out 1).trans rfl
                have hcz19_2 : w14.cell? ⟨gb362, 2, none⟩ = some (.string t361) := (blk_cell BK362.out 2).trans rfl
                have hfz19_0 := blk_frozen BK362.out 0
                have hfz19_1 := blk_frozen BK362.out 1
                have hfz19_2 := blk_frozen BK362.out 2
                go_wp2
                repeat (go_quiet (fail); try go_wp2)
                go_meet
                case rel => exact ⟨_, ((false != (a0.toList == a1.toList))), (by first | rfl | (simp; done) | (simp [*]; done) | (simp; exact ((by decide : ∀ a b : Bool, (a == b) = (!a != b)) _ _))), H', ⟨by have := HJ3.out; first | omega | exact Nat.le_refl _⟩, ⟨by (with_reducible repeat (first | refine blk_drewN ?_ _ | refine blk_drew ?_ | refine blk_alloc ?_ _)); exact BK362.out⟩, ⟨by repeat (first | (with_reducible first | exact HB.out | apply below_alloc | apply pw_below_drewN | apply below_drew1 | refine below_set ?_ GE362.out) | exact HB.out)⟩⟩
            · rw [if_neg c16] at H
              have c16b0 : (t363.toList == a1.toList) = false := beq_eq_false_iff_ne.mpr c16
              have c16b1 : (t363.toList != a1.toList) = true := bne_iff_ne.mpr c16
              have H' := Aside0.mk H
              clear H
              go_wp2
              repeat (go_quiet (fail); try go_wp2)
              go_meet
              case rel => exact ⟨_, (true), (by first | rfl | (simp; done) | (simp [*]; done) | (simp; exact ((by decide : ∀ a b : Bool, (a == b) = (!a != b)) _ _))), H', ⟨by have := HJ3.out; first | omega | exact Nat.le_refl _⟩, ⟨by (with_reducible repeat (first | refine blk_drewN ?_ _ | refine blk_drew ?_ | refine blk_alloc ?_ _)); exact BK362.out⟩, ⟨by repeat (first | (with_reducible first | exact HB.out | apply below_alloc | apply pw_below_drewN | apply below_drew1 | refine below_set ?_ GE362.out) | exact HB.out)⟩⟩
          · rw [if_neg c15] at H
            have c15b0 : (t364 == 0) = false := beq_eq_false_iff_ne.mpr c15
            have c15b1 : (t364 != 0) = true := bne_iff_ne.mpr c15
            (first | rw [c15b0] | (simp only [i64_w, i32_w]; rw [c15b0]) | rw [c15b1] | skip)
            have H' := Aside0.mk H
            clear H
            go_wp2
            repeat (go_quiet (fail); try go_wp2)
            go_meet
            case rel => exact ⟨_, (true), (by first | rfl | (simp; done) | (simp [*]; done) | (simp; exact ((by decide : ∀ a b : Bool, (a == b) = (!a != b)) _ _))), H', ⟨by have := HJ3.out; first | omega | exact Nat.le_refl _⟩, ⟨by (with_reducible repeat (first | refine blk_drewN ?_ _ | refine blk_drew ?_ | refine blk_alloc ?_ _)); exact BK362.out⟩, ⟨by repeat (first | (with_reducible first | exact HB.out | apply below_alloc | apply pw_below_drewN | apply below_drew1 | refine below_set ?_ GE362.out) | exact HB.out)⟩⟩
        case rest =>
          clear HC10
          try clear c1
          try clear p2
          try clear c6
          try clear c6b0
          try clear c6b1
          try clear c7
          try clear c13
          try clear c15
          try clear c15b0
          try clear c15b1
          try clear c16
          try clear c16b0
          try clear c16b1
          try clear c17
          try clear c17b0
          try clear c17b1
          try clear hcz13_0
          try clear hcz13_1
          try clear hcz13_2
          try clear hcz18_0
          try clear hcz18_1
          try clear hcz18_2
          try clear hcz19_0
          try clear hcz19_1
          try clear hcz19_2
          try clear hfz13_0
          try clear hfz13_1
          try clear hfz13_2
          try clear hfz18_0
          try clear hfz18_1
          try clear hfz18_2
          try clear hfz19_0
          try clear hfz19_1
          try clear hfz19_2
          try clear p2
          obtain ⟨kq, x48_9, rfl, HA, HJ9, BK362, HB⟩ := hcut
          cases kq with
          | zero => exact absurd HA.out (by simp [mjolnerlaw03_TextDiffs.j1])
          | succ kj9 =>
            have H := HA.out
            clear HA
            simp only [mjolnerlaw03_TextDiffs.j1] at H
            by_cases c20 : x48_9 = true
            · subst c20
              have H1 : (some false) = some r := by rw [if_pos rfl] at H; exact H
              clear H
              have H := H1
              clear H1
              obtain rfl := Option.some.inj H
              go_wp2
              repeat (go_quiet (fail); try go_wp2)
              go_ret
              exact ⟨by first | rfl | (simp [errW_none, errW_some] <;> rfl) | (simp [*, errW_none, errW_some] <;> rfl), by repeat (first | (with_reducible first | exact HB.out | apply below_alloc | apply pw_below_drewN | apply below_drew1 | refine below_set ?_ GE362.out) | exact HB.out)⟩
            · replace c20 := Bool.eq_false_iff.mpr c20
              subst c20
              have H1 : (if t360 > 0 then (if t361.toList = ([] : List UInt8) then (some t358) else (if t358 = true then (if 0 ≤ t359 then (if t359 < (a0.size : Int) then (if 0 < (t361.size : Int) then (if (bt a0 t359) = (bt t361 0) then (some false) else (if 0 ≤ (wrap64 ((wrap64 (t359 + t360)) - 1)) then (if (wrap64 ((wrap64 (t359 + t360)) - 1)) < (a0.size : Int) then (if 0 ≤ (wrap64 ((t361.size : Int) - 1)) then (if (wrap64 ((t361.size : Int) - 1)) < (t361.size : Int) then (some ((bt a0 (wrap64 ((wrap64 (t359 + t360)) - 1))) != (bt t361 (wrap64 ((t361.size : Int) - 1))))) else (none)) else (none)) else (none)) else (none))) else (none)) else (none)) else (none)) else (some false))) else (some t358)) = some r := by rw [if_neg (show ¬ (false = true) by decide)] at H; exact H
              clear H
              have H := H1
              clear H1
              by_cases c21 : t360 > 0
              · rw [if_pos c21] at H
                have c21b0 : decide (0 < t360) = true := decide_eq_true c21
                clear c21
                by_cases c22 : t361.toList = ([] : List UInt8)
                · rw [if_pos c22] at H
                  have c22b0 : (t361.toList == ([] : List UInt8)) = true := beq_iff_eq.mpr c22
                  have c22b1 : (t361.toList != ([] : List UInt8)) = false := bne_eq_false_iff_eq.mpr c22
                  clear c22
                  obtain rfl := Option.some.inj H
                  have hcz23_0 : wc.cell? ⟨gb362, 0, none⟩ = some (.int .i64 t359) := (blk_cell BK362.out 0).trans rfl
                  have hcz23_1 : wc.cell? ⟨gb362, 1, none⟩ = some (.int .i64 t360) := (blk_cell BK362.out 1).trans rfl
                  have hcz23_2 : wc.cell? ⟨gb362, 2, none⟩ = some (.string t361) := (blk_cell BK362.out 2).trans rfl
                  have hfz23_0 := blk_frozen BK362.out 0
                  have hfz23_1 := blk_frozen BK362.out 1
                  have hfz23_2 := blk_frozen BK362.out 2
                  go_wp2
                  repeat (go_quiet (fail); try go_wp2)
                  go_ret
                  exact ⟨by first | rfl | (simp [errW_none, errW_some] <;> rfl) | (simp [*, errW_none, errW_some] <;> rfl), by repeat (first | (with_reducible first | exact HB.out | apply below_alloc | apply pw_below_drewN | apply below_drew1 | refine below_set ?_ GE362.out) | exact HB.out)⟩
                · rw [if_neg c22] at H
                  have c22b0 : (t361.toList == ([] : List UInt8)) = false := beq_eq_false_iff_ne.mpr c22
                  have c22b1 : (t361.toList != ([] : List UInt8)) = true := bne_iff_ne.mpr c22
                  by_cases c24 : t358 = true
                  · subst c24
                    have H1 : (if 0 ≤ t359 then (if t359 < (a0.size : Int) then (if 0 < (t361.size : Int) then (if (bt a0 t359) = (bt t361 0) then (some false) else (if 0 ≤ (wrap64 ((wrap64 (t359 + t360)) - 1)) then (if (wrap64 ((wrap64 (t359 + t360)) - 1)) < (a0.size : Int) then (if 0 ≤ (wrap64 ((t361.size : Int) - 1)) then (if (wrap64 ((t361.size : Int) - 1)) < (t361.size : Int) then (some ((bt a0 (wrap64 ((wrap64 (t359 + t360)) - 1))) != (bt t361 (wrap64 ((t361.size : Int) - 1))))) else (none)) else (none)) else (none)) else (none))) else (none)) else (none)) else (none)) = some r := by rw [if_pos rfl] at H; exact H
                    clear H
                    have H := H1
                    clear H1
                    by_cases c25 : 0 ≤ t359
                    · rw [if_pos c25] at H
                      have c25b0 : decide (0 ≤ t359) = true := decide_eq_true c25
                      clear c25
                      by_cases c26 : t359 < (a0.size : Int)
                      · rw [if_pos c26] at H
                        have c26b0 : decide (t359 < (a0.size : Int)) = true := decide_eq_true c26
                        clear c26
                        by_cases c28 : 0 < (t361.size : Int)
                        · rw [if_pos c28] at H
                          have c28b0 : decide (0 < (t361.size : Int)) = true := decide_eq_true c28
                          have c28b1 : decide (0 < t361.size) = true := decide_eq_true (by omega)
                          clear c28
                          by_cases c30 : (bt a0 t359) = (bt t361 0)
                          · rw [if_pos c30] at H
                            have c30b0 : ((bt a0 t359) == (bt t361 0)) = true := beq_iff_eq.mpr c30
                            have c30b1 : ((bt a0 t359) != (bt t361 0)) = false := bne_eq_false_iff_eq.mpr c30
                            clear c30
                            obtain rfl := Option.some.inj H
                            have hcz31_0 : wc.cell? ⟨gb362, 0, none⟩ = some (.int .i64 t359) := (blk_cell BK362.out 0).trans rfl
                            have hcz31_1 : wc.cell? ⟨gb362, 1, none⟩ = some (.int .i64 t360) := (blk_cell BK362.out 1).trans rfl
                            have hcz31_2 : wc.cell? ⟨gb362, 2, none⟩ = some (.string t361) := (blk_cell BK362.out 2).trans rfl
                            have hfz31_0 := blk_frozen BK362.out 0
                            have hfz31_1 := blk_frozen BK362.out 1
                            have hfz31_2 := blk_frozen BK362.out 2
                            have p27 : 0 ≤ (t359 : Int) := of_decide_eq_true (by first | (with_reducible assumption) | assumption)
                            have q27 : t359 < (a0.size : Int) := of_decide_eq_true (by first | (with_reducible assumption) | assumption)
                            have hx27 := bt_at a0 t359
                            replace p27 := eq_true p27
                            replace q27 := eq_true q27
                            have p29 : 0 ≤ (0 : Int) := (by omega)
                            have q29 : 0 < t361.size := (by have : (0 : Int) < (t361.size : Int) := of_decide_eq_true (by first | (with_reducible assumption) | assumption); omega)
                            have hx29 : ∀ h : 0 < t361.size, ((t361[0]'h).toNat : Int) = bt t361 0 := bt_at t361 0
                            clear p29
                            have qi29 : (0 < (t361.size : Int)) = True := eq_true (of_decide_eq_true (by first | (with_reducible assumption) | assumption))
                            replace q29 := eq_true q29
                            go_wp2
                            repeat (go_quiet (fail); try go_wp2)
                            go_ret
                            exact ⟨by first | rfl | (simp [errW_none, errW_some] <;> rfl) | (simp [*, errW_none, errW_some] <;> rfl), by repeat (first | (with_reducible first | exact HB.out | apply below_alloc | apply pw_below_drewN | apply below_drew1 | refine below_set ?_ GE362.out) | exact HB.out)⟩
                          · rw [if_neg c30] at H
                            have c30b0 : ((bt a0 t359) == (bt t361 0)) = false := beq_eq_false_iff_ne.mpr c30
                            have c30b1 : ((bt a0 t359) != (bt t361 0)) = true := bne_iff_ne.mpr c30
                            obtain ⟨ji32, hji32⟩ : ∃ j_ : Int, (wrap64 ((wrap64 (t359 + t360)) - 1)) = j_ := ⟨_, rfl⟩
                            replace H : (if 0 ≤ (ji32) then (if (ji32) < (a0.size : Int) then (if 0 ≤ (wrap64 ((t361.size : Int) - 1)) then (if (wrap64 ((t361.size : Int) - 1)) < (t361.size : Int) then (some ((bt a0 (ji32)) != (bt t361 (wrap64 ((t361.size : Int) - 1))))) else (none)) else (none)) else (none)) else (none)) = some r := by first | (rw [hji32] at H; exact H) | (simp only [hji32] at H ⊢; exact H)
                            have hji32w : (IntKind.i64.wrap ((wrap64 (t359 + t360)) - 1)) = ji32 := (i64_w _).trans hji32
                            by_cases c33 : 0 ≤ (ji32)
                            · rw [if_pos c33] at H
                              have c33b0 : decide (0 ≤ (ji32)) = true := decide_eq_true c33
                              clear c33
                              by_cases c34 : (ji32) < (a0.size : Int)
                              · rw [if_pos c34] at H
                                have c34b0 : decide ((ji32) < (a0.size : Int)) = true := decide_eq_true c34
                                clear c34
                                obtain ⟨ji36, hji36⟩ : ∃ j_ : Int, (wrap64 ((t361.size : Int) - 1)) = j_ := ⟨_, rfl⟩
                                replace H : (if 0 ≤ (ji36) then (if (ji36) < (t361.size : Int) then (some ((bt a0 (ji32)) != (bt t361 (ji36)))) else (none)) else (none)) = some r := by first | (rw [hji36] at H; exact H) | (simp only [hji36] at H ⊢; exact H)
                                have hji36w : (IntKind.i64.wrap ((t361.size : Int) - 1)) = ji36 := (i64_w _).trans hji36
                                by_cases c37 : 0 ≤ (ji36)
                                · rw [if_pos c37] at H
                                  have c37b0 : decide (0 ≤ (ji36)) = true := decide_eq_true c37
                                  clear c37
                                  by_cases c38 : (ji36) < (t361.size : Int)
                                  · rw [if_pos c38] at H
                                    have c38b0 : decide ((ji36) < (t361.size : Int)) = true := decide_eq_true c38
                                    clear c38
                                    obtain rfl := Option.some.inj H
                                    have hcz40_0 : wc.cell? ⟨gb362, 0, none⟩ = some (.int .i64 t359) := (blk_cell BK362.out 0).trans rfl
                                    have hcz40_1 : wc.cell? ⟨gb362, 1, none⟩ = some (.int .i64 t360) := (blk_cell BK362.out 1).trans rfl
                                    have hcz40_2 : wc.cell? ⟨gb362, 2, none⟩ = some (.string t361) := (blk_cell BK362.out 2).trans rfl
                                    have hfz40_0 := blk_frozen BK362.out 0
                                    have hfz40_1 := blk_frozen BK362.out 1
                                    have hfz40_2 := blk_frozen BK362.out 2
                                    have p27 : 0 ≤ (t359 : Int) := of_decide_eq_true (by first | (with_reducible assumption) | assumption)
                                    have q27 : t359 < (a0.size : Int) := of_decide_eq_true (by first | (with_reducible assumption) | assumption)
                                    have hx27 := bt_at a0 t359
                                    replace p27 := eq_true p27
                                    replace q27 := eq_true q27
                                    have p29 : 0 ≤ (0 : Int) := (by omega)
                                    have q29 : 0 < t361.size := (by have : (0 : Int) < (t361.size : Int) := of_decide_eq_true (by first | (with_reducible assumption) | assumption); omega)
                                    have hx29 : ∀ h : 0 < t361.size, ((t361[0]'h).toNat : Int) = bt t361 0 := bt_at t361 0
                                    clear p29
                                    have qi29 : (0 < (t361.size : Int)) = True := eq_true (of_decide_eq_true (by first | (with_reducible assumption) | assumption))
                                    replace q29 := eq_true q29
                                    have p35 : 0 ≤ ((ji32) : Int) := of_decide_eq_true (by first | (with_reducible assumption) | assumption)
                                    have q35 : (ji32) < (a0.size : Int) := of_decide_eq_true (by first | (with_reducible assumption) | assumption)
                                    have hx35 := bt_at a0 (ji32)
                                    replace p35 := eq_true p35
                                    replace q35 := eq_true q35
                                    have p39 : 0 ≤ ((ji36) : Int) := of_decide_eq_true (by first | (with_reducible assumption) | assumption)
                                    have q39 : (ji36) < (t361.size : Int) := of_decide_eq_true (by first | (with_reducible assumption) | assumption)
                                    have hx39 := bt_at t361 (ji36)
                                    replace p39 := eq_true p39
                                    replace q39 := eq_true q39
                                    go_wp2
                                    repeat (go_quiet (fail); try go_wp2)
                                    go_ret
                                    exact ⟨by first | rfl | (simp [errW_none, errW_some] <;> rfl) | (simp only [← hji32, ← hji36]; first | rfl | (simp [errW_none, errW_some] <;> rfl)) | (simp [*, errW_none, errW_some] <;> rfl), by repeat (first | (with_reducible first | exact HB.out | apply below_alloc | apply pw_below_drewN | apply below_drew1 | refine below_set ?_ GE362.out) | exact HB.out)⟩
                                  · rw [if_neg c38] at H
                                    exact absurd H (by simp)
                                · rw [if_neg c37] at H
                                  exact absurd H (by simp)
                              · rw [if_neg c34] at H
                                exact absurd H (by simp)
                            · rw [if_neg c33] at H
                              exact absurd H (by simp)
                        · rw [if_neg c28] at H
                          exact absurd H (by simp)
                      · rw [if_neg c26] at H
                        exact absurd H (by simp)
                    · rw [if_neg c25] at H
                      exact absurd H (by simp)
                  · replace c24 := Bool.eq_false_iff.mpr c24
                    subst c24
                    have H1 : (some false) = some r := by rw [if_neg (show ¬ (false = true) by decide)] at H; exact H
                    clear H
                    have H := H1
                    clear H1
                    obtain rfl := Option.some.inj H
                    have hcz41_0 : wc.cell? ⟨gb362, 0, none⟩ = some (.int .i64 t359) := (blk_cell BK362.out 0).trans rfl
                    have hcz41_1 : wc.cell? ⟨gb362, 1, none⟩ = some (.int .i64 t360) := (blk_cell BK362.out 1).trans rfl
                    have hcz41_2 : wc.cell? ⟨gb362, 2, none⟩ = some (.string t361) := (blk_cell BK362.out 2).trans rfl
                    have hfz41_0 := blk_frozen BK362.out 0
                    have hfz41_1 := blk_frozen BK362.out 1
                    have hfz41_2 := blk_frozen BK362.out 2
                    go_wp2
                    repeat (go_quiet (fail); try go_wp2)
                    go_ret
                    exact ⟨by first | rfl | (simp [errW_none, errW_some] <;> rfl) | (simp [*, errW_none, errW_some] <;> rfl), by repeat (first | (with_reducible first | exact HB.out | apply below_alloc | apply pw_below_drewN | apply below_drew1 | refine below_set ?_ GE362.out) | exact HB.out)⟩
              · rw [if_neg c21] at H
                have c21b0 : decide (0 < t360) = false := decide_eq_false c21
                clear c21
                obtain rfl := Option.some.inj H
                have hcz42_0 : wc.cell? ⟨gb362, 0, none⟩ = some (.int .i64 t359) := (blk_cell BK362.out 0).trans rfl
                have hcz42_1 : wc.cell? ⟨gb362, 1, none⟩ = some (.int .i64 t360) := (blk_cell BK362.out 1).trans rfl
                have hcz42_2 : wc.cell? ⟨gb362, 2, none⟩ = some (.string t361) := (blk_cell BK362.out 2).trans rfl
                have hfz42_0 := blk_frozen BK362.out 0
                have hfz42_1 := blk_frozen BK362.out 1
                have hfz42_2 := blk_frozen BK362.out 2
                go_wp2
                repeat (go_quiet (fail); try go_wp2)
                go_ret
                exact ⟨by first | rfl | (simp [errW_none, errW_some] <;> rfl) | (simp [*, errW_none, errW_some] <;> rfl), by repeat (first | (with_reducible first | exact HB.out | apply below_alloc | apply pw_below_drewN | apply below_drew1 | refine below_set ?_ GE362.out) | exact HB.out)⟩

end Go.Proofs.YtdcemnmbfblmiaaDoor.PT
