-- Written by a program of mine (wip/print_given.sh: the kit's print, changed so that some functions are given by contracts).
import Derived.Test.YtdcemnmbfblmiaaDoorPTx0
import Derived.Test.YtdcemnmbfblmiaaDoorPTx3
import Derived.Test.YtdcemnmbfblmiaaDoorSane
namespace Go.Proofs.YtdcemnmbfblmiaaDoor.PT
open Go.RowKit Go.Proofs.YtdcemnmbfblmiaaDoor.Given Go.Proofs.YtdcemnmbfblmiaaDoorW.PrintWords Go.Proofs.YtdcemnmbfblmiaaDoorW.PrintLast Go.Proofs.YtdcemnmbfblmiaaDoorW.PrintMore
attribute [local go_sem] max2_int min2_int max_two min_two max_three min_three max_four min_four   -- for this text's walks alone
set_option linter.unusedVariables false
set_option linter.unusedSimpArgs false

/-! ### mjolnerlaw03_TextMoves: function 16 -/
mutual
def mjolnerlaw03_TextMoves.j0 : Nat → ByteArray → Int → Int → Bool → ByteArray → Bool → Int → Int → ByteArray → Option (Bool)
  | 0, _, _, _, _, _, _, _, _, _ => none
  | k + 1, x0, x2, x3, x9, x10, x50, x403000, x403001, x403002 => if x50 = true then (some x9) else ((text_Moved.f k x403000 x403001 x403002 x2).bind fun bt406 => ((text_Moved.f k x403000 x403001 x403002 x3).bind fun bt408 => (if x2 > x403000 then (mjolnerlaw03_TextMoves.j1 k x0 x2 x3 x9 x10 bt406.1 bt406.2 bt408.1 bt408.2 (decide (x2 < (wrap64 (x403000 + x403001)))) x403000 x403001 x403002) else (mjolnerlaw03_TextMoves.j1 k x0 x2 x3 x9 x10 bt406.1 bt406.2 bt408.1 bt408.2 false x403000 x403001 x403002))))
def mjolnerlaw03_TextMoves.j1 : Nat → ByteArray → Int → Int → Bool → ByteArray → Int → Int → Int → Int → Bool → Int → Int → ByteArray → Option (Bool)
  | 0, _, _, _, _, _, _, _, _, _, _, _, _, _ => none
  | k + 1, x0, x2, x3, x9, x10, x12, x13, x14, x15, x16, x403000, x403001, x403002 => if (x16 != (x13 != 0)) = true then (some false) else (if x13 = 0 then (if x12 < 0 then (some false) else (if x12 > (x10.size : Int) then (some false) else (if x2 = x403000 then (if x9 = true then (if x15 = 0 then (if x2 ≥ x3 then (some true) else (some (decide (x12 ≤ x14)))) else (some true)) else (some false)) else (if x12 ≥ (x10.size : Int) then (some false) else (if 0 ≤ x12 then (if x12 < (x10.size : Int) then (if 0 ≤ x2 then (if x2 < (x0.size : Int) then (if (bt x10 x12) = (bt x0 x2) then (if x9 = true then (if x15 = 0 then (if x2 ≥ x3 then (some true) else (some (decide (x12 ≤ x14)))) else (some true)) else (some false)) else (some false)) else (none)) else (none)) else (none)) else (none)))))) else (if x9 = true then (if x13 = 5 then (some (x12 == 0)) else (some false)) else (some false)))
end
def mjolnerlaw03_TextMoves.f (k : Nat) (a0 : ByteArray) (a1_0 : Int) (a1_1 : Int) (a1_2 : ByteArray) (a2 : Int) (a3 : Int) : Option (Bool) := (mjolnerlaw03_sane.f).bind fun t403 => ((text_Apply.f a0 a1_0 a1_1 a1_2).bind fun bt404 => (if bt404.2 = 0 then (if a2 < 0 then (mjolnerlaw03_TextMoves.j0 k a0 a2 a3 t403 bt404.1 true a1_0 a1_1 a1_2) else (if a2 ≥ (a0.size : Int) then (mjolnerlaw03_TextMoves.j0 k a0 a2 a3 t403 bt404.1 true a1_0 a1_1 a1_2) else (if a3 < 0 then (mjolnerlaw03_TextMoves.j0 k a0 a2 a3 t403 bt404.1 true a1_0 a1_1 a1_2) else (if a3 ≥ (a0.size : Int) then (mjolnerlaw03_TextMoves.j0 k a0 a2 a3 t403 bt404.1 true a1_0 a1_1 a1_2) else (mjolnerlaw03_TextMoves.j0 k a0 a2 a3 t403 bt404.1 (decide ((a0.size : Int) > 1048576)) a1_0 a1_1 a1_2))))) else (mjolnerlaw03_TextMoves.j0 k a0 a2 a3 t403 bt404.1 true a1_0 a1_1 a1_2)))
theorem mjolnerlaw03_TextMoves.mono_l : ∀ k, (∀ y0 y1 y2 y3 y4 y5 y6 y7 y8, LeO (mjolnerlaw03_TextMoves.j0 k y0 y1 y2 y3 y4 y5 y6 y7 y8) (mjolnerlaw03_TextMoves.j0 (k + 1) y0 y1 y2 y3 y4 y5 y6 y7 y8)) ∧ (∀ y0 y1 y2 y3 y4 y5 y6 y7 y8 y9 y10 y11 y12, LeO (mjolnerlaw03_TextMoves.j1 k y0 y1 y2 y3 y4 y5 y6 y7 y8 y9 y10 y11 y12) (mjolnerlaw03_TextMoves.j1 (k + 1) y0 y1 y2 y3 y4 y5 y6 y7 y8 y9 y10 y11 y12))
  | 0 => ⟨fun _ _ _ _ _ _ _ _ _ r h => by simp [mjolnerlaw03_TextMoves.j0] at h, fun _ _ _ _ _ _ _ _ _ _ _ _ _ r h => by simp [mjolnerlaw03_TextMoves.j1] at h⟩
  | k + 1 => by
    obtain ⟨ih0, ih1⟩ := mjolnerlaw03_TextMoves.mono_l k
    refine ⟨?_, ?_⟩
    · intro y0 y1 y2 y3 y4 y5 y6 y7 y8
      unfold mjolnerlaw03_TextMoves.j0
      repeat' first
      | (with_reducible exact ih0 _ _ _ _ _ _ _ _ _)
      | (with_reducible exact ih1 _ _ _ _ _ _ _ _ _ _ _ _ _)
      | (with_reducible exact text_Moved.mono _ _ _ _ _)
      | (with_reducible exact LeO.refl _)
      | (with_reducible exact LeO.none _)
      | (with_reducible refine LeO.ite ?_ ?_)
      | (with_reducible refine LeO.bind ?_ (fun _ => ?_))
      | exact ih0 _ _ _ _ _ _ _ _ _
      | exact ih1 _ _ _ _ _ _ _ _ _ _ _ _ _
      | exact text_Moved.mono _ _ _ _ _
      | exact LeO.none _
      | refine LeO.ite ?_ ?_
      | refine LeO.bind ?_ (fun _ => ?_)
    · intro y0 y1 y2 y3 y4 y5 y6 y7 y8 y9 y10 y11 y12
      unfold mjolnerlaw03_TextMoves.j1
      repeat' first
      | (with_reducible exact ih0 _ _ _ _ _ _ _ _ _)
      | (with_reducible exact ih1 _ _ _ _ _ _ _ _ _ _ _ _ _)
      | (with_reducible exact text_Moved.mono _ _ _ _ _)
      | (with_reducible exact LeO.refl _)
      | (with_reducible exact LeO.none _)
      | (with_reducible refine LeO.ite ?_ ?_)
      | (with_reducible refine LeO.bind ?_ (fun _ => ?_))
      | exact ih0 _ _ _ _ _ _ _ _ _
      | exact ih1 _ _ _ _ _ _ _ _ _ _ _ _ _
      | exact text_Moved.mono _ _ _ _ _
      | exact LeO.none _
      | refine LeO.ite ?_ ?_
      | refine LeO.bind ?_ (fun _ => ?_)
theorem mjolnerlaw03_TextMoves.mono : ∀ a0 a1 a2 a3 a4 a5 k, LeO (mjolnerlaw03_TextMoves.f k a0 a1 a2 a3 a4 a5) (mjolnerlaw03_TextMoves.f (k + 1) a0 a1 a2 a3 a4 a5) := by
  intro a0 a1 a2 a3 a4 a5 k
  obtain ⟨ih0, ih1⟩ := mjolnerlaw03_TextMoves.mono_l k
  unfold mjolnerlaw03_TextMoves.f
  repeat' first
      | (with_reducible exact ih0 _ _ _ _ _ _ _ _ _)
      | (with_reducible exact ih1 _ _ _ _ _ _ _ _ _ _ _ _ _)
      | (with_reducible exact text_Moved.mono _ _ _ _ _)
      | (with_reducible exact LeO.refl _)
      | (with_reducible exact LeO.none _)
      | (with_reducible refine LeO.ite ?_ ?_)
      | (with_reducible refine LeO.bind ?_ (fun _ => ?_))
      | exact ih0 _ _ _ _ _ _ _ _ _
      | exact ih1 _ _ _ _ _ _ _ _ _ _ _ _ _
      | exact text_Moved.mono _ _ _ _ _
      | exact LeO.none _
      | refine LeO.ite ?_ ?_
      | refine LeO.bind ?_ (fun _ => ?_)
set_option maxHeartbeats 8000000 in
set_option maxRecDepth 100000 in
theorem mjolnerlaw03_TextMoves.calls (k : Nat) (a0 : ByteArray) (a1_0 : Int) (a1_1 : Int) (a1_2 : ByteArray) (a2 : Int) (a3 : Int) (r : Bool) (w : World) (hG : LaidG w) (h : mjolnerlaw03_TextMoves.f k a0 a1_0 a1_1 a1_2 a2 a3 = some r) :
    Calls Tryd.prog 16 #[.string a0, .agg #[.int .i64 a1_0, .int .i64 a1_1, .string a1_2], .int .i64 a2, .int .i64 a3] w fun e w' => e = .returned (.bool r) ∧ Below w.heap.size w w' := by
  have hu47 := Tryd.underlying47
  have HB := Aside0.mk (Below.refl w.heap.size w)
  have HG := Aside0.mk (LaidG.keep hG)
  clear hG
  have H : ((mjolnerlaw03_sane.f).bind fun t403 => ((text_Apply.f a0 a1_0 a1_1 a1_2).bind fun bt404 => (if bt404.2 = 0 then (if a2 < 0 then (mjolnerlaw03_TextMoves.j0 k a0 a2 a3 t403 bt404.1 true a1_0 a1_1 a1_2) else (if a2 ≥ (a0.size : Int) then (mjolnerlaw03_TextMoves.j0 k a0 a2 a3 t403 bt404.1 true a1_0 a1_1 a1_2) else (if a3 < 0 then (mjolnerlaw03_TextMoves.j0 k a0 a2 a3 t403 bt404.1 true a1_0 a1_1 a1_2) else (if a3 ≥ (a0.size : Int) then (mjolnerlaw03_TextMoves.j0 k a0 a2 a3 t403 bt404.1 true a1_0 a1_1 a1_2) else (mjolnerlaw03_TextMoves.j0 k a0 a2 a3 t403 bt404.1 (decide ((a0.size : Int) > 1048576)) a1_0 a1_1 a1_2))))) else (mjolnerlaw03_TextMoves.j0 k a0 a2 a3 t403 bt404.1 true a1_0 a1_1 a1_2)))) = some r := h
  clear h
  replace H := Option.bind_eq_some_iff.mp H
  obtain ⟨t403, A50, H⟩ := H
  replace H : ((text_Apply.f a0 a1_0 a1_1 a1_2).bind fun bt404 => (if bt404.2 = 0 then (if a2 < 0 then (mjolnerlaw03_TextMoves.j0 k a0 a2 a3 t403 bt404.1 true a1_0 a1_1 a1_2) else (if a2 ≥ (a0.size : Int) then (mjolnerlaw03_TextMoves.j0 k a0 a2 a3 t403 bt404.1 true a1_0 a1_1 a1_2) else (if a3 < 0 then (mjolnerlaw03_TextMoves.j0 k a0 a2 a3 t403 bt404.1 true a1_0 a1_1 a1_2) else (if a3 ≥ (a0.size : Int) then (mjolnerlaw03_TextMoves.j0 k a0 a2 a3 t403 bt404.1 true a1_0 a1_1 a1_2) else (mjolnerlaw03_TextMoves.j0 k a0 a2 a3 t403 bt404.1 (decide ((a0.size : Int) > 1048576)) a1_0 a1_1 a1_2))))) else (mjolnerlaw03_TextMoves.j0 k a0 a2 a3 t403 bt404.1 true a1_0 a1_1 a1_2))) = some r := H
  have A5 := Aside0.mk A50
  clear A50
  replace H := Option.bind_eq_some_iff.mp H
  obtain ⟨⟨t404, t405⟩, A60, H⟩ := H
  replace H : (if t405 = 0 then (if a2 < 0 then (mjolnerlaw03_TextMoves.j0 k a0 a2 a3 t403 t404 true a1_0 a1_1 a1_2) else (if a2 ≥ (a0.size : Int) then (mjolnerlaw03_TextMoves.j0 k a0 a2 a3 t403 t404 true a1_0 a1_1 a1_2) else (if a3 < 0 then (mjolnerlaw03_TextMoves.j0 k a0 a2 a3 t403 t404 true a1_0 a1_1 a1_2) else (if a3 ≥ (a0.size : Int) then (mjolnerlaw03_TextMoves.j0 k a0 a2 a3 t403 t404 true a1_0 a1_1 a1_2) else (mjolnerlaw03_TextMoves.j0 k a0 a2 a3 t403 t404 (decide ((a0.size : Int) > 1048576)) a1_0 a1_1 a1_2))))) else (mjolnerlaw03_TextMoves.j0 k a0 a2 a3 t403 t404 true a1_0 a1_1 a1_2)) = some r := H
  have A6 := Aside0.mk A60
  clear A60
  have HC7 := Aside0.mk H
  clear H
  go_enter Tryd.func16, Tryd.ntmps16
  go_upto_region 3 with (first | ((with_reducible refine gate_dst (N := 5) rfl ?_); (try (refine gate_guard (by rfl) ?_; dsimp only)); refine box_event ?hg (N := 5) ?hd (cs := #[.int .i64 a1_0, .int .i64 a1_1, .string a1_2]) (t := 47) ?hr ?_; (case hd => rfl); (case hg => rfl); (case hr => first | (go_simp; done) | (go_simp; rfl)); intro gb402 hg w8 hbox hb; have n0_ := Aside0.mk (below_step (by repeat (first | (with_reducible first | exact HB.out | apply below_alloc | apply pw_below_drewN | apply below_drew1) | exact HB.out)) hb); have n1_ := Aside0.mk (hbox); have n2_ := Aside0.mk ((by rw [hg]; exact (below_size (by repeat (first | (with_reducible first | exact HB.out | apply below_alloc | apply pw_below_drewN | apply below_drew1) | exact HB.out))) : w.heap.size ≤ gb402)); have n3_ := Aside0.mk ((by rw [hg]; exact (below_size (by repeat (first | (with_reducible first | exact HB.out | apply below_alloc | apply pw_below_drewN | apply below_drew1) | exact HB.out))) : w.heap.size ≤ gb402)); clear HB; have HB := n0_; have BK402 := n1_; have GW402 := n2_; have GE402 := n3_; clear n0_ n1_ n2_ n3_; clear hb hbox hg) | (go_at_call 29; (with_reducible refine (mjolnerlaw03_sane.calls  t403 _ ?side1 A5.out).mono ?_); (case side1 => exact HG.out _ (by repeat (first | (with_reducible first | exact HB.out | apply below_alloc | apply pw_below_drewN | apply below_drew1 | refine below_set ?_ GE402.out) | exact HB.out))); rintro e w9 ⟨rfl, hb⟩; have n0_ := Aside0.mk (blk_below (g := gb402) (o := .cells #[.int .i64 a1_0, .int .i64 a1_1, .string a1_2] 47 (0, 0)) (by (with_reducible repeat (first | refine blk_drewN ?_ _ | refine blk_drew ?_ | refine blk_alloc ?_ _)); exact BK402.out) hb); have n1_ := Aside0.mk (below_step (by repeat (first | (with_reducible first | exact HB.out | apply below_alloc | apply pw_below_drewN | apply below_drew1 | refine below_set ?_ GE402.out) | exact HB.out)) hb); clear BK402; clear HB; have BK402 := n0_; have HB := n1_; clear n0_ n1_; (try clear hb); (try clear hb2); (try clear hk); (try clear hi); have hcz10_0 : w9.cell? ⟨gb402, 0, none⟩ = some (.int .i64 a1_0) := (blk_cell BK402.out 0).trans rfl; have hcz10_1 : w9.cell? ⟨gb402, 1, none⟩ = some (.int .i64 a1_1) := (blk_cell BK402.out 1).trans rfl; have hcz10_2 : w9.cell? ⟨gb402, 2, none⟩ = some (.string a1_2) := (blk_cell BK402.out 2).trans rfl; have hfz10_0 := blk_frozen BK402.out 0; have hfz10_1 := blk_frozen BK402.out 1; have hfz10_2 := blk_frozen BK402.out 2) | (go_at_call 45; (with_reducible refine (text_Apply.calls a0 a1_0 a1_1 a1_2 t404 t405 _ A6.out).mono ?_); rintro e w11 ⟨rfl, hb⟩; have n0_ := Aside0.mk (blk_below (g := gb402) (o := .cells #[.int .i64 a1_0, .int .i64 a1_1, .string a1_2] 47 (0, 0)) (by (with_reducible repeat (first | refine blk_drewN ?_ _ | refine blk_drew ?_ | refine blk_alloc ?_ _)); exact BK402.out) hb); have n1_ := Aside0.mk (below_step (by repeat (first | (with_reducible first | exact HB.out | apply below_alloc | apply pw_below_drewN | apply below_drew1 | refine below_set ?_ GE402.out) | exact HB.out)) hb); clear BK402; clear HB; have BK402 := n0_; have HB := n1_; clear n0_ n1_; (try clear hb); (try clear hb2); (try clear hk); (try clear hi)))
  repeat (go_quiet (first | ((with_reducible refine gate_dst (N := 5) rfl ?_); (try (refine gate_guard (by rfl) ?_; dsimp only)); refine box_event ?hg (N := 5) ?hd (cs := #[.int .i64 a1_0, .int .i64 a1_1, .string a1_2]) (t := 47) ?hr ?_; (case hd => rfl); (case hg => rfl); (case hr => first | (go_simp; done) | (go_simp; rfl)); intro gb402 hg w8 hbox hb; have n0_ := Aside0.mk (below_step (by repeat (first | (with_reducible first | exact HB.out | apply below_alloc | apply pw_below_drewN | apply below_drew1) | exact HB.out)) hb); have n1_ := Aside0.mk (hbox); have n2_ := Aside0.mk ((by rw [hg]; exact (below_size (by repeat (first | (with_reducible first | exact HB.out | apply below_alloc | apply pw_below_drewN | apply below_drew1) | exact HB.out))) : w.heap.size ≤ gb402)); have n3_ := Aside0.mk ((by rw [hg]; exact (below_size (by repeat (first | (with_reducible first | exact HB.out | apply below_alloc | apply pw_below_drewN | apply below_drew1) | exact HB.out))) : w.heap.size ≤ gb402)); clear HB; have HB := n0_; have BK402 := n1_; have GW402 := n2_; have GE402 := n3_; clear n0_ n1_ n2_ n3_; clear hb hbox hg) | (go_at_call 29; (with_reducible refine (mjolnerlaw03_sane.calls  t403 _ ?side1 A5.out).mono ?_); (case side1 => exact HG.out _ (by repeat (first | (with_reducible first | exact HB.out | apply below_alloc | apply pw_below_drewN | apply below_drew1 | refine below_set ?_ GE402.out) | exact HB.out))); rintro e w9 ⟨rfl, hb⟩; have n0_ := Aside0.mk (blk_below (g := gb402) (o := .cells #[.int .i64 a1_0, .int .i64 a1_1, .string a1_2] 47 (0, 0)) (by (with_reducible repeat (first | refine blk_drewN ?_ _ | refine blk_drew ?_ | refine blk_alloc ?_ _)); exact BK402.out) hb); have n1_ := Aside0.mk (below_step (by repeat (first | (with_reducible first | exact HB.out | apply below_alloc | apply pw_below_drewN | apply below_drew1 | refine below_set ?_ GE402.out) | exact HB.out)) hb); clear BK402; clear HB; have BK402 := n0_; have HB := n1_; clear n0_ n1_; (try clear hb); (try clear hb2); (try clear hk); (try clear hi); have hcz10_0 : w9.cell? ⟨gb402, 0, none⟩ = some (.int .i64 a1_0) := (blk_cell BK402.out 0).trans rfl; have hcz10_1 : w9.cell? ⟨gb402, 1, none⟩ = some (.int .i64 a1_1) := (blk_cell BK402.out 1).trans rfl; have hcz10_2 : w9.cell? ⟨gb402, 2, none⟩ = some (.string a1_2) := (blk_cell BK402.out 2).trans rfl; have hfz10_0 := blk_frozen BK402.out 0; have hfz10_1 := blk_frozen BK402.out 1; have hfz10_2 := blk_frozen BK402.out 2) | (go_at_call 45; (with_reducible refine (text_Apply.calls a0 a1_0 a1_1 a1_2 t404 t405 _ A6.out).mono ?_); rintro e w11 ⟨rfl, hb⟩; have n0_ := Aside0.mk (blk_below (g := gb402) (o := .cells #[.int .i64 a1_0, .int .i64 a1_1, .string a1_2] 47 (0, 0)) (by (with_reducible repeat (first | refine blk_drewN ?_ _ | refine blk_drew ?_ | refine blk_alloc ?_ _)); exact BK402.out) hb); have n1_ := Aside0.mk (below_step (by repeat (first | (with_reducible first | exact HB.out | apply below_alloc | apply pw_below_drewN | apply below_drew1 | refine below_set ?_ GE402.out) | exact HB.out)) hb); clear BK402; clear HB; have BK402 := n0_; have HB := n1_; clear n0_ n1_; (try clear hb); (try clear hb2); (try clear hk); (try clear hi))); go_upto_region 3 with (first | ((with_reducible refine gate_dst (N := 5) rfl ?_); (try (refine gate_guard (by rfl) ?_; dsimp only)); refine box_event ?hg (N := 5) ?hd (cs := #[.int .i64 a1_0, .int .i64 a1_1, .string a1_2]) (t := 47) ?hr ?_; (case hd => rfl); (case hg => rfl); (case hr => first | (go_simp; done) | (go_simp; rfl)); intro gb402 hg w8 hbox hb; have n0_ := Aside0.mk (below_step (by repeat (first | (with_reducible first | exact HB.out | apply below_alloc | apply pw_below_drewN | apply below_drew1) | exact HB.out)) hb); have n1_ := Aside0.mk (hbox); have n2_ := Aside0.mk ((by rw [hg]; exact (below_size (by repeat (first | (with_reducible first | exact HB.out | apply below_alloc | apply pw_below_drewN | apply below_drew1) | exact HB.out))) : w.heap.size ≤ gb402)); have n3_ := Aside0.mk ((by rw [hg]; exact (below_size (by repeat (first | (with_reducible first | exact HB.out | apply below_alloc | apply pw_below_drewN | apply below_drew1) | exact HB.out))) : w.heap.size ≤ gb402)); clear HB; have HB := n0_; have BK402 := n1_; have GW402 := n2_; have GE402 := n3_; clear n0_ n1_ n2_ n3_; clear hb hbox hg) | (go_at_call 29; (with_reducible refine (mjolnerlaw03_sane.calls  t403 _ ?side1 A5.out).mono ?_); (case side1 => exact HG.out _ (by repeat (first | (with_reducible first | exact HB.out | apply below_alloc | apply pw_below_drewN | apply below_drew1 | refine below_set ?_ GE402.out) | exact HB.out))); rintro e w9 ⟨rfl, hb⟩; have n0_ := Aside0.mk (blk_below (g := gb402) (o := .cells #[.int .i64 a1_0, .int .i64 a1_1, .string a1_2] 47 (0, 0)) (by (with_reducible repeat (first | refine blk_drewN ?_ _ | refine blk_drew ?_ | refine blk_alloc ?_ _)); exact BK402.out) hb); have n1_ := Aside0.mk (below_step (by repeat (first | (with_reducible first | exact HB.out | apply below_alloc | apply pw_below_drewN | apply below_drew1 | refine below_set ?_ GE402.out) | exact HB.out)) hb); clear BK402; clear HB; have BK402 := n0_; have HB := n1_; clear n0_ n1_; (try clear hb); (try clear hb2); (try clear hk); (try clear hi); have hcz10_0 : w9.cell? ⟨gb402, 0, none⟩ = some (.int .i64 a1_0) := (blk_cell BK402.out 0).trans rfl; have hcz10_1 : w9.cell? ⟨gb402, 1, none⟩ = some (.int .i64 a1_1) := (blk_cell BK402.out 1).trans rfl; have hcz10_2 : w9.cell? ⟨gb402, 2, none⟩ = some (.string a1_2) := (blk_cell BK402.out 2).trans rfl; have hfz10_0 := blk_frozen BK402.out 0; have hfz10_1 := blk_frozen BK402.out 1; have hfz10_2 := blk_frozen BK402.out 2) | (go_at_call 45; (with_reducible refine (text_Apply.calls a0 a1_0 a1_1 a1_2 t404 t405 _ A6.out).mono ?_); rintro e w11 ⟨rfl, hb⟩; have n0_ := Aside0.mk (blk_below (g := gb402) (o := .cells #[.int .i64 a1_0, .int .i64 a1_1, .string a1_2] 47 (0, 0)) (by (with_reducible repeat (first | refine blk_drewN ?_ _ | refine blk_drew ?_ | refine blk_alloc ?_ _)); exact BK402.out) hb); have n1_ := Aside0.mk (below_step (by repeat (first | (with_reducible first | exact HB.out | apply below_alloc | apply pw_below_drewN | apply below_drew1 | refine below_set ?_ GE402.out) | exact HB.out)) hb); clear BK402; clear HB; have BK402 := n0_; have HB := n1_; clear n0_ n1_; (try clear hb); (try clear hb2); (try clear hk); (try clear hi))))
  (try simp only [Act.put, List.setIfInBounds_toArray, List.set_cons_zero, List.set_cons_succ])
  go_cut [50] (fun v50 wc => ∃ (kq : Nat) (x50_6 : Bool), v50 = .bool x50_6 ∧ Aside0 (mjolnerlaw03_TextMoves.j0 kq a0 a2 a3 t403 t404 x50_6 a1_0 a1_1 a1_2 = some r) ∧ Aside0 (kq ≤ k) ∧ Aside0 (wc.heap[gb402]? = some (.cells #[.int .i64 a1_0, .int .i64 a1_1, .string a1_2] 47 (0, 0))) ∧ Aside0 (Below w.heap.size w wc))
  case first =>
    have H := HC7.out
    clear HC7
    by_cases c12 : t405 = 0
    · rw [if_pos c12] at H
      have c12b0 : (t405 == 0) = true := beq_iff_eq.mpr c12
      have c12b1 : (t405 != 0) = false := bne_eq_false_iff_eq.mpr c12
      clear c12
      (first | rw [c12b0] | (simp only [i64_w, i32_w]; rw [c12b0]) | rw [c12b1] | skip)
      by_cases c13 : a2 < 0
      · rw [if_pos c13] at H
        have c13b0 : decide (a2 < 0) = true := decide_eq_true c13
        clear c13
        have H' := Aside0.mk H
        clear H
        go_wp2
        repeat (go_quiet (fail); try go_wp2)
        go_meet
        case rel => exact ⟨_, (true), (by first | rfl | (simp; done) | (simp [*]; done)), H', ⟨by first | omega | exact Nat.le_refl _⟩, ⟨by (with_reducible repeat (first | refine blk_drewN ?_ _ | refine blk_drew ?_ | refine blk_alloc ?_ _)); exact BK402.out⟩, ⟨by repeat (first | (with_reducible first | exact HB.out | apply below_alloc | apply pw_below_drewN | apply below_drew1 | refine below_set ?_ GE402.out) | exact HB.out)⟩⟩
      · rw [if_neg c13] at H
        have c13b0 : decide (a2 < 0) = false := decide_eq_false c13
        clear c13
        by_cases c14 : a2 ≥ (a0.size : Int)
        · rw [if_pos c14] at H
          have c14b0 : decide ((a0.size : Int) ≤ a2) = true := decide_eq_true c14
          clear c14
          have H' := Aside0.mk H
          clear H
          go_wp2
          repeat (go_quiet (fail); try go_wp2)
          go_meet
          case rel => exact ⟨_, (true), (by first | rfl | (simp; done) | (simp [*]; done)), H', ⟨by first | omega | exact Nat.le_refl _⟩, ⟨by (with_reducible repeat (first | refine blk_drewN ?_ _ | refine blk_drew ?_ | refine blk_alloc ?_ _)); exact BK402.out⟩, ⟨by repeat (first | (with_reducible first | exact HB.out | apply below_alloc | apply pw_below_drewN | apply below_drew1 | refine below_set ?_ GE402.out) | exact HB.out)⟩⟩
        · rw [if_neg c14] at H
          have c14b0 : decide ((a0.size : Int) ≤ a2) = false := decide_eq_false c14
          clear c14
          by_cases c15 : a3 < 0
          · rw [if_pos c15] at H
            have c15b0 : decide (a3 < 0) = true := decide_eq_true c15
            clear c15
            have H' := Aside0.mk H
            clear H
            go_wp2
            repeat (go_quiet (fail); try go_wp2)
            go_meet
            case rel => exact ⟨_, (true), (by first | rfl | (simp; done) | (simp [*]; done)), H', ⟨by first | omega | exact Nat.le_refl _⟩, ⟨by (with_reducible repeat (first | refine blk_drewN ?_ _ | refine blk_drew ?_ | refine blk_alloc ?_ _)); exact BK402.out⟩, ⟨by repeat (first | (with_reducible first | exact HB.out | apply below_alloc | apply pw_below_drewN | apply below_drew1 | refine below_set ?_ GE402.out) | exact HB.out)⟩⟩
          · rw [if_neg c15] at H
            have c15b0 : decide (a3 < 0) = false := decide_eq_false c15
            clear c15
            by_cases c16 : a3 ≥ (a0.size : Int)
            · rw [if_pos c16] at H
              have c16b0 : decide ((a0.size : Int) ≤ a3) = true := decide_eq_true c16
              clear c16
              have H' := Aside0.mk H
              clear H
              go_wp2
              repeat (go_quiet (fail); try go_wp2)
              go_meet
              case rel => exact ⟨_, (true), (by first | rfl | (simp; done) | (simp [*]; done)), H', ⟨by first | omega | exact Nat.le_refl _⟩, ⟨by (with_reducible repeat (first | refine blk_drewN ?_ _ | refine blk_drew ?_ | refine blk_alloc ?_ _)); exact BK402.out⟩, ⟨by repeat (first | (with_reducible first | exact HB.out | apply below_alloc | apply pw_below_drewN | apply below_drew1 | refine below_set ?_ GE402.out) | exact HB.out)⟩⟩
            · rw [if_neg c16] at H
              have c16b0 : decide ((a0.size : Int) ≤ a3) = false := decide_eq_false c16
              clear c16
              have H' := Aside0.mk H
              clear H
              go_wp2
              repeat (go_quiet (fail); try go_wp2)
              go_meet
              case rel => exact ⟨_, (decide ((a0.size : Int) > 1048576)), (by first | rfl | (simp; done) | (simp [*]; done)), H', ⟨by first | omega | exact Nat.le_refl _⟩, ⟨by (with_reducible repeat (first | refine blk_drewN ?_ _ | refine blk_drew ?_ | refine blk_alloc ?_ _)); exact BK402.out⟩, ⟨by repeat (first | (with_reducible first | exact HB.out | apply below_alloc | apply pw_below_drewN | apply below_drew1 | refine below_set ?_ GE402.out) | exact HB.out)⟩⟩
    · rw [if_neg c12] at H
      have c12b0 : (t405 == 0) = false := beq_eq_false_iff_ne.mpr c12
      have c12b1 : (t405 != 0) = true := bne_iff_ne.mpr c12
      (first | rw [c12b0] | (simp only [i64_w, i32_w]; rw [c12b0]) | rw [c12b1] | skip)
      have H' := Aside0.mk H
      clear H
      go_wp2
      repeat (go_quiet (fail); try go_wp2)
      go_meet
      case rel => exact ⟨_, (true), (by first | rfl | (simp; done) | (simp [*]; done)), H', ⟨by first | omega | exact Nat.le_refl _⟩, ⟨by (with_reducible repeat (first | refine blk_drewN ?_ _ | refine blk_drew ?_ | refine blk_alloc ?_ _)); exact BK402.out⟩, ⟨by repeat (first | (with_reducible first | exact HB.out | apply below_alloc | apply pw_below_drewN | apply below_drew1 | refine below_set ?_ GE402.out) | exact HB.out)⟩⟩
  case rest =>
    clear HC7
    try clear c1
    try clear p2
    try clear c12
    try clear c12b0
    try clear c12b1
    try clear c13
    try clear c13b0
    try clear c14
    try clear c14b0
    try clear c15
    try clear c15b0
    try clear c16
    try clear c16b0
    try clear hcz10_0
    try clear hcz10_1
    try clear hcz10_2
    try clear hfz10_0
    try clear hfz10_1
    try clear hfz10_2
    obtain ⟨kq, x50_6, rfl, HA, HJ6, BK402, HB⟩ := hcut
    cases kq with
    | zero => exact absurd HA.out (by simp [mjolnerlaw03_TextMoves.j0])
    | succ kj6 =>
      have H := HA.out
      clear HA
      simp only [mjolnerlaw03_TextMoves.j0] at H
      by_cases c17 : x50_6 = true
      · subst c17
        have H1 : (some t403) = some r := by rw [if_pos rfl] at H; exact H
        clear H
        have H := H1
        clear H1
        obtain rfl := Option.some.inj H
        go_wp2
        repeat (go_quiet (fail); try go_wp2)
        go_ret
        exact ⟨by first | rfl | (simp [errW_none, errW_some] <;> rfl) | (simp [*, errW_none, errW_some] <;> rfl), by repeat (first | (with_reducible first | exact HB.out | apply below_alloc | apply pw_below_drewN | apply below_drew1 | refine below_set ?_ GE402.out) | exact HB.out)⟩
      · replace c17 := Bool.eq_false_iff.mpr c17
        subst c17
        have H1 : ((text_Moved.f kj6 a1_0 a1_1 a1_2 a2).bind fun bt406 => ((text_Moved.f kj6 a1_0 a1_1 a1_2 a3).bind fun bt408 => (if a2 > a1_0 then (mjolnerlaw03_TextMoves.j1 kj6 a0 a2 a3 t403 t404 bt406.1 bt406.2 bt408.1 bt408.2 (decide (a2 < (wrap64 (a1_0 + a1_1)))) a1_0 a1_1 a1_2) else (mjolnerlaw03_TextMoves.j1 kj6 a0 a2 a3 t403 t404 bt406.1 bt406.2 bt408.1 bt408.2 false a1_0 a1_1 a1_2)))) = some r := by rw [if_neg (show ¬ (false = true) by decide)] at H; exact H
        clear H
        have H := H1
        clear H1
        replace H := Option.bind_eq_some_iff.mp H
        obtain ⟨⟨t406, t407⟩, A180, H⟩ := H
        replace H : ((text_Moved.f kj6 a1_0 a1_1 a1_2 a3).bind fun bt408 => (if a2 > a1_0 then (mjolnerlaw03_TextMoves.j1 kj6 a0 a2 a3 t403 t404 t406 t407 bt408.1 bt408.2 (decide (a2 < (wrap64 (a1_0 + a1_1)))) a1_0 a1_1 a1_2) else (mjolnerlaw03_TextMoves.j1 kj6 a0 a2 a3 t403 t404 t406 t407 bt408.1 bt408.2 false a1_0 a1_1 a1_2))) = some r := H
        have A18 := Aside0.mk A180
        clear A180
        replace H := Option.bind_eq_some_iff.mp H
        obtain ⟨⟨t408, t409⟩, A190, H⟩ := H
        replace H : (if a2 > a1_0 then (mjolnerlaw03_TextMoves.j1 kj6 a0 a2 a3 t403 t404 t406 t407 t408 t409 (decide (a2 < (wrap64 (a1_0 + a1_1)))) a1_0 a1_1 a1_2) else (mjolnerlaw03_TextMoves.j1 kj6 a0 a2 a3 t403 t404 t406 t407 t408 t409 false a1_0 a1_1 a1_2)) = some r := H
        have A19 := Aside0.mk A190
        clear A190
        have HC20 := Aside0.mk H
        clear H
        have hcz21_0 : wc.cell? ⟨gb402, 0, none⟩ = some (.int .i64 a1_0) := (blk_cell BK402.out 0).trans rfl
        have hcz21_1 : wc.cell? ⟨gb402, 1, none⟩ = some (.int .i64 a1_1) := (blk_cell BK402.out 1).trans rfl
        have hcz21_2 : wc.cell? ⟨gb402, 2, none⟩ = some (.string a1_2) := (blk_cell BK402.out 2).trans rfl
        have hfz21_0 := blk_frozen BK402.out 0
        have hfz21_1 := blk_frozen BK402.out 1
        have hfz21_2 := blk_frozen BK402.out 2
        go_upto_region 7 with (first | (go_at_call 53; (with_reducible refine (text_Moved.calls kj6 a1_0 a1_1 a1_2 a2 t406 t407 _ A18.out).mono ?_); rintro e w22 ⟨rfl, hb⟩; have n0_ := Aside0.mk (blk_below (g := gb402) (o := .cells #[.int .i64 a1_0, .int .i64 a1_1, .string a1_2] 47 (0, 0)) (by (with_reducible repeat (first | refine blk_drewN ?_ _ | refine blk_drew ?_ | refine blk_alloc ?_ _)); exact BK402.out) hb); have n1_ := Aside0.mk (below_step (by repeat (first | (with_reducible first | exact HB.out | apply below_alloc | apply pw_below_drewN | apply below_drew1 | refine below_set ?_ GE402.out) | exact HB.out)) hb); clear BK402; clear HB; have BK402 := n0_; have HB := n1_; clear n0_ n1_; (try clear hb); (try clear hb2); (try clear hk); (try clear hi); have hcz23_0 : w22.cell? ⟨gb402, 0, none⟩ = some (.int .i64 a1_0) := (blk_cell BK402.out 0).trans rfl; have hcz23_1 : w22.cell? ⟨gb402, 1, none⟩ = some (.int .i64 a1_1) := (blk_cell BK402.out 1).trans rfl; have hcz23_2 : w22.cell? ⟨gb402, 2, none⟩ = some (.string a1_2) := (blk_cell BK402.out 2).trans rfl; have hfz23_0 := blk_frozen BK402.out 0; have hfz23_1 := blk_frozen BK402.out 1; have hfz23_2 := blk_frozen BK402.out 2) | (go_at_call 53; (with_reducible refine (text_Moved.calls kj6 a1_0 a1_1 a1_2 a3 t408 t409 _ A19.out).mono ?_); rintro e w24 ⟨rfl, hb⟩; have n0_ := Aside0.mk (blk_below (g := gb402) (o := .cells #[.int .i64 a1_0, .int .i64 a1_1, .string a1_2] 47 (0, 0)) (by (with_reducible repeat (first | refine blk_drewN ?_ _ | refine blk_drew ?_ | refine blk_alloc ?_ _)); exact BK402.out) hb); have n1_ := Aside0.mk (below_step (by repeat (first | (with_reducible first | exact HB.out | apply below_alloc | apply pw_below_drewN | apply below_drew1 | refine below_set ?_ GE402.out) | exact HB.out)) hb); clear BK402; clear HB; have BK402 := n0_; have HB := n1_; clear n0_ n1_; (try clear hb); (try clear hb2); (try clear hk); (try clear hi)))
        repeat (go_quiet (first | (go_at_call 53; (with_reducible refine (text_Moved.calls kj6 a1_0 a1_1 a1_2 a2 t406 t407 _ A18.out).mono ?_); rintro e w22 ⟨rfl, hb⟩; have n0_ := Aside0.mk (blk_below (g := gb402) (o := .cells #[.int .i64 a1_0, .int .i64 a1_1, .string a1_2] 47 (0, 0)) (by (with_reducible repeat (first | refine blk_drewN ?_ _ | refine blk_drew ?_ | refine blk_alloc ?_ _)); exact BK402.out) hb); have n1_ := Aside0.mk (below_step (by repeat (first | (with_reducible first | exact HB.out | apply below_alloc | apply pw_below_drewN | apply below_drew1 | refine below_set ?_ GE402.out) | exact HB.out)) hb); clear BK402; clear HB; have BK402 := n0_; have HB := n1_; clear n0_ n1_; (try clear hb); (try clear hb2); (try clear hk); (try clear hi); have hcz23_0 : w22.cell? ⟨gb402, 0, none⟩ = some (.int .i64 a1_0) := (blk_cell BK402.out 0).trans rfl; have hcz23_1 : w22.cell? ⟨gb402, 1, none⟩ = some (.int .i64 a1_1) := (blk_cell BK402.out 1).trans rfl; have hcz23_2 : w22.cell? ⟨gb402, 2, none⟩ = some (.string a1_2) := (blk_cell BK402.out 2).trans rfl; have hfz23_0 := blk_frozen BK402.out 0; have hfz23_1 := blk_frozen BK402.out 1; have hfz23_2 := blk_frozen BK402.out 2) | (go_at_call 53; (with_reducible refine (text_Moved.calls kj6 a1_0 a1_1 a1_2 a3 t408 t409 _ A19.out).mono ?_); rintro e w24 ⟨rfl, hb⟩; have n0_ := Aside0.mk (blk_below (g := gb402) (o := .cells #[.int .i64 a1_0, .int .i64 a1_1, .string a1_2] 47 (0, 0)) (by (with_reducible repeat (first | refine blk_drewN ?_ _ | refine blk_drew ?_ | refine blk_alloc ?_ _)); exact BK402.out) hb); have n1_ := Aside0.mk (below_step (by repeat (first | (with_reducible first | exact HB.out | apply below_alloc | apply pw_below_drewN | apply below_drew1 | refine below_set ?_ GE402.out) | exact HB.out)) hb); clear BK402; clear HB; have BK402 := n0_; have HB := n1_; clear n0_ n1_; (try clear hb); (try clear hb2); (try clear hk); (try clear hi))); go_upto_region 7 with (first | (go_at_call 53; (with_reducible refine (text_Moved.calls kj6 a1_0 a1_1 a1_2 a2 t406 t407 _ A18.out).mono ?_); rintro e w22 ⟨rfl, hb⟩; have n0_ := Aside0.mk (blk_below (g := gb402) (o := .cells #[.int .i64 a1_0, .int .i64 a1_1, .string a1_2] 47 (0, 0)) (by (with_reducible repeat (first | refine blk_drewN ?_ _ | refine blk_drew ?_ | refine blk_alloc ?_ _)); exact BK402.out) hb); have n1_ := Aside0.mk (below_step (by repeat (first | (with_reducible first | exact HB.out | apply below_alloc | apply pw_below_drewN | apply below_drew1 | refine below_set ?_ GE402.out) | exact HB.out)) hb); clear BK402; clear HB; have BK402 := n0_; have HB := n1_; clear n0_ n1_; (try clear hb); (try clear hb2); (try clear hk); (try clear hi); have hcz23_0 : w22.cell? ⟨gb402, 0, none⟩ = some (.int .i64 a1_0) := (blk_cell BK402.out 0).trans rfl; have hcz23_1 : w22.cell? ⟨gb402, 1, none⟩ = some (.int .i64 a1_1) := (blk_cell BK402.out 1).trans rfl; have hcz23_2 : w22.cell? ⟨gb402, 2, none⟩ = some (.string a1_2) := (blk_cell BK402.out 2).trans rfl; have hfz23_0 := blk_frozen BK402.out 0; have hfz23_1 := blk_frozen BK402.out 1; have hfz23_2 := blk_frozen BK402.out 2) | (go_at_call 53; (with_reducible refine (text_Moved.calls kj6 a1_0 a1_1 a1_2 a3 t408 t409 _ A19.out).mono ?_); rintro e w24 ⟨rfl, hb⟩; have n0_ := Aside0.mk (blk_below (g := gb402) (o := .cells #[.int .i64 a1_0, .int .i64 a1_1, .string a1_2] 47 (0, 0)) (by (with_reducible repeat (first | refine blk_drewN ?_ _ | refine blk_drew ?_ | refine blk_alloc ?_ _)); exact BK402.out) hb); have n1_ := Aside0.mk (below_step (by repeat (first | (with_reducible first | exact HB.out | apply below_alloc | apply pw_below_drewN | apply below_drew1 | refine below_set ?_ GE402.out) | exact HB.out)) hb); clear BK402; clear HB; have BK402 := n0_; have HB := n1_; clear n0_ n1_; (try clear hb); (try clear hb2); (try clear hk); (try clear hi))))
        (try simp only [Act.put, List.setIfInBounds_toArray, List.set_cons_zero, List.set_cons_succ])
        go_cut [16] (fun v16 wc => ∃ (kq : Nat) (x16_19 : Bool), v16 = .bool x16_19 ∧ Aside0 (mjolnerlaw03_TextMoves.j1 kq a0 a2 a3 t403 t404 t406 t407 t408 t409 x16_19 a1_0 a1_1 a1_2 = some r) ∧ Aside0 (kq ≤ kj6) ∧ Aside0 (wc.heap[gb402]? = some (.cells #[.int .i64 a1_0, .int .i64 a1_1, .string a1_2] 47 (0, 0))) ∧ Aside0 (Below w.heap.size w wc))
        case first =>
          have H := HC20.out
          clear HC20
          by_cases c25 : a2 > a1_0
          · rw [if_pos c25] at H
            have c25b0 : decide (a1_0 < a2) = true := decide_eq_true c25
            clear c25
            (first | rw [c25b0] | (simp only [i64_w, i32_w]; rw [c25b0]) | rw [c25b1] | skip)
            have H' := Aside0.mk H
            clear H
            have hcz26_0 : w24.cell? ⟨gb402, 0, none⟩ = some (.int .i64 a1_0) := (blk_cell BK402.out 0).trans rfl
            have hcz26_1 : w24.cell? ⟨gb402, 1, none⟩ = some (.int .i64 a1_1) := (blk_cell BK402.out 1).trans rfl
            have hcz26_2 : w24.cell? ⟨gb402, 2, none⟩ = some (.string a1_2) := (blk_cell BK402.out 2).trans rfl
            have hfz26_0 := blk_frozen BK402.out 0
            have hfz26_1 := blk_frozen BK402.out 1
            have hfz26_2 := blk_frozen BK402.out 2
            go_wp2
            repeat (go_quiet (fail); try go_wp2)
            go_meet
            case rel => exact ⟨_, (decide (a2 < (wrap64 (a1_0 + a1_1)))), (by first | rfl | (simp; done) | (simp [*]; done)), H', ⟨by have := HJ6.out; first | omega | exact Nat.le_refl _⟩, ⟨by (with_reducible repeat (first | refine blk_drewN ?_ _ | refine blk_drew ?_ | refine blk_alloc ?_ _)); exact BK402.out⟩, ⟨by repeat (first | (with_reducible first | exact HB.out | apply below_alloc | apply pw_below_drewN | apply below_drew1 | refine below_set ?_ GE402.out) | exact HB.out)⟩⟩
          · rw [if_neg c25] at H
            have c25b0 : decide (a1_0 < a2) = false := decide_eq_false c25
            clear c25
            (first | rw [c25b0] | (simp only [i64_w, i32_w]; rw [c25b0]) | rw [c25b1] | skip)
            have H' := Aside0.mk H
            clear H
            have hcz27_0 : w24.cell? ⟨gb402, 0, none⟩ = some (.int .i64 a1_0) := (blk_cell BK402.out 0).trans rfl
            have hcz27_1 : w24.cell? ⟨gb402, 1, none⟩ = some (.int .i64 a1_1) := (blk_cell BK402.out 1).trans rfl
            have hcz27_2 : w24.cell? ⟨gb402, 2, none⟩ = some (.string a1_2) := (blk_cell BK402.out 2).trans rfl
            have hfz27_0 := blk_frozen BK402.out 0
            have hfz27_1 := blk_frozen BK402.out 1
            have hfz27_2 := blk_frozen BK402.out 2
            go_wp2
            repeat (go_quiet (fail); try go_wp2)
            go_meet
            case rel => exact ⟨_, (false), (by first | rfl | (simp; done) | (simp [*]; done)), H', ⟨by have := HJ6.out; first | omega | exact Nat.le_refl _⟩, ⟨by (with_reducible repeat (first | refine blk_drewN ?_ _ | refine blk_drew ?_ | refine blk_alloc ?_ _)); exact BK402.out⟩, ⟨by repeat (first | (with_reducible first | exact HB.out | apply below_alloc | apply pw_below_drewN | apply below_drew1 | refine below_set ?_ GE402.out) | exact HB.out)⟩⟩
        case rest =>
          clear HC20
          try clear c1
          try clear c2
          try clear p2
          try clear p6
          try clear c12
          try clear c12b0
          try clear c12b1
          try clear c13
          try clear c13b0
          try clear c14
          try clear c14b0
          try clear c15
          try clear c15b0
          try clear c16
          try clear c16b0
          try clear c17
          try clear c25
          try clear c25b0
          try clear c25b1
          try clear hcz10_0
          try clear hcz10_1
          try clear hcz10_2
          try clear hcz21_0
          try clear hcz21_1
          try clear hcz21_2
          try clear hcz23_0
          try clear hcz23_1
          try clear hcz23_2
          try clear hcz26_0
          try clear hcz26_1
          try clear hcz26_2
          try clear hcz27_0
          try clear hcz27_1
          try clear hcz27_2
          try clear hfz10_0
          try clear hfz10_1
          try clear hfz10_2
          try clear hfz21_0
          try clear hfz21_1
          try clear hfz21_2
          try clear hfz23_0
          try clear hfz23_1
          try clear hfz23_2
          try clear hfz26_0
          try clear hfz26_1
          try clear hfz26_2
          try clear hfz27_0
          try clear hfz27_1
          try clear hfz27_2
          try clear p2
          obtain ⟨kq, x16_19, rfl, HA, HJ19, BK402, HB⟩ := hcut
          cases kq with
          | zero => exact absurd HA.out (by simp [mjolnerlaw03_TextMoves.j1])
          | succ kj19 =>
            have H := HA.out
            clear HA
            simp only [mjolnerlaw03_TextMoves.j1] at H
            by_cases c28 : (x16_19 != (t407 != 0)) = true
            · rw [if_pos c28] at H
              have c28b0 : (x16_19 != (t407 != 0)) = true := c28
              (try (have c28b1 : decide (x16_19 = (t407 != 0)) = false := by simpa using c28))
              (try (have c28b2 : (x16_19 == (t407 != 0)) = false := by simpa using c28))
              (try (have c28b3 : ¬ (x16_19 = (t407 != 0)) := by simpa using c28))
              clear c28
              obtain rfl := Option.some.inj H
              go_wp2
              repeat (go_quiet (fail); try go_wp2)
              go_ret
              exact ⟨by first | rfl | (simp [errW_none, errW_some] <;> rfl) | (simp [*, errW_none, errW_some] <;> rfl), by repeat (first | (with_reducible first | exact HB.out | apply below_alloc | apply pw_below_drewN | apply below_drew1 | refine below_set ?_ GE402.out) | exact HB.out)⟩
            · rw [if_neg c28] at H
              have c28b0 : (x16_19 != (t407 != 0)) = false := by simpa using c28
              (try (have c28b1 : decide (x16_19 = (t407 != 0)) = true := by simpa using c28))
              (try (have c28b2 : (x16_19 == (t407 != 0)) = true := by simpa using c28))
              clear c28
              by_cases c29 : t407 = 0
              · rw [if_pos c29] at H
                have c29b0 : (t407 == 0) = true := beq_iff_eq.mpr c29
                have c29b1 : (t407 != 0) = false := bne_eq_false_iff_eq.mpr c29
                (try (have z_c29b1 : x16_19 = false := by have h_ := c28b0; rw [c29b1] at h_; simpa using h_))
                clear c29
                by_cases c30 : t406 < 0
                · rw [if_pos c30] at H
                  have c30b0 : decide (t406 < 0) = true := decide_eq_true c30
                  clear c30
                  obtain rfl := Option.some.inj H
                  go_wp2
                  repeat (go_quiet (fail); try go_wp2)
                  go_ret
                  exact ⟨by first | rfl | (simp [errW_none, errW_some] <;> rfl) | (simp [*, errW_none, errW_some] <;> rfl), by repeat (first | (with_reducible first | exact HB.out | apply below_alloc | apply pw_below_drewN | apply below_drew1 | refine below_set ?_ GE402.out) | exact HB.out)⟩
                · rw [if_neg c30] at H
                  have c30b0 : decide (t406 < 0) = false := decide_eq_false c30
                  clear c30
                  by_cases c31 : t406 > (t404.size : Int)
                  · rw [if_pos c31] at H
                    have c31b0 : decide ((t404.size : Int) < t406) = true := decide_eq_true c31
                    clear c31
                    obtain rfl := Option.some.inj H
                    go_wp2
                    repeat (go_quiet (fail); try go_wp2)
                    go_ret
                    exact ⟨by first | rfl | (simp [errW_none, errW_some] <;> rfl) | (simp [*, errW_none, errW_some] <;> rfl), by repeat (first | (with_reducible first | exact HB.out | apply below_alloc | apply pw_below_drewN | apply below_drew1 | refine below_set ?_ GE402.out) | exact HB.out)⟩
                  · rw [if_neg c31] at H
                    have c31b0 : decide ((t404.size : Int) < t406) = false := decide_eq_false c31
                    clear c31
                    by_cases c32 : a2 = a1_0
                    · rw [if_pos c32] at H
                      have c32b0 : (a2 == a1_0) = true := beq_iff_eq.mpr c32
                      have c32b1 : (a2 != a1_0) = false := bne_eq_false_iff_eq.mpr c32
                      clear c32
                      by_cases c33 : t403 = true
                      · subst c33
                        have H1 : (if t409 = 0 then (if a2 ≥ a3 then (some true) else (some (decide (t406 ≤ t408)))) else (some true)) = some r := by rw [if_pos rfl] at H; exact H
                        clear H
                        have H := H1
                        clear H1
                        by_cases c34 : t409 = 0
                        · rw [if_pos c34] at H
                          have c34b0 : (t409 == 0) = true := beq_iff_eq.mpr c34
                          have c34b1 : (t409 != 0) = false := bne_eq_false_iff_eq.mpr c34
                          clear c34
                          by_cases c35 : a2 ≥ a3
                          · rw [if_pos c35] at H
                            have c35b0 : decide (a3 ≤ a2) = true := decide_eq_true c35
                            clear c35
                            obtain rfl := Option.some.inj H
                            have hcz36_0 : wc.cell? ⟨gb402, 0, none⟩ = some (.int .i64 a1_0) := (blk_cell BK402.out 0).trans rfl
                            have hcz36_1 : wc.cell? ⟨gb402, 1, none⟩ = some (.int .i64 a1_1) := (blk_cell BK402.out 1).trans rfl
                            have hcz36_2 : wc.cell? ⟨gb402, 2, none⟩ = some (.string a1_2) := (blk_cell BK402.out 2).trans rfl
                            have hfz36_0 := blk_frozen BK402.out 0
                            have hfz36_1 := blk_frozen BK402.out 1
                            have hfz36_2 := blk_frozen BK402.out 2
                            go_wp2
                            repeat (go_quiet (fail); try go_wp2)
                            go_ret
                            exact ⟨by first | rfl | (simp [errW_none, errW_some] <;> rfl) | (simp [*, errW_none, errW_some] <;> rfl), by repeat (first | (with_reducible first | exact HB.out | apply below_alloc | apply pw_below_drewN | apply below_drew1 | refine below_set ?_ GE402.out) | exact HB.out)⟩
                          · rw [if_neg c35] at H
                            have c35b0 : decide (a3 ≤ a2) = false := decide_eq_false c35
                            clear c35
                            obtain rfl := Option.some.inj H
                            have hcz37_0 : wc.cell? ⟨gb402, 0, none⟩ = some (.int .i64 a1_0) := (blk_cell BK402.out 0).trans rfl
                            have hcz37_1 : wc.cell? ⟨gb402, 1, none⟩ = some (.int .i64 a1_1) := (blk_cell BK402.out 1).trans rfl
                            have hcz37_2 : wc.cell? ⟨gb402, 2, none⟩ = some (.string a1_2) := (blk_cell BK402.out 2).trans rfl
                            have hfz37_0 := blk_frozen BK402.out 0
                            have hfz37_1 := blk_frozen BK402.out 1
                            have hfz37_2 := blk_frozen BK402.out 2
                            go_wp2
                            repeat (go_quiet (fail); try go_wp2)
                            go_ret
                            exact ⟨by first | rfl | (simp [errW_none, errW_some] <;> rfl) | (simp [*, errW_none, errW_some] <;> rfl), by repeat (first | (with_reducible first | exact HB.out | apply below_alloc | apply pw_below_drewN | apply below_drew1 | refine below_set ?_ GE402.out) | exact HB.out)⟩
                        · rw [if_neg c34] at H
                          have c34b0 : (t409 == 0) = false := beq_eq_false_iff_ne.mpr c34
                          have c34b1 : (t409 != 0) = true := bne_iff_ne.mpr c34
                          obtain rfl := Option.some.inj H
                          have hcz38_0 : wc.cell? ⟨gb402, 0, none⟩ = some (.int .i64 a1_0) := (blk_cell BK402.out 0).trans rfl
                          have hcz38_1 : wc.cell? ⟨gb402, 1, none⟩ = some (.int .i64 a1_1) := (blk_cell BK402.out 1).trans rfl
                          have hcz38_2 : wc.cell? ⟨gb402, 2, none⟩ = some (.string a1_2) := (blk_cell BK402.out 2).trans rfl
                          have hfz38_0 := blk_frozen BK402.out 0
                          have hfz38_1 := blk_frozen BK402.out 1
                          have hfz38_2 := blk_frozen BK402.out 2
                          go_wp2
                          repeat (go_quiet (fail); try go_wp2)
                          go_ret
                          exact ⟨by first | rfl | (simp [errW_none, errW_some] <;> rfl) | (simp [*, errW_none, errW_some] <;> rfl), by repeat (first | (with_reducible first | exact HB.out | apply below_alloc | apply pw_below_drewN | apply below_drew1 | refine below_set ?_ GE402.out) | exact HB.out)⟩
                      · replace c33 := Bool.eq_false_iff.mpr c33
                        subst c33
                        have H1 : (some false) = some r := by rw [if_neg (show ¬ (false = true) by decide)] at H; exact H
                        clear H
                        have H := H1
                        clear H1
                        obtain rfl := Option.some.inj H
                        have hcz39_0 : wc.cell? ⟨gb402, 0, none⟩ = some (.int .i64 a1_0) := (blk_cell BK402.out 0).trans rfl
                        have hcz39_1 : wc.cell? ⟨gb402, 1, none⟩ = some (.int .i64 a1_1) := (blk_cell BK402.out 1).trans rfl
                        have hcz39_2 : wc.cell? ⟨gb402, 2, none⟩ = some (.string a1_2) := (blk_cell BK402.out 2).trans rfl
                        have hfz39_0 := blk_frozen BK402.out 0
                        have hfz39_1 := blk_frozen BK402.out 1
                        have hfz39_2 := blk_frozen BK402.out 2
                        go_wp2
                        repeat (go_quiet (fail); try go_wp2)
                        go_ret
                        exact ⟨by first | rfl | (simp [errW_none, errW_some] <;> rfl) | (simp [*, errW_none, errW_some] <;> rfl), by repeat (first | (with_reducible first | exact HB.out | apply below_alloc | apply pw_below_drewN | apply below_drew1 | refine below_set ?_ GE402.out) | exact HB.out)⟩
                    · rw [if_neg c32] at H
                      have c32b0 : (a2 == a1_0) = false := beq_eq_false_iff_ne.mpr c32
                      have c32b1 : (a2 != a1_0) = true := bne_iff_ne.mpr c32
                      by_cases c40 : t406 ≥ (t404.size : Int)
                      · rw [if_pos c40] at H
                        have c40b0 : decide ((t404.size : Int) ≤ t406) = true := decide_eq_true c40
                        clear c40
                        obtain rfl := Option.some.inj H
                        have hcz41_0 : wc.cell? ⟨gb402, 0, none⟩ = some (.int .i64 a1_0) := (blk_cell BK402.out 0).trans rfl
                        have hcz41_1 : wc.cell? ⟨gb402, 1, none⟩ = some (.int .i64 a1_1) := (blk_cell BK402.out 1).trans rfl
                        have hcz41_2 : wc.cell? ⟨gb402, 2, none⟩ = some (.string a1_2) := (blk_cell BK402.out 2).trans rfl
                        have hfz41_0 := blk_frozen BK402.out 0
                        have hfz41_1 := blk_frozen BK402.out 1
                        have hfz41_2 := blk_frozen BK402.out 2
                        go_wp2
                        repeat (go_quiet (fail); try go_wp2)
                        go_ret
                        exact ⟨by first | rfl | (simp [errW_none, errW_some] <;> rfl) | (simp [*, errW_none, errW_some] <;> rfl), by repeat (first | (with_reducible first | exact HB.out | apply below_alloc | apply pw_below_drewN | apply below_drew1 | refine below_set ?_ GE402.out) | exact HB.out)⟩
                      · rw [if_neg c40] at H
                        have c40b0 : decide ((t404.size : Int) ≤ t406) = false := decide_eq_false c40
                        clear c40
                        by_cases c42 : 0 ≤ t406
                        · rw [if_pos c42] at H
                          have c42b0 : decide (0 ≤ t406) = true := decide_eq_true c42
                          clear c42
                          by_cases c43 : t406 < (t404.size : Int)
                          · rw [if_pos c43] at H
                            have c43b0 : decide (t406 < (t404.size : Int)) = true := decide_eq_true c43
                            clear c43
                            by_cases c45 : 0 ≤ a2
                            · rw [if_pos c45] at H
                              have c45b0 : decide (0 ≤ a2) = true := decide_eq_true c45
                              clear c45
                              by_cases c46 : a2 < (a0.size : Int)
                              · rw [if_pos c46] at H
                                have c46b0 : decide (a2 < (a0.size : Int)) = true := decide_eq_true c46
                                clear c46
                                by_cases c48 : (bt t404 t406) = (bt a0 a2)
                                · rw [if_pos c48] at H
                                  have c48b0 : ((bt t404 t406) == (bt a0 a2)) = true := beq_iff_eq.mpr c48
                                  have c48b1 : ((bt t404 t406) != (bt a0 a2)) = false := bne_eq_false_iff_eq.mpr c48
                                  clear c48
                                  by_cases c49 : t403 = true
                                  · subst c49
                                    have H1 : (if t409 = 0 then (if a2 ≥ a3 then (some true) else (some (decide (t406 ≤ t408)))) else (some true)) = some r := by rw [if_pos rfl] at H; exact H
                                    clear H
                                    have H := H1
                                    clear H1
                                    by_cases c50 : t409 = 0
                                    · rw [if_pos c50] at H
                                      have c50b0 : (t409 == 0) = true := beq_iff_eq.mpr c50
                                      have c50b1 : (t409 != 0) = false := bne_eq_false_iff_eq.mpr c50
                                      clear c50
                                      by_cases c51 : a2 ≥ a3
                                      · rw [if_pos c51] at H
                                        have c51b0 : decide (a3 ≤ a2) = true := decide_eq_true c51
                                        clear c51
                                        obtain rfl := Option.some.inj H
                                        have hcz52_0 : wc.cell? ⟨gb402, 0, none⟩ = some (.int .i64 a1_0) := (blk_cell BK402.out 0).trans rfl
                                        have hcz52_1 : wc.cell? ⟨gb402, 1, none⟩ = some (.int .i64 a1_1) := (blk_cell BK402.out 1).trans rfl
                                        have hcz52_2 : wc.cell? ⟨gb402, 2, none⟩ = some (.string a1_2) := (blk_cell BK402.out 2).trans rfl
                                        have hfz52_0 := blk_frozen BK402.out 0
                                        have hfz52_1 := blk_frozen BK402.out 1
                                        have hfz52_2 := blk_frozen BK402.out 2
                                        have p44 : 0 ≤ (t406 : Int) := of_decide_eq_true (by first | (with_reducible assumption) | assumption)
                                        have q44 : t406 < (t404.size : Int) := of_decide_eq_true (by first | (with_reducible assumption) | assumption)
                                        have hx44 := bt_at t404 t406
                                        replace p44 := eq_true p44
                                        replace q44 := eq_true q44
                                        have p47 : 0 ≤ (a2 : Int) := of_decide_eq_true (by first | (with_reducible assumption) | assumption)
                                        have q47 : a2 < (a0.size : Int) := of_decide_eq_true (by first | (with_reducible assumption) | assumption)
                                        have hx47 := bt_at a0 a2
                                        replace p47 := eq_true p47
                                        replace q47 := eq_true q47
                                        go_wp2
                                        repeat (go_quiet (fail); try go_wp2)
                                        go_ret
                                        exact ⟨by first | rfl | (simp [errW_none, errW_some] <;> rfl) | (simp [*, errW_none, errW_some] <;> rfl), by repeat (first | (with_reducible first | exact HB.out | apply below_alloc | apply pw_below_drewN | apply below_drew1 | refine below_set ?_ GE402.out) | exact HB.out)⟩
                                      · rw [if_neg c51] at H
                                        have c51b0 : decide (a3 ≤ a2) = false := decide_eq_false c51
                                        clear c51
                                        obtain rfl := Option.some.inj H
                                        have hcz53_0 : wc.cell? ⟨gb402, 0, none⟩ = some (.int .i64 a1_0) := (blk_cell BK402.out 0).trans rfl
                                        have hcz53_1 : wc.cell? ⟨gb402, 1, none⟩ = some (.int .i64 a1_1) := (blk_cell BK402.out 1).trans rfl
                                        have hcz53_2 : wc.cell? ⟨gb402, 2, none⟩ = some (.string a1_2) := (blk_cell BK402.out 2).trans rfl
                                        have hfz53_0 := blk_frozen BK402.out 0
                                        have hfz53_1 := blk_frozen BK402.out 1
                                        have hfz53_2 := blk_frozen BK402.out 2
                                        have p44 : 0 ≤ (t406 : Int) := of_decide_eq_true (by first | (with_reducible assumption) | assumption)
                                        have q44 : t406 < (t404.size : Int) := of_decide_eq_true (by first | (with_reducible assumption) | assumption)
                                        have hx44 := bt_at t404 t406
                                        replace p44 := eq_true p44
                                        replace q44 := eq_true q44
                                        have p47 : 0 ≤ (a2 : Int) := of_decide_eq_true (by first | (with_reducible assumption) | assumption)
                                        have q47 : a2 < (a0.size : Int) := of_decide_eq_true (by first | (with_reducible assumption) | assumption)
                                        have hx47 := bt_at a0 a2
                                        replace p47 := eq_true p47
                                        replace q47 := eq_true q47
                                        go_wp2
                                        repeat (go_quiet (fail); try go_wp2)
                                        go_ret
                                        exact ⟨by first | rfl | (simp [errW_none, errW_some] <;> rfl) | (simp [*, errW_none, errW_some] <;> rfl), by repeat (first | (with_reducible first | exact HB.out | apply below_alloc | apply pw_below_drewN | apply below_drew1 | refine below_set ?_ GE402.out) | exact HB.out)⟩
                                    · rw [if_neg c50] at H
                                      have c50b0 : (t409 == 0) = false := beq_eq_false_iff_ne.mpr c50
                                      have c50b1 : (t409 != 0) = true := bne_iff_ne.mpr c50
                                      obtain rfl := Option.some.inj H
                                      have hcz54_0 : wc.cell? ⟨gb402, 0, none⟩ = some (.int .i64 a1_0) := (blk_cell BK402.out 0).trans rfl
                                      have hcz54_1 : wc.cell? ⟨gb402, 1, none⟩ = some (.int .i64 a1_1) := (blk_cell BK402.out 1).trans rfl
                                      have hcz54_2 : wc.cell? ⟨gb402, 2, none⟩ = some (.string a1_2) := (blk_cell BK402.out 2).trans rfl
                                      have hfz54_0 := blk_frozen BK402.out 0
                                      have hfz54_1 := blk_frozen BK402.out 1
                                      have hfz54_2 := blk_frozen BK402.out 2
                                      have p44 : 0 ≤ (t406 : Int) := of_decide_eq_true (by first | (with_reducible assumption) | assumption)
                                      have q44 : t406 < (t404.size : Int) := of_decide_eq_true (by first | (with_reducible assumption) | assumption)
                                      have hx44 := bt_at t404 t406
                                      replace p44 := eq_true p44
                                      replace q44 := eq_true q44
                                      have p47 : 0 ≤ (a2 : Int) := of_decide_eq_true (by first | (with_reducible assumption) | assumption)
                                      have q47 : a2 < (a0.size : Int) := of_decide_eq_true (by first | (with_reducible assumption) | assumption)
                                      have hx47 := bt_at a0 a2
                                      replace p47 := eq_true p47
                                      replace q47 := eq_true q47
                                      go_wp2
                                      repeat (go_quiet (fail); try go_wp2)
                                      go_ret
                                      exact ⟨by first | rfl | (simp [errW_none, errW_some] <;> rfl) | (simp [*, errW_none, errW_some] <;> rfl), by repeat (first | (with_reducible first | exact HB.out | apply below_alloc | apply pw_below_drewN | apply below_drew1 | refine below_set ?_ GE402.out) | exact HB.out)⟩
                                  · replace c49 := Bool.eq_false_iff.mpr c49
                                    subst c49
                                    have H1 : (some false) = some r := by rw [if_neg (show ¬ (false = true) by decide)] at H; exact H
                                    clear H
                                    have H := H1
                                    clear H1
                                    obtain rfl := Option.some.inj H
                                    have hcz55_0 : wc.cell? ⟨gb402, 0, none⟩ = some (.int .i64 a1_0) := (blk_cell BK402.out 0).trans rfl
                                    have hcz55_1 : wc.cell? ⟨gb402, 1, none⟩ = some (.int .i64 a1_1) := (blk_cell BK402.out 1).trans rfl
                                    have hcz55_2 : wc.cell? ⟨gb402, 2, none⟩ = some (.string a1_2) := (blk_cell BK402.out 2).trans rfl
                                    have hfz55_0 := blk_frozen BK402.out 0
                                    have hfz55_1 := blk_frozen BK402.out 1
                                    have hfz55_2 := blk_frozen BK402.out 2
                                    have p44 : 0 ≤ (t406 : Int) := of_decide_eq_true (by first | (with_reducible assumption) | assumption)
                                    have q44 : t406 < (t404.size : Int) := of_decide_eq_true (by first | (with_reducible assumption) | assumption)
                                    have hx44 := bt_at t404 t406
                                    replace p44 := eq_true p44
                                    replace q44 := eq_true q44
                                    have p47 : 0 ≤ (a2 : Int) := of_decide_eq_true (by first | (with_reducible assumption) | assumption)
                                    have q47 : a2 < (a0.size : Int) := of_decide_eq_true (by first | (with_reducible assumption) | assumption)
                                    have hx47 := bt_at a0 a2
                                    replace p47 := eq_true p47
                                    replace q47 := eq_true q47
                                    go_wp2
                                    repeat (go_quiet (fail); try go_wp2)
                                    go_ret
                                    exact ⟨by first | rfl | (simp [errW_none, errW_some] <;> rfl) | (simp [*, errW_none, errW_some] <;> rfl), by repeat (first | (with_reducible first | exact HB.out | apply below_alloc | apply pw_below_drewN | apply below_drew1 | refine below_set ?_ GE402.out) | exact HB.out)⟩
                                · rw [if_neg c48] at H
                                  have c48b0 : ((bt t404 t406) == (bt a0 a2)) = false := beq_eq_false_iff_ne.mpr c48
                                  have c48b1 : ((bt t404 t406) != (bt a0 a2)) = true := bne_iff_ne.mpr c48
                                  obtain rfl := Option.some.inj H
                                  have hcz56_0 : wc.cell? ⟨gb402, 0, none⟩ = some (.int .i64 a1_0) := (blk_cell BK402.out 0).trans rfl
                                  have hcz56_1 : wc.cell? ⟨gb402, 1, none⟩ = some (.int .i64 a1_1) := (blk_cell BK402.out 1).trans rfl
                                  have hcz56_2 : wc.cell? ⟨gb402, 2, none⟩ = some (.string a1_2) := (blk_cell BK402.out 2).trans rfl
                                  have hfz56_0 := blk_frozen BK402.out 0
                                  have hfz56_1 := blk_frozen BK402.out 1
                                  have hfz56_2 := blk_frozen BK402.out 2
                                  have p44 : 0 ≤ (t406 : Int) := of_decide_eq_true (by first | (with_reducible assumption) | assumption)
                                  have q44 : t406 < (t404.size : Int) := of_decide_eq_true (by first | (with_reducible assumption) | assumption)
                                  have hx44 := bt_at t404 t406
                                  replace p44 := eq_true p44
                                  replace q44 := eq_true q44
                                  have p47 : 0 ≤ (a2 : Int) := of_decide_eq_true (by first | (with_reducible assumption) | assumption)
                                  have q47 : a2 < (a0.size : Int) := of_decide_eq_true (by first | (with_reducible assumption) | assumption)
                                  have hx47 := bt_at a0 a2
                                  replace p47 := eq_true p47
                                  replace q47 := eq_true q47
                                  go_wp2
                                  repeat (go_quiet (fail); try go_wp2)
                                  go_ret
                                  exact ⟨by first | rfl | (simp [errW_none, errW_some] <;> rfl) | (simp [*, errW_none, errW_some] <;> rfl), by repeat (first | (with_reducible first | exact HB.out | apply below_alloc | apply pw_below_drewN | apply below_drew1 | refine below_set ?_ GE402.out) | exact HB.out)⟩
                              · rw [if_neg c46] at H
                                exact absurd H (by simp)
                            · rw [if_neg c45] at H
                              exact absurd H (by simp)
                          · rw [if_neg c43] at H
                            exact absurd H (by simp)
                        · rw [if_neg c42] at H
                          exact absurd H (by simp)
              · rw [if_neg c29] at H
                have c29b0 : (t407 == 0) = false := beq_eq_false_iff_ne.mpr c29
                have c29b1 : (t407 != 0) = true := bne_iff_ne.mpr c29
                (try (have z_c29b1 : x16_19 = true := by have h_ := c28b0; rw [c29b1] at h_; simpa using h_))
                by_cases c57 : t403 = true
                · subst c57
                  have H1 : (if t407 = 5 then (some (t406 == 0)) else (some false)) = some r := by rw [if_pos rfl] at H; exact H
                  clear H
                  have H := H1
                  clear H1
                  by_cases c58 : t407 = 5
                  · rw [if_pos c58] at H
                    have c58b0 : (t407 == 5) = true := beq_iff_eq.mpr c58
                    have c58b1 : (t407 != 5) = false := bne_eq_false_iff_eq.mpr c58
                    clear c58
                    obtain rfl := Option.some.inj H
                    go_wp2
                    repeat (go_quiet (fail); try go_wp2)
                    go_ret
                    exact ⟨by first | rfl | (simp [errW_none, errW_some] <;> rfl) | (simp [*, errW_none, errW_some] <;> rfl), by repeat (first | (with_reducible first | exact HB.out | apply below_alloc | apply pw_below_drewN | apply below_drew1 | refine below_set ?_ GE402.out) | exact HB.out)⟩
                  · rw [if_neg c58] at H
                    have c58b0 : (t407 == 5) = false := beq_eq_false_iff_ne.mpr c58
                    have c58b1 : (t407 != 5) = true := bne_iff_ne.mpr c58
                    obtain rfl := Option.some.inj H
                    go_wp2
                    repeat (go_quiet (fail); try go_wp2)
                    go_ret
                    exact ⟨by first | rfl | (simp [errW_none, errW_some] <;> rfl) | (simp [*, errW_none, errW_some] <;> rfl), by repeat (first | (with_reducible first | exact HB.out | apply below_alloc | apply pw_below_drewN | apply below_drew1 | refine below_set ?_ GE402.out) | exact HB.out)⟩
                · replace c57 := Bool.eq_false_iff.mpr c57
                  subst c57
                  have H1 : (some false) = some r := by rw [if_neg (show ¬ (false = true) by decide)] at H; exact H
                  clear H
                  have H := H1
                  clear H1
                  obtain rfl := Option.some.inj H
                  go_wp2
                  repeat (go_quiet (fail); try go_wp2)
                  go_ret
                  exact ⟨by first | rfl | (simp [errW_none, errW_some] <;> rfl) | (simp [*, errW_none, errW_some] <;> rfl), by repeat (first | (with_reducible first | exact HB.out | apply below_alloc | apply pw_below_drewN | apply below_drew1 | refine below_set ?_ GE402.out) | exact HB.out)⟩

end Go.Proofs.YtdcemnmbfblmiaaDoor.PT
