/- The contract of text.Merge: it returns what the plain function says, failures caught, and leaves all older memory as it was. -/
import Derived.Test.YtdcemnmbfblmiaaDoorGd
import Derived.Deep.QuietTactic
import Derived.BigQuiet
set_option linter.unusedVariables false
set_option linter.unusedSimpArgs false
namespace Go.Proofs.YtdcemnmbfblmiaaDoor.Given
open Go.RowKit Go.Proofs.YtdcemnmbfblmiaaDoorW.PrintWords Go.Proofs.YtdcemnmbfblmiaaDoorW.PrintLast Go.Proofs.YtdcemnmbfblmiaaDoorW.PrintMore

def wM (a d : Int) (p : ByteArray) (a' d' : Int) (p' : ByteArray) (w : World) : World := (((w.alloc (.cells #[.int .i64 a, .int .i64 d, .string p] 47)).alloc (.cells #[.int .i64 a', .int .i64 d', .string p'] 47)).alloc (.cells #[.int .i64 0, .int .i64 0, .string ⟨#[]⟩] 47)).alloc (.cells #[.int .i64 0] 22)
theorem wM_below (a d : Int) (p : ByteArray) (a' d' : Int) (p' : ByteArray) (w : World) : Below w.heap.size w (wM a d p a' d' p' w) :=
  ((((Below.refl _ _).alloc (Nat.le_refl _) _).alloc (by simp) _).alloc (by simp; omega) _).alloc (by simp; omega) _
structure MC (g : Nat) (a d : Int) (p : ByteArray) (a' d' : Int) (p' : ByteArray) (W : World) : Prop where
  x0 : W.cell? ⟨g, 0, none⟩ = some (.int .i64 a)
  x1 : W.cell? ⟨g, 1, none⟩ = some (.int .i64 d)
  x2 : W.cell? ⟨g, 2, none⟩ = some (.string p)
  y0 : W.cell? ⟨g + 1, 0, none⟩ = some (.int .i64 a')
  y1 : W.cell? ⟨g + 1, 1, none⟩ = some (.int .i64 d')
  y2 : W.cell? ⟨g + 1, 2, none⟩ = some (.string p')
  o0 : W.cell? ⟨g + 1 + 1, 0, none⟩ = some (.int .i64 0)
  o1 : W.cell? ⟨g + 1 + 1, 1, none⟩ = some (.int .i64 0)
  o2 : W.cell? ⟨g + 1 + 1, 2, none⟩ = some (.string ⟨#[]⟩)
  e0 : W.cell? ⟨g + 1 + 1 + 1, 0, none⟩ = some (.int .i64 0)
  f0 : W.frozen? ⟨g + 1 + 1, 0, none⟩ = false
  f1 : W.frozen? ⟨g + 1 + 1, 1, none⟩ = false
  f2 : W.frozen? ⟨g + 1 + 1, 2, none⟩ = false
  f3 : W.frozen? ⟨g + 1 + 1 + 1, 0, none⟩ = false
  lt : g + 1 + 1 + 1 < W.heap.size
theorem MC.keep {g : Nat} {a d : Int} {p : ByteArray} {a' d' : Int} {p' : ByteArray} {W W' : World} (h : MC g a d p a' d' p' W) (hb : Below W.heap.size W W') : MC g a d p a' d' p' W' := by
  have hl := h.lt
  constructor
  · exact (bcell hb (by omega)).trans h.x0
  · exact (bcell hb (by omega)).trans h.x1
  · exact (bcell hb (by omega)).trans h.x2
  · exact (bcell hb (by omega)).trans h.y0
  · exact (bcell hb (by omega)).trans h.y1
  · exact (bcell hb (by omega)).trans h.y2
  · exact (bcell hb (by omega)).trans h.o0
  · exact (bcell hb (by omega)).trans h.o1
  · exact (bcell hb (by omega)).trans h.o2
  · exact (bcell hb (by omega)).trans h.e0
  · exact (bfrozen hb (by omega)).trans h.f0
  · exact (bfrozen hb (by omega)).trans h.f1
  · exact (bfrozen hb (by omega)).trans h.f2
  · exact (bfrozen hb (by omega)).trans h.f3
  · have := hb.size; omega
theorem MC.start (a d : Int) (p : ByteArray) (a' d' : Int) (p' : ByteArray) (w : World) : MC w.heap.size a d p a' d' p' (wM a d p a' d' p' w) := by
  constructor <;> simp [wM, go_sem]
set_option linter.unusedSimpArgs false
set_option linter.unusedVariables false
set_option maxRecDepth 100000 in
set_option maxHeartbeats 1000000 in
theorem merge_arg1 (a d : Int) (p : ByteArray) (a' d' : Int) (p' : ByteArray) (w : World) (h : properE a d = false) :
    Calls Tryd.prog 51 #[.agg #[.int .i64 a, .int .i64 d, .string p], .agg #[.int .i64 a', .int .i64 d', .string p']] w fun e w' => e = .returned (.tuple #[.agg #[.int .i64 0, .int .i64 0, .string ⟨#[]⟩], .int .i64 1]) ∧ Below w.heap.size w w' := by
  have hu47 := Tryd.underlying47
  have hu22 := Tryd.underlying22
  have HP := Aside0.mk h
  clear h
  go_enter_defers Tryd.func51, Tryd.ntmps51
  go_wp2_with (fail)
  go_at_call 78
  refine (proper_calls _ _ _ _).mono ?_
  rintro e w1 ⟨rfl, hb⟩
  rw [HP.out]
  have hM := (MC.start a d p a' d' p' w).keep hb
  have hB := Aside0.mk ((wM_below a d p a' d' p' w).trans (hb.mono (by simp [wM]; omega)))
  obtain ⟨x0, x1, x2, y0, y1, y2, o0, o1, o2, e0, f0, f1, f2, f3, lt⟩ := hM
  clear hb
  go_wp2_with (first | (go_at_call 68; (with_reducible refine (need_false _ _).mono ?_); rintro e w' ⟨rfl, rfl⟩))
  exact edit_door results51 (B := w.heap.size) (g := w.heap.size + 1 + 1) (by omega) rfl rfl rfl o0 o1 o2 e0 f0 f1 f2 f3 hB.out (by omega)
set_option maxRecDepth 100000 in
set_option maxHeartbeats 1000000 in
theorem merge_arg2 (a d : Int) (p : ByteArray) (a' d' : Int) (p' : ByteArray) (w : World) (h : properE a d = true) (h' : properE a' d' = false) :
    Calls Tryd.prog 51 #[.agg #[.int .i64 a, .int .i64 d, .string p], .agg #[.int .i64 a', .int .i64 d', .string p']] w fun e w' => e = .returned (.tuple #[.agg #[.int .i64 0, .int .i64 0, .string ⟨#[]⟩], .int .i64 1]) ∧ Below w.heap.size w w' := by
  have hu47 := Tryd.underlying47
  have hu22 := Tryd.underlying22
  have HP := Aside0.mk h
  have HP' := Aside0.mk h'
  clear h h'
  go_enter_defers Tryd.func51, Tryd.ntmps51
  go_wp2_with (fail)
  go_at_call 78
  refine (proper_calls _ _ _ _).mono ?_
  rintro e w1 ⟨rfl, hb⟩
  rw [HP.out]
  have hM := (MC.start a d p a' d' p' w).keep hb
  have hB := Aside0.mk ((wM_below a d p a' d' p' w).trans (hb.mono (by simp [wM]; omega)))
  obtain ⟨x0, x1, x2, y0, y1, y2, o0, o1, o2, e0, f0, f1, f2, f3, lt⟩ := id hM
  clear hb
  go_wp2_with (fail)
  go_at_call 78
  refine (proper_calls _ _ _ _).mono ?_
  rintro e w2 ⟨rfl, hb⟩
  rw [HP'.out]
  clear x0 x1 x2 y0 y1 y2 o0 o1 o2 e0 f0 f1 f2 f3
  replace hM := hM.keep hb
  replace hB := Aside0.mk (hB.out.trans (hb.mono (by omega)))
  clear lt
  obtain ⟨x0, x1, x2, y0, y1, y2, o0, o1, o2, e0, f0, f1, f2, f3, lt⟩ := hM
  clear hb
  go_wp2_with (first | (go_at_call 68; (with_reducible refine (need_false _ _).mono ?_); rintro e w' ⟨rfl, rfl⟩))
  exact edit_door results51 (B := w.heap.size) (g := w.heap.size + 1 + 1) (by omega) rfl rfl rfl o0 o1 o2 e0 f0 f1 f2 f3 hB.out (by omega)
set_option maxRecDepth 100000 in
set_option maxHeartbeats 4000000 in
theorem merge_none1 (a d : Int) (p : ByteArray) (a' d' : Int) (p' : ByteArray) (w : World) (h : properE a d = true) (h' : properE a' d' = true) (hp : p.size ≤ 1000000000000) (hp' : p'.size ≤ 1000000000000) (hn : ¬ a' ≤ a + p.size) :
    Calls Tryd.prog 51 #[.agg #[.int .i64 a, .int .i64 d, .string p], .agg #[.int .i64 a', .int .i64 d', .string p']] w fun e w' => e = .returned (.tuple #[.agg #[.int .i64 0, .int .i64 0, .string ⟨#[]⟩], .int .i64 5]) ∧ Below w.heap.size w w' := by
  have hu47 := Tryd.underlying47
  have hu22 := Tryd.underlying22
  have HP := Aside0.mk h
  have HP' := Aside0.mk h'
  have h0 : 0 ≤ a ∧ a ≤ 1048576 ∧ 0 ≤ d ∧ d ≤ 1048576 := by simp [properE] at h; omega
  obtain ⟨ha0, ha1, hd0, hd1⟩ := h0
  have h0 : 0 ≤ a' ∧ a' ≤ 1048576 ∧ 0 ≤ d' ∧ d' ≤ 1048576 := by simp [properE] at h'; omega
  obtain ⟨hb0, hb1, hc0, hc1⟩ := h0
  clear h h'
  have w64a : IntKind.i64.wrap (a + (p.size : Int)) = a + p.size := IntWalk.i64_in _ (by omega)
  have w64b : IntKind.i64.wrap (a' + d') = a' + d' := IntWalk.i64_in _ (by omega)
  have hn1 : decide (a' ≤ a + (p.size : Int)) = false := decide_eq_false hn
  clear hn
  go_enter_defers Tryd.func51, Tryd.ntmps51
  go_wp2_with (fail)
  go_at_call 78
  refine (proper_calls _ _ _ _).mono ?_
  rintro e w1 ⟨rfl, hb⟩
  rw [HP.out]
  have hM := (MC.start a d p a' d' p' w).keep hb
  have hB := Aside0.mk ((wM_below a d p a' d' p' w).trans (hb.mono (by simp [wM]; omega)))
  obtain ⟨x0, x1, x2, y0, y1, y2, o0, o1, o2, e0, f0, f1, f2, f3, lt⟩ := id hM
  clear hb
  go_wp2_with (fail)
  go_at_call 78
  refine (proper_calls _ _ _ _).mono ?_
  rintro e w2 ⟨rfl, hb⟩
  rw [HP'.out]
  clear x0 x1 x2 y0 y1 y2 o0 o1 o2 e0 f0 f1 f2 f3
  replace hM := hM.keep hb
  replace hB := Aside0.mk (hB.out.trans (hb.mono (by omega)))
  clear lt
  obtain ⟨x0, x1, x2, y0, y1, y2, o0, o1, o2, e0, f0, f1, f2, f3, lt⟩ := id hM
  clear hb
  go_wp2_with (first | (go_at_call 68; (with_reducible refine (need_true _ _).mono ?_); rintro e w' ⟨rfl, rfl⟩))
  go_quiet (fail)
  clear w64a w64b
  go_wp2_with (first | (go_at_call 68; (with_reducible refine (need_false _ _).mono ?_); rintro e w' ⟨rfl, rfl⟩))
  have hM2 := hM.keep (pw_below_drewN (Below.refl _ _) nq)
  exact edit_door results51 (B := w.heap.size) (g := w.heap.size + 1 + 1) (by omega) rfl rfl rfl hM2.o0 hM2.o1 hM2.o2 hM2.e0 hM2.f0 hM2.f1 hM2.f2 hM2.f3 (pw_below_drewN hB.out nq) (by have := hM2.lt; omega)
set_option maxRecDepth 100000 in
set_option maxHeartbeats 4000000 in
theorem merge_none2 (a d : Int) (p : ByteArray) (a' d' : Int) (p' : ByteArray) (w : World) (h : properE a d = true) (h' : properE a' d' = true) (hp : p.size ≤ 1000000000000) (hp' : p'.size ≤ 1000000000000) (hn : a' ≤ a + p.size) (hm : ¬ a ≤ a' + d') :
    Calls Tryd.prog 51 #[.agg #[.int .i64 a, .int .i64 d, .string p], .agg #[.int .i64 a', .int .i64 d', .string p']] w fun e w' => e = .returned (.tuple #[.agg #[.int .i64 0, .int .i64 0, .string ⟨#[]⟩], .int .i64 5]) ∧ Below w.heap.size w w' := by
  have hu47 := Tryd.underlying47
  have hu22 := Tryd.underlying22
  have HP := Aside0.mk h
  have HP' := Aside0.mk h'
  have h0 : 0 ≤ a ∧ a ≤ 1048576 ∧ 0 ≤ d ∧ d ≤ 1048576 := by simp [properE] at h; omega
  obtain ⟨ha0, ha1, hd0, hd1⟩ := h0
  have h0 : 0 ≤ a' ∧ a' ≤ 1048576 ∧ 0 ≤ d' ∧ d' ≤ 1048576 := by simp [properE] at h'; omega
  obtain ⟨hb0, hb1, hc0, hc1⟩ := h0
  clear h h'
  have w64a : IntKind.i64.wrap (a + (p.size : Int)) = a + p.size := IntWalk.i64_in _ (by omega)
  have w64b : IntKind.i64.wrap (a' + d') = a' + d' := IntWalk.i64_in _ (by omega)
  have hn1 : decide (a' ≤ a + (p.size : Int)) = true := decide_eq_true hn
  have hn2 : decide (a ≤ a' + d') = false := decide_eq_false hm
  clear hn hm
  go_enter_defers Tryd.func51, Tryd.ntmps51
  go_wp2_with (fail)
  go_at_call 78
  refine (proper_calls _ _ _ _).mono ?_
  rintro e w1 ⟨rfl, hb⟩
  rw [HP.out]
  have hM := (MC.start a d p a' d' p' w).keep hb
  have hB := Aside0.mk ((wM_below a d p a' d' p' w).trans (hb.mono (by simp [wM]; omega)))
  obtain ⟨x0, x1, x2, y0, y1, y2, o0, o1, o2, e0, f0, f1, f2, f3, lt⟩ := id hM
  clear hb
  go_wp2_with (fail)
  go_at_call 78
  refine (proper_calls _ _ _ _).mono ?_
  rintro e w2 ⟨rfl, hb⟩
  rw [HP'.out]
  clear x0 x1 x2 y0 y1 y2 o0 o1 o2 e0 f0 f1 f2 f3
  replace hM := hM.keep hb
  replace hB := Aside0.mk (hB.out.trans (hb.mono (by omega)))
  clear lt
  obtain ⟨x0, x1, x2, y0, y1, y2, o0, o1, o2, e0, f0, f1, f2, f3, lt⟩ := id hM
  clear hb
  go_wp2_with (first | (go_at_call 68; (with_reducible refine (need_true _ _).mono ?_); rintro e w' ⟨rfl, rfl⟩))
  go_quiet (fail)
  clear w64a w64b
  go_wp2_with (first | (go_at_call 68; (with_reducible refine (need_false _ _).mono ?_); rintro e w' ⟨rfl, rfl⟩))
  have hM2 := hM.keep (pw_below_drewN (Below.refl _ _) nq)
  exact edit_door results51 (B := w.heap.size) (g := w.heap.size + 1 + 1) (by omega) rfl rfl rfl hM2.o0 hM2.o1 hM2.o2 hM2.e0 hM2.f0 hM2.f1 hM2.f2 hM2.f3 (pw_below_drewN hB.out nq) (by have := hM2.lt; omega)
set_option maxRecDepth 100000 in
set_option maxHeartbeats 4000000 in
theorem merge_both (a d : Int) (p : ByteArray) (a' d' : Int) (p' : ByteArray) (w : World) (h : properE a d = true) (h' : properE a' d' = true) (hp : p.size ≤ 1000000000000) (hp' : p'.size ≤ 1000000000000) (hn : a' ≤ a + p.size) (hm : a ≤ a' + d')
    (A D : Int) (X : ByteArray) (R : Value) (hA : Aside0 (min a a' = A)) (hD : Aside0 ((d + max 0 (a - a') + max 0 (a' + d' - (a + (p.size : Int)))) = D)) (hX : Aside0 ((p.extract 0 (max 0 (a' - a)).toNat ++ p' ++ p.extract (min (p.size : Int) (a' + d' - a)).toNat p.size) = X)) (HR : Aside0 ((properE A D = true → R = .tuple #[.agg #[.int .i64 A, .int .i64 D, .string X], .int .i64 0]) ∧ (properE A D = false → R = .tuple #[.agg #[.int .i64 0, .int .i64 0, .string ⟨#[]⟩], .int .i64 1]))) :
    Calls Tryd.prog 51 #[.agg #[.int .i64 a, .int .i64 d, .string p], .agg #[.int .i64 a', .int .i64 d', .string p']] w fun e w' => e = .returned R ∧ Below w.heap.size w w' := by
  have hu47 := Tryd.underlying47
  have hu22 := Tryd.underlying22
  have HP := Aside0.mk h
  have HP' := Aside0.mk h'
  have h0 : 0 ≤ a ∧ a ≤ 1048576 ∧ 0 ≤ d ∧ d ≤ 1048576 := by simp [properE] at h; omega
  obtain ⟨ha0, ha1, hd0, hd1⟩ := h0
  have h0 : 0 ≤ a' ∧ a' ≤ 1048576 ∧ 0 ≤ d' ∧ d' ≤ 1048576 := by simp [properE] at h'; omega
  obtain ⟨hb0, hb1, hc0, hc1⟩ := h0
  clear h h'
  have w64a : IntKind.i64.wrap (a + (p.size : Int)) = a + p.size := IntWalk.i64_in _ (by omega)
  have w64b : IntKind.i64.wrap (a' + d') = a' + d' := IntWalk.i64_in _ (by omega)
  have hn1 : decide (a' ≤ a + (p.size : Int)) = true := decide_eq_true hn
  have hn2 : decide (a ≤ a' + d') = true := decide_eq_true hm
  go_enter_defers Tryd.func51, Tryd.ntmps51
  go_wp2_with (fail)
  go_at_call 78
  refine (proper_calls _ _ _ _).mono ?_
  rintro e w1 ⟨rfl, hb⟩
  rw [HP.out]
  have hM := (MC.start a d p a' d' p' w).keep hb
  have hB := Aside0.mk ((wM_below a d p a' d' p' w).trans (hb.mono (by simp [wM]; omega)))
  obtain ⟨x0, x1, x2, y0, y1, y2, o0, o1, o2, e0, f0, f1, f2, f3, lt⟩ := id hM
  clear hb
  go_wp2_with (fail)
  go_at_call 78
  refine (proper_calls _ _ _ _).mono ?_
  rintro e w2 ⟨rfl, hb⟩
  rw [HP'.out]
  clear x0 x1 x2 y0 y1 y2 o0 o1 o2 e0 f0 f1 f2 f3
  replace hM := hM.keep hb
  replace hB := Aside0.mk (hB.out.trans (hb.mono (by omega)))
  clear lt
  obtain ⟨x0, x1, x2, y0, y1, y2, o0, o1, o2, e0, f0, f1, f2, f3, lt⟩ := id hM
  clear hb
  go_wp2_with (first | (go_at_call 68; (with_reducible refine (need_true _ _).mono ?_); rintro e w' ⟨rfl, rfl⟩))
  go_quiet (fail)
  clear w64a w64b
  go_wp2_with (first | (go_at_call 68; (with_reducible refine (need_true _ _).mono ?_); rintro e w' ⟨rfl, rfl⟩))
  have ws1 : IntKind.i64.wrap (a - a') = a - a' := IntWalk.i64_in _ (by omega)
  have ws2 : IntKind.i64.wrap (a' + d' - (a + (p.size : Int))) = a' + d' - (a + p.size) := IntWalk.i64_in _ (by omega)
  have ws3 : IntKind.i64.wrap (a' - a) = a' - a := IntWalk.i64_in _ (by omega)
  have ws4 : IntKind.i64.wrap (a' + d' - a) = a' + d' - a := IntWalk.i64_in _ (by omega)
  have ws5 : IntKind.i64.wrap (d + max 0 (a - a')) = d + max 0 (a - a') := IntWalk.i64_in _ (by omega)
  have ws6 : IntKind.i64.wrap (d + max 0 (a - a') + max 0 (a' + d' - (a + (p.size : Int)))) = d + max 0 (a - a') + max 0 (a' + d' - (a + p.size)) := IntWalk.i64_in _ (by omega)
  have m1 : 0 ≤ max 0 (a' - a) := by omega
  have m2 : max 0 (a' - a) ≤ (p.size : Int) := by omega
  have m3 : 0 ≤ min (p.size : Int) (a' + d' - a) := by omega
  have m4 : min (p.size : Int) (a' + d' - a) ≤ (p.size : Int) := by omega
  have m5 : ¬ 9223372036854775807 < (max 0 (a' - a)).toNat + p'.size := by omega
  have m6 : ¬ 9223372036854775807 < (max 0 (a' - a)).toNat + p'.size + (p.size - (min (p.size : Int) (a' + d' - a)).toNat) := by omega
  refine wp_region_tail 44 (by kernel_rfl) (by kernel_rfl) ?_
  intro W hW
  replace hM : MC w.heap.size a d p a' d' p' W := by rw [hW]; exact hM.keep (below_drew (pw_below_drewN (Below.refl _ _) nq))
  replace hB : Aside0 (Below w.heap.size w W) := ⟨by rw [hW]; exact below_drew (pw_below_drewN hB.out nq)⟩
  clear hW x0 x1 x2 y0 y1 y2 o0 o1 o2 e0 f0 f1 f2 f3 lt
  obtain ⟨x0, x1, x2, y0, y1, y2, o0, o1, o2, e0, f0, f1, f2, f3, lt⟩ := hM
  simp only [List.take_succ_cons, List.take_zero, List.drop_succ_cons, List.drop_zero]
  repeat still_step
  refine wpStill_nil ?_
  clear ws1 ws2 ws3 ws4 ws5 ws6 m1 m2 m3 m4 m5 m6 hn1 hn2
  go_wp2_with (fail)
  obtain ⟨w3, hw3⟩ : ∃ V, V = (((W.setCell ⟨w.heap.size + 1 + 1, 0, none⟩ (.int .i64 (min a a'))).setCell ⟨w.heap.size + 1 + 1, 1, none⟩ (.int .i64 (d + max 0 (a - a') + max 0 (a' + d' - (a + (p.size : Int)))))).setCell ⟨w.heap.size + 1 + 1, 2, none⟩ (.string (p.extract 0 (max 0 (a' - a)).toNat ++ p' ++ p.extract (min (p.size : Int) (a' + d' - a)).toNat p.size))) := ⟨_, rfl⟩
  rw [← hw3]
  have u0 : w3.cell? ⟨w.heap.size + 1 + 1, 0, none⟩ = some (.int .i64 (min a a')) := by rw [hw3]; simp [go_sem, o0]
  have u1 : w3.cell? ⟨w.heap.size + 1 + 1, 1, none⟩ = some (.int .i64 (d + max 0 (a - a') + max 0 (a' + d' - (a + (p.size : Int))))) := by rw [hw3]; simp [go_sem, o1]
  have u2 : w3.cell? ⟨w.heap.size + 1 + 1, 2, none⟩ = some (.string (p.extract 0 (max 0 (a' - a)).toNat ++ p' ++ p.extract (min (p.size : Int) (a' + d' - a)).toNat p.size)) := by rw [hw3]; simp [go_sem, o2]
  have u3 : w3.cell? ⟨w.heap.size + 1 + 1 + 1, 0, none⟩ = some (.int .i64 0) := by rw [hw3]; simp [go_sem, e0]
  have g0 : w3.frozen? ⟨w.heap.size + 1 + 1, 0, none⟩ = false := by rw [hw3]; simp [go_sem, f0]
  have g1 : w3.frozen? ⟨w.heap.size + 1 + 1, 1, none⟩ = false := by rw [hw3]; simp [go_sem, f1]
  have g2 : w3.frozen? ⟨w.heap.size + 1 + 1, 2, none⟩ = false := by rw [hw3]; simp [go_sem, f2]
  have g3 : w3.frozen? ⟨w.heap.size + 1 + 1 + 1, 0, none⟩ = false := by rw [hw3]; simp [go_sem, f3]
  have t1 : w.heap.size + 1 + 1 + 1 < w3.heap.size := by rw [hw3]; simpa using lt
  have hB3 : Aside0 (Below w.heap.size w w3) := ⟨by rw [hw3]; exact ((hB.out.setCell (p := ⟨w.heap.size + 1 + 1, 0, none⟩) (by simp; omega) _).setCell (p := ⟨w.heap.size + 1 + 1, 1, none⟩) (by simp; omega) _).setCell (p := ⟨w.heap.size + 1 + 1, 2, none⟩) (by simp; omega) _⟩
  clear hw3 x0 x1 x2 y0 y1 y2 o0 o1 o2 e0 f0 f1 f2 f3 lt hB
  clear ha0 ha1 hd0 hd1 hb0 hb1 hc0 hc1 hn hm
  rw [hA.out] at u0
  rw [hD.out] at u1
  rw [hX.out] at u2
  rw [hA.out, hD.out, hX.out]
  go_at_call 78
  refine (proper_calls _ _ _ _).mono ?_
  rintro e w4 ⟨rfl, hb4⟩
  replace u0 := (bcell hb4 (by omega)).trans u0
  replace u1 := (bcell hb4 (by omega)).trans u1
  replace u2 := (bcell hb4 (by omega)).trans u2
  replace u3 := (bcell hb4 (by omega)).trans u3
  replace g0 := (bfrozen hb4 (by omega)).trans g0
  replace g1 := (bfrozen hb4 (by omega)).trans g1
  replace g2 := (bfrozen hb4 (by omega)).trans g2
  replace g3 := (bfrozen hb4 (by omega)).trans g3
  have hB4 : Aside0 (Below w.heap.size w w4) := ⟨hB3.out.trans (hb4.mono (by omega))⟩
  replace t1 : w.heap.size + 1 + 1 + 1 < w4.heap.size := by have := hb4.size; omega
  clear hb4 hB3
  cases hz : properE A D with
  | true =>
    have HZ := Aside0.mk hz
    clear hz
    go_wp2_with (first | (go_at_call 68; (with_reducible refine (need_true _ _).mono ?_); rintro e w' ⟨rfl, rfl⟩))
    refine leaves_cons (f := 77) (args := #[.pointer (some ⟨w.heap.size + 1 + 1, 0, none⟩), .pointer (some ⟨w.heap.size + 1 + 1 + 1, 0, none⟩)]) (by simp) (by simp [go_sem]) ?_
    refine (caughtE_idle _ _ _).mono ?_
    rintro e u' w'' ⟨rfl, rfl, rfl⟩
    have hBf := (((hB4.out.setCell (p := ⟨w.heap.size + 1 + 1, 0, none⟩) (by simp; omega) (.int .i64 A)).setCell (p := ⟨w.heap.size + 1 + 1, 1, none⟩) (by simp; omega) (.int .i64 D)).setCell (p := ⟨w.heap.size + 1 + 1, 2, none⟩) (by simp; omega) (.string X)).setCell (p := ⟨w.heap.size + 1 + 1 + 1, 0, none⟩) (by simp; omega) (.int .i64 0)
    show Leaves _ _ _ _ [] .returning _
    rw [HR.out.1 HZ.out]
    refine ⟨_, results51 _ _ (w.heap.size + 1 + 1) _ _ _ _ rfl rfl ?_ ?_ ?_ ?_, rfl, hBf⟩
    all_goals simp [go_sem, u0, u1, u2, u3]
  | false =>
    have HZ := Aside0.mk hz
    clear hz
    go_wp2_with (first | (go_at_call 68; (with_reducible refine (need_false _ _).mono ?_); rintro e w' ⟨rfl, rfl⟩))
    rw [HR.out.2 HZ.out]
    exact edit_door results51 (B := w.heap.size) (g := w.heap.size + 1 + 1) (by omega) rfl rfl rfl u0 u1 u2 u3 g0 g1 g2 g3 hB4.out (by omega)
theorem text_Merge.calls (a0_0 : Int) (a0_1 : Int) (a0_2 : ByteArray) (a1_0 : Int) (a1_1 : Int) (a1_2 : ByteArray) (r1 : Int) (r2 : Int) (r3 : ByteArray) (r4 : Int) (w : World) (h : text_Merge.f a0_0 a0_1 a0_2 a1_0 a1_1 a1_2 = some (r1, r2, r3, r4)) :
    Calls Tryd.prog 51 #[.agg #[.int .i64 a0_0, .int .i64 a0_1, .string a0_2], .agg #[.int .i64 a1_0, .int .i64 a1_1, .string a1_2]] w fun e w' => e = .returned (.tuple #[.agg #[.int .i64 r1, .int .i64 r2, .string r3], .int .i64 r4]) ∧ Below w.heap.size w w' := by
  unfold text_Merge.f at h
  split at h
  · rename_i hp
    cases h
    cases hx : properE a0_0 a0_1 with
    | false => exact merge_arg1 _ _ _ _ _ _ _ hx
    | true => exact merge_arg2 _ _ _ _ _ _ _ hx (by rcases hp with hp | hp; (rw [hx] at hp; cases hp); exact hp)
  · rename_i hp
    have h1 : properE a0_0 a0_1 = true := by cases hx : properE a0_0 a0_1 <;> simp_all
    have h2 : properE a1_0 a1_1 = true := by cases hx : properE a1_0 a1_1 <;> simp_all
    split at h
    · rename_i hsz
      split at h
      · rename_i hr
        have hm := fun R => merge_both a0_0 a0_1 a0_2 a1_0 a1_1 a1_2 w h1 h2 hsz.1 hsz.2 hr.1 hr.2 _ _ _ R ⟨rfl⟩ ⟨rfl⟩ ⟨rfl⟩
        have hb1 : 0 ≤ a0_0 ∧ a0_0 ≤ 1048576 ∧ 0 ≤ a0_1 ∧ a0_1 ≤ 1048576 := by simp [properE] at h1; omega
        have hb2 : 0 ≤ a1_0 ∧ a1_0 ≤ 1048576 ∧ 0 ≤ a1_1 ∧ a1_1 ≤ 1048576 := by simp [properE] at h2; omega
        split at h
        · rename_i hd
          cases h
          exact hm _ ⟨fun _ => rfl, fun hf => by simp [properE] at hf; omega⟩
        · rename_i hd
          cases h
          exact hm _ ⟨fun hf => by simp [properE] at hf; omega, fun _ => rfl⟩
      · rename_i hr
        cases h
        by_cases hn : a1_0 ≤ a0_0 + a0_2.size
        · exact merge_none2 _ _ _ _ _ _ _ h1 h2 hsz.1 hsz.2 hn (fun hx => hr ⟨hn, hx⟩)
        · exact merge_none1 _ _ _ _ _ _ _ h1 h2 hsz.1 hsz.2 hn
    · cases h
end Go.Proofs.YtdcemnmbfblmiaaDoor.Given
