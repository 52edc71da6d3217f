/- The contract of text.Invert: it returns what the plain function says, failures caught, and leaves all older memory as it was. -/
import Derived.Test.YtdcemnmbfblmiaaDoorGc
import Derived.Deep.RegionHeld3
set_option linter.unusedVariables false
set_option linter.unusedSimpArgs false
namespace Go.Proofs.YtdcemnmbfblmiaaDoor.Given
open Go.RowKit Go.Proofs.YtdcemnmbfblmiaaDoorW.PrintWords Go.Proofs.YtdcemnmbfblmiaaDoorW.PrintLast Go.Proofs.YtdcemnmbfblmiaaDoorW.PrintMore

/-- the cells of Invert's own blocks -/
def IC (g : Nat) (a d : Int) (p : ByteArray) (W : World) : Prop :=
  W.cell? ⟨g, 0, none⟩ = some (.int .i64 a) ∧ W.cell? ⟨g, 1, none⟩ = some (.int .i64 d) ∧ W.cell? ⟨g, 2, none⟩ = some (.string p)
/-- the cells of the results' blocks -/
def OC (g : Nat) (W : World) : Prop :=
  (∃ x, W.cell? ⟨g, 0, none⟩ = some x) ∧ (∃ x, W.cell? ⟨g, 1, none⟩ = some x) ∧ (∃ x, W.cell? ⟨g, 2, none⟩ = some x) ∧ (∃ x, W.cell? ⟨g + 1, 0, none⟩ = some x) ∧
  W.frozen? ⟨g, 0, none⟩ = false ∧ W.frozen? ⟨g, 1, none⟩ = false ∧ W.frozen? ⟨g, 2, none⟩ = false ∧ W.frozen? ⟨g + 1, 0, none⟩ = false

theorem wpOp_of {P : Program} {ops : Array Oper} {Q : Exit → Act → World → Prop} {i : Nat} {o : Oper} {K : Act → World → Prop} {a : Act} {w : World} (hi : ops[i]? = some o) (hw : Region.wanted o (yielded ops a.tmps) = true)
    (h : o.wp P a w K Q) : wpOp P ops Q i K a w := by
  unfold wpOp
  simp only [hi, hw, if_true]
  exact .inl h
set_option linter.unusedSimpArgs false
set_option maxRecDepth 100000 in
set_option maxHeartbeats 1000000 in
theorem invert_door (s : ByteArray) (a d : Int) (p : ByteArray) (w : World) (c : Int)
    (hd : ∀ W, Calls Tryd.prog 75 #[.string s, .agg #[.int .i64 a, .int .i64 d, .string p]] W fun e w' => e = .panicked [{ v := failV c, recovered := false }] ∧ Below W.heap.size W w') :
    Calls Tryd.prog 47 #[.string s, .agg #[.int .i64 a, .int .i64 d, .string p]] w fun e w' => e = .returned (.tuple #[.agg #[.int .i64 0, .int .i64 0, .string ⟨#[]⟩], .int .i64 c]) ∧ Below w.heap.size w w' := by
  have hu47 := Tryd.underlying47
  have hu22 := Tryd.underlying22
  have HD := Aside0.mk hd
  clear hd
  go_enter_defers Tryd.func47, Tryd.ntmps47
  go_wp2_with (fail)
  refine wp_mono (Q := QP [{ target := .fn (.func 77) #[], args := #[.pointer (some ⟨w.heap.size + 1, 0, none⟩), .pointer (some ⟨w.heap.size + 1 + 1, 0, none⟩)] }] (.pointer (some ⟨w.heap.size + 1, 0, none⟩)) (.pointer (some ⟨w.heap.size + 1 + 1, 0, none⟩))
    (fun ch w1 => ch = [{ v := failV c, recovered := false }] ∧ Below (w.heap.size + 3) (wI a d p w) w1)) ?_ ?_
  · refine wp_region_held (S := IC w.heap.size a d p) (by kernel_rfl) ?_
    have hS : IC w.heap.size a d p (wI a d p w).drew := by
      refine ⟨?_, ?_, ?_⟩ <;> simp [wI, go_sem]
    have hB0 : Below (w.heap.size + 3) (wI a d p w) (wI a d p w).drew := below_drew (Below.refl _ _)
    change wpAnyH _ _ _ _ _ _ _ _ (wI a d p w).drew
    generalize (wI a d p w).drew = W at hS hB0 ⊢
    refine wpAnyH_take (i := 0) (v := .pointer (some ⟨w.heap.size, 0, none⟩)) rfl (by kernel_rfl) (by kernel_rfl) (by kernel_rfl) (QP_put (by decide) (by decide)) (.inl ⟨by rfl, fun w' hw' => by go_simp⟩) hS ?_
    refine wpAnyH_take (i := 1) (v := .int .i64 a) rfl (by kernel_rfl) (by kernel_rfl) (by kernel_rfl) (QP_put (by decide) (by decide)) (.inl ⟨by rfl, fun w' ⟨h0, h1, h2⟩ => by go_simp⟩) hS ?_
    refine wpAnyH_take (i := 2) (v := .pointer (some ⟨w.heap.size, 2, none⟩)) rfl (by kernel_rfl) (by kernel_rfl) (by kernel_rfl) (QP_put (by decide) (by decide)) (.inl ⟨by rfl, fun w' ⟨h0, h1, h2⟩ => by go_simp⟩) hS ?_
    refine wpAnyH_take (i := 3) (v := .string p) rfl (by kernel_rfl) (by kernel_rfl) (by kernel_rfl) (QP_put (by decide) (by decide)) (.inl ⟨by rfl, fun w' ⟨h0, h1, h2⟩ => by go_simp⟩) hS ?_
    refine wpAnyH_take (i := 4) (v := .int .i64 p.size) rfl (by kernel_rfl) (by kernel_rfl) (by kernel_rfl) (QP_put (by decide) (by decide)) (.inl ⟨by rfl, fun w' ⟨h0, h1, h2⟩ => by go_simp⟩) hS ?_
    refine wpAnyH_take (i := 5) (v := .string s) rfl (by kernel_rfl) (by kernel_rfl) (by kernel_rfl) (QP_put (by decide) (by decide)) (.inl ⟨by rfl, fun w' ⟨h0, h1, h2⟩ => by go_simp⟩) hS ?_
    refine wpAnyH_take (i := 6) (v := .agg #[.int .i64 a, .int .i64 d, .string p]) rfl (by kernel_rfl) (by kernel_rfl) (by kernel_rfl) (QP_put (by decide) (by decide)) (.inl ⟨by rfl, fun w' ⟨h0, h1, h2⟩ => by go_simp⟩) hS ?_
    refine wpAnyH_all (rs := [7]) (by kernel_rfl) (by simp) ?_
    intro i hi
    obtain rfl : i = 7 := by simpa using hi
    refine wpOp_of rfl (by rfl) ?_
    go_simp
    refine (HD.out _).mono ?_
    rintro e w' ⟨rfl, hb⟩
    exact ⟨⟨rfl, hB0.trans (hb.mono (by have := hB0.size; simp [wI] at this; omega))⟩, rfl, rfl, rfl⟩
  · intro e a' w1 hq
    cases e with
    | panic ch =>
      obtain ⟨⟨rfl, hb⟩, hdf, h4, h5⟩ := hq
      have hc : ∀ {b o : Nat} {v : Value}, b < w.heap.size + 3 → (wI a d p w).cell? ⟨b, o, none⟩ = some v → w1.cell? ⟨b, o, none⟩ = some v := fun hlt h => (bcell hb hlt).trans h
      have hf : ∀ {b o : Nat}, b < w.heap.size + 3 → (wI a d p w).frozen? ⟨b, o, none⟩ = false → w1.frozen? ⟨b, o, none⟩ = false := fun hlt h => (bfrozen hb hlt).trans h
      refine edit_door results47 (B := w.heap.size) (g := w.heap.size + 1) (by omega) h4 h5 hdf (hc (by omega) (by simp [wI, go_sem]; rfl)) (hc (by omega) (by simp [wI, go_sem]; rfl)) (hc (by omega) (by simp [wI, go_sem]; rfl)) (hc (by omega) (by simp [wI, go_sem]; rfl))
        (hf (by omega) (by simp [wI, go_sem])) (hf (by omega) (by simp [wI, go_sem])) (hf (by omega) (by simp [wI, go_sem])) (hf (by omega) (by simp [wI, go_sem])) ((wI_below a d p w).trans (hb.mono (by omega))) (by have := hb.size; simp [wI] at this; omega)
    | normal => exact hq.elim
    | exit id => exact hq.elim
    | goto l => exact hq.elim
    | ret => exact hq.elim
    | outgrown => exact hq.elim

set_option linter.unusedSimpArgs false
set_option maxRecDepth 100000 in
set_option maxHeartbeats 1000000 in
theorem invert_ok (s : ByteArray) (a d : Int) (p : ByteArray) (w : World) (h : properE a d = true) (hr : a + d ≤ (s.size : Int)) (hp : p.size ≤ 1048576) :
    Calls Tryd.prog 47 #[.string s, .agg #[.int .i64 a, .int .i64 d, .string p]] w fun e w' => e = .returned (.tuple #[.agg #[.int .i64 a, .int .i64 p.size, .string (s.extract a.toNat (a + d).toNat)], .int .i64 0]) ∧ Below w.heap.size w w' := by
  have hu47 := Tryd.underlying47
  have hu22 := Tryd.underlying22
  have hpr : properE a p.size = true := by simp [properE] at h ⊢; omega
  have HP := Aside0.mk hpr
  have HD := Aside0.mk (fun W => dropped_ok s a d p W h hr)
  clear h hr hp hpr
  generalize s.extract a.toNat (a + d).toNat = x at HD ⊢
  go_enter_defers Tryd.func47, Tryd.ntmps47
  go_wp2_with (fail)
  refine wp_region_noPanic ?_
  refine wp_region_held (S := IC w.heap.size a d p) (by kernel_rfl) ?_
  have hS : IC w.heap.size a d p (wI a d p w).drew := by
    refine ⟨?_, ?_, ?_⟩ <;> simp [wI, go_sem]
  have hB0 : Below (w.heap.size + 3) (wI a d p w) (wI a d p w).drew := below_drew (Below.refl _ _)
  change wpAnyH _ _ _ _ _ _ _ _ (wI a d p w).drew
  generalize (wI a d p w).drew = W at hS hB0 ⊢
  refine wpAnyH_take (i := 0) (v := .pointer (some ⟨w.heap.size, 0, none⟩)) rfl (by kernel_rfl) (by kernel_rfl) (by kernel_rfl) (fun _ _ _ h => h) (.inl ⟨by rfl, fun w' ⟨h0, h1, h2⟩ => by go_simp⟩) hS ?_
  refine wpAnyH_take (i := 1) (v := .int .i64 a) rfl (by kernel_rfl) (by kernel_rfl) (by kernel_rfl) (fun _ _ _ h => h) (.inl ⟨by rfl, fun w' ⟨h0, h1, h2⟩ => by go_simp⟩) hS ?_
  refine wpAnyH_take (i := 2) (v := .pointer (some ⟨w.heap.size, 2, none⟩)) rfl (by kernel_rfl) (by kernel_rfl) (by kernel_rfl) (fun _ _ _ h => h) (.inl ⟨by rfl, fun w' ⟨h0, h1, h2⟩ => by go_simp⟩) hS ?_
  refine wpAnyH_take (i := 3) (v := .string p) rfl (by kernel_rfl) (by kernel_rfl) (by kernel_rfl) (fun _ _ _ h => h) (.inl ⟨by rfl, fun w' ⟨h0, h1, h2⟩ => by go_simp⟩) hS ?_
  refine wpAnyH_take (i := 4) (v := .int .i64 p.size) rfl (by kernel_rfl) (by kernel_rfl) (by kernel_rfl) (fun _ _ _ h => h) (.inl ⟨by rfl, fun w' ⟨h0, h1, h2⟩ => by go_simp⟩) hS ?_
  refine wpAnyH_take (i := 5) (v := .string s) rfl (by kernel_rfl) (by kernel_rfl) (by kernel_rfl) (fun _ _ _ h => h) (.inl ⟨by rfl, fun w' ⟨h0, h1, h2⟩ => by go_simp⟩) hS ?_
  refine wpAnyH_take (i := 6) (v := .agg #[.int .i64 a, .int .i64 d, .string p]) rfl (by kernel_rfl) (by kernel_rfl) (by kernel_rfl) (fun _ _ _ h => h) (.inl ⟨by rfl, fun w' ⟨h0, h1, h2⟩ => by go_simp⟩) hS ?_
  refine wpAnyH_all (rs := [7]) (by kernel_rfl) (by simp) ?_
  intro i hi
  obtain rfl : i = 7 := by simpa using hi
  refine wpOp_of rfl (by rfl) ?_
  go_simp
  refine (HD.out _).mono ?_
  rintro e w1 ⟨rfl, hb⟩
  have hb1 : Below (w.heap.size + 3) (wI a d p w) w1 := hB0.trans (hb.mono (by have := hB0.size; simp [wI] at this; omega))
  have hc : ∀ {b o : Nat} {v : Value}, b < w.heap.size + 3 → (wI a d p w).cell? ⟨b, o, none⟩ = some v → w1.cell? ⟨b, o, none⟩ = some v := fun hlt h => (bcell hb1 hlt).trans h
  have hf : ∀ {b o : Nat}, b < w.heap.size + 3 → (wI a d p w).frozen? ⟨b, o, none⟩ = false → w1.frozen? ⟨b, o, none⟩ = false := fun hlt h => (bfrozen hb1 hlt).trans h
  have hS1 : IC w.heap.size a d p w1 := by
    refine ⟨hc (by omega) ?_, hc (by omega) ?_, hc (by omega) ?_⟩ <;> simp [wI, go_sem]
  have hsz : w.heap.size + 3 ≤ w1.heap.size := by have := hb1.size; simp [wI] at this; omega
  have o0 : w1.cell? ⟨w.heap.size + 1, 0, none⟩ = some (.int .i64 0) := hc (by omega) (by simp [wI, go_sem])
  have o1 : w1.cell? ⟨w.heap.size + 1, 1, none⟩ = some (.int .i64 0) := hc (by omega) (by simp [wI, go_sem])
  have o2 : w1.cell? ⟨w.heap.size + 1, 2, none⟩ = some (.string ⟨#[]⟩) := hc (by omega) (by simp [wI, go_sem])
  have o3 : w1.cell? ⟨w.heap.size + 1 + 1, 0, none⟩ = some (.int .i64 0) := hc (by omega) (by simp [wI, go_sem])
  have p0 : w1.frozen? ⟨w.heap.size + 1, 0, none⟩ = false := hf (by omega) (by simp [wI, go_sem])
  have p1 : w1.frozen? ⟨w.heap.size + 1, 1, none⟩ = false := hf (by omega) (by simp [wI, go_sem])
  have p2 : w1.frozen? ⟨w.heap.size + 1, 2, none⟩ = false := hf (by omega) (by simp [wI, go_sem])
  have p3 : w1.frozen? ⟨w.heap.size + 1 + 1, 0, none⟩ = false := hf (by omega) (by simp [wI, go_sem])
  have hB := Aside0.mk ((wI_below a d p w).trans (hb1.mono (by omega)))
  have s1 : w.heap.size + 1 < w1.heap.size := by omega
  have s2 : w.heap.size + 1 + 1 < w1.heap.size := by omega
  have n1 : ¬ w.heap.size = w.heap.size + 1 := by omega
  clear hc hf hb hb1 hB0 hS hsz HD
  refine ⟨hS1, ?_⟩
  refine wpAnyH_take (i := 8) (v := .agg #[.int .i64 a, .int .i64 p.size, .string x]) rfl (by kernel_rfl) (by kernel_rfl) (by kernel_rfl) (fun _ _ _ h => h) (.inl ⟨by rfl, fun w' ⟨h0, h1, h2⟩ => by go_simp⟩) hS1 ?_
  refine wpAnyH_all (rs := [9]) (by kernel_rfl) (by simp) ?_
  intro i hi
  obtain rfl : i = 9 := by simpa using hi
  refine wpOp_of rfl (by rfl) ?_
  obtain ⟨q0, q1, q2⟩ := hS1
  go_simp
  refine ⟨⟨by simp [go_sem, q0], by simp [go_sem, q1], by simp [go_sem, q2]⟩, ?_⟩
  refine wpAnyH_done (by kernel_rfl) (NoPanic.normal ?_) _
  obtain ⟨w2, hw2⟩ : ∃ W, W = (((w1.setCell ⟨w.heap.size + 1, 0, none⟩ (.int .i64 a)).setCell ⟨w.heap.size + 1, 1, none⟩ (.int .i64 p.size)).setCell ⟨w.heap.size + 1, 2, none⟩ (.string x)) := ⟨_, rfl⟩
  rw [← hw2]
  have u0 : w2.cell? ⟨w.heap.size + 1, 0, none⟩ = some (.int .i64 a) := by rw [hw2]; simp [go_sem, o0]
  have u1 : w2.cell? ⟨w.heap.size + 1, 1, none⟩ = some (.int .i64 p.size) := by rw [hw2]; simp [go_sem, o1]
  have u2 : w2.cell? ⟨w.heap.size + 1, 2, none⟩ = some (.string x) := by rw [hw2]; simp [go_sem, o2]
  have u3 : w2.cell? ⟨w.heap.size + 1 + 1, 0, none⟩ = some (.int .i64 0) := by rw [hw2]; simp [go_sem, o3]
  have g0 : w2.frozen? ⟨w.heap.size + 1, 0, none⟩ = false := by rw [hw2]; simp [go_sem, p0]
  have g1 : w2.frozen? ⟨w.heap.size + 1, 1, none⟩ = false := by rw [hw2]; simp [go_sem, p1]
  have g2 : w2.frozen? ⟨w.heap.size + 1, 2, none⟩ = false := by rw [hw2]; simp [go_sem, p2]
  have g3 : w2.frozen? ⟨w.heap.size + 1 + 1, 0, none⟩ = false := by rw [hw2]; simp [go_sem, p3]
  have t1 : w.heap.size + 1 < w2.heap.size := by rw [hw2]; simpa using s1
  have t2 : w.heap.size + 1 + 1 < w2.heap.size := by rw [hw2]; simpa using s2
  have hB2 : Aside0 (Below w.heap.size w w2) := ⟨by rw [hw2]; exact ((hB.out.setCell (p := ⟨w.heap.size + 1, 0, none⟩) (by simp) _).setCell (p := ⟨w.heap.size + 1, 1, none⟩) (by simp) _).setCell (p := ⟨w.heap.size + 1, 2, none⟩) (by simp) _⟩
  clear hw2 o0 o1 o2 o3 p0 p1 p2 p3 q0 q1 q2 hB s1 s2
  go_wp2_with (fail)
  go_at_call 78
  refine (proper_calls _ _ _ _).mono ?_
  rintro e w3 ⟨rfl, hb3⟩
  rw [HP.out]
  replace u0 := (bcell hb3 t1).trans u0
  replace u1 := (bcell hb3 t1).trans u1
  replace u2 := (bcell hb3 t1).trans u2
  replace u3 := (bcell hb3 t2).trans u3
  replace g0 := (bfrozen hb3 t1).trans g0
  replace g1 := (bfrozen hb3 t1).trans g1
  replace g2 := (bfrozen hb3 t1).trans g2
  replace g3 := (bfrozen hb3 t2).trans g3
  have hB3 : Aside0 (Below w.heap.size w w3) := ⟨hB2.out.trans (hb3.mono (by omega))⟩
  replace t1 : w.heap.size + 1 < w3.heap.size := by have := hb3.size; omega
  replace t2 : w.heap.size + 1 + 1 < w3.heap.size := by have := hb3.size; omega
  clear hb3 hB2
  go_wp2_with (first | (go_at_call 68; (with_reducible refine (need_true _ _).mono ?_); rintro e w' ⟨rfl, rfl⟩))
  refine leaves_cons (f := 77) (args := #[.pointer (some ⟨w.heap.size + 1, 0, none⟩), .pointer (some ⟨w.heap.size + 1 + 1, 0, none⟩)]) (by simp) (by simp [go_sem]) ?_
  refine (caughtE_idle _ _ _).mono ?_
  rintro e u' w'' ⟨rfl, rfl, rfl⟩
  have hBf := (((hB3.out.setCell (p := ⟨w.heap.size + 1, 0, none⟩) (by simp) (.int .i64 a)).setCell (p := ⟨w.heap.size + 1, 1, none⟩) (by simp) (.int .i64 p.size)).setCell (p := ⟨w.heap.size + 1, 2, none⟩) (by simp) (.string x)).setCell (p := ⟨w.heap.size + 1 + 1, 0, none⟩) (by simp; omega) (.int .i64 0)
  show Leaves _ _ _ _ [] .returning _
  refine ⟨_, results47 _ _ (w.heap.size + 1) _ _ _ _ rfl rfl ?_ ?_ ?_ ?_, rfl, hBf⟩
  all_goals simp [go_sem, u0, u1, u2, u3]
set_option linter.unusedSimpArgs false
set_option maxRecDepth 100000 in
set_option maxHeartbeats 1000000 in
theorem invert_big (s : ByteArray) (a d : Int) (p : ByteArray) (w : World) (h : properE a d = true) (hr : a + d ≤ (s.size : Int)) (hp : 1048576 < p.size) :
    Calls Tryd.prog 47 #[.string s, .agg #[.int .i64 a, .int .i64 d, .string p]] w fun e w' => e = .returned (.tuple #[.agg #[.int .i64 0, .int .i64 0, .string ⟨#[]⟩], .int .i64 1]) ∧ Below w.heap.size w w' := by
  have hu47 := Tryd.underlying47
  have hu22 := Tryd.underlying22
  have hpr : properE a p.size = false := by simp [properE] at h ⊢; omega
  have HP := Aside0.mk hpr
  have HD := Aside0.mk (fun W => dropped_ok s a d p W h hr)
  clear h hr hp hpr
  generalize s.extract a.toNat (a + d).toNat = x at HD
  go_enter_defers Tryd.func47, Tryd.ntmps47
  go_wp2_with (fail)
  refine wp_region_noPanic ?_
  refine wp_region_held (S := IC w.heap.size a d p) (by kernel_rfl) ?_
  have hS : IC w.heap.size a d p (wI a d p w).drew := by
    refine ⟨?_, ?_, ?_⟩ <;> simp [wI, go_sem]
  have hB0 : Below (w.heap.size + 3) (wI a d p w) (wI a d p w).drew := below_drew (Below.refl _ _)
  change wpAnyH _ _ _ _ _ _ _ _ (wI a d p w).drew
  generalize (wI a d p w).drew = W at hS hB0 ⊢
  refine wpAnyH_take (i := 0) (v := .pointer (some ⟨w.heap.size, 0, none⟩)) rfl (by kernel_rfl) (by kernel_rfl) (by kernel_rfl) (fun _ _ _ h => h) (.inl ⟨by rfl, fun w' ⟨h0, h1, h2⟩ => by go_simp⟩) hS ?_
  refine wpAnyH_take (i := 1) (v := .int .i64 a) rfl (by kernel_rfl) (by kernel_rfl) (by kernel_rfl) (fun _ _ _ h => h) (.inl ⟨by rfl, fun w' ⟨h0, h1, h2⟩ => by go_simp⟩) hS ?_
  refine wpAnyH_take (i := 2) (v := .pointer (some ⟨w.heap.size, 2, none⟩)) rfl (by kernel_rfl) (by kernel_rfl) (by kernel_rfl) (fun _ _ _ h => h) (.inl ⟨by rfl, fun w' ⟨h0, h1, h2⟩ => by go_simp⟩) hS ?_
  refine wpAnyH_take (i := 3) (v := .string p) rfl (by kernel_rfl) (by kernel_rfl) (by kernel_rfl) (fun _ _ _ h => h) (.inl ⟨by rfl, fun w' ⟨h0, h1, h2⟩ => by go_simp⟩) hS ?_
  refine wpAnyH_take (i := 4) (v := .int .i64 p.size) rfl (by kernel_rfl) (by kernel_rfl) (by kernel_rfl) (fun _ _ _ h => h) (.inl ⟨by rfl, fun w' ⟨h0, h1, h2⟩ => by go_simp⟩) hS ?_
  refine wpAnyH_take (i := 5) (v := .string s) rfl (by kernel_rfl) (by kernel_rfl) (by kernel_rfl) (fun _ _ _ h => h) (.inl ⟨by rfl, fun w' ⟨h0, h1, h2⟩ => by go_simp⟩) hS ?_
  refine wpAnyH_take (i := 6) (v := .agg #[.int .i64 a, .int .i64 d, .string p]) rfl (by kernel_rfl) (by kernel_rfl) (by kernel_rfl) (fun _ _ _ h => h) (.inl ⟨by rfl, fun w' ⟨h0, h1, h2⟩ => by go_simp⟩) hS ?_
  refine wpAnyH_all (rs := [7]) (by kernel_rfl) (by simp) ?_
  intro i hi
  obtain rfl : i = 7 := by simpa using hi
  refine wpOp_of rfl (by rfl) ?_
  go_simp
  refine (HD.out _).mono ?_
  rintro e w1 ⟨rfl, hb⟩
  have hb1 : Below (w.heap.size + 3) (wI a d p w) w1 := hB0.trans (hb.mono (by have := hB0.size; simp [wI] at this; omega))
  have hc : ∀ {b o : Nat} {v : Value}, b < w.heap.size + 3 → (wI a d p w).cell? ⟨b, o, none⟩ = some v → w1.cell? ⟨b, o, none⟩ = some v := fun hlt h => (bcell hb1 hlt).trans h
  have hf : ∀ {b o : Nat}, b < w.heap.size + 3 → (wI a d p w).frozen? ⟨b, o, none⟩ = false → w1.frozen? ⟨b, o, none⟩ = false := fun hlt h => (bfrozen hb1 hlt).trans h
  have hS1 : IC w.heap.size a d p w1 := by
    refine ⟨hc (by omega) ?_, hc (by omega) ?_, hc (by omega) ?_⟩ <;> simp [wI, go_sem]
  have hsz : w.heap.size + 3 ≤ w1.heap.size := by have := hb1.size; simp [wI] at this; omega
  have o0 : w1.cell? ⟨w.heap.size + 1, 0, none⟩ = some (.int .i64 0) := hc (by omega) (by simp [wI, go_sem])
  have o1 : w1.cell? ⟨w.heap.size + 1, 1, none⟩ = some (.int .i64 0) := hc (by omega) (by simp [wI, go_sem])
  have o2 : w1.cell? ⟨w.heap.size + 1, 2, none⟩ = some (.string ⟨#[]⟩) := hc (by omega) (by simp [wI, go_sem])
  have o3 : w1.cell? ⟨w.heap.size + 1 + 1, 0, none⟩ = some (.int .i64 0) := hc (by omega) (by simp [wI, go_sem])
  have p0 : w1.frozen? ⟨w.heap.size + 1, 0, none⟩ = false := hf (by omega) (by simp [wI, go_sem])
  have p1 : w1.frozen? ⟨w.heap.size + 1, 1, none⟩ = false := hf (by omega) (by simp [wI, go_sem])
  have p2 : w1.frozen? ⟨w.heap.size + 1, 2, none⟩ = false := hf (by omega) (by simp [wI, go_sem])
  have p3 : w1.frozen? ⟨w.heap.size + 1 + 1, 0, none⟩ = false := hf (by omega) (by simp [wI, go_sem])
  have hB := Aside0.mk ((wI_below a d p w).trans (hb1.mono (by omega)))
  have s1 : w.heap.size + 1 < w1.heap.size := by omega
  have s2 : w.heap.size + 1 + 1 < w1.heap.size := by omega
  have n1 : ¬ w.heap.size = w.heap.size + 1 := by omega
  clear hc hf hb hb1 hB0 hS hsz HD
  refine ⟨hS1, ?_⟩
  refine wpAnyH_take (i := 8) (v := .agg #[.int .i64 a, .int .i64 p.size, .string x]) rfl (by kernel_rfl) (by kernel_rfl) (by kernel_rfl) (fun _ _ _ h => h) (.inl ⟨by rfl, fun w' ⟨h0, h1, h2⟩ => by go_simp⟩) hS1 ?_
  refine wpAnyH_all (rs := [9]) (by kernel_rfl) (by simp) ?_
  intro i hi
  obtain rfl : i = 9 := by simpa using hi
  refine wpOp_of rfl (by rfl) ?_
  obtain ⟨q0, q1, q2⟩ := hS1
  go_simp
  refine ⟨⟨by simp [go_sem, q0], by simp [go_sem, q1], by simp [go_sem, q2]⟩, ?_⟩
  refine wpAnyH_done (by kernel_rfl) (NoPanic.normal ?_) _
  obtain ⟨w2, hw2⟩ : ∃ W, W = (((w1.setCell ⟨w.heap.size + 1, 0, none⟩ (.int .i64 a)).setCell ⟨w.heap.size + 1, 1, none⟩ (.int .i64 p.size)).setCell ⟨w.heap.size + 1, 2, none⟩ (.string x)) := ⟨_, rfl⟩
  rw [← hw2]
  have u0 : w2.cell? ⟨w.heap.size + 1, 0, none⟩ = some (.int .i64 a) := by rw [hw2]; simp [go_sem, o0]
  have u1 : w2.cell? ⟨w.heap.size + 1, 1, none⟩ = some (.int .i64 p.size) := by rw [hw2]; simp [go_sem, o1]
  have u2 : w2.cell? ⟨w.heap.size + 1, 2, none⟩ = some (.string x) := by rw [hw2]; simp [go_sem, o2]
  have u3 : w2.cell? ⟨w.heap.size + 1 + 1, 0, none⟩ = some (.int .i64 0) := by rw [hw2]; simp [go_sem, o3]
  have g0 : w2.frozen? ⟨w.heap.size + 1, 0, none⟩ = false := by rw [hw2]; simp [go_sem, p0]
  have g1 : w2.frozen? ⟨w.heap.size + 1, 1, none⟩ = false := by rw [hw2]; simp [go_sem, p1]
  have g2 : w2.frozen? ⟨w.heap.size + 1, 2, none⟩ = false := by rw [hw2]; simp [go_sem, p2]
  have g3 : w2.frozen? ⟨w.heap.size + 1 + 1, 0, none⟩ = false := by rw [hw2]; simp [go_sem, p3]
  have t1 : w.heap.size + 1 < w2.heap.size := by rw [hw2]; simpa using s1
  have t2 : w.heap.size + 1 + 1 < w2.heap.size := by rw [hw2]; simpa using s2
  have hB2 : Aside0 (Below w.heap.size w w2) := ⟨by rw [hw2]; exact ((hB.out.setCell (p := ⟨w.heap.size + 1, 0, none⟩) (by simp) _).setCell (p := ⟨w.heap.size + 1, 1, none⟩) (by simp) _).setCell (p := ⟨w.heap.size + 1, 2, none⟩) (by simp) _⟩
  clear hw2 o0 o1 o2 o3 p0 p1 p2 p3 q0 q1 q2 hB s1 s2
  go_wp2_with (fail)
  go_at_call 78
  refine (proper_calls _ _ _ _).mono ?_
  rintro e w3 ⟨rfl, hb3⟩
  rw [HP.out]
  replace u0 := (bcell hb3 t1).trans u0
  replace u1 := (bcell hb3 t1).trans u1
  replace u2 := (bcell hb3 t1).trans u2
  replace u3 := (bcell hb3 t2).trans u3
  replace g0 := (bfrozen hb3 t1).trans g0
  replace g1 := (bfrozen hb3 t1).trans g1
  replace g2 := (bfrozen hb3 t1).trans g2
  replace g3 := (bfrozen hb3 t2).trans g3
  have hB3 : Aside0 (Below w.heap.size w w3) := ⟨hB2.out.trans (hb3.mono (by omega))⟩
  replace t1 : w.heap.size + 1 < w3.heap.size := by have := hb3.size; omega
  replace t2 : w.heap.size + 1 + 1 < w3.heap.size := by have := hb3.size; omega
  clear hb3 hB2
  have hBw : w.heap.size ≤ w3.heap.size := by omega
  go_wp2_with (first | (go_at_call 68; (with_reducible refine (need_false _ _).mono ?_); rintro e w' ⟨rfl, rfl⟩))
  exact edit_door results47 (B := w.heap.size) (g := w.heap.size + 1) (by omega) rfl rfl rfl u0 u1 u2 u3 g0 g1 g2 g3 hB3.out hBw

theorem text_Invert.calls (a0 : ByteArray) (a1_0 : Int) (a1_1 : Int) (a1_2 : ByteArray) (r1 : Int) (r2 : Int) (r3 : ByteArray) (r4 : Int) (w : World) (h : text_Invert.f a0 a1_0 a1_1 a1_2 = some (r1, r2, r3, r4)) :
    Calls Tryd.prog 47 #[.string a0, .agg #[.int .i64 a1_0, .int .i64 a1_1, .string a1_2]] w fun e w' => e = .returned (.tuple #[.agg #[.int .i64 r1, .int .i64 r2, .string r3], .int .i64 r4]) ∧ Below w.heap.size w w' := by
  unfold text_Invert.f at h
  split at h
  · cases h; exact invert_door _ _ _ _ _ 1 (fun W => dropped_arg _ _ _ _ W (by assumption))
  · rename_i hp
    have hp' : properE a1_0 a1_1 = true := by simpa using hp
    split at h
    · cases h; exact invert_door _ _ _ _ _ 3 (fun W => dropped_range _ _ _ _ W hp' (by assumption))
    · split at h
      · cases h; exact invert_big _ _ _ _ _ hp' (by omega) (by assumption)
      · cases h; exact invert_ok _ _ _ _ _ hp' (by omega) (by omega)
end Go.Proofs.YtdcemnmbfblmiaaDoor.Given
