/- The contracts of text.Apply, text.Invert and text.Merge: each call returns what the plain function says, failures caught, and leaves all older memory as it was. -/
import Derived.Test.YtdcemnmbfblmiaaDoorGb
import Derived.StillTailTactics
set_option linter.unusedVariables false
set_option linter.unusedSimpArgs false
namespace Go.Proofs.YtdcemnmbfblmiaaDoor.Given
open Go.RowKit Go.Proofs.YtdcemnmbfblmiaaDoorW.PrintWords Go.Proofs.YtdcemnmbfblmiaaDoorW.PrintLast Go.Proofs.YtdcemnmbfblmiaaDoorW.PrintMore

/-- the world behind the three blocks that Apply lays -/
def wA (a d : Int) (p : ByteArray) (w : World) : World := ((w.alloc (.cells #[.int .i64 a, .int .i64 d, .string p] 47)).alloc (.cells #[.string ⟨#[]⟩] 9)).alloc (.cells #[.int .i64 0] 22)
theorem wA_size (a d : Int) (p : ByteArray) (w : World) : (wA a d p w).heap.size = w.heap.size + 3 := by simp [wA]
theorem wA_below (a d : Int) (p : ByteArray) (w : World) : Below w.heap.size w (wA a d p w) :=
  (((Below.refl _ _).alloc (Nat.le_refl _) _).alloc (by simp) _).alloc (by simp; omega) _
theorem bcell {B : Nat} {W w1 : World} (hb : Below B W w1) {b o : Nat} (h : b < B) : w1.cell? ⟨b, o, none⟩ = W.cell? ⟨b, o, none⟩ := hb.cell (p := ⟨b, o, none⟩) h
theorem bfrozen {B : Nat} {W w1 : World} (hb : Below B W w1) {b o : Nat} (h : b < B) : w1.frozen? ⟨b, o, none⟩ = W.frozen? ⟨b, o, none⟩ := hb.frozen (p := ⟨b, o, none⟩) h

/-- A region that draws its order and whose tail is forced: one walk, in a world of its own name. -/
theorem wp_region_tail {P : Program} {id : Nat} {Q : Exit → Act → World → Prop} {a : Act} {w : World} {l : List Oper} (n : Nat) (hm : P.follows .mixedOrders = true) (hB : Region.lexTailB .any l.toArray n = true)
    (h : ∀ w2 : World, w2 = w.drew → wpStill P l.toArray w2 (fun a' => wpList P l.toArray Q (l.drop n) a' w2) (l.take n) a) : (Code.region id l.toArray true).wp P Q a w :=
  wp_region_still_tail n hm hB (h _ rfl)
set_option maxRecDepth 100000 in
set_option maxHeartbeats 1000000 in
/-- The way of a failure, out of Apply's door. -/
theorem apply_door (s : ByteArray) (a d : Int) (p : ByteArray) (w : World) (c : Int)
    (hd : Calls Tryd.prog 75 #[.string s, .agg #[.int .i64 a, .int .i64 d, .string p]] (wA a d p w) fun e w' => e = .panicked [{ v := failV c, recovered := false }] ∧ Below (wA a d p w).heap.size (wA a d p w) w') :
    Calls Tryd.prog 45 #[.string s, .agg #[.int .i64 a, .int .i64 d, .string p]] w fun e w' => e = .returned (.tuple #[.string ⟨#[]⟩, .int .i64 c]) ∧ Below w.heap.size w w' := by
  have hu47 := Tryd.underlying47
  have hu9 := Tryd.underlying9
  have hu22 := Tryd.underlying22
  have HD := Aside0.mk hd
  clear hd
  go_enter_defers Tryd.func45, Tryd.ntmps45
  go_wp2_with (first | (go_at_call 75; refine HD.out.mono ?_; rintro e w1 ⟨rfl, hb⟩))
  have hsz := hb.size
  rw [wA_size] at hb hsz
  have c1 : w1.cell? ⟨w.heap.size + 1, 0, none⟩ = some (.string ⟨#[]⟩) := (bcell hb (by omega)).trans (by simp [wA, go_sem])
  have c2 : w1.cell? ⟨w.heap.size + 1 + 1, 0, none⟩ = some (.int .i64 0) := (bcell hb (by omega)).trans (by simp [wA, go_sem])
  have f1 : w1.frozen? ⟨w.heap.size + 1, 0, none⟩ = false := (bfrozen hb (by omega)).trans (by simp [wA, go_sem])
  have f2 : w1.frozen? ⟨w.heap.size + 1 + 1, 0, none⟩ = false := (bfrozen hb (by omega)).trans (by simp [wA, go_sem])
  have hB : Below w.heap.size w w1 := (wA_below a d p w).trans (hb.mono (by omega))
  refine leaves_cons (f := 66) (args := #[.pointer (some ⟨w.heap.size + 1, 0, none⟩), .pointer (some ⟨w.heap.size + 1 + 1, 0, none⟩)]) (by simp) (by simp [go_sem]) ?_
  refine (caught_fails (w.heap.size + 1) (w.heap.size + 1 + 1) c _ _ w1 c1 c2 f1 f2 (by omega)).mono ?_
  rintro e u' w'' ⟨rfl, rfl, rfl⟩
  have hBf := below_drew (((hB.setCell (p := ⟨w.heap.size + 1, 0, none⟩) (by simp) (.string ⟨#[]⟩)).setCell (p := ⟨w.heap.size + 1 + 1, 0, none⟩) (by simp; omega) (.int .i64 c)).alloc (by simp; omega) (.cells #[.int .i64 c] 95))
  have s1 : w.heap.size + 1 < w1.heap.size := by omega
  have s2 : w.heap.size + 1 + 1 < w1.heap.size := by omega
  have n1 : ¬ w.heap.size + 1 = w1.heap.size := by omega
  have n2 : ¬ w.heap.size + 1 + 1 = w1.heap.size := by omega
  have n3 : ¬ w1.heap.size = w.heap.size + 1 := by omega
  have n4 : ¬ w1.heap.size = w.heap.size + 1 + 1 := by omega
  simp [Leaves, settle, results, Tryd.results45, go_sem, c1, c2, s1, s2, n3, n4]
  exact hBf
set_option linter.unusedSimpArgs false
set_option maxRecDepth 100000 in
set_option maxHeartbeats 400000 in
theorem apply_ok (s : ByteArray) (a d : Int) (p : ByteArray) (w : World) (h : properE a d = true) (hr : a + d ≤ (s.size : Int)) (hs : s.size ≤ 1000000000000) (hp : p.size ≤ 1000000000000) :
    Calls Tryd.prog 45 #[.string s, .agg #[.int .i64 a, .int .i64 d, .string p]] w fun e w' => e = .returned (.tuple #[.string (s.extract 0 a.toNat ++ p ++ s.extract (a + d).toNat s.size), .int .i64 0]) ∧ Below w.heap.size w w' := by
  have hu47 := Tryd.underlying47
  have hu9 := Tryd.underlying9
  have hu22 := Tryd.underlying22
  have h0 : 0 ≤ a ∧ a ≤ 1048576 ∧ 0 ≤ d ∧ d ≤ 1048576 := by simp [properE] at h; omega
  obtain ⟨ha0, ha1, hd0, hd1⟩ := h0
  have HD := Aside0.mk (dropped_ok s a d p (wA a d p w) h hr)
  clear h
  go_enter_defers Tryd.func45, Tryd.ntmps45
  go_wp2_with (first | (go_at_call 75; refine HD.out.mono ?_; rintro e w1 ⟨rfl, hb⟩))
  have hsz := hb.size
  rw [wA_size] at hb hsz
  have k0 : w1.cell? ⟨w.heap.size, 0, none⟩ = some (.int .i64 a) := (bcell hb (by omega)).trans (by simp [wA, go_sem])
  have k1 : w1.cell? ⟨w.heap.size, 1, none⟩ = some (.int .i64 d) := (bcell hb (by omega)).trans (by simp [wA, go_sem])
  have k2 : w1.cell? ⟨w.heap.size, 2, none⟩ = some (.string p) := (bcell hb (by omega)).trans (by simp [wA, go_sem])
  have c1 : w1.cell? ⟨w.heap.size + 1, 0, none⟩ = some (.string ⟨#[]⟩) := (bcell hb (by omega)).trans (by simp [wA, go_sem])
  have c2 : w1.cell? ⟨w.heap.size + 1 + 1, 0, none⟩ = some (.int .i64 0) := (bcell hb (by omega)).trans (by simp [wA, go_sem])
  have f1 : w1.frozen? ⟨w.heap.size + 1, 0, none⟩ = false := (bfrozen hb (by omega)).trans (by simp [wA, go_sem])
  have f2 : w1.frozen? ⟨w.heap.size + 1 + 1, 0, none⟩ = false := (bfrozen hb (by omega)).trans (by simp [wA, go_sem])
  have hB := Aside0.mk ((wA_below a d p w).trans (hb.mono (by omega)))
  have s1 : w.heap.size + 1 < w1.heap.size := by omega
  have s2 : w.heap.size + 1 + 1 < w1.heap.size := by omega
  have q1 : a ≤ (s.size : Int) := by omega
  have q2 : 0 ≤ a + d := by omega
  have z3 : ¬ 9223372036854775807 < a.toNat + p.size := by omega
  have z4 : ¬ 9223372036854775807 < a.toNat + p.size + (s.size - (a + d).toNat) := by omega
  have w64 : IntKind.i64.wrap (a + d) = a + d := IntWalk.i64_in _ (by omega)
  clear hb
  refine wp_region_tail 15 (by kernel_rfl) (by kernel_rfl) ?_
  intro w2 hw2
  replace k0 : w2.cell? ⟨w.heap.size, 0, none⟩ = some (.int .i64 a) := by rw [hw2]; exact k0
  replace k1 : w2.cell? ⟨w.heap.size, 1, none⟩ = some (.int .i64 d) := by rw [hw2]; exact k1
  replace k2 : w2.cell? ⟨w.heap.size, 2, none⟩ = some (.string p) := by rw [hw2]; exact k2
  replace c1 : w2.cell? ⟨w.heap.size + 1, 0, none⟩ = some (.string ⟨#[]⟩) := by rw [hw2]; exact c1
  replace c2 : w2.cell? ⟨w.heap.size + 1 + 1, 0, none⟩ = some (.int .i64 0) := by rw [hw2]; exact c2
  replace f1 : w2.frozen? ⟨w.heap.size + 1, 0, none⟩ = false := by rw [hw2]; exact f1
  replace f2 : w2.frozen? ⟨w.heap.size + 1 + 1, 0, none⟩ = false := by rw [hw2]; exact f2
  replace s1 : w.heap.size + 1 < w2.heap.size := by rw [hw2]; exact s1
  replace s2 : w.heap.size + 1 + 1 < w2.heap.size := by rw [hw2]; exact s2
  replace hB : Aside0 (Below w.heap.size w w2) := by rw [hw2]; exact ⟨below_drew hB.out⟩
  clear hw2
  simp only [List.take_succ_cons, List.take_zero, List.drop_succ_cons, List.drop_zero]
  repeat still_step
  refine wpStill_nil ?_
  clear w64
  go_wp2
  refine leaves_cons (f := 66) (args := #[.pointer (some ⟨w.heap.size + 1, 0, none⟩), .pointer (some ⟨w.heap.size + 1 + 1, 0, none⟩)]) (by simp) (by simp [go_sem]) ?_
  refine (caught_idle _ _ _).mono ?_
  rintro e u' w'' ⟨rfl, rfl, rfl⟩
  have hBf := (hB.out.setCell (p := ⟨w.heap.size + 1, 0, none⟩) (by simp) (.string (s.extract 0 a.toNat ++ p ++ s.extract (a + d).toNat s.size))).setCell (p := ⟨w.heap.size + 1 + 1, 0, none⟩) (by simp; omega) (.int .i64 0)
  simp [Leaves, settle, results, Tryd.results45, go_sem, c1, c2]
  exact hBf
theorem text_Apply.calls (a0 : ByteArray) (a1_0 : Int) (a1_1 : Int) (a1_2 : ByteArray) (r1 : ByteArray) (r2 : Int) (w : World) (h : text_Apply.f a0 a1_0 a1_1 a1_2 = some (r1, r2)) :
    Calls Tryd.prog 45 #[.string a0, .agg #[.int .i64 a1_0, .int .i64 a1_1, .string a1_2]] w fun e w' => e = .returned (.tuple #[.string r1, .int .i64 r2]) ∧ Below w.heap.size w w' := by
  unfold text_Apply.f at h
  split at h
  · cases h; exact apply_door _ _ _ _ _ 1 (dropped_arg _ _ _ _ _ (by assumption))
  · rename_i hp
    have hp' : properE a1_0 a1_1 = true := by simpa using hp
    split at h
    · cases h; exact apply_door _ _ _ _ _ 3 (dropped_range _ _ _ _ _ hp' (by assumption))
    · split at h
      · rename_i h1 h2
        cases h; exact apply_ok _ _ _ _ _ hp' (by omega) h2.1 h2.2
      · cases h

/-! ### Invert -/
def wI (a d : Int) (p : ByteArray) (w : World) : World := ((w.alloc (.cells #[.int .i64 a, .int .i64 d, .string p] 47)).alloc (.cells #[.int .i64 0, .int .i64 0, .string ⟨#[]⟩] 47)).alloc (.cells #[.int .i64 0] 22)
theorem wI_size (a d : Int) (p : ByteArray) (w : World) : (wI a d p w).heap.size = w.heap.size + 3 := by simp [wI]
theorem wI_below (a d : Int) (p : ByteArray) (w : World) : Below w.heap.size w (wI a d p w) :=
  (((Below.refl _ _).alloc (Nat.le_refl _) _).alloc (by simp) _).alloc (by simp; omega) _
/-- A panic's post, out of a frame of which only two slots and the deferred calls are known. -/
def QP (D : List Deferred) (v4 v5 : Value) (C : List PanicEntry → World → Prop) : Exit → Act → World → Prop
  | .panic c, a, w => C c w ∧ a.defers = D ∧ a.tmps.getD 4 undef = v4 ∧ a.tmps.getD 5 undef = v5
  | _, _, _ => False
theorem QP_put {D : List Deferred} {v4 v5 : Value} {C : List PanicEntry → World → Prop} {d : Nat} {v : Value} (h4 : d ≠ 4) (h5 : d ≠ 5) : ∀ c a w, QP D v4 v5 C (.panic c) (a.put (some d) v) w → QP D v4 v5 C (.panic c) a w := by
  intro c a w ⟨h, hd, e4, e5⟩
  refine ⟨h, hd, ?_, ?_⟩
  · simpa [Act.put, Array.getD_eq_getD_getElem?, Array.getElem?_setIfInBounds, h4] using e4
  · simpa [Act.put, Array.getD_eq_getD_getElem?, Array.getElem?_setIfInBounds, h5] using e5

set_option linter.unusedSimpArgs false
set_option maxRecDepth 100000 in
set_option maxHeartbeats 1000000 in
/-- The way of a failure, out of the door of a function whose results are an edit and an error in cells. -/
theorem edit_door {fn : Func} (hres : ∀ (t : Array Value) (W : World) (g : Nat) (x y z u : Value), t.getD 4 undef = .pointer (some ⟨g, 0, none⟩) → t.getD 5 undef = .pointer (some ⟨g + 1, 0, none⟩) →
      W.cell? ⟨g, 0, none⟩ = some x → W.cell? ⟨g, 1, none⟩ = some y → W.cell? ⟨g, 2, none⟩ = some z → W.cell? ⟨g + 1, 0, none⟩ = some u → (results fn t).run Tryd.prog W = .ok (.tuple #[.agg #[x, y, z], u]) W)
    {B g : Nat} (hg : B ≤ g) {c : Int} {w w1 : World} {a : Act} (h4 : a.tmps.getD 4 undef = .pointer (some ⟨g, 0, none⟩)) (h5 : a.tmps.getD 5 undef = .pointer (some ⟨g + 1, 0, none⟩))
    (hd : a.defers = [{ target := .fn (.func 77) #[], args := #[.pointer (some ⟨g, 0, none⟩), .pointer (some ⟨g + 1, 0, none⟩)] }])
    {x y z u : Value} (c0 : w1.cell? ⟨g, 0, none⟩ = some x) (c1 : w1.cell? ⟨g, 1, none⟩ = some y) (c2 : w1.cell? ⟨g, 2, none⟩ = some z) (c3 : w1.cell? ⟨g + 1, 0, none⟩ = some u)
    (f0 : w1.frozen? ⟨g, 0, none⟩ = false) (f1 : w1.frozen? ⟨g, 1, none⟩ = false) (f2 : w1.frozen? ⟨g, 2, none⟩ = false) (f3 : w1.frozen? ⟨g + 1, 0, none⟩ = false) (hB : Below B w w1) (hBw : B ≤ w1.heap.size) :
    bodyPostD Tryd.prog fn (fun e w' => e = .returned (.tuple #[.agg #[.int .i64 0, .int .i64 0, .string ⟨#[]⟩], .int .i64 c]) ∧ Below B w w') (.panic [{ v := failV c, recovered := false }]) a w1 := by
  show Leaves _ _ _ _ _ _ _
  rw [hd]
  have lt1 := World.block_lt_of_cell? w1 _ c0
  have lt2 := World.block_lt_of_cell? w1 _ c3
  simp only [] at lt1 lt2
  refine leaves_cons (f := 77) (args := #[.pointer (some ⟨g, 0, none⟩), .pointer (some ⟨g + 1, 0, none⟩)]) (by simp) (by simp [go_sem]) ?_
  refine (caughtE_fails g (g + 1) c _ _ _ _ w1 c0 c1 c2 c3 f0 f1 f2 f3 (by omega)).mono ?_
  rintro e u' w'' ⟨rfl, rfl, rfl⟩
  have hBf := below_drew ((((((hB.setCell (p := ⟨g, 0, none⟩) hg (.int .i64 0)).setCell (p := ⟨g, 1, none⟩) hg (.int .i64 0)).setCell (p := ⟨g, 2, none⟩) hg (.string ⟨#[]⟩)).setCell (p := ⟨g + 1, 0, none⟩) (by simp; omega) (.int .i64 c)).alloc (by simp; omega) (.cells #[.int .i64 c] 95)).alloc (by simp; omega) (.cells #[.int .i64 0, .int .i64 0, .string ⟨#[]⟩] 47))
  have n0 : ¬ g = w1.heap.size := by omega
  have n1 : ¬ g = w1.heap.size + 1 := by omega
  have n2 : ¬ g + 1 = w1.heap.size := by omega
  have n3 : ¬ w1.heap.size = g := by omega
  have n4 : ¬ w1.heap.size = g + 1 := by omega
  show Leaves _ _ _ _ [] .returning _
  refine ⟨_, hres _ _ g _ _ _ _ h4 h5 ?_ ?_ ?_ ?_, rfl, hBf⟩
  all_goals simp [go_sem, c0, c1, c2, c3, lt1, lt2, n0, n1, n2, n3, n4]
theorem results47 (t : Array Value) (W : World) (g : Nat) (x y z u : Value) (h4 : t.getD 4 undef = .pointer (some ⟨g, 0, none⟩)) (h5 : t.getD 5 undef = .pointer (some ⟨g + 1, 0, none⟩))
    (c0 : W.cell? ⟨g, 0, none⟩ = some x) (c1 : W.cell? ⟨g, 1, none⟩ = some y) (c2 : W.cell? ⟨g, 2, none⟩ = some z) (c3 : W.cell? ⟨g + 1, 0, none⟩ = some u) : (results Tryd.f47 t).run Tryd.prog W = .ok (.tuple #[.agg #[x, y, z], u]) W := by
  have hu47 := Tryd.underlying47
  have e4 : t[4]?.getD undef = .pointer (some ⟨g, 0, none⟩) := by simpa [Array.getD_eq_getD_getElem?] using h4
  have e5 : t[5]?.getD undef = .pointer (some ⟨g + 1, 0, none⟩) := by simpa [Array.getD_eq_getD_getElem?] using h5
  simp [results, Tryd.results47, go_sem, e4, e5, c0, c1, c2, c3]
theorem results51 (t : Array Value) (W : World) (g : Nat) (x y z u : Value) (h4 : t.getD 4 undef = .pointer (some ⟨g, 0, none⟩)) (h5 : t.getD 5 undef = .pointer (some ⟨g + 1, 0, none⟩))
    (c0 : W.cell? ⟨g, 0, none⟩ = some x) (c1 : W.cell? ⟨g, 1, none⟩ = some y) (c2 : W.cell? ⟨g, 2, none⟩ = some z) (c3 : W.cell? ⟨g + 1, 0, none⟩ = some u) : (results Tryd.f51 t).run Tryd.prog W = .ok (.tuple #[.agg #[x, y, z], u]) W := by
  have hu47 := Tryd.underlying47
  have e4 : t[4]?.getD undef = .pointer (some ⟨g, 0, none⟩) := by simpa [Array.getD_eq_getD_getElem?] using h4
  have e5 : t[5]?.getD undef = .pointer (some ⟨g + 1, 0, none⟩) := by simpa [Array.getD_eq_getD_getElem?] using h5
  simp [results, Tryd.results51, go_sem, e4, e5, c0, c1, c2, c3]
end Go.Proofs.YtdcemnmbfblmiaaDoor.Given
