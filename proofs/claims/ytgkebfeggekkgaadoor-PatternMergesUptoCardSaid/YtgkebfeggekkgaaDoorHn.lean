/- The contract of Merge. -/
import Derived.Test.YtgkebfeggekkgaaDoorHl
set_option linter.unusedVariables false
set_option linter.unusedSimpArgs false
namespace Go.Proofs.YtgkebfeggekkgaaDoor.Given
open Go.RowKit Go.Proofs.YtgkebfeggekkgaaDoor.PT Go.Proofs.YtgkebfeggekkgaaDoorW.PrintWords Go.Proofs.YtgkebfeggekkgaaDoorW.PrintLast Go.Proofs.YtgkebfeggekkgaaDoorW.PrintMore

def mergeF (a b : S39) : Bool × List Int × Int :=
  if (actOk a.f0 a.f1 && actOk b.f0 b.f1) = true then (if (fillF (actL a.f0 a.f1) (actL b.f0 b.f1) true).2 = true then (true, (fillF (actL a.f0 a.f1) (actL b.f0 b.f1) true).1, 0) else (false, [], 2)) else (false, [], 1)
def MergePost (r : Bool × List Int × Int) (w : World) (e : Ending) (w' : World) : Prop := ∃ v, e = .returned (.tuple #[.agg #[.bool r.1, v], .int .i64 r.2.2]) ∧ Kd.R kI 3 w' w.heap.size (fun _ => True) v r.2.1 ∧ Below w.heap.size w w'
/-- the two results' cells: a do-part and an error -/
def Rm (g : Nat) (w W : World) (x0 x1 u : Value) : Prop := Below w.heap.size w W ∧ W.cell? ⟨g, 0, none⟩ = some x0 ∧ W.cell? ⟨g, 1, none⟩ = some x1 ∧ W.cell? ⟨g + 1, 0, none⟩ = some u ∧
  W.frozen? ⟨g, 0, none⟩ = false ∧ W.frozen? ⟨g, 1, none⟩ = false ∧ W.frozen? ⟨g + 1, 0, none⟩ = false
theorem gin66 : GuardIn 66 := fun args w => by simp [go_sem]
theorem res29 (t : Array Value) (W : World) (g : Nat) (x0 x1 u : Value) (h4 : t.getD 4 undef = .pointer (some ⟨g, 0, none⟩)) (h5 : t.getD 5 undef = .pointer (some ⟨g + 1, 0, none⟩))
    (c0 : W.cell? ⟨g, 0, none⟩ = some x0) (c1 : W.cell? ⟨g, 1, none⟩ = some x1) (c2 : W.cell? ⟨g + 1, 0, none⟩ = some u) : (results Tryd.f29 t).run Tryd.prog W = .ok (.tuple #[.agg #[x0, x1], u]) W := by
  have hu39 := Tryd.underlying39
  have hu25 := Tryd.underlying25
  have e4 : t[4]?.getD undef = .pointer (some ⟨g, 0, none⟩) := by simpa [Array.getD_eq_getD_getElem?] using h4
  have e5 : t[5]?.getD undef = .pointer (some ⟨g + 1, 0, none⟩) := by simpa [Array.getD_eq_getD_getElem?] using h5
  simp [results, Tryd.results29, go_sem, e4, e5, c0, c1, c2]
set_option maxRecDepth 100000 in
theorem doorM_fails {R : Ending → World → Prop} {g : Nat} {w w1 : World} {a : Act} {c : Int} {x0 x1 u : Value}
    (hg : w.heap.size ≤ g) (hR : ∀ w', Below w.heap.size w w' → R (.returned (.tuple #[.agg #[.bool false, .slice none 0 0], .int .i64 c])) w') (h : Rm g w w1 x0 x1 u) (hd : a.defers = defsG 66 g) (h2 : a.tmps.getD 4 undef = .pointer (some ⟨g, 0, none⟩)) (h3 : a.tmps.getD 5 undef = .pointer (some ⟨g + 1, 0, none⟩)) :
    bodyPostD Tryd.prog Tryd.f29 R (.panic (failE c)) a w1 := by
  obtain ⟨hB, c0, c1, c2, f0, f1, f2⟩ := h
  show Leaves _ _ _ _ _ _ _
  rw [hd]
  have lt1 := World.block_lt_of_cell? w1 _ c0
  have lt2 := World.block_lt_of_cell? w1 _ c2
  simp only [] at lt1 lt2
  refine leaves_cons (f := 66) (args := #[.pointer (some ⟨g, 0, none⟩), .pointer (some ⟨g + 1, 0, none⟩)]) (by simp) (by simp [go_sem, gin66 _ w1]) ?_
  refine (guardDo_fails g (g + 1) c _ _ _ w1 c0 c1 c2 f0 f1 f2 (by omega)).mono ?_
  rintro e u' w'' ⟨rfl, rfl, rfl⟩
  have hBf := below_drew (((((hB.setCell (p := ⟨g, 0, none⟩) hg (.bool false)).setCell (p := ⟨g, 1, none⟩) hg (.slice none 0 0)).setCell (p := ⟨g + 1, 0, none⟩) (by simp only; omega) (.int .i64 c)).alloc (by simp; omega) (.cells #[.int .i64 c] 113)).alloc (by simp; omega) (.cells #[.bool false, .slice none 0 0] 39))
  have n0 : ¬ g = w1.heap.size := by omega
  have n2 : ¬ g + 1 = w1.heap.size := by omega
  have n3 : ¬ w1.heap.size = g := by omega
  have n4 : ¬ w1.heap.size = g + 1 := by omega
  have n5 : ¬ g = w1.heap.size + 1 := by omega
  have n7 : ¬ w1.heap.size + 1 = g := by omega
  have n8 : ¬ w1.heap.size + 1 = g + 1 := by omega
  have n9 : ¬ g + 1 = w1.heap.size + 1 := by omega
  show Leaves _ _ _ _ [] .returning _
  refine ⟨_, res29 _ _ g _ _ _ h2 h3 ?_ ?_ ?_, hR _ hBf⟩
  all_goals simp [go_sem, c0, c1, c2, lt1, lt2, n0, n2, n3, n4, n5, n7, n8, n9]
theorem doorM_ends {R : Ending → World → Prop} {g : Nat} {w1 : World} {t : Array Value} {x0 x1 u : Value}
    (c0 : w1.cell? ⟨g, 0, none⟩ = some x0) (c1 : w1.cell? ⟨g, 1, none⟩ = some x1) (c2 : w1.cell? ⟨g + 1, 0, none⟩ = some u) (h2 : t.getD 4 undef = .pointer (some ⟨g, 0, none⟩)) (h3 : t.getD 5 undef = .pointer (some ⟨g + 1, 0, none⟩)) (hR : R (.returned (.tuple #[.agg #[x0, x1], u])) w1) :
    Leaves Tryd.prog Tryd.f29 t R (defsG 66 g) .returning w1 := by
  refine leaves_cons (f := 66) (args := #[.pointer (some ⟨g, 0, none⟩), .pointer (some ⟨g + 1, 0, none⟩)]) (by simp) (by simp [go_sem, gin66 _ w1]) ?_
  refine (guardDo_idle _ _ w1).mono ?_
  rintro e u' w'' ⟨rfl, rfl, rfl⟩
  show Leaves _ _ _ _ [] .returning _
  exact ⟨_, res29 _ _ g _ _ _ h2 h3 c0 c1 c2, hR⟩
section
variable (b0 : Bool) (A0 : Option Addr) (c0 : Nat) (l0 : List Int) (b1 : Bool) (A1 : Option Addr) (c1 : Nat) (l1 : List Int) (w : World)
/-- the world behind Merge's blocks -/
def wM : World := (((w.alloc (.cells #[.bool b0, .slice A0 l0.length c0] 39)).alloc (.cells #[.bool b1, .slice A1 l1.length c1] 39)).alloc (.cells #[.bool false, .slice none 0 0] 39)).alloc (.cells #[.int .i64 0] 25)
def SM (W : World) : Prop := Below (w.heap.size + 1 + 1 + 1 + 1) (wM b0 A0 c0 l0 b1 A1 c1 l1 w) W
theorem wM_size : (wM b0 A0 c0 l0 b1 A1 c1 l1 w).heap.size = w.heap.size + 1 + 1 + 1 + 1 := by simp [wM]
theorem wM_below : Below w.heap.size w (wM b0 A0 c0 l0 b1 A1 c1 l1 w) := ((((Below.refl _ _).alloc (Nat.le_refl _) _).alloc (by simp) _).alloc (by simp; omega) _).alloc (by simp; omega) _
variable {b0 A0 c0 l0 b1 A1 c1 l1 w} {W : World}
theorem SM.below (h : SM b0 A0 c0 l0 b1 A1 c1 l1 w W) : Below w.heap.size w W := (wM_below ..).trans (h.mono (by omega))
theorem SM.keep {W' : World} (h : SM b0 A0 c0 l0 b1 A1 c1 l1 w W) (hb : Below W.heap.size W W') : SM b0 A0 c0 l0 b1 A1 c1 l1 w W' :=
  h.trans (hb.mono (by have := h.size; rw [wM_size] at this; exact this))
theorem SM.cells (h : SM b0 A0 c0 l0 b1 A1 c1 l1 w W) : W.cell? ⟨w.heap.size, 0, none⟩ = some (.bool b0) ∧ W.cell? ⟨w.heap.size, 1, none⟩ = some (.slice A0 l0.length c0) ∧
    W.cell? ⟨w.heap.size + 1, 0, none⟩ = some (.bool b1) ∧ W.cell? ⟨w.heap.size + 1, 1, none⟩ = some (.slice A1 l1.length c1) := by
  refine ⟨(bcell h (by omega)).trans ?_, (bcell h (by omega)).trans ?_, (bcell h (by omega)).trans ?_, (bcell h (by omega)).trans ?_⟩
  all_goals simp [wM, go_sem]
theorem SM.rd (h : SM b0 A0 c0 l0 b1 A1 c1 l1 w W) : W.cell? ⟨w.heap.size + 1 + 1, 0, none⟩ = some (.bool false) ∧ W.cell? ⟨w.heap.size + 1 + 1, 1, none⟩ = some (.slice none 0 0) ∧ W.cell? ⟨w.heap.size + 1 + 1 + 1, 0, none⟩ = some (.int .i64 0) ∧
    W.frozen? ⟨w.heap.size + 1 + 1, 0, none⟩ = false ∧ W.frozen? ⟨w.heap.size + 1 + 1, 1, none⟩ = false ∧ W.frozen? ⟨w.heap.size + 1 + 1 + 1, 0, none⟩ = false := by
  refine ⟨(bcell h (by omega)).trans ?_, (bcell h (by omega)).trans ?_, (bcell h (by omega)).trans ?_, (bfrozen h (by omega)).trans ?_, (bfrozen h (by omega)).trans ?_, (bfrozen h (by omega)).trans ?_⟩
  all_goals simp [wM, go_sem]
theorem SM.rm (h : SM b0 A0 c0 l0 b1 A1 c1 l1 w W) : Rm (w.heap.size + 1 + 1) w W (.bool false) (.slice none 0 0) (.int .i64 0) := ⟨h.below, h.rd⟩
end
/-- a panic, and where the results lie -/
def QM (D : List Deferred) (v4 v5 : Value) (C : List PanicEntry → World → Prop) : Exit → Act → World → Prop
  | .panic c, a, w => C c w ∧ a.defers = D ∧ a.tmps.getD 4 undef = v4 ∧ a.tmps.getD 5 undef = v5
  | _, _, _ => False
theorem QM_put {D : List Deferred} {v4 v5 : Value} {C : List PanicEntry → World → Prop} {d : Nat} {v : Value} (h2 : d ≠ 4) (h3 : d ≠ 5) : ∀ c a w, QM D v4 v5 C (.panic c) (a.put (some d) v) w → QM D v4 v5 C (.panic c) a w := by
  intro c a w ⟨h, hd, e2, e3⟩
  refine ⟨h, hd, ?_, ?_⟩
  · simpa [Act.put, Array.getD_eq_getD_getElem?, Array.getElem?_setIfInBounds, h2] using e2
  · simpa [Act.put, Array.getD_eq_getD_getElem?, Array.getElem?_setIfInBounds, h3] using e3
set_option maxRecDepth 100000 in
set_option maxHeartbeats 1000000 in
theorem merge_bad (b0 : Bool) (A0 : Option Addr) (c0 : Nat) (l0 : List Int) (b1 : Bool) (A1 : Option Addr) (c1 : Nat) (l1 : List Int) (w : World) (hr0 : Kd.C kI w A0 l0.length l0) (hc0 : l0.length ≤ c0) (hr1 : Kd.C kI w A1 l1.length l1) (hc1 : l1.length ≤ c1)
    (hok : (actOk b0 l0 && actOk b1 l1) = false) : Calls Tryd.prog 29 #[.agg #[.bool b0, .slice A0 l0.length c0], .agg #[.bool b1, .slice A1 l1.length c1]] w (MergePost (false, [], 1) w) := by
  have hu39 := Tryd.underlying39
  have HR0 := Aside0.mk hr0
  have HR1 := Aside0.mk hr1
  have HOK := Aside0.mk hok
  clear hr0 hr1 hok
  go_enter_defers Tryd.func29, Tryd.ntmps29
  go_wp2_with (fail)
  refine wp_mono (Q := QM (defsG 66 (w.heap.size + 1 + 1)) (.pointer (some ⟨w.heap.size + 1 + 1, 0, none⟩)) (.pointer (some ⟨w.heap.size + 1 + 1 + 1, 0, none⟩)) (fun ch w1 => ch = failE 1 ∧ SM b0 A0 c0 l0 b1 A1 c1 l1 w w1)) ?_ ?_
  · refine wp_region_held (S := SM b0 A0 c0 l0 b1 A1 c1 l1 w) (by kernel_rfl) ?_
    have hS : SM b0 A0 c0 l0 b1 A1 c1 l1 w (wM b0 A0 c0 l0 b1 A1 c1 l1 w).drew := below_drew (Below.refl _ _)
    change wpAnyH _ _ _ _ _ _ _ _ (wM b0 A0 c0 l0 b1 A1 c1 l1 w).drew
    generalize (wM b0 A0 c0 l0 b1 A1 c1 l1 w).drew = W at hS ⊢
    refine wpAnyH_take (i := 0) (v := .agg #[.bool b0, .slice A0 l0.length c0]) rfl (by kernel_rfl) (by kernel_rfl) (by kernel_rfl) (QM_put (by decide) (by decide)) (.inl ⟨by rfl, fun w' hw' => by obtain ⟨s0, s1, s2, s3⟩ := SM.cells hw'; go_simp⟩) hS ?_
    refine wpAnyH_take (i := 2) (v := .agg #[.bool b1, .slice A1 l1.length c1]) rfl (by kernel_rfl) (by kernel_rfl) (by kernel_rfl) (QM_put (by decide) (by decide)) (.inl ⟨by rfl, fun w' hw' => by obtain ⟨s0, s1, s2, s3⟩ := SM.cells hw'; go_simp⟩) hS ?_
    refine wpAnyH_all (rs := [1]) (by kernel_rfl) (by simp) ?_
    intro i hi
    obtain rfl : i = 1 := by simpa using hi
    · refine wpOp_of rfl (by rfl) ?_
      go_simp
      cases h0 : actOk b0 l0 with
      | false =>
        refine (actions_bad b0 A0 c0 l0 W (Kd.C_below HR0.out hS.below) h0).mono ?_
        rintro e w' ⟨rfl, hb⟩
        exact ⟨⟨rfl, hS.keep hb⟩, rfl, rfl, rfl⟩
      | true =>
        have h1 : actOk b1 l1 = false := by have := HOK.out; rw [h0] at this; simpa using this
        refine (actions_ok b0 A0 c0 l0 W (Kd.C_below HR0.out hS.below) hc0 h0).mono ?_
        rintro e w2 ⟨A2, c2, rfl, hc2, hC2, hb⟩
        have hS2 := hS.keep hb
        refine ⟨hS2, ?_⟩
        generalize (actL b0 l0).length = n2
        refine wpAnyH_all (rs := [3]) (by kernel_rfl) (by simp) ?_
        intro i hi
        obtain rfl : i = 3 := by simpa using hi
        refine wpOp_of rfl (by rfl) ?_
        go_simp
        refine (actions_bad b1 A1 c1 l1 w2 (Kd.C_below HR1.out hS2.below) h1).mono ?_
        rintro e w' ⟨rfl, hb⟩
        exact ⟨⟨rfl, hS2.keep hb⟩, rfl, rfl, rfl⟩
  · intro e a' w1 hq
    cases e with
    | panic ch =>
      obtain ⟨⟨rfl, hb⟩, hdf, h4, h5⟩ := hq
      show bodyPostD Tryd.prog Tryd.f29 (MergePost (false, [], 1) w) (.panic (failE 1)) a' w1
      exact doorM_fails (by omega) (fun w' hb => ⟨_, rfl, Kd.R_nil _ _ _ _ _, hb⟩) hb.rm hdf h4 h5
    | normal => exact hq.elim
    | exit id => exact hq.elim
    | goto l => exact hq.elim
    | ret => exact hq.elim
    | outgrown => exact hq.elim
theorem R_storedM {w W : World} {base : Nat} {v x y u : Value} {l : List Int} (h : Kd.R kI 3 W base (fun _ => True) v l) (hb : w.heap.size + 1 + 1 + 1 + 1 ≤ base) :
    Kd.R kI 3 (((W.setCell ⟨w.heap.size + 1 + 1, 0, none⟩ x).setCell ⟨w.heap.size + 1 + 1, 1, none⟩ y).setCell ⟨w.heap.size + 1 + 1 + 1, 0, none⟩ u) w.heap.size (fun _ => True) v l := by
  have h1 := Kd.R_bound h
  have h2 := Kd.R_far h1 (p := ⟨w.heap.size + 1 + 1, 0, none⟩) (fun k hk => by have := hk.2.1; simp only; omega) x
  have h3 := Kd.R_far h2 (p := ⟨w.heap.size + 1 + 1, 1, none⟩) (fun k hk => by have := hk.2.1; simp only; omega) y
  have h4 := Kd.R_far h3 (p := ⟨w.heap.size + 1 + 1 + 1, 0, none⟩) (fun k hk => by have := hk.2.1; simp only; omega) u
  exact Kd.R_lower (Kd.R_mono h4 (fun _ _ => trivial)) (by omega)
theorem doorM_stored {R : Ending → World → Prop} {g : Nat} {w w2 : World} {a : Act} {x0 x1 u0 y0 y1 u : Value} (hg : w.heap.size ≤ g) (h : Rm g w w2 x0 x1 u0)
    (hR : Below w.heap.size w (((w2.setCell ⟨g, 0, none⟩ y0).setCell ⟨g, 1, none⟩ y1).setCell ⟨g + 1, 0, none⟩ u) → R (.returned (.tuple #[.agg #[y0, y1], u])) (((w2.setCell ⟨g, 0, none⟩ y0).setCell ⟨g, 1, none⟩ y1).setCell ⟨g + 1, 0, none⟩ u))
    (hd : a.defers = defsG 66 g) (h2 : a.tmps.getD 4 undef = .pointer (some ⟨g, 0, none⟩)) (h3 : a.tmps.getD 5 undef = .pointer (some ⟨g + 1, 0, none⟩)) :
    bodyPostD Tryd.prog Tryd.f29 R .ret a (((w2.setCell ⟨g, 0, none⟩ y0).setCell ⟨g, 1, none⟩ y1).setCell ⟨g + 1, 0, none⟩ u) := by
  obtain ⟨hB, c0, c1, c2, f0, f1, f2⟩ := h
  show Leaves _ _ _ _ _ _ _
  rw [hd]
  refine doorM_ends (x0 := y0) (x1 := y1) (u := u) ?_ ?_ ?_ h2 h3 (hR (((hB.setCell (p := ⟨g, 0, none⟩) hg y0).setCell (p := ⟨g, 1, none⟩) hg y1).setCell (p := ⟨g + 1, 0, none⟩) (by simp only; omega) u))
  all_goals simp [go_sem, c0, c1, c2]
set_option maxRecDepth 100000 in
set_option maxHeartbeats 1000000 in
theorem merge_ok (b0 : Bool) (A0 : Option Addr) (c0 : Nat) (l0 : List Int) (b1 : Bool) (A1 : Option Addr) (c1 : Nat) (l1 : List Int) (w : World) (hr0 : Kd.C kI w A0 l0.length l0) (hc0 : l0.length ≤ c0) (hr1 : Kd.C kI w A1 l1.length l1) (hc1 : l1.length ≤ c1)
    (h0 : actOk b0 l0 = true) (h1 : actOk b1 l1 = true) (hl0 : l0.length ≤ 1073741823) (hl1 : l1.length ≤ 1073741823) : Calls Tryd.prog 29 #[.agg #[.bool b0, .slice A0 l0.length c0], .agg #[.bool b1, .slice A1 l1.length c1]] w (MergePost (mergeF ⟨b0, l0⟩ ⟨b1, l1⟩) w) := by
  have hu39 := Tryd.underlying39
  have hu25 := Tryd.underlying25
  have HR0 := Aside0.mk hr0
  have HR1 := Aside0.mk hr1
  have hk0 := actL_len b0 l0
  have hk1 := actL_len b1 l1
  have hmf : mergeF ⟨b0, l0⟩ ⟨b1, l1⟩ = if (fillF (actL b0 l0) (actL b1 l1) true).2 = true then (true, (fillF (actL b0 l0) (actL b1 l1) true).1, 0) else (false, [], 2) := by
    unfold mergeF
    rw [if_pos (by rw [h0, h1]; rfl)]
  have HMF := Aside0.mk hmf
  have HK0 := Aside0.mk (show (actL b0 l0).length ≤ 1073741824 by omega)
  have HK1 := Aside0.mk (show (actL b1 l1).length ≤ 1073741824 by omega)
  have HO0 := Aside0.mk h0
  have HO1 := Aside0.mk h1
  clear hr0 hr1 hmf h0 h1 hk0 hk1
  go_enter_defers Tryd.func29, Tryd.ntmps29
  go_wp2_with (fail)
  refine wp_region_noPanic ?_
  refine wp_region_held (S := SM b0 A0 c0 l0 b1 A1 c1 l1 w) (by kernel_rfl) ?_
  have hS : SM b0 A0 c0 l0 b1 A1 c1 l1 w (wM b0 A0 c0 l0 b1 A1 c1 l1 w).drew := below_drew (Below.refl _ _)
  change wpAnyH _ _ _ _ _ _ _ _ (wM b0 A0 c0 l0 b1 A1 c1 l1 w).drew
  generalize (wM b0 A0 c0 l0 b1 A1 c1 l1 w).drew = W at hS ⊢
  refine wpAnyH_take (i := 0) (v := .agg #[.bool b0, .slice A0 l0.length c0]) rfl (by kernel_rfl) (by kernel_rfl) (by kernel_rfl) (fun _ _ _ h => h) (.inl ⟨by rfl, fun w' hw' => by obtain ⟨s0, s1, s2, s3⟩ := SM.cells hw'; go_simp⟩) hS ?_
  refine wpAnyH_take (i := 2) (v := .agg #[.bool b1, .slice A1 l1.length c1]) rfl (by kernel_rfl) (by kernel_rfl) (by kernel_rfl) (fun _ _ _ h => h) (.inl ⟨by rfl, fun w' hw' => by obtain ⟨s0, s1, s2, s3⟩ := SM.cells hw'; go_simp⟩) hS ?_
  refine wpAnyH_all (rs := [1]) (by kernel_rfl) (by simp) ?_
  intro i hi
  obtain rfl : i = 1 := by simpa using hi
  refine wpOp_of rfl (by rfl) ?_
  go_simp
  refine (actions_ok b0 A0 c0 l0 W (Kd.C_below HR0.out hS.below) hc0 HO0.out).mono ?_
  rintro e w2 ⟨A2, c2, rfl, hc2, hC2, hb⟩
  have hS2 := hS.keep hb
  have HC2 := Aside0.mk hC2
  have HL2 := Aside0.mk hc2
  clear hC2 hc2 hb hS
  refine ⟨hS2, ?_⟩
  generalize hn2 : (actL b0 l0).length = n2
  have HN2 := Aside0.mk hn2
  clear hn2
  refine wpAnyH_all (rs := [3]) (by kernel_rfl) (by simp) ?_
  intro i hi
  obtain rfl : i = 3 := by simpa using hi
  refine wpOp_of rfl (by rfl) ?_
  go_simp
  refine (actions_ok b1 A1 c1 l1 w2 (Kd.C_below HR1.out hS2.below) hc1 HO1.out).mono ?_
  rintro e w3 ⟨A3, c3, rfl, hc3, hC3, hb⟩
  have hS3 := hS2.keep hb
  have HC3 := Aside0.mk hC3
  have HL3 := Aside0.mk hc3
  have HB3 := Aside0.mk hb
  clear hC3 hc3 hb
  refine ⟨hS3, ?_⟩
  generalize hn3 : (actL b1 l1).length = n3
  have HN3 := Aside0.mk hn3
  clear hn3
  refine wpAnyH_take (i := 4) (v := .slice A2 n2 c2) rfl (by kernel_rfl) (by kernel_rfl) (by kernel_rfl) (fun _ _ _ h => h) (.inl ⟨by rfl, fun w' hw' => by go_simp⟩) hS3 ?_
  refine wpAnyH_take (i := 5) (v := .slice A3 n3 c3) rfl (by kernel_rfl) (by kernel_rfl) (by kernel_rfl) (fun _ _ _ h => h) (.inl ⟨by rfl, fun w' hw' => by go_simp⟩) hS3 ?_
  refine wpAnyH_done (by kernel_rfl) (NoPanic.normal ?_) _
  have HF := Aside0.mk (filled_calls A2 c2 (actL b0 l0) A3 c3 (actL b1 l1) true w3 (Kd.C_below HC2.out HB3.out) HC3.out HK0.out HK1.out)
  rw [HN2.out, HN3.out] at HF
  have HS3 := Aside0.mk hS3
  clear hS3 hS2
  generalize fillF (actL b0 l0) (actL b1 l1) true = r at HF HMF
  obtain ⟨r1, r2⟩ := r
  cases r2 with
  | false =>
    have HMF2 := Aside0.mk (show mergeF ⟨b0, l0⟩ ⟨b1, l1⟩ = (false, [], 2) from HMF.out)
    clear HMF
    go_wp2_with (first | (go_at_call 60; (with_reducible refine HF.out.mono ?_); rintro e w4 ⟨v4, rfl, hR4, hB4⟩; obtain ⟨A4, c4, rfl, hc4, hC4⟩ := Kd.R_reads hR4; have HB4 := Aside0.mk hB4; clear hB4 hR4 hC4 hc4) | (go_at_call 51; (with_reducible refine (fail_true _ _).mono ?_); rintro e w5 ⟨rfl, rfl⟩))
    rw [HMF2.out]
    exact doorM_fails (by omega) (fun w' hb => ⟨_, rfl, Kd.R_nil _ _ _ _ _, hb⟩) (HS3.out.keep HB4.out).rm rfl rfl rfl
  | true =>
    have HMF2 := Aside0.mk (show mergeF ⟨b0, l0⟩ ⟨b1, l1⟩ = (true, r1, 0) from HMF.out)
    clear HMF
    go_wp2_with (first | (go_at_call 60; (with_reducible refine HF.out.mono ?_); rintro e w4 ⟨v4, rfl, hR4, hB4⟩; obtain ⟨A4, c4, rfl, hc4, hC4⟩ := Kd.R_reads hR4; generalize r1.length = n4 at hR4; have HR4 := Aside0.mk hR4; have HB4 := Aside0.mk hB4; obtain ⟨d0, d1, d2, g0, g1, g2⟩ := (HS3.out.keep hB4).rd; clear hB4 hR4 hC4 hc4) | (go_at_call 51; (with_reducible refine (fail_false _ _).mono ?_); rintro e w5 ⟨rfl, rfl⟩))
    rw [HMF2.out]
    have hsz : w.heap.size + 1 + 1 + 1 + 1 ≤ w3.heap.size := by have := HS3.out.size; rw [wM_size] at this; exact this
    exact doorM_stored (by omega) (HS3.out.keep HB4.out).rm (fun hb => ⟨_, rfl, R_storedM HR4.out hsz, hb⟩) rfl rfl rfl
theorem merge_calls (a b : S39) (A0 : Option Addr) (c0 : Nat) (A1 : Option Addr) (c1 : Nat) (w : World) (hr0 : Kd.C kI w A0 a.f1.length a.f1) (hc0 : a.f1.length ≤ c0) (hr1 : Kd.C kI w A1 b.f1.length b.f1) (hc1 : b.f1.length ≤ c1)
    (hl0 : a.f1.length ≤ 1073741823) (hl1 : b.f1.length ≤ 1073741823) : Calls Tryd.prog 29 #[.agg #[.bool a.f0, .slice A0 a.f1.length c0], .agg #[.bool b.f0, .slice A1 b.f1.length c1]] w (MergePost (mergeF a b) w) := by
  cases h : actOk a.f0 a.f1 && actOk b.f0 b.f1 with
  | false =>
    have e : mergeF a b = (false, [], 1) := by
      unfold mergeF
      rw [if_neg (by rw [h]; decide)]
    rw [e]
    exact merge_bad a.f0 A0 c0 a.f1 b.f0 A1 c1 b.f1 w hr0 hc0 hr1 hc1 h
  | true =>
    simp only [Bool.and_eq_true] at h
    exact merge_ok a.f0 A0 c0 a.f1 b.f0 A1 c1 b.f1 w hr0 hc0 hr1 hc1 h.1 h.2 hl0 hl1
end Go.Proofs.YtgkebfeggekkgaaDoor.Given
