/- The contracts of Conforms and Needs. -/
import Derived.Test.YtgkebfeggekkgaaDoorJ5
set_option linter.unusedVariables false
set_option linter.unusedSimpArgs false
namespace Go.Proofs.YtgkebfeggekkgaaDoor.Given
open Go.RowKit Go.Proofs.YtgkebfeggekkgaaDoor.PT Go.Proofs.YtgkebfeggekkgaaDoorW.PrintWords Go.Proofs.YtgkebfeggekkgaaDoorW.PrintLast Go.Proofs.YtgkebfeggekkgaaDoorW.PrintMore

theorem gin69 : GuardIn 69 := fun args w => by simp [go_sem]
theorem gin61 : GuardIn 61 := fun args w => by simp [go_sem]
theorem gin49 : GuardIn 49 := fun args w => by simp [go_sem]
theorem res34 : DoorResults Tryd.f34 4 5 := by
  intro t W g x u h2 h3 c0 c1
  have hu4 := Tryd.underlying4
  have hu25 := Tryd.underlying25
  have e2 : t[4]?.getD undef = .pointer (some ⟨g, 0, none⟩) := by simpa [Array.getD_eq_getD_getElem?] using h2
  have e3 : t[5]?.getD undef = .pointer (some ⟨g + 1, 0, none⟩) := by simpa [Array.getD_eq_getD_getElem?] using h3
  simp [results, Tryd.results34, go_sem, e2, e3, c0, c1]
/-- two patterns, side by side in a new row -/
theorem C_two {w : World} {A0 A1 : Option Addr} {c0 c1 : Nat} {l0 l1 : List S31} (hr0 : Kd.C k31 w A0 l0.length l0) (hc0 : l0.length ≤ c0) (hr1 : Kd.C k31 w A1 l1.length l1) (hc1 : l1.length ≤ c1) :
    Kd.C (Kd.slice 31 k31) (w.alloc (.cells #[.slice A0 l0.length c0, .slice A1 l1.length c1] 24)) (some ⟨w.heap.size, 0, none⟩) [l0, l1].length [l0, l1] := by
  refine ⟨rfl, by simp, fun _ => ⟨_, rfl, fun j y hj => ?_⟩⟩
  rcases j with _ | _ | j
  · obtain rfl : l0 = y := by simpa using hj
    refine ⟨[.slice A0 l0.length c0], rfl, ⟨A0, c0, rfl, hc0, Kd.C_alloc hr0 _⟩, fun i v hv => ?_⟩
    have hi0 : i = 0 := by
      rcases i with _ | i
      · rfl
      · simp at hv
    subst hi0
    obtain rfl : Value.slice A0 l0.length c0 = v := by simpa using hv
    simp [Addr.add, go_sem, Kd.slice]
  · obtain rfl : l1 = y := by simpa using hj
    refine ⟨[.slice A1 l1.length c1], rfl, ⟨A1, c1, rfl, hc1, Kd.C_alloc hr1 _⟩, fun i v hv => ?_⟩
    have hi0 : i = 0 := by
      rcases i with _ | i
      · rfl
      · simp at hv
    subst hi0
    obtain rfl : Value.slice A1 l1.length c1 = v := by simpa using hv
    simp [Addr.add, go_sem, Kd.slice]
  · simp at hj
theorem below_door {Z : Value} {t : TypeId} {w w1 : World} {o : Obj} (h : Below ((wD Z t w).alloc o).heap.size ((wD Z t w).alloc o) w1) : Below (w.heap.size + 2) (wD Z t w) w1 :=
  ((Below.refl _ _).alloc (by rw [wD_size]; exact Nat.le_refl _) _).trans (h.mono (by simp [wD]))
section
variable {A0 A1 : Option Addr} {c0 c1 : Nat} {l0 l1 : List S31} {w : World} (Z : Value) (t : TypeId) (hr0 : Kd.C k31 w A0 l0.length l0) (hc0 : l0.length ≤ c0) (hr1 : Kd.C k31 w A1 l1.length l1) (hc1 : l1.length ≤ c1)
include hr0 hc0 hr1 hc1
theorem valid2_bad (z : Int) (hz : validL [l0, l1] = z) (h : ¬ z = 0) :
    Calls Tryd.prog 62 #[.slice (some ⟨w.heap.size + 1 + 1, 0, none⟩) 2 2] (((w.alloc (.cells #[Z] t)).alloc (.cells #[.int .i64 0] 25)).alloc (.cells #[.slice A0 l0.length c0, .slice A1 l1.length c1] 24)) fun e w' =>
      e = .panicked (failE z) ∧ Rd w.heap.size w w' Z (.int .i64 0) := by
  have hC := C_two (Kd.C_below hr0 (wD_below Z t w)) hc0 (Kd.C_below hr1 (wD_below Z t w)) hc1
  have e : (wD Z t w).heap.size = w.heap.size + 1 + 1 := by simp [wD]
  have := valid_bad _ 2 [l0, l1] _ hC (Nat.le_refl _) z hz h
  rw [e] at this
  exact this.mono fun _ _ ⟨h1, h2⟩ => ⟨h1, Rd_of (below_door h2)⟩
theorem valid2_ok (hz : validL [l0, l1] = 0) :
    Calls Tryd.prog 62 #[.slice (some ⟨w.heap.size + 1 + 1, 0, none⟩) 2 2] (((w.alloc (.cells #[Z] t)).alloc (.cells #[.int .i64 0] 25)).alloc (.cells #[.slice A0 l0.length c0, .slice A1 l1.length c1] 24)) fun e w' =>
      e = .returned (.tuple #[]) ∧ Rd w.heap.size w w' Z (.int .i64 0) := by
  have hC := C_two (Kd.C_below hr0 (wD_below Z t w)) hc0 (Kd.C_below hr1 (wD_below Z t w)) hc1
  have e : (wD Z t w).heap.size = w.heap.size + 1 + 1 := by simp [wD]
  have := valid_ok _ 2 [l0, l1] _ hC (Nat.le_refl _) hz
  rw [e] at this
  exact this.mono fun _ _ ⟨h1, h2⟩ => ⟨h1, Rd_of (below_door h2)⟩
end
theorem Rd.keep {g : Nat} {w W W' : World} {x u : Value} (h : Rd g w W x u) (hb : Below W.heap.size W W') (hg : w.heap.size ≤ g) : Rd g w W' x u := by
  obtain ⟨hB, c0, c1, f0, f1⟩ := h
  have lt1 := World.block_lt_of_cell? W _ c0
  have lt2 := World.block_lt_of_cell? W _ c1
  simp only [] at lt1 lt2
  exact ⟨hB.trans (hb.mono (by omega)), (bcell hb lt1).trans c0, (bcell hb lt2).trans c1, (bfrozen hb lt1).trans f0, (bfrozen hb lt2).trans f1⟩
theorem door_stored {fn : Func} {gd : FuncId} {p q : Nat} {R : Ending → World → Prop} {w w2 : World} {a : Act} {x0 u0 x u : Value} (hin : GuardIn gd) (hid : GuardIdle gd) (hres : DoorResults fn p q) (h : Rd w.heap.size w w2 x0 u0)
    (hR : ∀ w', Below w.heap.size w w' → R (.returned (.tuple #[x, u])) w') (hd : a.defers = defsG gd w.heap.size) (h2 : a.tmps.getD p undef = .pointer (some ⟨w.heap.size, 0, none⟩)) (h3 : a.tmps.getD q undef = .pointer (some ⟨w.heap.size + 1, 0, none⟩)) :
    bodyPostD Tryd.prog fn R .ret a ((w2.setCell ⟨w.heap.size, 0, none⟩ x).setCell ⟨w.heap.size + 1, 0, none⟩ u) := by
  obtain ⟨hB, c0, c1, f0, f1⟩ := h
  show Leaves _ _ _ _ _ _ _
  rw [hd]
  refine door_ends hin hid hres (x := x) (u := u) ?_ ?_ h2 h3 (hR _ ((hB.setCell (p := ⟨w.heap.size, 0, none⟩) (Nat.le_refl _) x).setCell (p := ⟨w.heap.size + 1, 0, none⟩) (by simp) u))
  all_goals simp [go_sem, c0, c1]
set_option maxRecDepth 100000 in
set_option maxHeartbeats 1000000 in
theorem conforms_bad (A0 : Option Addr) (c0 : Nat) (l0 : List S31) (A1 : Option Addr) (c1 : Nat) (l1 : List S31) (w : World) (hr0 : Kd.C k31 w A0 l0.length l0) (hc0 : l0.length ≤ c0) (hr1 : Kd.C k31 w A1 l1.length l1) (hc1 : l1.length ≤ c1) (z : Int) (hz : validL [l0, l1] = z) (h : ¬ z = 0) :
    Calls Tryd.prog 34 #[.slice A0 l0.length c0, .slice A1 l1.length c1] w fun e w' => e = .returned (.tuple #[.bool false, .int .i64 z]) ∧ Below w.heap.size w w' := by
  have HV := Aside0.mk (valid2_bad (.bool false) 4 hr0 hc0 hr1 hc1 z hz h)
  clear hz h hr0 hr1
  go_enter_defers Tryd.func34, Tryd.ntmps34
  go_wp2_with (first | (go_at_call 62; (with_reducible refine HV.out.mono ?_); rintro e w1 ⟨rfl, hb1⟩))
  exact door_fails (fn := Tryd.f34) (p := 4) (q := 5) gin69 guardBool_fails res34 (fun w' hb => ⟨rfl, hb⟩) (Nat.le_refl _) hb1 rfl rfl rfl
set_option maxRecDepth 100000 in
set_option maxHeartbeats 1000000 in
theorem conforms_ok (A0 : Option Addr) (c0 : Nat) (l0 : List S31) (A1 : Option Addr) (c1 : Nat) (l1 : List S31) (w : World) (hr0 : Kd.C k31 w A0 l0.length l0) (hc0 : l0.length ≤ c0) (hr1 : Kd.C k31 w A1 l1.length l1) (hc1 : l1.length ≤ c1) (hz : validL [l0, l1] = 0) :
    Calls Tryd.prog 34 #[.slice A0 l0.length c0, .slice A1 l1.length c1] w fun e w' => e = .returned (.tuple #[.bool (conformsB l0 l1), .int .i64 0]) ∧ Below w.heap.size w w' := by
  have HV := Aside0.mk (valid2_ok (.bool false) 4 hr0 hc0 hr1 hc1 hz)
  have HN := Aside0.mk (fun W (hb : Rd w.heap.size w W (.bool false) (.int .i64 0)) => (conforms_calls A0 c0 l0 A1 c1 l1 W (Kd.C_below hr0 hb.1) hc0 (Kd.C_below hr1 hb.1) hc1 (checkL_small (validL_two_ok hz).1)).mono (R' := fun e w' => e = .returned (.bool (conformsB l0 l1)) ∧ Rd w.heap.size w w' (.bool false) (.int .i64 0)) fun e w' ⟨h1, h2⟩ => ⟨h1, hb.keep h2.below (Nat.le_refl _)⟩)
  have hu4 := Tryd.underlying4
  have hu25 := Tryd.underlying25
  clear hz hr0 hr1
  go_enter_defers Tryd.func34, Tryd.ntmps34
  go_wp2_with (first | (go_at_call 62; (with_reducible refine HV.out.mono ?_); rintro e w1 ⟨rfl, hb1⟩) | (go_at_call 54; (with_reducible refine (HN.out _ hb1).mono ?_); rintro e w2 ⟨rfl, hb2⟩; have HB2 := Aside0.mk hb2; obtain ⟨_, d0, d1, g0, g1⟩ := hb2))
  exact door_stored (fn := Tryd.f34) (p := 4) (q := 5) gin69 guardBool_idle res34 HB2.out (fun w' hb => ⟨rfl, hb⟩) rfl rfl rfl
def pattern_Conforms.f (q p : List S31) : Option (Bool × Int) := if validL [q, p] = 0 then some (conformsB q p, 0) else some (false, validL [q, p])
theorem pattern_Conforms.calls (A0 : Option Addr) (c0 : Nat) (l0 : List S31) (A1 : Option Addr) (c1 : Nat) (l1 : List S31) (r1 : Bool) (r2 : Int) (w : World) (hr0 : Kd.C k31 w A0 l0.length l0) (hc0 : l0.length ≤ c0) (hr1 : Kd.C k31 w A1 l1.length l1) (hc1 : l1.length ≤ c1) (h : pattern_Conforms.f l0 l1 = some (r1, r2)) :
    Calls Tryd.prog 34 #[.slice A0 l0.length c0, .slice A1 l1.length c1] w fun e w' => e = .returned (.tuple #[.bool r1, .int .i64 r2]) ∧ Below w.heap.size w w' := by
  unfold pattern_Conforms.f at h
  by_cases hz : validL [l0, l1] = 0
  · rw [if_pos hz] at h
    cases h
    exact conforms_ok A0 c0 l0 A1 c1 l1 w hr0 hc0 hr1 hc1 hz
  · rw [if_neg hz] at h
    cases h
    exact conforms_bad A0 c0 l0 A1 c1 l1 w hr0 hc0 hr1 hc1 _ rfl hz
theorem res26 : DoorResults Tryd.f26 4 5 := by
  intro t W g x u h2 h3 c0 c1
  have hu3 := Tryd.underlying3
  have hu25 := Tryd.underlying25
  have e2 : t[4]?.getD undef = .pointer (some ⟨g, 0, none⟩) := by simpa [Array.getD_eq_getD_getElem?] using h2
  have e3 : t[5]?.getD undef = .pointer (some ⟨g + 1, 0, none⟩) := by simpa [Array.getD_eq_getD_getElem?] using h3
  simp [results, Tryd.results26, go_sem, e2, e3, c0, c1]
set_option maxRecDepth 100000 in
set_option maxHeartbeats 1000000 in
theorem needs_bad (A0 : Option Addr) (c0 : Nat) (l0 : List S31) (A1 : Option Addr) (c1 : Nat) (l1 : List S31) (w : World) (hr0 : Kd.C k31 w A0 l0.length l0) (hc0 : l0.length ≤ c0) (hr1 : Kd.C k31 w A1 l1.length l1) (hc1 : l1.length ≤ c1) (z : Int) (hz : validL [l0, l1] = z) (h : ¬ z = 0) :
    Calls Tryd.prog 26 #[.slice A0 l0.length c0, .slice A1 l1.length c1] w fun e w' => e = .returned (.tuple #[.int .i64 0, .int .i64 z]) ∧ Below w.heap.size w w' := by
  have HV := Aside0.mk (valid2_bad (.int .i64 0) 3 hr0 hc0 hr1 hc1 z hz h)
  clear hz h hr0 hr1
  go_enter_defers Tryd.func26, Tryd.ntmps26
  go_wp2_with (first | (go_at_call 62; (with_reducible refine HV.out.mono ?_); rintro e w1 ⟨rfl, hb1⟩))
  exact door_fails (fn := Tryd.f26) (p := 4) (q := 5) gin61 guardInt_fails res26 (fun w' hb => ⟨rfl, hb⟩) (Nat.le_refl _) hb1 rfl rfl rfl
def needsZ (s t : List S31) : Int := if conformsB s t = true then 0 else if conformsB t s = true then 1 else 2
set_option maxRecDepth 100000 in
set_option maxHeartbeats 1000000 in
theorem needs_ok (A0 : Option Addr) (c0 : Nat) (l0 : List S31) (A1 : Option Addr) (c1 : Nat) (l1 : List S31) (w : World) (hr0 : Kd.C k31 w A0 l0.length l0) (hc0 : l0.length ≤ c0) (hr1 : Kd.C k31 w A1 l1.length l1) (hc1 : l1.length ≤ c1) (hz : validL [l0, l1] = 0) :
    Calls Tryd.prog 26 #[.slice A0 l0.length c0, .slice A1 l1.length c1] w fun e w' => e = .returned (.tuple #[.int .i64 (needsZ l0 l1), .int .i64 0]) ∧ Below w.heap.size w w' := by
  have HV := Aside0.mk (valid2_ok (.int .i64 0) 3 hr0 hc0 hr1 hc1 hz)
  have HN := Aside0.mk (fun W (hb : Rd w.heap.size w W (.int .i64 0) (.int .i64 0)) => (conforms_calls A0 c0 l0 A1 c1 l1 W (Kd.C_below hr0 hb.1) hc0 (Kd.C_below hr1 hb.1) hc1 (checkL_small (validL_two_ok hz).1)).mono (R' := fun e w' => e = .returned (.bool (conformsB l0 l1)) ∧ Rd w.heap.size w w' (.int .i64 0) (.int .i64 0)) fun e w' ⟨h1, h2⟩ => ⟨h1, hb.keep h2.below (Nat.le_refl _)⟩)
  have HM := Aside0.mk (fun W (hb : Rd w.heap.size w W (.int .i64 0) (.int .i64 0)) => (conforms_calls A1 c1 l1 A0 c0 l0 W (Kd.C_below hr1 hb.1) hc1 (Kd.C_below hr0 hb.1) hc0 (checkL_small (validL_two_ok hz).2)).mono (R' := fun e w' => e = .returned (.bool (conformsB l1 l0)) ∧ Rd w.heap.size w w' (.int .i64 0) (.int .i64 0)) fun e w' ⟨h1, h2⟩ => ⟨h1, hb.keep h2.below (Nat.le_refl _)⟩)
  have hu3 := Tryd.underlying3
  have hu25 := Tryd.underlying25
  have HZ : Aside0 (needsZ l0 l1 = if conformsB l0 l1 = true then 0 else if conformsB l1 l0 = true then 1 else 2) := ⟨rfl⟩
  clear hz hr0 hr1
  generalize conformsB l0 l1 = b at HN HZ
  generalize conformsB l1 l0 = d at HM HZ
  generalize needsZ l0 l1 = n at HZ
  cases b with
  | true =>
    go_enter_defers Tryd.func26, Tryd.ntmps26
    go_wp2_with (first | (go_at_call 62; (with_reducible refine HV.out.mono ?_); rintro e w1 ⟨rfl, hb1⟩) | (go_at_call 54; (with_reducible refine (HN.out _ hb1).mono ?_); rintro e w2 ⟨rfl, hb2⟩; have HB2 := Aside0.mk hb2; obtain ⟨_, d0, d1, g0, g1⟩ := hb2))
    exact door_stored (fn := Tryd.f26) (p := 4) (q := 5) gin61 guardInt_idle res26 HB2.out (fun w' hb => ⟨by rw [HZ.out]; rfl, hb⟩) rfl rfl rfl
  | false =>
    cases d with
    | true =>
      go_enter_defers Tryd.func26, Tryd.ntmps26
      go_wp2_with (first | (go_at_call 62; (with_reducible refine HV.out.mono ?_); rintro e w1 ⟨rfl, hb1⟩) | (go_at_call 54; (with_reducible refine (HN.out _ hb1).mono ?_); rintro e w2 ⟨rfl, hb2⟩) | (go_at_call 54; (with_reducible refine (HM.out _ hb2).mono ?_); rintro e w3 ⟨rfl, hb3⟩; have HB2 := Aside0.mk hb3; obtain ⟨_, d0, d1, g0, g1⟩ := hb3))
      exact door_stored (fn := Tryd.f26) (p := 4) (q := 5) gin61 guardInt_idle res26 HB2.out (fun w' hb => ⟨by rw [HZ.out]; rfl, hb⟩) rfl rfl rfl
    | false =>
      go_enter_defers Tryd.func26, Tryd.ntmps26
      go_wp2_with (first | (go_at_call 62; (with_reducible refine HV.out.mono ?_); rintro e w1 ⟨rfl, hb1⟩) | (go_at_call 54; (with_reducible refine (HN.out _ hb1).mono ?_); rintro e w2 ⟨rfl, hb2⟩) | (go_at_call 54; (with_reducible refine (HM.out _ hb2).mono ?_); rintro e w3 ⟨rfl, hb3⟩; have HB2 := Aside0.mk hb3; obtain ⟨_, d0, d1, g0, g1⟩ := hb3))
      exact door_stored (fn := Tryd.f26) (p := 4) (q := 5) gin61 guardInt_idle res26 HB2.out (fun w' hb => ⟨by rw [HZ.out]; rfl, hb⟩) rfl rfl rfl
def pattern_Needs.f (s t : List S31) : Option (Int × Int) := if validL [s, t] = 0 then some (needsZ s t, 0) else some (0, validL [s, t])
theorem pattern_Needs.calls (A0 : Option Addr) (c0 : Nat) (l0 : List S31) (A1 : Option Addr) (c1 : Nat) (l1 : List S31) (r1 : Int) (r2 : Int) (w : World) (hr0 : Kd.C k31 w A0 l0.length l0) (hc0 : l0.length ≤ c0) (hr1 : Kd.C k31 w A1 l1.length l1) (hc1 : l1.length ≤ c1) (h : pattern_Needs.f l0 l1 = some (r1, r2)) :
    Calls Tryd.prog 26 #[.slice A0 l0.length c0, .slice A1 l1.length c1] w fun e w' => e = .returned (.tuple #[.int .i64 r1, .int .i64 r2]) ∧ Below w.heap.size w w' := by
  unfold pattern_Needs.f at h
  by_cases hz : validL [l0, l1] = 0
  · rw [if_pos hz] at h
    cases h
    exact needs_ok A0 c0 l0 A1 c1 l1 w hr0 hc0 hr1 hc1 hz
  · rw [if_neg hz] at h
    cases h
    exact needs_bad A0 c0 l0 A1 c1 l1 w hr0 hc0 hr1 hc1 _ rfl hz
end Go.Proofs.YtgkebfeggekkgaaDoor.Given
