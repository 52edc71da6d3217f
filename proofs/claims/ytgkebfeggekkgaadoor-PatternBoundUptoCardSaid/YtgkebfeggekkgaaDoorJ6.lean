/- The contracts of slices.Clone, slices.Grow and slices.Concat at patterns, and of extended, Common and Extend. -/
import Derived.Test.YtgkebfeggekkgaaDoorHc
import Derived.Lib.AppendZeros
import Derived.Lib.LazyBuf
section
set_option linter.unusedVariables false
set_option linter.unusedSimpArgs false
namespace Go.Proofs.YtgkebfeggekkgaaDoor.Given
open Go.RowKit Go.Proofs.YtgkebfeggekkgaaDoor.PT Go.Proofs.YtgkebfeggekkgaaDoorW.PrintWords Go.Proofs.YtgkebfeggekkgaaDoorW.PrintLast Go.Proofs.YtgkebfeggekkgaaDoorW.PrintMore

/-- a row without elements, with room or none, in a block of its own -/
theorem R_room {W : World} {base g cap : Nat} {cur : Array Value} (hg : base ≤ g) (hh : W.heap[g]? = some (.cells cur 31 (0, 0))) (hc : cap ≤ maxLen) (hs : cur.size = cap * 3) : Kd.R k31 31 W base (fun _ => True) (.slice (some ⟨g, 0, none⟩) 0 cap) [] :=
  ⟨fun _ _ => trivial, [], ⟨rfl, .inr ⟨g, cap, cur, rfl, hg, hh, Nat.zero_le _, hc, hs, by simp⟩⟩, Reps.none _ _⟩
theorem R_new (w : World) : Kd.R k31 31 (w.alloc (.cells #[] 31)) w.heap.size (fun _ => True) (.slice (some ⟨w.heap.size, 0, none⟩) 0 0) [] :=
  R_room (cap := 0) (cur := #[]) (Nat.le_refl _) (by simp [World.alloc, -World.alloc_eq]) (Nat.zero_le _) rfl
theorem C_none {w : World} {l : List S31} (h : Kd.C k31 w none l.length l) : l = [] := by
  rcases Nat.eq_zero_or_pos l.length with h0 | h0
  · exact List.length_eq_zero_iff.1 h0
  · obtain ⟨ad, e, _⟩ := h.2.2 h0
    cases e
set_option maxRecDepth 100000 in
set_option maxHeartbeats 1000000 in
theorem clone_calls (A : Option Addr) (c : Nat) (l : List S31) (w : World) (hr : Kd.C k31 w A l.length l) (hc : l.length ≤ c) (hl : l.length ≤ 1000000000000) :
    Calls Tryd.prog 52 #[.slice A l.length c] w fun e w' => ∃ v, e = .returned v ∧ Kd.R k31 31 w' w.heap.size (fun _ => True) v l ∧ Below w.heap.size w w' := by
  have hu24 := Tryd.underlying24
  cases A with
  | none =>
    obtain rfl := C_none hr
    clear hr
    have hq : ∀ W, (binOp .eql 24 (.slice none 0 c) (.slice none 0 0)).run Tryd.prog W = .ok (.bool true) W := fun W => Go.run_eql_slice_nil W 24 31 none 0 c hu24
    go_enter Tryd.func52, Tryd.ntmps52
    go_wp2
    go_ret
    exact ⟨_, rfl, Kd.R_nil _ _ _ _ _, Below.refl _ _⟩
  | some ad =>
    have HR := Aside0.mk hr
    clear hr
    have hq : ∀ W, (binOp .eql 24 (.slice (some ad) l.length c) (.slice none 0 0)).run Tryd.prog W = .ok (.bool false) W := fun W => Go.run_eql_slice_nil W 24 31 (some ad) l.length c hu24
    go_enter Tryd.func52, Tryd.ntmps52
    go_wp2_with (first | ((with_reducible refine gate_builtin (b := .append) (xs := #[.tmp 5, .tmp 6]) rfl ?_); at_builtin; refine Kd.R_append_rows k31 (w0 := w) w.heap.size rfl (.tmp 5) (.tmp 6) 24 31 (.agg #[(.int .i64 0), (.int .i64 0), (.int .i64 0)]) 24 rfl Tryd.underlying24 info31 rfl (by decide) (by omega) (.slice (some ⟨w.heap.size, 0, none⟩) 0 0) ([] : List S31) l _ _ _ (fun _ => True) (fun _ => False) rfl rfl ?aO ?aR (fun _ _ h => h) (fun _ h => h.elim) ?aF ?aB ?aS ?aL ?_; (case aR => exact Kd.C_alloc HR.out _); (case aB => exact (Below.refl _ _).alloc (Nat.le_refl _) _); (case aF => exact (fun _ _ => trivial)); (case aO => exact R_new w); (case aS => simp); (case aL => simp; omega); intro v1 w5 ho hb hg hat; have HO := Aside0.mk ho; have HB := Aside0.mk hb; clear ho hb hg hat))
    go_ret
    exact ⟨_, rfl, HO.out, HB.out⟩
theorem clone_take (A : Option Addr) (c : Nat) (l : List S31) (n : Nat) (w : World) (hr : Kd.C k31 w A l.length l) (hn : n ≤ l.length) (hc : l.length ≤ c) (hl : l.length ≤ 1000000000000) :
    Calls Tryd.prog 52 #[.slice A n c] w fun e w' => ∃ v, e = .returned v ∧ Kd.R k31 31 w' w.heap.size (fun _ => True) v (l.take n) ∧ Below w.heap.size w w' := by
  have e : (l.take n).length = n := by rw [List.length_take, Nat.min_eq_left hn]
  have := clone_calls A c (l.take n) w (Kd.C_take hr hn) (by omega) (by omega)
  rw [e] at this
  exact this
theorem door_stored' {fn : Func} {gd : FuncId} {p q : Nat} {R : Ending → World → Prop} {w w2 : World} {a : Act} {x0 u0 x u : Value} (hin : GuardIn gd) (hid : GuardIdle gd) (hres : DoorResults fn p q) (h : Rd w.heap.size w w2 x0 u0)
    (hR : Below w.heap.size w ((w2.setCell ⟨w.heap.size, 0, none⟩ x).setCell ⟨w.heap.size + 1, 0, none⟩ u) → R (.returned (.tuple #[x, u])) ((w2.setCell ⟨w.heap.size, 0, none⟩ x).setCell ⟨w.heap.size + 1, 0, none⟩ u)) (hd : a.defers = defsG gd w.heap.size) (h2 : a.tmps.getD p undef = .pointer (some ⟨w.heap.size, 0, none⟩)) (h3 : a.tmps.getD q undef = .pointer (some ⟨w.heap.size + 1, 0, none⟩)) :
    bodyPostD Tryd.prog fn R .ret a ((w2.setCell ⟨w.heap.size, 0, none⟩ x).setCell ⟨w.heap.size + 1, 0, none⟩ u) := by
  obtain ⟨hB, c0, c1, f0, f1⟩ := h
  show Leaves _ _ _ _ _ _ _
  rw [hd]
  refine door_ends hin hid hres (x := x) (u := u) ?_ ?_ h2 h3 (hR ((hB.setCell (p := ⟨w.heap.size, 0, none⟩) (Nat.le_refl _) x).setCell (p := ⟨w.heap.size + 1, 0, none⟩) (by simp) u))
  all_goals simp [go_sem, c0, c1]
/-- a row made behind the door's cells stands when these are written -/
theorem R_stored {w W : World} {base : Nat} {v x u : Value} {l : List S31} (h : Kd.R k31 31 W base (fun _ => True) v l) (hb : w.heap.size + 2 ≤ base) :
    Kd.R k31 31 ((W.setCell ⟨w.heap.size, 0, none⟩ x).setCell ⟨w.heap.size + 1, 0, none⟩ u) w.heap.size (fun _ => True) v l := by
  have h1 := Kd.R_bound h
  have h2 := Kd.R_far h1 (p := ⟨w.heap.size, 0, none⟩) (fun k hk => by have := hk.2.1; simp only; omega) x
  have h3 := Kd.R_far h2 (p := ⟨w.heap.size + 1, 0, none⟩) (fun k hk => by have := hk.2.1; simp only; omega) u
  exact Kd.R_lower (Kd.R_mono h3 (fun _ _ => trivial)) (by omega)
theorem res31 : DoorResults Tryd.f31 4 5 := by
  intro t W g x u h2 h3 c0 c1
  have hu24 := Tryd.underlying24
  have hu25 := Tryd.underlying25
  have e2 : t[4]?.getD undef = .pointer (some ⟨g, 0, none⟩) := by simpa [Array.getD_eq_getD_getElem?] using h2
  have e3 : t[5]?.getD undef = .pointer (some ⟨g + 1, 0, none⟩) := by simpa [Array.getD_eq_getD_getElem?] using h3
  simp [results, Tryd.results31, go_sem, e2, e3, c0, c1]
theorem common_calls (A0 : Option Addr) (c0 : Nat) (l0 : List S31) (A1 : Option Addr) (c1 : Nat) (l1 : List S31) (w : World) (hr0 : Kd.C k31 w A0 l0.length l0) (hc0 : l0.length ≤ c0) (hr1 : Kd.C k31 w A1 l1.length l1) (hc1 : l1.length ≤ c1) (hl : l0.length ≤ 40) :
    Calls Tryd.prog 67 #[.slice A0 l0.length c0, .slice A1 l1.length c1] w fun e w' => e = .returned (.int .i64 (commonN l0 l1 : Nat)) ∧ Drawn0 w w' :=
  api_PatPart.calls (l0.length + 1) A0 c0 l0 A1 c1 l1 _ w hr0 hc0 hr1 hc1 (common_f l0 l1 (by omega) _ (by omega))
def PatsPost (w : World) (l : List S31) (z : Int) (e : Ending) (w' : World) : Prop := ∃ v, e = .returned (.tuple #[v, .int .i64 z]) ∧ Kd.R k31 31 w' w.heap.size (fun _ => True) v l ∧ Below w.heap.size w w'
set_option maxRecDepth 100000 in
set_option maxHeartbeats 1000000 in
theorem common_bad (A0 : Option Addr) (c0 : Nat) (l0 : List S31) (A1 : Option Addr) (c1 : Nat) (l1 : List S31) (w : World) (hr0 : Kd.C k31 w A0 l0.length l0) (hc0 : l0.length ≤ c0) (hr1 : Kd.C k31 w A1 l1.length l1) (hc1 : l1.length ≤ c1) (z : Int) (hz : validL [l0, l1] = z) (h : ¬ z = 0) :
    Calls Tryd.prog 31 #[.slice A0 l0.length c0, .slice A1 l1.length c1] w (PatsPost w [] z) := by
  have HV := Aside0.mk (valid2_bad (.slice none 0 0) 24 hr0 hc0 hr1 hc1 z hz h)
  clear hz h hr0 hr1
  go_enter_defers Tryd.func31, Tryd.ntmps31
  go_wp2_with (first | (go_at_call 62; (with_reducible refine HV.out.mono ?_); rintro e w1 ⟨rfl, hb1⟩))
  exact door_fails (fn := Tryd.f31) (p := 4) (q := 5) gin49 guardPats_fails res31 (fun w' hb => ⟨_, rfl, Kd.R_nil _ _ _ _ _, hb⟩) (Nat.le_refl _) hb1 rfl rfl rfl
theorem slice_high {A : Option Addr} {l n c : Nat} (W : World) (hn : n ≤ l) (hc : l ≤ c) (hA : A = none → l = 0) : (Instr.sliceAt 24 (.slice A l c) none (some (.int .i64 n)) none).run Tryd.prog W = .ok (.slice A n c) W := by
  have hu24 := Tryd.underlying24
  cases A with
  | none =>
    obtain rfl := hA rfl
    obtain rfl : n = 0 := by omega
    go_simp
  | some ad =>
    go_simp
    intro h
    omega
set_option maxRecDepth 100000 in
set_option maxHeartbeats 1000000 in
theorem common_ok (A0 : Option Addr) (c0 : Nat) (l0 : List S31) (A1 : Option Addr) (c1 : Nat) (l1 : List S31) (w : World) (hr0 : Kd.C k31 w A0 l0.length l0) (hc0 : l0.length ≤ c0) (hr1 : Kd.C k31 w A1 l1.length l1) (hc1 : l1.length ≤ c1) (hz : validL [l0, l1] = 0) :
    Calls Tryd.prog 31 #[.slice A0 l0.length c0, .slice A1 l1.length c1] w (PatsPost w (l0.take (commonN l0 l1)) 0) := by
  have hs := checkL_small (validL_two_ok hz).1
  have hn := (commonN_le l0 l1).1
  have HV := Aside0.mk (valid2_ok (.slice none 0 0) 24 hr0 hc0 hr1 hc1 hz)
  have HN := Aside0.mk (fun W (hb : Rd w.heap.size w W (.slice none 0 0) (.int .i64 0)) => (common_calls A0 c0 l0 A1 c1 l1 W (Kd.C_below hr0 hb.1) hc0 (Kd.C_below hr1 hb.1) hc1 hs).mono (R' := fun e w' => e = .returned (.int .i64 (commonN l0 l1 : Nat)) ∧ Rd w.heap.size w w' (.slice none 0 0) (.int .i64 0)) fun e w' ⟨h1, h2⟩ => ⟨h1, hb.keep h2.below (Nat.le_refl _)⟩)
  have hsl : ∀ W, (Instr.sliceAt 24 (.slice A0 l0.length c0) none (some (.int .i64 (commonN l0 l1 : Nat))) none).run Tryd.prog W = .ok (.slice A0 (commonN l0 l1) c0) W := fun W => slice_high W hn hc0 (fun e => by subst e; rw [C_none hr0]; rfl)
  have HC := Aside0.mk (fun W (hb : Rd w.heap.size w W (.slice none 0 0) (.int .i64 0)) => (clone_take A0 c0 l0 (commonN l0 l1) W (Kd.C_below hr0 hb.1) hn hc0 (by omega)).mono (R' := fun e w' => ∃ v, e = .returned v ∧ Kd.R k31 31 w' W.heap.size (fun _ => True) v (l0.take (commonN l0 l1)) ∧ w.heap.size + 2 ≤ W.heap.size ∧ Rd w.heap.size w w' (.slice none 0 0) (.int .i64 0))
    fun e w' ⟨v, h1, h2, h3⟩ => ⟨v, h1, h2, by have := World.block_lt_of_cell? W _ hb.2.2.1; simp only [] at this; omega, hb.keep h3 (Nat.le_refl _)⟩)
  have hu24 := Tryd.underlying24
  have hu25 := Tryd.underlying25
  clear hz hr0 hr1 hs hn
  generalize commonN l0 l1 = n at HN HC hsl
  go_enter_defers Tryd.func31, Tryd.ntmps31
  go_wp2_with (first | (go_at_call 62; (with_reducible refine HV.out.mono ?_); rintro e w1 ⟨rfl, hb1⟩) | (go_at_call 67; (with_reducible refine (HN.out _ hb1).mono ?_); rintro e w2 ⟨rfl, hb2⟩) | (go_at_call 52; (with_reducible refine (HC.out _ hb2).mono ?_); rintro e w3 ⟨v, rfl, hR, hsz, hb3⟩; obtain ⟨A2, c2, rfl, _, _⟩ := hR.2.reads; generalize (l0.take n).length = n2 at hR; have HR := Aside0.mk hR; have HB3 := Aside0.mk hb3; obtain ⟨_, d0, d1, g0, g1⟩ := hb3; clear hR))
  exact door_stored' (fn := Tryd.f31) (p := 4) (q := 5) gin49 guardPats_idle res31 HB3.out (fun hb => ⟨_, rfl, R_stored HR.out hsz, hb⟩) rfl rfl rfl
def pattern_Common.f (p q : List S31) : Option (List S31 × Int) := if validL [p, q] = 0 then some (p.take (commonN p q), 0) else some ([], validL [p, q])
theorem pattern_Common.calls (A0 : Option Addr) (c0 : Nat) (l0 : List S31) (A1 : Option Addr) (c1 : Nat) (l1 : List S31) (r1 : List S31) (r2 : Int) (w : World) (hr0 : Kd.C k31 w A0 l0.length l0) (hc0 : l0.length ≤ c0) (hr1 : Kd.C k31 w A1 l1.length l1) (hc1 : l1.length ≤ c1) (h : pattern_Common.f l0 l1 = some (r1, r2)) :
    Calls Tryd.prog 31 #[.slice A0 l0.length c0, .slice A1 l1.length c1] w fun e w' => ∃ v0_ : Value, e = .returned (.tuple #[v0_, .int .i64 r2]) ∧ Kd.R k31 31 w' w.heap.size (fun _ => True) v0_ r1 ∧ Below w.heap.size w w' := by
  unfold pattern_Common.f at h
  by_cases hz : validL [l0, l1] = 0
  · rw [if_pos hz] at h
    cases h
    exact common_ok A0 c0 l0 A1 c1 l1 w hr0 hc0 hr1 hc1 hz
  · rw [if_neg hz] at h
    cases h
    exact common_bad A0 c0 l0 A1 c1 l1 w hr0 hc0 hr1 hc1 _ rfl hz
end Go.Proofs.YtgkebfeggekkgaaDoor.Given
end
section
/- The contract of actions. -/
set_option linter.unusedVariables false
set_option linter.unusedSimpArgs false
namespace Go.Proofs.YtgkebfeggekkgaaDoor.Given
open Go.RowKit Go.Proofs.YtgkebfeggekkgaaDoor.PT Go.Proofs.YtgkebfeggekkgaaDoorW.PrintWords Go.Proofs.YtgkebfeggekkgaaDoorW.PrintLast Go.Proofs.YtgkebfeggekkgaaDoorW.PrintMore

abbrev kI : Kd Int := Kd.int .i64
theorem cells_int {w : World} {A : Option Addr} {xs : List Int} (h : Kd.C kI w A xs.length xs) (h0 : 0 < xs.length) :
    ∃ bk o, A = some ⟨bk, o, none⟩ ∧ bk < w.heap.size ∧ ∀ (j : Nat) x, xs[j]? = some x → w.cell? ⟨bk, o + j, none⟩ = some (.int .i64 x) := by
  obtain ⟨ad, e, hc⟩ := h.2.2 h0
  have hcell : ∀ (j : Nat) x, xs[j]? = some x → w.cell? (ad.add j) = some (.int .i64 x) := by
    intro j x hj
    obtain ⟨c, hl, hr, hx⟩ := hc j x hj
    have hr' : c = [Value.int .i64 x] := hr
    subst hr'
    have := hx 0 (.int .i64 x) rfl
    simpa [kI, Kd.int, Kd.scalar] using this
  obtain ⟨b, o, sp⟩ := ad
  have h1 := hcell 0 xs[0] (List.getElem?_eq_getElem h0)
  have hlt := World.block_lt_of_cell? w _ h1
  simp only [Addr.add, if_true] at h1 hlt
  have hsp : sp = none := by
    cases sp with
    | none => rfl
    | some q =>
      unfold World.cell? at h1
      cases hb : w.heap[b]? with
      | none => simp [hb] at h1
      | some ob => cases ob <;> simp [hb] at h1
  subst hsp
  refine ⟨b, o, e, hlt, fun j x hj => ?_⟩
  have := hcell j x hj
  by_cases hj0 : j = 0
  · subst hj0; simpa [Addr.add] using this
  · simpa [Addr.add, hj0] using this
theorem C_noneI {w : World} {l : List Int} (h : Kd.C kI w none l.length l) : l = [] := by
  rcases Nat.eq_zero_or_pos l.length with h0 | h0
  · exact List.length_eq_zero_iff.1 h0
  · obtain ⟨ad, e, _⟩ := h.2.2 h0
    cases e
def negB (n : Int) : Bool := decide (n < -1)
theorem neg_calls (n : Int) (w : World) : Calls Tryd.prog 86 #[.int .i64 n] w fun e w' => e = .returned (.bool (negB n)) ∧ w = w' := by
  generalize hb : negB n = b
  have hd : decide (n < -1) = b := hb
  go_enter Tryd.func86, Tryd.ntmps86
  go_wp2
  go_ret
  exact ⟨rfl, rfl⟩
theorem neg_at (w : World) : PredAt Tryd.prog 86 #[] (fun n : Int => .int .i64 n) negB w := fun W x _ =>
  (neg_calls x W).mono fun e w' ⟨h1, h2⟩ => ⟨h1, 0, by rw [← h2]; rfl⟩
theorem contains_calls (A : Option Addr) (c : Nat) (l : List Int) (w : World) (hr : Kd.C kI w A l.length l) :
    Calls Tryd.prog 85 #[.slice A l.length c, .func (.func 86) #[] #[]] w fun e w' => e = .returned (.bool (l.any negB)) ∧ Below w.heap.size w w' := by
  by_cases h0 : 0 < l.length
  · obtain ⟨bk, o, rfl, hbk, hcell⟩ := cells_int hr h0
    refine (Tryd.slices_ContainsFunc (fun n : Int => .int .i64 n) negB 86 #[] (fun args w => by simp [go_sem]) bk o l.length c l w (neg_at w) (Nat.le_refl _) hr.2.1 (fun j hj => ?_)).mono ?_
    · rw [hcell j l[j] (List.getElem?_eq_getElem hj)]
      simp [hj]
    · rintro e w' ⟨h1, q, rfl⟩
      rw [List.take_length] at h1
      exact ⟨h1, pw_below_drewN (Below.refl _ _) q⟩
  · obtain rfl : l = [] := by cases l <;> simp_all
    exact (Tryd.slices_ContainsFunc_empty (α := Int) A c _ w).mono fun e w' ⟨h1, h2⟩ => ⟨h1, h2 ▸ Below.refl _ _⟩
def actOk (b : Bool) (l : List Int) : Bool := (b || decide (l = [])) && !l.any negB
def actL (b : Bool) (l : List Int) : List Int := if b = true then l else [-1]
def ActPost (b : Bool) (l : List Int) (w : World) (e : Ending) (w' : World) : Prop := ∃ A' c', e = .returned (.slice A' (actL b l).length c') ∧ (actL b l).length ≤ c' ∧ Kd.C kI w' A' (actL b l).length (actL b l) ∧ Below w.heap.size w w'
theorem C_oneI (w : World) (n : Int) : Kd.C kI (w.alloc (.cells #[.int .i64 n] 3)) (some ⟨w.heap.size, 0, none⟩) 1 [n] := by
  refine ⟨rfl, by decide, fun _ => ⟨_, rfl, fun j y hj => ⟨[.int .i64 y], rfl, rfl, fun i v hv => ?_⟩⟩⟩
  have hj0 : j = 0 := by
    rcases j with _ | j
    · rfl
    · simp at hj
  subst hj0
  have hi0 : i = 0 := by
    rcases i with _ | i
    · rfl
    · simp at hv
  subst hi0
  have hy : n = y := by simpa using hj
  have hv' : Value.int .i64 y = v := by simpa using hv
  subst hy; subst hv'
  simp [Addr.add, go_sem]
set_option maxRecDepth 100000 in
set_option maxHeartbeats 2000000 in
theorem actions_bad (b : Bool) (A : Option Addr) (c : Nat) (l : List Int) (w : World) (hr : Kd.C kI w A l.length l) (hok : actOk b l = false) :
    Calls Tryd.prog 58 #[.agg #[.bool b, .slice A l.length c]] w fun e w' => e = .panicked (failE 1) ∧ Below w.heap.size w w' := by
  have hu39 := Tryd.underlying39
  have HCN := Aside0.mk (contains_calls A c l _ (Kd.C_alloc hr (.cells #[.bool b, .slice A l.length c] 39)))
  clear hr
  cases b with
  | false =>
    by_cases hl : l = []
    · subst hl
      exact absurd hok (by decide)
    · have hp : decide (0 < l.length) = true := decide_eq_true (List.length_pos_iff.2 hl)
      have hp2 : decide ((0 : Int) < (l.length : Int)) = true := decide_eq_true (by have := List.length_pos_iff.2 hl; omega)
      clear hok hl
      go_enter Tryd.func58, Tryd.ntmps58
      go_wp2_with (first | (go_at_call 51; (with_reducible refine (fail_true _ _).mono ?_); rintro e w2 ⟨rfl, rfl⟩))
      exact ⟨rfl, rfl, (Below.refl _ _).alloc (Nat.le_refl _) _⟩
  | true =>
    have ha : l.any negB = true := by simpa [actOk] using hok
    rw [ha] at HCN
    clear hok ha
    go_enter Tryd.func58, Tryd.ntmps58
    go_wp2_with (first | (go_at_call 85; (with_reducible refine HCN.out.mono ?_); rintro e w1 ⟨rfl, hb1⟩) | (go_at_call 51; (with_reducible refine (fail_true _ _).mono ?_); rintro e w2 ⟨rfl, rfl⟩))
    exact ⟨rfl, rfl, ((Below.refl _ _).alloc (Nat.le_refl _) _).trans (hb1.mono (by simp))⟩
set_option maxRecDepth 100000 in
set_option maxHeartbeats 2000000 in
theorem actions_ok (b : Bool) (A : Option Addr) (c : Nat) (l : List Int) (w : World) (hr : Kd.C kI w A l.length l) (hc : l.length ≤ c) (hok : actOk b l = true) :
    Calls Tryd.prog 58 #[.agg #[.bool b, .slice A l.length c]] w (ActPost b l w) := by
  have hu39 := Tryd.underlying39
  have HCN := Aside0.mk (contains_calls A c l _ (Kd.C_alloc hr (.cells #[.bool b, .slice A l.length c] 39)))
  have HR := Aside0.mk hr
  clear hr
  have ha : l.any negB = false := by
    unfold actOk at hok
    simp only [Bool.and_eq_true, Bool.not_eq_true'] at hok
    exact hok.2
  rw [ha] at HCN
  cases b with
  | false =>
    obtain rfl : l = [] := by simpa [actOk, ha] using hok
    clear hok ha
    simp only [List.length_nil] at HCN hc ⊢
    go_enter Tryd.func58, Tryd.ntmps58
    go_wp2_with (first | (go_at_call 85; (with_reducible refine HCN.out.mono ?_); rintro e w1 ⟨rfl, hb1⟩; have e0 := (bcell hb1 (b := w.heap.size) (o := 0) (by simp)).trans (show _ = some (.bool false) by simp [go_sem]); have HB1 := Aside0.mk hb1; clear hb1) | (go_at_call 51; (with_reducible refine (fail_false _ _).mono ?_); rintro e w2 ⟨rfl, rfl⟩))
    go_ret
    have hb := HB1.out
    have hsz := hb.size
    simp at hsz
    exact ⟨_, _, rfl, Nat.le_refl _, C_oneI _ _, (((Below.refl _ _).alloc (Nat.le_refl _) _).trans (hb.mono (by simp))).alloc (by omega) _⟩
  | true =>
    clear hok ha
    go_enter Tryd.func58, Tryd.ntmps58
    go_wp2_with (first | (go_at_call 85; (with_reducible refine HCN.out.mono ?_); rintro e w1 ⟨rfl, hb1⟩; have e0 := (bcell hb1 (b := w.heap.size) (o := 0) (by simp)).trans (show _ = some (.bool true) by simp [go_sem]); have e1 := (bcell hb1 (b := w.heap.size) (o := 1) (by simp)).trans (show _ = some (.slice A l.length c) by simp [go_sem]); have HB1 := Aside0.mk hb1; clear hb1) | (go_at_call 51; (with_reducible refine (fail_false _ _).mono ?_); rintro e w2 ⟨rfl, rfl⟩))
    go_ret
    have hb := ((Below.refl _ _).alloc (Nat.le_refl _) _).trans (HB1.out.mono (by simp))
    exact ⟨_, _, rfl, hc, Kd.C_below HR.out hb, hb⟩
end Go.Proofs.YtgkebfeggekkgaaDoor.Given
end
