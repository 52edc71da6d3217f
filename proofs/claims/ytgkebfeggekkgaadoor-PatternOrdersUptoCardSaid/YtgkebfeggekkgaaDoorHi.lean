/- The contract of actions. -/
import Derived.Test.YtgkebfeggekkgaaDoorHd
set_option linter.unusedVariables false
set_option linter.unusedSimpArgs false
namespace Go.Proofs.YtgkebfeggekkgaaDoor.Given
open Go.RowKit Go.Proofs.YtgkebfeggekkgaaDoor.PT Go.Proofs.YtgkebfeggekkgaaDoorW.PrintWords Go.Proofs.YtgkebfeggekkgaaDoorW.PrintLast Go.Proofs.YtgkebfeggekkgaaDoorW.PrintMore

abbrev kI : Kd Int := Kd.int .i64
theorem cells_int {w : World} {A : Option Addr} {xs : List Int} (h : Kd.C kI w A xs.length xs) (h0 : 0 < xs.length) :
    ∃ bk o, A = some ⟨bk, o, none⟩ ∧ bk < w.heap.size ∧ ∀ (j : Nat) x, xs[j]? = some x → w.cell? ⟨bk, o + j, none⟩ = some (.int .i64 x) := by
  obtain ⟨ad, e, hc⟩ := h.2.2 h0
  have hcell : ∀ (j : Nat) x, xs[j]? = some x → w.cell? (ad.add j) = some (.int .i64 x) := by
    intro j x hj
    obtain ⟨c, hl, hr, hx⟩ := hc j x hj
    have hr' : c = [Value.int .i64 x] := hr
    subst hr'
    have := hx 0 (.int .i64 x) rfl
    simpa [kI, Kd.int, Kd.scalar] using this
  obtain ⟨b, o, sp⟩ := ad
  have h1 := hcell 0 xs[0] (List.getElem?_eq_getElem h0)
  have hlt := World.block_lt_of_cell? w _ h1
  simp only [Addr.add, if_true] at h1 hlt
  have hsp : sp = none := by
    cases sp with
    | none => rfl
    | some q =>
      unfold World.cell? at h1
      cases hb : w.heap[b]? with
      | none => simp [hb] at h1
      | some ob => cases ob <;> simp [hb] at h1
  subst hsp
  refine ⟨b, o, e, hlt, fun j x hj => ?_⟩
  have := hcell j x hj
  by_cases hj0 : j = 0
  · subst hj0; simpa [Addr.add] using this
  · simpa [Addr.add, hj0] using this
theorem C_noneI {w : World} {l : List Int} (h : Kd.C kI w none l.length l) : l = [] := by
  rcases Nat.eq_zero_or_pos l.length with h0 | h0
  · exact List.length_eq_zero_iff.1 h0
  · obtain ⟨ad, e, _⟩ := h.2.2 h0
    cases e
def negB (n : Int) : Bool := decide (n < -1)
theorem neg_calls (n : Int) (w : World) : Calls Tryd.prog 86 #[.int .i64 n] w fun e w' => e = .returned (.bool (negB n)) ∧ w = w' := by
  generalize hb : negB n = b
  have hd : decide (n < -1) = b := hb
  go_enter Tryd.func86, Tryd.ntmps86
  go_wp2
  go_ret
  exact ⟨rfl, rfl⟩
theorem neg_at (w : World) : PredAt Tryd.prog 86 #[] (fun n : Int => .int .i64 n) negB w := fun W x _ =>
  (neg_calls x W).mono fun e w' ⟨h1, h2⟩ => ⟨h1, 0, by rw [← h2]; rfl⟩
theorem contains_calls (A : Option Addr) (c : Nat) (l : List Int) (w : World) (hr : Kd.C kI w A l.length l) :
    Calls Tryd.prog 85 #[.slice A l.length c, .func (.func 86) #[] #[]] w fun e w' => e = .returned (.bool (l.any negB)) ∧ Below w.heap.size w w' := by
  by_cases h0 : 0 < l.length
  · obtain ⟨bk, o, rfl, hbk, hcell⟩ := cells_int hr h0
    refine (Tryd.slices_ContainsFunc (fun n : Int => .int .i64 n) negB 86 #[] (fun args w => by simp [go_sem]) bk o l.length c l w (neg_at w) (Nat.le_refl _) hr.2.1 (fun j hj => ?_)).mono ?_
    · rw [hcell j l[j] (List.getElem?_eq_getElem hj)]
      simp [hj]
    · rintro e w' ⟨h1, q, rfl⟩
      rw [List.take_length] at h1
      exact ⟨h1, pw_below_drewN (Below.refl _ _) q⟩
  · obtain rfl : l = [] := by cases l <;> simp_all
    exact (Tryd.slices_ContainsFunc_empty (α := Int) A c _ w).mono fun e w' ⟨h1, h2⟩ => ⟨h1, h2 ▸ Below.refl _ _⟩
def actOk (b : Bool) (l : List Int) : Bool := (b || decide (l = [])) && !l.any negB
def actL (b : Bool) (l : List Int) : List Int := if b = true then l else [-1]
def ActPost (b : Bool) (l : List Int) (w : World) (e : Ending) (w' : World) : Prop := ∃ A' c', e = .returned (.slice A' (actL b l).length c') ∧ (actL b l).length ≤ c' ∧ Kd.C kI w' A' (actL b l).length (actL b l) ∧ Below w.heap.size w w'
theorem C_oneI (w : World) (n : Int) : Kd.C kI (w.alloc (.cells #[.int .i64 n] 3)) (some ⟨w.heap.size, 0, none⟩) 1 [n] := by
  refine ⟨rfl, by decide, fun _ => ⟨_, rfl, fun j y hj => ⟨[.int .i64 y], rfl, rfl, fun i v hv => ?_⟩⟩⟩
  have hj0 : j = 0 := by
    rcases j with _ | j
    · rfl
    · simp at hj
  subst hj0
  have hi0 : i = 0 := by
    rcases i with _ | i
    · rfl
    · simp at hv
  subst hi0
  have hy : n = y := by simpa using hj
  have hv' : Value.int .i64 y = v := by simpa using hv
  subst hy; subst hv'
  simp [Addr.add, go_sem]
set_option maxRecDepth 100000 in
set_option maxHeartbeats 2000000 in
theorem actions_bad (b : Bool) (A : Option Addr) (c : Nat) (l : List Int) (w : World) (hr : Kd.C kI w A l.length l) (hok : actOk b l = false) :
    Calls Tryd.prog 58 #[.agg #[.bool b, .slice A l.length c]] w fun e w' => e = .panicked (failE 1) ∧ Below w.heap.size w w' := by
  have hu39 := Tryd.underlying39
  have HCN := Aside0.mk (contains_calls A c l _ (Kd.C_alloc hr (.cells #[.bool b, .slice A l.length c] 39)))
  clear hr
  cases b with
  | false =>
    by_cases hl : l = []
    · subst hl
      exact absurd hok (by decide)
    · have hp : decide (0 < l.length) = true := decide_eq_true (List.length_pos_iff.2 hl)
      have hp2 : decide ((0 : Int) < (l.length : Int)) = true := decide_eq_true (by have := List.length_pos_iff.2 hl; omega)
      clear hok hl
      go_enter Tryd.func58, Tryd.ntmps58
      go_wp2_with (first | (go_at_call 51; (with_reducible refine (fail_true _ _).mono ?_); rintro e w2 ⟨rfl, rfl⟩))
      exact ⟨rfl, rfl, (Below.refl _ _).alloc (Nat.le_refl _) _⟩
  | true =>
    have ha : l.any negB = true := by simpa [actOk] using hok
    rw [ha] at HCN
    clear hok ha
    go_enter Tryd.func58, Tryd.ntmps58
    go_wp2_with (first | (go_at_call 85; (with_reducible refine HCN.out.mono ?_); rintro e w1 ⟨rfl, hb1⟩) | (go_at_call 51; (with_reducible refine (fail_true _ _).mono ?_); rintro e w2 ⟨rfl, rfl⟩))
    exact ⟨rfl, rfl, ((Below.refl _ _).alloc (Nat.le_refl _) _).trans (hb1.mono (by simp))⟩
set_option maxRecDepth 100000 in
set_option maxHeartbeats 2000000 in
theorem actions_ok (b : Bool) (A : Option Addr) (c : Nat) (l : List Int) (w : World) (hr : Kd.C kI w A l.length l) (hc : l.length ≤ c) (hok : actOk b l = true) :
    Calls Tryd.prog 58 #[.agg #[.bool b, .slice A l.length c]] w (ActPost b l w) := by
  have hu39 := Tryd.underlying39
  have HCN := Aside0.mk (contains_calls A c l _ (Kd.C_alloc hr (.cells #[.bool b, .slice A l.length c] 39)))
  have HR := Aside0.mk hr
  clear hr
  have ha : l.any negB = false := by
    unfold actOk at hok
    simp only [Bool.and_eq_true, Bool.not_eq_true'] at hok
    exact hok.2
  rw [ha] at HCN
  cases b with
  | false =>
    obtain rfl : l = [] := by simpa [actOk, ha] using hok
    clear hok ha
    simp only [List.length_nil] at HCN hc ⊢
    go_enter Tryd.func58, Tryd.ntmps58
    go_wp2_with (first | (go_at_call 85; (with_reducible refine HCN.out.mono ?_); rintro e w1 ⟨rfl, hb1⟩; have e0 := (bcell hb1 (b := w.heap.size) (o := 0) (by simp)).trans (show _ = some (.bool false) by simp [go_sem]); have HB1 := Aside0.mk hb1; clear hb1) | (go_at_call 51; (with_reducible refine (fail_false _ _).mono ?_); rintro e w2 ⟨rfl, rfl⟩))
    go_ret
    have hb := HB1.out
    have hsz := hb.size
    simp at hsz
    exact ⟨_, _, rfl, Nat.le_refl _, C_oneI _ _, (((Below.refl _ _).alloc (Nat.le_refl _) _).trans (hb.mono (by simp))).alloc (by omega) _⟩
  | true =>
    clear hok ha
    go_enter Tryd.func58, Tryd.ntmps58
    go_wp2_with (first | (go_at_call 85; (with_reducible refine HCN.out.mono ?_); rintro e w1 ⟨rfl, hb1⟩; have e0 := (bcell hb1 (b := w.heap.size) (o := 0) (by simp)).trans (show _ = some (.bool true) by simp [go_sem]); have e1 := (bcell hb1 (b := w.heap.size) (o := 1) (by simp)).trans (show _ = some (.slice A l.length c) by simp [go_sem]); have HB1 := Aside0.mk hb1; clear hb1) | (go_at_call 51; (with_reducible refine (fail_false _ _).mono ?_); rintro e w2 ⟨rfl, rfl⟩))
    go_ret
    have hb := ((Below.refl _ _).alloc (Nat.le_refl _) _).trans (HB1.out.mono (by simp))
    exact ⟨_, _, rfl, hc, Kd.C_below HR.out hb, hb⟩
end Go.Proofs.YtgkebfeggekkgaaDoor.Given
