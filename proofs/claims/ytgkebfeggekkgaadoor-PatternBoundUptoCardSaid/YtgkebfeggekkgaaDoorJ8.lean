/- All contracts by hand: what the printed functions import. -/
import Derived.Test.YtgkebfeggekkgaaDoorHm
import Derived.Test.YtgkebfeggekkgaaDoorHh
import Derived.Test.YtgkebfeggekkgaaDoorHe
import Derived.Test.YtgkebfeggekkgaaDoorPTx0
section

end
section
-- Written by a program of mine (wip/print_given.sh: the kit's print, changed so that some functions are given by contracts).
namespace Go.Proofs.YtgkebfeggekkgaaDoor.PT
open Go.RowKit Go.Proofs.YtgkebfeggekkgaaDoor.Given Go.Proofs.YtgkebfeggekkgaaDoorW.PrintWords Go.Proofs.YtgkebfeggekkgaaDoorW.PrintLast Go.Proofs.YtgkebfeggekkgaaDoorW.PrintMore
attribute [local go_sem] max2_int min2_int max_two min_two max_three min_three max_four min_four   -- for this text's walks alone
set_option linter.unusedVariables false
set_option linter.unusedSimpArgs false

/-! ### mjolnerlaw09_conforms: function 25 -/
def mjolnerlaw09_conforms.f (l0 : List (S31)) (l1 : List (S31)) : Option (Bool × Bool) := (pattern_Conforms.f l0 l1).bind fun bt266 => (some (bt266.1, (bt266.2 == 0)))
set_option maxHeartbeats 8000000 in
set_option maxRecDepth 100000 in
theorem mjolnerlaw09_conforms.calls (A0 : Option Addr) (c0 : Nat) (l0 : List (S31)) (A1 : Option Addr) (c1 : Nat) (l1 : List (S31)) (r1 : Bool) (r2 : Bool) (w : World) (hr0 : Kd.C k31 w A0 l0.length l0) (hc0 : l0.length ≤ c0) (hr1 : Kd.C k31 w A1 l1.length l1) (hc1 : l1.length ≤ c1) (h : mjolnerlaw09_conforms.f l0 l1 = some (r1, r2)) :
    Calls Tryd.prog 25 #[.slice A0 l0.length c0, .slice A1 l1.length c1] w fun e w' => e = .returned (.tuple #[.bool r1, .bool r2]) ∧ Below w.heap.size w w' := by
  have HR0 := Aside0.mk hr0
  have HC0 := Aside0.mk hc0
  clear hr0 hc0
  have HR1 := Aside0.mk hr1
  have HC1 := Aside0.mk hc1
  clear hr1 hc1
  have HB := Aside0.mk (Below.refl w.heap.size w)
  have H : ((pattern_Conforms.f l0 l1).bind fun bt266 => (some (bt266.1, (bt266.2 == 0)))) = some (r1, r2) := h
  clear h
  replace H := Option.bind_eq_some_iff.mp H
  obtain ⟨⟨t266, t267⟩, A30, H⟩ := H
  replace H : (some (t266, (t267 == 0))) = some (r1, r2) := H
  have A3 := Aside0.mk A30
  clear A30
  simp only [Option.some.injEq, Prod.mk.injEq] at H
  obtain ⟨rfl, rfl⟩ := H
  go_enter Tryd.func25, Tryd.ntmps25
  go_wp2_with (first | ((with_reducible refine gate_callee (f := 34) rfl ?_); refine goesL_ (some 11) rfl rfl Tryd.func34 (by kernel_rfl) rfl #[.slice A0 l0.length c0, .slice A1 l1.length c1] rfl (by (try simp only [List.map_toArray, List.map_cons, List.map_nil]); first | done | rfl | (simp only [List.length_drop, List.length_take]; rfl)) ?_; (with_reducible refine (pattern_Conforms.calls _ _ l0 _ _ l1 t266 t267 _ ?side1 ?side2 ?side3 ?side4 A3.out).mono ?_); (case side1 => repeat (first | exact HR0.out | (with_reducible refine Kd.C_alloc ?_ _) | (with_reducible refine Kd.C_drewN ?_ _) | (with_reducible refine Kd.C_drew ?_))); (case side2 => exact HC0.out); (case side3 => repeat (first | exact HR1.out | (with_reducible refine Kd.C_alloc ?_ _) | (with_reducible refine Kd.C_drewN ?_ _) | (with_reducible refine Kd.C_drew ?_))); (case side4 => exact HC1.out); rintro e w4 ⟨rfl, hb⟩; refine ⟨_, rfl, ?_⟩; have n0_ := Aside0.mk (below_step (by repeat (first | (with_reducible first | exact HB.out | apply below_alloc | apply pw_below_drewN | apply below_drew1) | exact HB.out)) hb); clear HB; have HB := n0_; clear n0_; (try clear hb); (try clear hb2); (try clear hk); (try clear hi)))
  go_ret2
  exact ⟨by first | rfl | (simp [errW_none, errW_some] <;> rfl) | (simp [*, errW_none, errW_some] <;> rfl), by repeat (first | (with_reducible first | exact HB.out | apply below_alloc | apply pw_below_drewN | apply below_drew1) | exact HB.out)⟩

end Go.Proofs.YtgkebfeggekkgaaDoor.PT
end
section
/- The contract of awake, by hand (the printed one is thirty times as long): the document's examples hold, so it answers true. -/
set_option linter.unusedVariables false
set_option linter.unusedSimpArgs false
namespace Go.Proofs.YtgkebfeggekkgaaDoor.PT
open Go.RowKit Go.Proofs.YtgkebfeggekkgaaDoor.Given Go.Proofs.YtgkebfeggekkgaaDoorW.PrintWords Go.Proofs.YtgkebfeggekkgaaDoorW.PrintLast Go.Proofs.YtgkebfeggekkgaaDoorW.PrintMore

def aw_a : List S31 := [⟨1, 7, 0⟩]
def aw_b : List S31 := [⟨2, 5, 1⟩]
def aw_l : List S34 := [⟨0, 2, false, aw_a⟩, ⟨1, 3, true, aw_b⟩]
def aw_d : List S39 := [⟨true, [1, -1, 2]⟩, ⟨false, []⟩, ⟨true, [3]⟩]
def aw_p : List S31 := [⟨1, 7, 0⟩, ⟨2, 5, 1⟩]
def aw_s : ByteArray := ⟨#[49, 64, 55, 46, 48, 47, 50, 64, 53, 46, 49]⟩
theorem aw_fur : pattern_Furthest.f aw_l 0 = some (aw_p, 2, 0) := by kernel_rfl
theorem aw_walk : pattern_Walk.f aw_d = some ([1, 3, 2], 0) := by kernel_rfl
theorem aw_print : pattern_Print.f aw_p = some (aw_s, 0) := by kernel_rfl
theorem aw_needs : pattern_Needs.f aw_a aw_p = some (1, 0) := by kernel_rfl
/-- one part, in a block of its own -/
theorem aw_one (w : World) (p : S31) : Kd.C k31 (w.alloc (.cells #[.int .i64 p.f0, .int .i64 p.f1, .int .i64 p.f2] 31)) (some ⟨w.heap.size, 0, none⟩) [p].length [p] := by
  refine ⟨rfl, by simp, fun _ => ⟨_, rfl, fun j y hj => ?_⟩⟩
  rcases j with _ | j
  · obtain rfl : p = y := by simpa using hj
    refine ⟨[.int .i64 p.f0, .int .i64 p.f1, .int .i64 p.f2], rfl, k31_mk _ p, fun i v hv => ?_⟩
    rcases i with _ | _ | _ | i
    · obtain rfl : Value.int .i64 p.f0 = v := by simpa using hv
      simp [Addr.add, go_sem]
    · obtain rfl : Value.int .i64 p.f1 = v := by simpa using hv
      simp [Addr.add, go_sem]
    · obtain rfl : Value.int .i64 p.f2 = v := by simpa using hv
      simp [Addr.add, go_sem]
    · simp at hv
  · simp at hj
theorem aw_two (w : World) (b0 b1 : S34) (A0 A1 : Option Addr) (c0 c1 : Nat) (h0 : Kd.C k31 w A0 b0.f3.length b0.f3) (l0 : b0.f3.length ≤ c0) (h1 : Kd.C k31 w A1 b1.f3.length b1.f3) (l1 : b1.f3.length ≤ c1) :
    Kd.C k34 (w.alloc (.cells #[.int .i64 b0.f0, .int .i64 b0.f1, .bool b0.f2, .slice A0 b0.f3.length c0, .int .i64 b1.f0, .int .i64 b1.f1, .bool b1.f2, .slice A1 b1.f3.length c1] 34)) (some ⟨w.heap.size, 0, none⟩) [b0, b1].length [b0, b1] := by
  refine ⟨rfl, by simp, fun _ => ⟨_, rfl, fun j y hj => ?_⟩⟩
  rcases j with _ | _ | j
  · obtain rfl : b0 = y := by simpa using hj
    refine ⟨[.int .i64 b0.f0, .int .i64 b0.f1, .bool b0.f2, .slice A0 b0.f3.length c0], rfl, k34_mk _ b0 l0 (Kd.C_alloc h0 _), fun i v hv => ?_⟩
    rcases i with _ | _ | _ | _ | i
    · obtain rfl : Value.int .i64 b0.f0 = v := by simpa using hv
      simp [Addr.add, go_sem]
    · obtain rfl : Value.int .i64 b0.f1 = v := by simpa using hv
      simp [Addr.add, go_sem]
    · obtain rfl : Value.bool b0.f2 = v := by simpa using hv
      simp [Addr.add, go_sem]
    · obtain rfl : Value.slice A0 b0.f3.length c0 = v := by simpa using hv
      simp [Addr.add, go_sem]
    · simp at hv
  · obtain rfl : b1 = y := by simpa using hj
    refine ⟨[.int .i64 b1.f0, .int .i64 b1.f1, .bool b1.f2, .slice A1 b1.f3.length c1], rfl, k34_mk _ b1 l1 (Kd.C_alloc h1 _), fun i v hv => ?_⟩
    have hz : k34.sz = 4 := rfl
    rcases i with _ | _ | _ | _ | i
    · obtain rfl : Value.int .i64 b1.f0 = v := by simpa using hv
      simp [Addr.add, go_sem, hz]
    · obtain rfl : Value.int .i64 b1.f1 = v := by simpa using hv
      simp [Addr.add, go_sem, hz]
    · obtain rfl : Value.bool b1.f2 = v := by simpa using hv
      simp [Addr.add, go_sem, hz]
    · obtain rfl : Value.slice A1 b1.f3.length c1 = v := by simpa using hv
      simp [Addr.add, go_sem, hz]
    · simp at hv
  · simp at hj
theorem aw_three (w : World) (b0 b1 b2 : S39) (A0 A1 A2 : Option Addr) (c0 c1 c2 : Nat) (h0 : Kd.C kI w A0 b0.f1.length b0.f1) (l0 : b0.f1.length ≤ c0) (h1 : Kd.C kI w A1 b1.f1.length b1.f1) (l1 : b1.f1.length ≤ c1) (h2 : Kd.C kI w A2 b2.f1.length b2.f1) (l2 : b2.f1.length ≤ c2) :
    Kd.C k39 (w.alloc (.cells #[.bool b0.f0, .slice A0 b0.f1.length c0, .bool b1.f0, .slice A1 b1.f1.length c1, .bool b2.f0, .slice A2 b2.f1.length c2] 39)) (some ⟨w.heap.size, 0, none⟩) [b0, b1, b2].length [b0, b1, b2] := by
  have hz : k39.sz = 2 := rfl
  refine ⟨rfl, by simp, fun _ => ⟨_, rfl, fun j y hj => ?_⟩⟩
  rcases j with _ | _ | _ | j
  · obtain rfl : b0 = y := by simpa using hj
    refine ⟨[.bool b0.f0, .slice A0 b0.f1.length c0], rfl, k39_mk _ b0 l0 (Kd.C_alloc h0 _), fun i v hv => ?_⟩
    rcases i with _ | _ | i
    · obtain rfl : Value.bool b0.f0 = v := by simpa using hv
      simp [Addr.add, go_sem]
    · obtain rfl : Value.slice A0 b0.f1.length c0 = v := by simpa using hv
      simp [Addr.add, go_sem]
    · simp at hv
  · obtain rfl : b1 = y := by simpa using hj
    refine ⟨[.bool b1.f0, .slice A1 b1.f1.length c1], rfl, k39_mk _ b1 l1 (Kd.C_alloc h1 _), fun i v hv => ?_⟩
    rcases i with _ | _ | i
    · obtain rfl : Value.bool b1.f0 = v := by simpa using hv
      simp [Addr.add, go_sem, hz]
    · obtain rfl : Value.slice A1 b1.f1.length c1 = v := by simpa using hv
      simp [Addr.add, go_sem, hz]
    · simp at hv
  · obtain rfl : b2 = y := by simpa using hj
    refine ⟨[.bool b2.f0, .slice A2 b2.f1.length c2], rfl, k39_mk _ b2 l2 (Kd.C_alloc h2 _), fun i v hv => ?_⟩
    rcases i with _ | _ | i
    · obtain rfl : Value.bool b2.f0 = v := by simpa using hv
      simp [Addr.add, go_sem, hz]
    · obtain rfl : Value.slice A2 b2.f1.length c2 = v := by simpa using hv
      simp [Addr.add, go_sem, hz]
    · simp at hv
  · simp at hj
theorem aw_ints (w : World) : Kd.C kI (w.alloc (.cells #[.int .i64 1, .int .i64 (-1), .int .i64 2] 3)) (some ⟨w.heap.size, 0, none⟩) [1, -1, (2 : Int)].length [1, -1, (2 : Int)] := by
  have hz : kI.sz = 1 := rfl
  refine ⟨rfl, by decide, fun _ => ⟨_, rfl, fun j y hj => ?_⟩⟩
  rcases j with _ | _ | _ | j
  · obtain rfl : (1 : Int) = y := by simpa using hj
    refine ⟨[.int .i64 1], rfl, rfl, fun i v hv => ?_⟩
    rcases i with _ | i
    · obtain rfl : Value.int .i64 1 = v := by simpa using hv
      simp [Addr.add, go_sem, hz]
    · simp at hv
  · obtain rfl : (-1 : Int) = y := by simpa using hj
    refine ⟨[.int .i64 (-1)], rfl, rfl, fun i v hv => ?_⟩
    rcases i with _ | i
    · obtain rfl : Value.int .i64 (-1) = v := by simpa using hv
      simp [Addr.add, go_sem, hz]
    · simp at hv
  · obtain rfl : (2 : Int) = y := by simpa using hj
    refine ⟨[.int .i64 2], rfl, rfl, fun i v hv => ?_⟩
    rcases i with _ | i
    · obtain rfl : Value.int .i64 2 = v := by simpa using hv
      simp [Addr.add, go_sem, hz]
    · simp at hv
  · simp at hj
/-- three integers in a row -/
def Three (W : World) (A : Option Addr) (c : Nat) : Prop := ∃ bk o, A = some ⟨bk, o, none⟩ ∧ bk < W.heap.size ∧ W.cell? ⟨bk, o, none⟩ = some (.int .i64 1) ∧ W.cell? ⟨bk, o + 1, none⟩ = some (.int .i64 3) ∧ W.cell? ⟨bk, o + 2, none⟩ = some (.int .i64 2)
def mjolnerlaw09_awake.f : Option Bool := some true
set_option maxHeartbeats 2000000 in
set_option maxRecDepth 100000 in
theorem mjolnerlaw09_awake.calls (r : Bool) (w : World) (hG : LaidG w) (h : mjolnerlaw09_awake.f = some r) :
    Calls Tryd.prog 19 #[] w fun e w' => e = .returned (.bool r) ∧ Below w.heap.size w w' := by
  obtain rfl : true = r := Option.some.inj h
  clear h
  have hu31 := Tryd.underlying31
  have hu34 := Tryd.underlying34
  have hu39 := Tryd.underlying39
  have hu37 := Tryd.underlying37
  have ha := aw_one w ⟨1, 7, 0⟩
  have hb := aw_one (w.alloc (.cells #[.int .i64 1, .int .i64 7, .int .i64 0] 31)) ⟨2, 5, 1⟩
  have hB2 : Below w.heap.size w ((w.alloc (.cells #[.int .i64 1, .int .i64 7, .int .i64 0] 31)).alloc (.cells #[.int .i64 2, .int .i64 5, .int .i64 1] 31)) := ((Below.refl _ _).alloc (Nat.le_refl _) _).alloc (by simp) _
  have e1 : (w.alloc (.cells #[.int .i64 1, .int .i64 7, .int .i64 0] 31)).heap.size = w.heap.size + 1 := by simp
  have e2 : ((w.alloc (.cells #[.int .i64 1, .int .i64 7, .int .i64 0] 31)).alloc (.cells #[.int .i64 2, .int .i64 5, .int .i64 1] 31)).heap.size = w.heap.size + 1 + 1 := by simp
  rw [e1] at hb
  have hab := aw_two _ ⟨0, 2, false, aw_a⟩ ⟨1, 3, true, aw_b⟩ _ _ 1 1 (Kd.C_alloc ha (.cells #[.int .i64 2, .int .i64 5, .int .i64 1] 31)) (Nat.le_refl _) hb (Nat.le_refl _)
  rw [e2] at hab
  have HF : Aside0 (Calls Tryd.prog 20 #[.slice (some ⟨w.heap.size + 1 + 1, 0, none⟩) 2 2, .int .i64 0] (((w.alloc (.cells #[.int .i64 1, .int .i64 7, .int .i64 0] 31)).alloc (.cells #[.int .i64 2, .int .i64 5, .int .i64 1] 31)).alloc (.cells #[.int .i64 0, .int .i64 2, .bool false, .slice (some ⟨w.heap.size, 0, none⟩) 1 1, .int .i64 1, .int .i64 3, .bool true, .slice (some ⟨w.heap.size + 1, 0, none⟩) 1 1] 34))
      fun e w' => ∃ A c, e = .returned (.tuple #[.slice A 2 c, .int .i64 2, .int .i64 0]) ∧ 2 ≤ c ∧ Kd.C k31 w' A 2 aw_p ∧ Below w.heap.size w w' ∧ Kd.C k31 w' (some ⟨w.heap.size, 0, none⟩) 1 aw_a) := ⟨by
    refine (pattern_Furthest.calls (some ⟨w.heap.size + 1 + 1, 0, none⟩) 2 aw_l 0 aw_p 2 0 _ hab (Nat.le_refl _) aw_fur).mono ?_
    rintro e w' ⟨v, rfl, hR, hB⟩
    obtain ⟨A, c, rfl, hc, hC⟩ := Kd.R_reads hR
    have hBw := (hB2.alloc (by simp; omega) _).trans (hB.mono (by simp; omega))
    exact ⟨A, c, rfl, hc, hC, hBw, Kd.C_below (Kd.C_alloc (Kd.C_alloc ha _) _) hB⟩⟩
  have HW : Aside0 (∀ W, Calls Tryd.prog 24 #[.slice (some ⟨W.heap.size + 1 + 1, 0, none⟩) 3 3] (((W.alloc (.cells #[.int .i64 1, .int .i64 (-1), .int .i64 2] 3)).alloc (.cells #[.int .i64 3] 3)).alloc (.cells #[.bool true, .slice (some ⟨W.heap.size, 0, none⟩) 3 3, .bool false, .slice none 0 0, .bool true, .slice (some ⟨W.heap.size + 1, 0, none⟩) 1 1] 39))
      fun e w' => ∃ A c, e = .returned (.tuple #[.slice A 3 c, .int .i64 0]) ∧ Three w' A c ∧ Below W.heap.size W w') := ⟨fun W => by
    have h1 := aw_ints W
    have f1 : (W.alloc (.cells #[.int .i64 1, .int .i64 (-1), .int .i64 2] 3)).heap.size = W.heap.size + 1 := by simp
    have f2 : ((W.alloc (.cells #[.int .i64 1, .int .i64 (-1), .int .i64 2] 3)).alloc (.cells #[.int .i64 3] 3)).heap.size = W.heap.size + 1 + 1 := by simp
    have h2 := C_oneI (W.alloc (.cells #[.int .i64 1, .int .i64 (-1), .int .i64 2] 3)) 3
    rw [f1] at h2
    have h3 := aw_three _ ⟨true, [1, -1, 2]⟩ ⟨false, []⟩ ⟨true, [3]⟩ _ none _ 3 0 1 (Kd.C_alloc h1 (.cells #[.int .i64 3] 3)) (Nat.le_refl _) (Kd.C_nil _ _) (Nat.le_refl _) h2 (Nat.le_refl _)
    rw [f2] at h3
    refine (pattern_Walk.calls (some ⟨W.heap.size + 1 + 1, 0, none⟩) 3 aw_d [1, 3, 2] 0 _ h3 (Nat.le_refl _) aw_walk).mono ?_
    rintro e w' ⟨v, rfl, hR, hB⟩
    obtain ⟨A, c, rfl, hc, hC⟩ := Kd.R_reads hR
    obtain ⟨bk, o, rfl, hbk, hcell⟩ := cells_int hC (by decide)
    exact ⟨_, c, rfl, ⟨bk, o, rfl, hbk, hcell 0 1 rfl, hcell 1 3 rfl, hcell 2 2 rfl⟩, ((((Below.refl _ _).alloc (Nat.le_refl _) _).alloc (by simp) _).alloc (by simp; omega) _).trans (hB.mono (by simp; omega))⟩⟩
  have HP : Aside0 (∀ (A : Option Addr) (c : Nat) (W : World), Kd.C k31 W A 2 aw_p → 2 ≤ c → Below w.heap.size w W → Calls Tryd.prog 43 #[.slice A 2 c] W fun e w' => e = .returned (.tuple #[.string aw_s, .int .i64 0]) ∧ Below W.heap.size W w') :=
    ⟨fun A c W hC hc hB => pattern_Print.calls A c aw_p aw_s 0 W (hG.keep W hB) hC hc aw_print⟩
  have HN : Aside0 (∀ (A : Option Addr) (c : Nat) (W : World), Kd.C k31 W A 2 aw_p → 2 ≤ c → Kd.C k31 W (some ⟨w.heap.size, 0, none⟩) 1 aw_a → Calls Tryd.prog 26 #[.slice (some ⟨w.heap.size, 0, none⟩) 1 1, .slice A 2 c] W fun e w' => e = .returned (.tuple #[.int .i64 1, .int .i64 0]) ∧ Below W.heap.size W w') :=
    ⟨fun A c W hC hc hA => pattern_Needs.calls (some ⟨w.heap.size, 0, none⟩) 1 aw_a A c aw_p 1 0 W hA (Nat.le_refl _) hC hc aw_needs⟩
  have hs2 : aw_s = ⟨#[49, 64, 55, 46, 48, 47, 50, 64, 53, 46, 49]⟩ := rfl
  rw [hs2] at HP
  clear ha hb hab hB2 e1 e2 hG hs2
  go_enter Tryd.func19, Tryd.ntmps19
  go_wp2_with (first
    | (go_at_call 20; (with_reducible refine HF.out.mono ?_); rintro e w4 ⟨A4, c4, rfl, hc4, hp4, hb4, ha4⟩; have HP4 := Aside0.mk hp4; have HA4 := Aside0.mk ha4; have HB4 := Aside0.mk hb4; have HC4 := Aside0.mk hc4; clear hp4 ha4 hb4 hc4)
    | (go_at_call 24; (with_reducible refine (HW.out _).mono ?_); rintro e w5 ⟨A5, c5, rfl, ht5, hb5⟩; have HT5 := Aside0.mk ht5; have HB5 := Aside0.mk hb5; have HQ5 := Aside0.mk (HP.out A4 c4 w5 (Kd.C_below HP4.out hb5) HC4.out (HB4.out.trans (hb5.mono HB4.out.size))); clear ht5 hb5)
    | (go_at_call 43; (with_reducible refine HQ5.out.mono ?_); rintro e w6 ⟨rfl, hb6⟩; have HB6 := Aside0.mk hb6; have HQ6 := Aside0.mk (HN.out A4 c4 w6 (Kd.C_below (Kd.C_below HP4.out HB5.out) hb6) HC4.out (Kd.C_below (Kd.C_below HA4.out HB5.out) hb6)); clear hb6)
    | (go_at_call 26; (with_reducible refine HQ6.out.mono ?_); rintro e w7 ⟨rfl, hb7⟩; have HB7 := Aside0.mk hb7; obtain ⟨bk, o, rfl, hbk, t0, t1, t2⟩ := HT5.out; have hz6 := HB6.out.size; have t0' := (bcell HB7.out (by omega)).trans ((bcell HB6.out hbk).trans t0); have t1' := (bcell HB7.out (by omega)).trans ((bcell HB6.out hbk).trans t1); have t2' := (bcell HB7.out (by omega)).trans ((bcell HB6.out hbk).trans t2); clear hb7 t0 t1 t2))
  go_ret
  have k5 := HB4.out.trans (HB5.out.mono HB4.out.size)
  have k6 := k5.trans (HB6.out.mono k5.size)
  exact ⟨rfl, k6.trans (HB7.out.mono k6.size)⟩
end Go.Proofs.YtgkebfeggekkgaaDoor.PT
end
