/- The contract of the reference's Merge; PatternWalks, walked: it answers true. -/
import Derived.Test.YtgkebfeggekkgaaDoorHy
import Derived.Test.YtgkebfeggekkgaaDoorJ5
import Derived.Test.YtgkebfeggekkgaaDoorJ8
set_option linter.unusedVariables false
set_option linter.unusedSimpArgs false
namespace Go.Proofs.YtgkebfeggekkgaaDoor.Given
open Go.RowKit Go.Proofs.YtgkebfeggekkgaaDoor.PT Go.Proofs.YtgkebfeggekkgaaDoorW.PrintWords Go.Proofs.YtgkebfeggekkgaaDoorW.PrintLast Go.Proofs.YtgkebfeggekkgaaDoorW.PrintMore

theorem putL_len (a b : List Int) : (putL a b).length ≤ 2001 := List.length_take_le _ _
/-- a row of integers stands when two cells that hold no integers are written -/
theorem C_set2 {W : World} {A : Option Addr} {l : List Int} {b : Nat} {x : Bool} {B : Option Addr} {m c : Nat} {u v : Value} (h : Kd.C kI W A l.length l) (h0 : W.cell? ⟨b, 0, none⟩ = some (.bool x)) (h1 : W.cell? ⟨b, 1, none⟩ = some (.slice B m c)) :
    Kd.C kI ((W.setCell ⟨b, 0, none⟩ u).setCell ⟨b, 1, none⟩ v) A l.length l := by
  refine ⟨h.1, h.2.1, fun hp => ?_⟩
  obtain ⟨ad, e, hc⟩ := h.2.2 hp
  refine ⟨ad, e, fun j y hj => ?_⟩
  obtain ⟨cs, hl, hk, hx⟩ := hc j y hj
  refine ⟨cs, hl, hk, fun i z hz => ?_⟩
  have hcs : cs = [Value.int .i64 y] := hk
  have h2 := hx i z hz
  have hi : z = Value.int .i64 y := by
    subst hcs
    rcases i with _ | i
    · simpa using hz.symm
    · simp at hz
  subst hi
  have n0 : ad.add (j * kI.sz + i) ≠ ⟨b, 0, none⟩ := fun e => by rw [e, h0] at h2; cases h2
  have n1 : ad.add (j * kI.sz + i) ≠ ⟨b, 1, none⟩ := fun e => by rw [e, h1] at h2; cases h2
  exact (World.cell?_setCell_other _ _ _ _ (Ne.symm n1)).trans ((World.cell?_setCell_other _ _ _ _ (Ne.symm n0)).trans h2)
set_option maxRecDepth 100000 in
set_option maxHeartbeats 2000000 in
theorem refMerge_ok (b0 : Bool) (A0 : Option Addr) (c0 : Nat) (l0 : List Int) (b1 : Bool) (A1 : Option Addr) (c1 : Nat) (l1 : List Int) (w : World) (hr0 : Kd.C kI w A0 l0.length l0) (hc0 : l0.length ≤ c0) (hr1 : Kd.C kI w A1 l1.length l1) (hc1 : l1.length ≤ c1) (hl0 : l0.length ≤ 1073741823) (hl1 : l1.length ≤ 1073741823)
    (h0 : actOk b0 l0 = true) (h1 : actOk b1 l1 = true) : Calls Tryd.prog 30 #[.agg #[.bool b0, .slice A0 l0.length c0], .agg #[.bool b1, .slice A1 l1.length c1]] w (GotM w (mergeF ⟨b0, l0⟩ ⟨b1, l1⟩)) := by
  have hu39 := Tryd.underlying39
  have hS0 : SN b0 A0 c0 l0 b1 A1 c1 l1 w (wN b0 A0 c0 l0 b1 A1 c1 l1 w) := Below.refl _ _
  have HV0 := Aside0.mk (validDo_calls b0 A0 c0 l0 (wN b0 A0 c0 l0 b1 A1 c1 l1 w) (Kd.C_below hr0 hS0.below) hc0 hl0)
  have HV1 := Aside0.mk (fun W (hW : SN b0 A0 c0 l0 b1 A1 c1 l1 w W) => validDo_calls b1 A1 c1 l1 W (Kd.C_below hr1 hW.below) hc1 hl1)
  have HA0 := Aside0.mk (fun W (hW : SN b0 A0 c0 l0 b1 A1 c1 l1 w W) => refActs_calls b0 A0 c0 l0 W (Kd.C_below hr0 hW.below) hc0)
  have HA1 := Aside0.mk (fun W (hW : SN b0 A0 c0 l0 b1 A1 c1 l1 w W) => refActs_calls b1 A1 c1 l1 W (Kd.C_below hr1 hW.below) hc1)
  have HPUT := Aside0.mk (fun (A3 : Option Addr) (c3 : Nat) (A4 : Option Addr) (c4 : Nat) (W : World) (h3 : Kd.C kI W A3 (actL b0 l0).length (actL b0 l0)) (h3c : (actL b0 l0).length ≤ c3) (h4 : Kd.C kI W A4 (actL b1 l1).length (actL b1 l1)) (h4c : (actL b1 l1).length ≤ c4) => put_calls A3 c3 (actL b0 l0) A4 c4 (actL b1 l1) W h3 h3c h4 h4c (by have := actL_len b0 l0; omega) (by have := actL_len b1 l1; omega) (acts_any b0 l0 h0))
  have HF := Aside0.mk (mergeF_eq ⟨b0, l0⟩ ⟨b1, l1⟩ (by rw [Bool.and_eq_true]; exact ⟨h0, h1⟩))
  have HS0 := Aside0.mk hS0
  have hwn : wN b0 A0 c0 l0 b1 A1 c1 l1 w = ((w.alloc (.cells #[.bool b0, .slice A0 l0.length c0] 39)).alloc (.cells #[.bool b1, .slice A1 l1.length c1] 39)).alloc (.cells #[.bool false, .slice none 0 0] 39) := rfl
  rw [hwn] at HV0
  rw [h0] at HV0
  rw [h1] at HV1
  clear hr0 hr1 hS0 hwn h0 h1
  go_enter Tryd.func30, Tryd.ntmps30
  go_wp2_with (first
    | (go_at_call 63; (with_reducible refine HV0.out.mono ?_); rintro e w1 ⟨rfl, hb⟩; have HS1 := Aside0.mk (HS0.out.keep hb); obtain ⟨x0, x1, x2, x3⟩ := HS1.out.cells; have HV2 := Aside0.mk (HV1.out w1 HS1.out); clear hb)
    | (go_at_call 63; (with_reducible refine HV2.out.mono ?_); rintro e w2 ⟨rfl, hb⟩; have HS2 := Aside0.mk (HS1.out.keep hb); clear hb))
  refine wp_region_noPanic ?_
  refine wp_region_held (S := SN b0 A0 c0 l0 b1 A1 c1 l1 w) (by kernel_rfl) ?_
  have hS : SN b0 A0 c0 l0 b1 A1 c1 l1 w w2.drew := HS2.out.keep (below_drew (Below.refl _ _))
  change wpAnyH _ _ _ _ _ _ _ _ w2.drew
  generalize w2.drew = W at hS ⊢
  refine wpAnyH_take (i := 0) (v := .agg #[.bool b0, .slice A0 l0.length c0]) rfl (by kernel_rfl) (by kernel_rfl) (by kernel_rfl) (fun _ _ _ h => h) (.inl ⟨by rfl, fun w' hw' => by obtain ⟨s0, s1, s2, s3⟩ := SN.cells hw'; go_simp⟩) hS ?_
  refine wpAnyH_take (i := 2) (v := .agg #[.bool b1, .slice A1 l1.length c1]) rfl (by kernel_rfl) (by kernel_rfl) (by kernel_rfl) (fun _ _ _ h => h) (.inl ⟨by rfl, fun w' hw' => by obtain ⟨s0, s1, s2, s3⟩ := SN.cells hw'; go_simp⟩) hS ?_
  refine wpAnyH_all (rs := [1]) (by kernel_rfl) (by simp) ?_
  intro i hi
  obtain rfl : i = 1 := by simpa using hi
  refine wpOp_of rfl (by rfl) ?_
  go_simp
  refine (HA0.out W hS).mono ?_
  rintro e w3 ⟨A3, c3, rfl, hc3, hC3, hb⟩
  have hS3 := SN.keep hS hb
  have HC3 := Aside0.mk hC3
  have HD3 := Aside0.mk hc3
  clear hC3 hc3 hb hS
  refine ⟨hS3, ?_⟩
  refine wpAnyH_all (rs := [3]) (by kernel_rfl) (by simp) ?_
  intro i hi
  obtain rfl : i = 3 := by simpa using hi
  refine wpOp_of rfl (by rfl) ?_
  go_simp
  refine (HA1.out w3 hS3).mono ?_
  rintro e w4 ⟨A4, c4, rfl, hc4, hC4, hb⟩
  have hS4 := SN.keep hS3 hb
  have HP := Aside0.mk (HPUT.out A3 c3 A4 c4 w4 (Kd.C_below HC3.out hb) HD3.out hC4 hc4)
  clear hC4 hc4 hb hS3
  refine ⟨hS4, ?_⟩
  refine wpAnyH_all (rs := [4]) (by kernel_rfl) (by simp) ?_
  intro i hi
  obtain rfl : i = 4 := by simpa using hi
  refine wpOp_of rfl (by rfl) ?_
  go_simp
  refine HP.out.mono ?_
  rintro e w5 ⟨A5, c5, rfl, hc5, hC5, hb⟩
  have hS5 := SN.keep hS4 hb
  have HC5 := Aside0.mk hC5
  have HD5 := Aside0.mk hc5
  clear hC5 hc5 hb hS4
  refine ⟨hS5, ?_⟩
  generalize hn : (putL (actL b0 l0) (actL b1 l1)).length = n at HC5 HD5
  have HN := Aside0.mk hn
  clear hn
  refine wpAnyH_take (i := 5) (v := .slice A5 n c5) rfl (by kernel_rfl) (by kernel_rfl) (by kernel_rfl) (fun _ _ _ h => h) (.inl ⟨by rfl, fun w' hw' => by go_simp⟩) hS5 ?_
  refine wpAnyH_done (by kernel_rfl) (NoPanic.normal ?_) _
  have HS5 := Aside0.mk hS5
  obtain ⟨d0, d1, g0, g1⟩ := hS5.rd
  clear hS5
  by_cases hbig : 2000 < n
  · have HE := Aside0.mk (show mergeF ⟨b0, l0⟩ ⟨b1, l1⟩ = (false, [], 2) by rw [HF.out, HN.out, if_pos hbig])
    have k1 : decide (2000 < n) = true := decide_eq_true hbig
    have k2 : decide ((2000 : Int) < (n : Int)) = true := decide_eq_true (by omega)
    clear hbig HF
    go_wp2_with (fail)
    refine bodyPost_ret (v := .tuple #[.agg #[.bool false, .slice none 0 0], .int .i64 2]) (by simp [results, Tryd.results30, go_sem, d0, d1, hu39]) rfl ⟨none, 0, by rw [HE.out]; rfl, by rw [HE.out]; exact Nat.le_refl _, by rw [HE.out]; exact Kd.C_nil _ _, ?_⟩
    exact (HS5.out.below.setCell (p := ⟨w.heap.size + 1 + 1, 0, none⟩) (by simp only; omega) _).setCell (p := ⟨w.heap.size + 1 + 1, 1, none⟩) (by simp only; omega) _
  · have HE := Aside0.mk (show mergeF ⟨b0, l0⟩ ⟨b1, l1⟩ = (true, putL (actL b0 l0) (actL b1 l1), 0) by rw [HF.out, HN.out, if_neg hbig])
    have k1 : decide (2000 < n) = false := decide_eq_false hbig
    have k2 : decide ((2000 : Int) < (n : Int)) = false := decide_eq_false (by omega)
    clear hbig HF
    go_wp2_with (fail)
    refine bodyPost_ret (v := .tuple #[.agg #[.bool true, .slice A5 n c5], .int .i64 0]) (by simp [results, Tryd.results30, go_sem, d0, d1, hu39]) rfl ⟨A5, c5, by rw [HE.out]; show _ = Ending.returned (.tuple #[.agg #[.bool true, .slice A5 (putL (actL b0 l0) (actL b1 l1)).length c5], .int .i64 0]); rw [HN.out], by rw [HE.out]; show (putL (actL b0 l0) (actL b1 l1)).length ≤ c5; rw [HN.out]; exact HD5.out, ?_, ?_⟩
    · have h5 := HC5.out
      rw [← HN.out] at h5
      rw [HE.out]
      exact C_set2 h5 d0 d1
    · exact (HS5.out.below.setCell (p := ⟨w.heap.size + 1 + 1, 0, none⟩) (by simp only; omega) _).setCell (p := ⟨w.heap.size + 1 + 1, 1, none⟩) (by simp only; omega) _
theorem refMerge_calls (a b : S39) (A0 : Option Addr) (c0 : Nat) (A1 : Option Addr) (c1 : Nat) (w : World) (hr0 : Kd.C kI w A0 a.f1.length a.f1) (hc0 : a.f1.length ≤ c0) (hr1 : Kd.C kI w A1 b.f1.length b.f1) (hc1 : b.f1.length ≤ c1)
    (hl0 : a.f1.length ≤ 1073741823) (hl1 : b.f1.length ≤ 1073741823) : Calls Tryd.prog 30 #[.agg #[.bool a.f0, .slice A0 a.f1.length c0], .agg #[.bool b.f0, .slice A1 b.f1.length c1]] w (GotM w (mergeF a b)) := by
  cases h : actOk a.f0 a.f1 && actOk b.f0 b.f1 with
  | false =>
    have e : mergeF a b = (false, [], 1) := by
      unfold mergeF
      rw [if_neg (by rw [h]; decide)]
    rw [e]
    exact refMerge_bad a.f0 A0 c0 a.f1 b.f0 A1 c1 b.f1 w hr0 hc0 hr1 hc1 hl0 hl1 h
  | true =>
    simp only [Bool.and_eq_true] at h
    exact refMerge_ok a.f0 A0 c0 a.f1 b.f0 A1 c1 b.f1 w hr0 hc0 hr1 hc1 hl0 hl1 h.1 h.2
theorem intsSame_calls (A : Option Addr) (c : Nat) (B : Option Addr) (d : Nat) (n : Nat) (l : List Int) (W : World) (hl : l.length ≤ 1048576) (hn : n = l.length) (hA : Kd.C kI W A n l) (hc : n ≤ c) (hB : Kd.C kI W B n l) (hd : n ≤ d) :
    Calls Tryd.prog 28 #[.slice A n c, .slice B n d] W fun e w' => e = .returned (.bool true) ∧ Below W.heap.size W w' := by
  subst hn
  exact (mjolnerlaw09_ints.calls (l.length + 1) A c l B d l true W hA hc hB hd (by rw [ints_f l l (by omega) _ (by omega), decide_eq_true rfl])).mono fun e w' ⟨h1, h2⟩ => ⟨h1, h2.below⟩
theorem walkF_len (ls : List S39) : (walkF ls).1.length ≤ 2000 := by
  unfold walkF
  split
  · simp
  · split
    · split
      · exact walkL_len _
      · simp
    · simp
theorem mergeF_len (a b : S39) : (mergeF a b).2.1.length ≤ 2000 := by
  unfold mergeF
  split
  · split
    · exact fillF_len _ _ _
    · simp
  · simp
theorem walk_got (A : Option Addr) (c : Nat) (ls : List S39) (w : World) (hr : Kd.C k39 w A ls.length ls) (hc : ls.length ≤ c) (hs : actsSmall ls = true) : Calls Tryd.prog 24 #[.slice A ls.length c] w (GotZ w (walkF ls).1 (walkF ls).2) := by
  refine (pattern_Walk.calls A c ls (walkF ls).1 (walkF ls).2 w hr hc (by unfold pattern_Walk.f; rw [if_pos hs])).mono ?_
  rintro e w' ⟨v, rfl, hR, hb⟩
  obtain ⟨A2, c2, rfl, hc2, hC2⟩ := Kd.R_reads hR
  exact ⟨A2, c2, rfl, hc2, hC2, hb⟩
theorem merge_got (a b : S39) (A0 : Option Addr) (c0 : Nat) (A1 : Option Addr) (c1 : Nat) (w : World) (hr0 : Kd.C kI w A0 a.f1.length a.f1) (hc0 : a.f1.length ≤ c0) (hr1 : Kd.C kI w A1 b.f1.length b.f1) (hc1 : b.f1.length ≤ c1)
    (hl0 : a.f1.length ≤ 1073741823) (hl1 : b.f1.length ≤ 1073741823) : Calls Tryd.prog 29 #[.agg #[.bool a.f0, .slice A0 a.f1.length c0], .agg #[.bool b.f0, .slice A1 b.f1.length c1]] w (GotM w (mergeF a b)) := by
  refine (merge_calls a b A0 c0 A1 c1 w hr0 hc0 hr1 hc1 hl0 hl1).mono ?_
  rintro e w' ⟨v, rfl, hR, hb⟩
  obtain ⟨A2, c2, rfl, hc2, hC2⟩ := Kd.R_reads hR
  exact ⟨A2, c2, rfl, hc2, hC2, hb⟩
theorem blk2 {w5 w6 : World} {u v : Value} (hb : Below (w5.alloc (.cells #[u, v] 39)).heap.size (w5.alloc (.cells #[u, v] 39)) w6) :
    w6.cell? ⟨w5.heap.size, 0, none⟩ = some u ∧ w6.cell? ⟨w5.heap.size, 1, none⟩ = some v ∧ w5.heap.size < w6.heap.size := by
  have hz := hb.size
  have e2 : (w5.alloc (.cells #[u, v] 39)).heap.size = w5.heap.size + 1 := by simp
  rw [e2] at hz
  refine ⟨(bcell hb (by rw [e2]; omega)).trans ?_, (bcell hb (by rw [e2]; omega)).trans ?_, hz⟩
  all_goals simp [go_sem]
set_option maxRecDepth 100000 in
set_option maxHeartbeats 4000000 in
theorem walks_true (A : Option Addr) (c : Nat) (ls : List S39) (a : S39) (A0 : Option Addr) (c0 : Nat) (b : S39) (A1 : Option Addr) (c1 : Nat) (w : World) (hG : LaidG w) (hr : Kd.C k39 w A ls.length ls) (hc : ls.length ≤ c) (hs : actsSmall ls = true)
    (hr0 : Kd.C kI w A0 a.f1.length a.f1) (hc0 : a.f1.length ≤ c0) (hr1 : Kd.C kI w A1 b.f1.length b.f1) (hc1 : b.f1.length ≤ c1) (hl0 : a.f1.length ≤ 1073741823) (hl1 : b.f1.length ≤ 1073741823) :
    Calls Tryd.prog 9 #[.slice A ls.length c, .agg #[.bool a.f0, .slice A0 a.f1.length c0], .agg #[.bool b.f0, .slice A1 b.f1.length c1]] w fun e w' => e = .returned (.bool true) ∧ Below w.heap.size w w' := by
  have hu39 := Tryd.underlying39
  have hb0 : Below w.heap.size w ((w.alloc (.cells #[.bool a.f0, .slice A0 a.f1.length c0] 39)).alloc (.cells #[.bool b.f0, .slice A1 b.f1.length c1] 39)) := ((Below.refl _ _).alloc (Nat.le_refl _) _).alloc (by simp) _
  have HBX : Aside0 (∀ W, Below (w.heap.size + 1 + 1) ((w.alloc (.cells #[.bool a.f0, .slice A0 a.f1.length c0] 39)).alloc (.cells #[.bool b.f0, .slice A1 b.f1.length c1] 39)) W → Below w.heap.size w W ∧ w.heap.size + 1 + 1 ≤ W.heap.size ∧
      W.cell? ⟨w.heap.size, 0, none⟩ = some (.bool a.f0) ∧ W.cell? ⟨w.heap.size, 1, none⟩ = some (.slice A0 a.f1.length c0) ∧ W.cell? ⟨w.heap.size + 1, 0, none⟩ = some (.bool b.f0) ∧ W.cell? ⟨w.heap.size + 1, 1, none⟩ = some (.slice A1 b.f1.length c1)) := ⟨fun W hW => by
    have hz := hW.size
    have e2 : ((w.alloc (.cells #[.bool a.f0, .slice A0 a.f1.length c0] 39)).alloc (.cells #[.bool b.f0, .slice A1 b.f1.length c1] 39)).heap.size = w.heap.size + 1 + 1 := by simp
    rw [e2] at hz
    refine ⟨hb0.trans (hW.mono (by omega)), hz, (bcell hW (by omega)).trans ?_, (bcell hW (by omega)).trans ?_, (bcell hW (by omega)).trans ?_, (bcell hW (by omega)).trans ?_⟩
    all_goals simp [go_sem]⟩
  have HA : Aside0 (Calls Tryd.prog 19 #[] ((w.alloc (.cells #[.bool a.f0, .slice A0 a.f1.length c0] 39)).alloc (.cells #[.bool b.f0, .slice A1 b.f1.length c1] 39)) fun e w' => e = .returned (.bool true) ∧ Below (w.heap.size + 1 + 1) ((w.alloc (.cells #[.bool a.f0, .slice A0 a.f1.length c0] 39)).alloc (.cells #[.bool b.f0, .slice A1 b.f1.length c1] 39)) w') :=
    ⟨(mjolnerlaw09_awake.calls true _ (hG.keep _ hb0) rfl).mono fun e w' ⟨h1, h2⟩ => ⟨h1, h2.mono (by simp)⟩⟩
  have H24 := Aside0.mk (fun W (hW : Below w.heap.size w W) => walk_got A c ls W (Kd.C_below hr hW) hc hs)
  have H27 := Aside0.mk (fun W (hW : Below w.heap.size w W) => refWalk_calls A c ls W (Kd.C_below hr hW) (fun d hd => of_decide_eq_true (List.all_eq_true.1 hs d hd)))
  have H29 := Aside0.mk (fun W (hW : Below w.heap.size w W) => merge_got a b A0 c0 A1 c1 W (Kd.C_below hr0 hW) hc0 (Kd.C_below hr1 hW) hc1 hl0 hl1)
  have H30 := Aside0.mk (fun W (hW : Below w.heap.size w W) => refMerge_calls a b A0 c0 A1 c1 W (Kd.C_below hr0 hW) hc0 (Kd.C_below hr1 hW) hc1 hl0 hl1)
  have HL1 := Aside0.mk (walkF_len ls)
  have HL2 := Aside0.mk (mergeF_len a b)
  clear hr hs hr0 hr1 hb0 hG
  generalize walkF ls = wf at H24 H27 HL1
  generalize mergeF a b = mf at H29 H30 HL2
  obtain ⟨wf1, wf2⟩ := wf
  obtain ⟨mf1, mf2, mf3⟩ := mf
  dsimp only at H24 H27 HL1 HL2
  go_enter Tryd.func9, Tryd.ntmps9
  go_wp2_with (first
    | (go_at_call 19; (with_reducible refine HA.out.mono ?_); rintro e w1 ⟨rfl, hb1⟩; have HB1 := Aside0.mk hb1; clear hb1)
    | (go_at_call 24; (with_reducible refine (H24.out _ (HBX.out _ HB1.out).1).mono ?_); rintro e w2 ⟨B2, d2, rfl, hd2, hC2, hb⟩; have HB2 := Aside0.mk (HB1.out.trans (hb.mono (HBX.out _ HB1.out).2.1)); have HC2 := Aside0.mk hC2; have HD2 := Aside0.mk hd2; clear hb hC2 hd2)
    | (go_at_call 27; (with_reducible refine (H27.out _ (HBX.out _ HB2.out).1).mono ?_); rintro e w3 ⟨B3, d3, rfl, hd3, hC3, hb⟩; have HB3 := Aside0.mk (HB2.out.trans (hb.mono (HBX.out _ HB2.out).2.1)); have HS3 := Aside0.mk (intsSame_calls B2 d2 B3 d3 wf1.length wf1 w3 (by have := HL1.out; omega) rfl (Kd.C_below HC2.out hb) HD2.out hC3 hd3); clear hb hC3 hd3)
    | (go_at_call 28; (with_reducible refine HS3.out.mono ?_); rintro e w4 ⟨rfl, hb⟩; have HB4 := Aside0.mk (HB3.out.trans (hb.mono (HBX.out _ HB3.out).2.1)); obtain ⟨_, _, x0, x1, x2, x3⟩ := HBX.out _ HB4.out; clear hb)
    | (go_at_call 29; (with_reducible refine (H29.out _ (HBX.out _ HB4.out).1).mono ?_); rintro e w5 ⟨B5, d5, rfl, hd5, hC5, hb⟩; have HB5 := Aside0.mk (HB4.out.trans (hb.mono (HBX.out _ HB4.out).2.1)); have HC5 := Aside0.mk hC5; have HD5 := Aside0.mk hd5; obtain ⟨_, z5, y0, y1, y2, y3⟩ := HBX.out _ HB5.out; have n1 : w.heap.size < w5.heap.size := (by omega); have n2 : w.heap.size + 1 < w5.heap.size := (by omega); have HZ5 := Aside0.mk z5; clear z5 hb hC5 hd5)
    | (go_at_call 30; have HB6 := Aside0.mk (HB5.out.alloc HZ5.out (.cells #[.bool mf1, .slice B5 mf2.length d5] 39)); (with_reducible refine (H30.out _ (HBX.out _ HB6.out).1).mono ?_); rintro e w6 ⟨B6, d6, rfl, hd6, hC6, hb⟩; have HB7 := Aside0.mk (HB6.out.trans (hb.mono (HBX.out _ HB6.out).2.1)); obtain ⟨u0, u1, u2⟩ := blk2 hb; have HS6 := Aside0.mk (fun (u v : Value) => intsSame_calls B5 d5 B6 d6 mf2.length mf2 (w6.alloc (.cells #[u, v] 39)) (by have := HL2.out; omega) rfl (Kd.C_below (Kd.C_below (Kd.C_below HC5.out (Below.alloc (Below.refl _ _) (Nat.le_refl _) (.cells #[.bool mf1, .slice B5 mf2.length d5] 39))) hb) (Below.alloc (Below.refl _ _) (Nat.le_refl _) (.cells #[u, v] 39))) HD5.out (Kd.C_below hC6 (Below.alloc (Below.refl _ _) (Nat.le_refl _) (.cells #[u, v] 39))) hd6); clear hb hC6 hd6)
    | (go_at_call 28; (with_reducible refine (HS6.out _ _).mono ?_); rintro e w7 ⟨rfl, hb⟩; have HB8 := Aside0.mk hb; clear hb))
  go_ret
  refine ⟨rfl, ?_⟩
  have hz6 := HB7.out.size
  refine (HBX.out _ HB7.out).1.trans (((Below.refl _ _).alloc ?_ _).trans (HB8.out.mono ?_))
  all_goals simp at hz6 ⊢
  all_goals omega
/-- what the sizes make of an action row -/
theorem actSmall {x : S39} (h : x.f1.length ≤ 1048576) : x.f1.length ≤ 1073741823 := by omega
theorem actsSmall_of {ls : List S39} (h : ∀ b ∈ ls, b.f1.length ≤ 1048576) : actsSmall ls = true := List.all_eq_true.2 fun d hd => decide_eq_true (by have := h d hd; omega)
def mjolnerlaw09_PatternWalks.f (k : Nat) (ls : List S39) (a b : S39) : Option Bool := if actsSmall ls = true ∧ a.f1.length ≤ 1073741823 ∧ b.f1.length ≤ 1073741823 then some true else none
theorem mjolnerlaw09_PatternWalks.calls (k : Nat) (A0 : Option Addr) (c0 : Nat) (l0 : List S39) (A1 : Option Addr) (c1 : Nat) (a : S39) (A2 : Option Addr) (c2 : Nat) (b : S39) (r : Bool) (w : World) (hG : LaidG w) (hr0 : Kd.C k39 w A0 l0.length l0) (hc0 : l0.length ≤ c0) (hr1 : Kd.C kI w A1 a.f1.length a.f1) (hc1 : a.f1.length ≤ c1) (hr2 : Kd.C kI w A2 b.f1.length b.f1) (hc2 : b.f1.length ≤ c2)
    (h : mjolnerlaw09_PatternWalks.f k l0 a b = some r) :
    Calls Tryd.prog 9 #[.slice A0 l0.length c0, .agg #[.bool a.f0, .slice A1 a.f1.length c1], .agg #[.bool b.f0, .slice A2 b.f1.length c2]] w fun e w' => e = .returned (.bool r) ∧ Below w.heap.size w w' := by
  unfold mjolnerlaw09_PatternWalks.f at h
  split at h
  · rename_i hs
    obtain rfl : true = r := Option.some.inj h
    exact walks_true A0 c0 l0 a A1 c1 b A2 c2 w hG hr0 hc0 hs.1 hr1 hc1 hr2 hc2 hs.2.1 hs.2.2
  · cases h
theorem PatternWalks_law (ls : List S39) (a b : S39) (_ : ls.length ≤ 1048576) (h : ∀ b ∈ ls, b.f1.all inI = true ∧ b.f1.length ≤ 1048576) (_ : a.f1.all inI = true) (ha : a.f1.length ≤ 1048576) (_ : b.f1.all inI = true) (hb : b.f1.length ≤ 1048576) : ∃ k, mjolnerlaw09_PatternWalks.f k ls a b = some true :=
  ⟨0, if_pos ⟨actsSmall_of fun d hd => (h d hd).2, actSmall ha, actSmall hb⟩⟩
end Go.Proofs.YtgkebfeggekkgaaDoor.Given
