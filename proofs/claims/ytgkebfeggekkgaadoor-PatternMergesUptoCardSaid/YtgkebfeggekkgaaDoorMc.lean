/- PatternMerges, walked: where the walk fails, where the place is none, where the two may not be merged; the law. -/
import Derived.Test.YtgkebfeggekkgaaDoorMb
set_option linter.unusedVariables false
set_option linter.unusedSimpArgs false
set_option linter.unusedSectionVars false
namespace Go.Proofs.YtgkebfeggekkgaaDoor.Given
open Go.RowKit Go.Proofs.YtgkebfeggekkgaaDoor.PT Go.Proofs.YtgkebfeggekkgaaDoorW.PrintWords Go.Proofs.YtgkebfeggekkgaaDoorW.PrintLast Go.Proofs.YtgkebfeggekkgaaDoorW.PrintMore

section
variable (A : Option Addr) (c : Nat) (ls : List S39) (x : S39) (A0 : Option Addr) (c0 : Nat) (w : World) (hG : LaidG w) (hr : Kd.C k39 w A ls.length ls) (hc : ls.length ≤ c) (hs : actsSmall ls = true)
    (hr0 : Kd.C kI w A0 x.f1.length x.f1) (hc0 : x.f1.length ≤ c0) (hl0 : x.f1.length ≤ 1073741823)
include hG hr hc hs hr0 hc0 hl0
set_option maxRecDepth 100000 in
set_option maxHeartbeats 4000000 in
theorem merges_fail (k : Int) (h0 : ¬ (walkF ls).2 = 0) :
    Calls Tryd.prog 10 #[.slice A ls.length c, .int .i64 k, .agg #[.bool x.f0, .slice A0 x.f1.length c0]] w fun e w' => e = .returned (.bool true) ∧ Below w.heap.size w w' := by
  have hu39 := Tryd.underlying39
  have hb0 : Below w.heap.size w (w.alloc (.cells #[.bool x.f0, .slice A0 x.f1.length c0] 39)) := (Below.refl _ _).alloc (Nat.le_refl _) _
  have HA : Aside0 (Calls Tryd.prog 19 #[] (w.alloc (.cells #[.bool x.f0, .slice A0 x.f1.length c0] 39)) fun e w' => e = .returned (.bool true) ∧ Below (w.heap.size + 1) (w.alloc (.cells #[.bool x.f0, .slice A0 x.f1.length c0] 39)) w') :=
    ⟨(mjolnerlaw09_awake.calls true _ (hG.keep _ hb0) rfl).mono fun e w' ⟨h1, h2⟩ => ⟨h1, h2.mono (by simp)⟩⟩
  have HBX : Aside0 (∀ W, Below (w.heap.size + 1) (w.alloc (.cells #[.bool x.f0, .slice A0 x.f1.length c0] 39)) W → Below w.heap.size w W ∧ w.heap.size + 1 ≤ W.heap.size ∧
      W.cell? ⟨w.heap.size, 0, none⟩ = some (.bool x.f0) ∧ W.cell? ⟨w.heap.size, 1, none⟩ = some (.slice A0 x.f1.length c0)) := ⟨fun W hW => by
    have hz := hW.size
    have e2 : (w.alloc (.cells #[.bool x.f0, .slice A0 x.f1.length c0] 39)).heap.size = w.heap.size + 1 := by simp
    rw [e2] at hz
    refine ⟨hb0.trans (hW.mono (by omega)), hz, (bcell hW (by omega)).trans ?_, (bcell hW (by omega)).trans ?_⟩
    all_goals simp [go_sem]⟩
  have H24 := Aside0.mk (fun W (hW : Below w.heap.size w W) => walk_got A c ls W (Kd.C_below hr hW) hc hs)
  have z1 : ((walkF ls).2 != 0) = true := bne_iff_ne.2 h0
  clear h0 hG hr hs hr0 hb0
  generalize (walkF ls).1 = wl at H24
  generalize (walkF ls).2 = z at H24 z1
  go_enter Tryd.func10, Tryd.ntmps10
  go_wp2_with (first
    | (go_at_call 19; (with_reducible refine HA.out.mono ?_); rintro e w1 ⟨rfl, hb1⟩; have HB1 := Aside0.mk hb1; clear hb1)
    | (go_at_call 24; (with_reducible refine (H24.out _ (HBX.out _ HB1.out).1).mono ?_); rintro e w2 ⟨B2, d2, rfl, hd2, hC2, hb⟩; have HB2 := Aside0.mk (HB1.out.trans (hb.mono (HBX.out _ HB1.out).2.1)); have HC2 := Aside0.mk hC2; have HD2 := Aside0.mk hd2; clear hb hC2 hd2))
  go_ret
  exact ⟨rfl, (HBX.out _ HB2.out).1⟩
set_option maxRecDepth 100000 in
set_option maxHeartbeats 4000000 in
theorem merges_out (k : Int) (h0 : (walkF ls).2 = 0) (hk : k < 0 ∨ (ls.length : Int) - 1 ≤ k) :
    Calls Tryd.prog 10 #[.slice A ls.length c, .int .i64 k, .agg #[.bool x.f0, .slice A0 x.f1.length c0]] w fun e w' => e = .returned (.bool true) ∧ Below w.heap.size w w' := by
  have hu39 := Tryd.underlying39
  have hb0 : Below w.heap.size w (w.alloc (.cells #[.bool x.f0, .slice A0 x.f1.length c0] 39)) := (Below.refl _ _).alloc (Nat.le_refl _) _
  have HA : Aside0 (Calls Tryd.prog 19 #[] (w.alloc (.cells #[.bool x.f0, .slice A0 x.f1.length c0] 39)) fun e w' => e = .returned (.bool true) ∧ Below (w.heap.size + 1) (w.alloc (.cells #[.bool x.f0, .slice A0 x.f1.length c0] 39)) w') :=
    ⟨(mjolnerlaw09_awake.calls true _ (hG.keep _ hb0) rfl).mono fun e w' ⟨h1, h2⟩ => ⟨h1, h2.mono (by simp)⟩⟩
  have HBX : Aside0 (∀ W, Below (w.heap.size + 1) (w.alloc (.cells #[.bool x.f0, .slice A0 x.f1.length c0] 39)) W → Below w.heap.size w W ∧ w.heap.size + 1 ≤ W.heap.size ∧
      W.cell? ⟨w.heap.size, 0, none⟩ = some (.bool x.f0) ∧ W.cell? ⟨w.heap.size, 1, none⟩ = some (.slice A0 x.f1.length c0)) := ⟨fun W hW => by
    have hz := hW.size
    have e2 : (w.alloc (.cells #[.bool x.f0, .slice A0 x.f1.length c0] 39)).heap.size = w.heap.size + 1 := by simp
    rw [e2] at hz
    refine ⟨hb0.trans (hW.mono (by omega)), hz, (bcell hW (by omega)).trans ?_, (bcell hW (by omega)).trans ?_⟩
    all_goals simp [go_sem]⟩
  have H24 := Aside0.mk (fun W (hW : Below w.heap.size w W) => walk_got A c ls W (Kd.C_below hr hW) hc hs)
  rw [h0] at H24
  have h40 := (walkF_zero h0).1
  clear h0 hG hr hs hr0 hb0
  generalize (walkF ls).1 = wl at H24
  have hcs : decide (k < 0) = true ∨ (decide (k < 0) = false ∧ decide ((ls.length : Int) - 1 ≤ k) = true) := by
    simp only [decide_eq_true_eq, decide_eq_false_iff_not]
    omega
  clear hk
  rcases hcs with k1 | ⟨k1, k2⟩
  ·
    go_enter Tryd.func10, Tryd.ntmps10
    go_wp2_with (first
      | (go_at_call 19; (with_reducible refine HA.out.mono ?_); rintro e w1 ⟨rfl, hb1⟩; have HB1 := Aside0.mk hb1; clear hb1)
      | (go_at_call 24; (with_reducible refine (H24.out _ (HBX.out _ HB1.out).1).mono ?_); rintro e w2 ⟨B2, d2, rfl, hd2, hC2, hb⟩; have HB2 := Aside0.mk (HB1.out.trans (hb.mono (HBX.out _ HB1.out).2.1)); have HC2 := Aside0.mk hC2; have HD2 := Aside0.mk hd2; clear hb hC2 hd2))
    go_ret
    exact ⟨rfl, (HBX.out _ HB2.out).1⟩
  ·
    go_enter Tryd.func10, Tryd.ntmps10
    go_wp2_with (first
      | (go_at_call 19; (with_reducible refine HA.out.mono ?_); rintro e w1 ⟨rfl, hb1⟩; have HB1 := Aside0.mk hb1; clear hb1)
      | (go_at_call 24; (with_reducible refine (H24.out _ (HBX.out _ HB1.out).1).mono ?_); rintro e w2 ⟨B2, d2, rfl, hd2, hC2, hb⟩; have HB2 := Aside0.mk (HB1.out.trans (hb.mono (HBX.out _ HB1.out).2.1)); have HC2 := Aside0.mk hC2; have HD2 := Aside0.mk hd2; clear hb hC2 hd2))
    go_ret
    exact ⟨rfl, (HBX.out _ HB2.out).1⟩
set_option maxRecDepth 100000 in
set_option maxHeartbeats 4000000 in
theorem merges_big (k : Nat) (hk : k + 1 < ls.length) (h0 : (walkF ls).2 = 0) (hm : ¬ (mergeF ls[k] ls[k + 1]).2.2 = 0) :
    Calls Tryd.prog 10 #[.slice A ls.length c, .int .i64 k, .agg #[.bool x.f0, .slice A0 x.f1.length c0]] w fun e w' => e = .returned (.bool true) ∧ Below w.heap.size w w' := by
  have hu39 := Tryd.underlying39
  have hb0 : Below w.heap.size w (w.alloc (.cells #[.bool x.f0, .slice A0 x.f1.length c0] 39)) := (Below.refl _ _).alloc (Nat.le_refl _) _
  have HA : Aside0 (Calls Tryd.prog 19 #[] (w.alloc (.cells #[.bool x.f0, .slice A0 x.f1.length c0] 39)) fun e w' => e = .returned (.bool true) ∧ Below (w.heap.size + 1) (w.alloc (.cells #[.bool x.f0, .slice A0 x.f1.length c0] 39)) w') :=
    ⟨(mjolnerlaw09_awake.calls true _ (hG.keep _ hb0) rfl).mono fun e w' ⟨h1, h2⟩ => ⟨h1, h2.mono (by simp)⟩⟩
  have HBX : Aside0 (∀ W, Below (w.heap.size + 1) (w.alloc (.cells #[.bool x.f0, .slice A0 x.f1.length c0] 39)) W → Below w.heap.size w W ∧ w.heap.size + 1 ≤ W.heap.size ∧
      W.cell? ⟨w.heap.size, 0, none⟩ = some (.bool x.f0) ∧ W.cell? ⟨w.heap.size, 1, none⟩ = some (.slice A0 x.f1.length c0)) := ⟨fun W hW => by
    have hz := hW.size
    have e2 : (w.alloc (.cells #[.bool x.f0, .slice A0 x.f1.length c0] 39)).heap.size = w.heap.size + 1 := by simp
    rw [e2] at hz
    refine ⟨hb0.trans (hW.mono (by omega)), hz, (bcell hW (by omega)).trans ?_, (bcell hW (by omega)).trans ?_⟩
    all_goals simp [go_sem]⟩
  have H24 := Aside0.mk (fun W (hW : Below w.heap.size w W) => walk_got A c ls W (Kd.C_below hr hW) hc hs)
  rw [h0] at H24
  have h40 := (walkF_zero h0).1
  have HOK := Aside0.mk (oks hk h0)
  have HR := Aside0.mk hr
  have HSM := Aside0.mk hs
  have HR0 := Aside0.mk hr0
  obtain ⟨hs', hrh, hft⟩ := C_split hr
  have HRH := Aside0.mk hrh
  have HFT := Aside0.mk hft
  have k1 : decide ((k : Int) < 0) = false := decide_eq_false (by omega)
  have k2 : decide ((ls.length : Int) - 1 ≤ (k : Int)) = false := decide_eq_false (by omega)
  have nk0 : ¬ ls.length ≤ k := by omega
  have nk1 : ¬ ls.length ≤ k + 1 := by omega
  have nk2 : ¬ (ls.length : Int) ≤ (k : Int) + 1 := by omega
  have nk3 : 0 ≤ (k : Int) + 1 := by omega
  have ka : 0 ≤ (k : Int) := by omega
  have kb : (k : Int) < ls.length := by omega
  have kc : (k : Int) + 1 < ls.length := by omega
  have kd : ((k : Int) + 1).toNat = k + 1 := by omega
  have kk : k < ls.length := by omega
  have HKT := Aside0.mk (show k ≤ ls.length by omega)
  have HK1 := Aside0.mk (show k + 1 ≤ ls.length by omega)
  have HK2 := Aside0.mk (show k + 2 ≤ ls.length by omega)
  have HJ1 := Aside0.mk (show (k : Int) + 1 = ((k + 1 : Nat) : Int) by omega)
  have HJ2 := Aside0.mk (show (k : Int) + 2 = ((k + 2 : Nat) : Int) by omega)
  have hb5 : -9223372036854775808 ≤ (k : Int) + 1 ∧ (k : Int) + 1 ≤ 9223372036854775807 := by omega
  have hb6 : -9223372036854775808 ≤ (k : Int) + 2 ∧ (k : Int) + 2 ≤ 9223372036854775807 := by omega
  have kw : wrap64 ((k : Int) + 1) = (k : Int) + 1 := IntWalk.wrap64_in _ hb5
  have kw2 : IntKind.i64.wrap ((k : Int) + 1) = (k : Int) + 1 := (i64_w _).trans kw
  have kw3 : wrap64 ((k : Int) + 2) = (k : Int) + 2 := IntWalk.wrap64_in _ hb6
  have kw4 : IntKind.i64.wrap ((k : Int) + 2) = (k : Int) + 2 := (i64_w _).trans kw3
  clear hb5 hb6
  clear hG hr hs hr0 hb0 hrh hft
  generalize hwl : (walkF ls).1 = wl at H24
  have HWL := Aside0.mk hwl
  clear hwl
  go_enter Tryd.func10, Tryd.ntmps10
  go_wp2_with (first
    | (go_at_call 19; (with_reducible refine HA.out.mono ?_); rintro e w1 ⟨rfl, hb1⟩; have HB1 := Aside0.mk hb1; clear hb1)
    | (go_at_call 24; (with_reducible refine (H24.out _ (HBX.out _ HB1.out).1).mono ?_); rintro e w2 ⟨B2, d2, rfl, hd2, hC2, hb⟩; have HB2 := Aside0.mk (HB1.out.trans (hb.mono (HBX.out _ HB1.out).2.1)); have HC2 := Aside0.mk hC2; have HD2 := Aside0.mk hd2; clear hb hC2 hd2))
  obtain ⟨ad, A1, c1, rfl, hx0, hx1, hc1, hg1⟩ := at_T39 (Kd.C_below HR.out (HBX.out _ HB2.out).1) (k : Int) ka kb
  obtain ⟨ad', A2, c2, hade, hy0, hy1, hc2, hg2⟩ := at_T39 (Kd.C_below HR.out (HBX.out _ HB2.out).1) ((k : Int) + 1) nk3 kc
  obtain rfl : ad = ad' := by simpa using hade
  rw [Int.toNat_natCast] at hx0 hx1
  rw [kd] at hy0 hy1
  have hrp := rd39 ls k kk
  have hrq := rd39 ls (k + 1) hk
  rw [Int.natCast_add, Int.natCast_one] at hrq
  have hM : (mergeF ls[k] ls[k + 1]).2.2 = 2 := (mergeF_two HOK.out.1 HOK.out.2 hm).1
  rw [← hrp, ← hrq] at hM
  have hlp : (rd_T39 ls (k : Int)).f1.length ≤ 1073741823 := by rw [hrp]; exact of_decide_eq_true (List.all_eq_true.1 HSM.out _ (List.getElem_mem _))
  have hlq : (rd_T39 ls ((k : Int) + 1)).f1.length ≤ 1073741823 := by rw [hrq]; exact of_decide_eq_true (List.all_eq_true.1 HSM.out _ (List.getElem_mem _))
  generalize hgp : rd_T39 ls (k : Int) = p at hx0 hx1 hc1 hg1 hlp hM hrp
  generalize hgq : rd_T39 ls ((k : Int) + 1) = q at hy0 hy1 hc2 hg2 hlq hM hrq
  have H29 := Aside0.mk (fun W (hW : Below w2.heap.size w2 W) => merge_got p q A1 c1 A2 c2 W (Kd.C_below hg1 hW) hc1 (Kd.C_below hg2 hW) hc2 hlp hlq)
  have HM := Aside0.mk hM
  have HRP := Aside0.mk hrp
  have HRQ := Aside0.mk hrq
  have HG1 := Aside0.mk hg1
  have HG2 := Aside0.mk hg2
  clear hM hrp hrq hgp hgq hg1 hg2 hade
  have hE : mergeF p q = ((mergeF p q).1, (mergeF p q).2.1, 2) := by rw [← HM.out]
  rw [hE] at H29
  clear hE
  generalize (mergeF p q).1 = mb at H29
  generalize (mergeF p q).2.1 = M at H29
  generalize hn : M.length = n
  have HN := Aside0.mk hn
  clear hn
  apply wp_join (J := JM w2 (mb, M, 2) n)
  · refine wp_region_noPanic ?_
    refine wp_region_held (S := fun W => Below w2.heap.size w2 W) (by kernel_rfl) ?_
    have hS : Below w2.heap.size w2 w2.drew := below_drew (Below.refl _ _)
    change wpAnyH _ _ _ _ _ _ _ _ w2.drew
    generalize w2.drew = W at hS ⊢
    refine wpAnyH_take (i := 0) (v := .slice (some ad) ls.length c) rfl (by kernel_rfl) (by kernel_rfl) (by kernel_rfl) (fun _ _ _ h => h) (.inl ⟨by rfl, fun w' hw' => by go_simp⟩) hS ?_
    refine wpAnyH_take (i := 1) (v := .int .i64 k) rfl (by kernel_rfl) (by kernel_rfl) (by kernel_rfl) (fun _ _ _ h => h) (.inl ⟨by rfl, fun w' hw' => by go_simp⟩) hS ?_
    refine wpAnyH_take (i := 2) (v := .pointer (some (ad.add (k * 2)))) rfl (by kernel_rfl) (by kernel_rfl) (by kernel_rfl) (fun _ _ _ h => h) (.inl ⟨by rfl, fun w' hw' => by go_simp⟩) hS ?_
    refine wpAnyH_take (i := 3) (v := .agg #[.bool p.f0, .slice A1 p.f1.length c1]) rfl (by kernel_rfl) (by kernel_rfl) (by kernel_rfl) (fun _ _ _ h => h) (.inl ⟨by rfl, fun w' hw' => by have s0 := (hw'.cell (World.block_lt_of_cell? w2 _ hx0)).trans hx0; have s1 := (hw'.cell (World.block_lt_of_cell? w2 _ hx1)).trans hx1; go_simp⟩) hS ?_
    refine wpAnyH_take (i := 4) (v := .slice (some ad) ls.length c) rfl (by kernel_rfl) (by kernel_rfl) (by kernel_rfl) (fun _ _ _ h => h) (.inl ⟨by rfl, fun w' hw' => by go_simp⟩) hS ?_
    refine wpAnyH_take (i := 5) (v := .int .i64 k) rfl (by kernel_rfl) (by kernel_rfl) (by kernel_rfl) (fun _ _ _ h => h) (.inl ⟨by rfl, fun w' hw' => by go_simp⟩) hS ?_
    refine wpAnyH_take (i := 6) (v := .int .i64 ((k : Int) + 1)) rfl (by kernel_rfl) (by kernel_rfl) (by kernel_rfl) (fun _ _ _ h => h) (.inl ⟨by rfl, fun w' hw' => by go_simp⟩) hS ?_
    refine wpAnyH_take (i := 7) (v := .pointer (some (ad.add ((k + 1) * 2)))) rfl (by kernel_rfl) (by kernel_rfl) (by kernel_rfl) (fun _ _ _ h => h) (.inl ⟨by rfl, fun w' hw' => by go_simp⟩) hS ?_
    refine wpAnyH_take (i := 8) (v := .agg #[.bool q.f0, .slice A2 q.f1.length c2]) rfl (by kernel_rfl) (by kernel_rfl) (by kernel_rfl) (fun _ _ _ h => h) (.inl ⟨by rfl, fun w' hw' => by have s0 := (hw'.cell (World.block_lt_of_cell? w2 _ hy0)).trans hy0; have s1 := (hw'.cell (World.block_lt_of_cell? w2 _ hy1)).trans hy1; go_simp⟩) hS ?_
    refine wpAnyH_all (rs := [9, 13]) (by kernel_rfl) (by simp) ?_
    intro i hi
    have hi : i = 9 ∨ i = 13 := by simpa using hi
    rcases hi with rfl | rfl
    · refine wpOp_of rfl (by rfl) ?_
      go_simp
      refine (H29.out W hS).mono ?_
      rintro e W3 ⟨B3, d3, rfl, hd3, hC3, hb⟩
      have hS3 := hS.trans (hb.mono hS.size)
      have HC3 := Aside0.mk hC3
      have HD3 := Aside0.mk hd3
      dsimp only at HC3 HD3
      rw [HN.out] at HD3 ⊢
      refine ⟨hS3, ?_⟩
      refine wpAnyH_take (i := 10) (v := .tuple #[.agg #[.bool mb, .slice B3 n d3], .int .i64 2]) rfl (by kernel_rfl) (by kernel_rfl) (by kernel_rfl) (fun _ _ _ h => h) (.inl ⟨by rfl, fun w' hw' => by go_simp⟩) hS3 ?_
      refine wpAnyH_take (i := 11) (v := .agg #[.bool mb, .slice B3 n d3]) rfl (by kernel_rfl) (by kernel_rfl) (by kernel_rfl) (fun _ _ _ h => h) (.inl ⟨by rfl, fun w' hw' => by go_simp⟩) hS3 ?_
      refine wpAnyH_take (i := 12) (v := .int .i64 2) rfl (by kernel_rfl) (by kernel_rfl) (by kernel_rfl) (fun _ _ _ h => h) (.inl ⟨by rfl, fun w' hw' => by go_simp⟩) hS3 ?_
      refine wpAnyH_all (rs := [13]) (by kernel_rfl) (by simp) ?_
      intro i hi
      obtain rfl : i = 13 := by simpa using hi
      refine wpOp_of rfl (by rfl) ?_
      go_simp
      have hS4 := hS3.alloc hS3.size (.cells #[.bool false, .slice none 0 0] 39)
      refine ⟨hS4, ?_⟩
      refine wpAnyH_all (rs := [14]) (by kernel_rfl) (by simp) ?_
      intro i hi
      obtain rfl : i = 14 := by simpa using hi
      refine wpOp_of rfl (by rfl) ?_
      go_simp
      have hj := JM_new (r := (mb, M, 2)) (B := B3) hS3 HD3.out HC3.out
      refine ⟨hj.1, ?_⟩
      refine wpAnyH_take (i := 15) (v := .int .i64 2) rfl (by kernel_rfl) (by kernel_rfl) (by kernel_rfl) (fun _ _ _ h => h) (.inl ⟨by rfl, fun w' hw' => by go_simp⟩) hj.1 ?_
      refine wpAnyH_done (by kernel_rfl) (NoPanic.normal ?_) _
      refine ⟨rfl, W3.heap.size, B3, d3, ?_, hj⟩
      clear hj
      generalize W3.heap.size = g
      go_simp
      rfl
    · refine wpOp_of rfl (by rfl) ?_
      go_simp
      have hS1 := hS.alloc hS.size (.cells #[.bool false, .slice none 0 0] 39)
      refine ⟨hS1, ?_⟩
      refine wpAnyH_all (rs := [9]) (by kernel_rfl) (by simp) ?_
      intro i hi
      obtain rfl : i = 9 := by simpa using hi
      refine wpOp_of rfl (by rfl) ?_
      go_simp
      refine (H29.out _ hS1).mono ?_
      rintro e W3 ⟨B3, d3, rfl, hd3, hC3, hb⟩
      have hS3 := hS1.trans (hb.mono hS1.size)
      obtain ⟨z0, z1, z2⟩ := blk2 hb
      obtain ⟨z3, z4⟩ := blk2f hb
      have HC3 := Aside0.mk hC3
      have HD3 := Aside0.mk hd3
      dsimp only at HC3 HD3
      rw [HN.out] at HD3 ⊢
      refine ⟨hS3, ?_⟩
      refine wpAnyH_take (i := 10) (v := .tuple #[.agg #[.bool mb, .slice B3 n d3], .int .i64 2]) rfl (by kernel_rfl) (by kernel_rfl) (by kernel_rfl) (fun _ _ _ h => h) (.inl ⟨by rfl, fun w' hw' => by go_simp⟩) hS3 ?_
      refine wpAnyH_take (i := 11) (v := .agg #[.bool mb, .slice B3 n d3]) rfl (by kernel_rfl) (by kernel_rfl) (by kernel_rfl) (fun _ _ _ h => h) (.inl ⟨by rfl, fun w' hw' => by go_simp⟩) hS3 ?_
      refine wpAnyH_take (i := 12) (v := .int .i64 2) rfl (by kernel_rfl) (by kernel_rfl) (by kernel_rfl) (fun _ _ _ h => h) (.inl ⟨by rfl, fun w' hw' => by go_simp⟩) hS3 ?_
      refine wpAnyH_all (rs := [14]) (by kernel_rfl) (by simp) ?_
      intro i hi
      obtain rfl : i = 14 := by simpa using hi
      refine wpOp_of rfl (by rfl) ?_
      have hj := JM_of (r := (mb, M, 2)) (B := B3) hS3 hS.size z0 z1 HD3.out HC3.out
      go_simp
      refine ⟨hj.1, ?_⟩
      refine wpAnyH_take (i := 15) (v := .int .i64 2) rfl (by kernel_rfl) (by kernel_rfl) (by kernel_rfl) (fun _ _ _ h => h) (.inl ⟨by rfl, fun w' hw' => by go_simp⟩) hj.1 ?_
      refine wpAnyH_done (by kernel_rfl) (NoPanic.normal ?_) _
      refine ⟨rfl, W.heap.size, B3, d3, ?_, hj⟩
      clear hj
      generalize W.heap.size = g
      go_simp
  · intro g B3 d3 w3 hj
    have HB3 := Aside0.mk (HB2.out.trans (hj.1.mono (HBX.out _ HB2.out).2.1))
    clear hj hx0 hx1 hy0 hy1 H29
    go_wp2_with (fail)
    go_ret
    exact ⟨rfl, (HBX.out _ HB3.out).1⟩
end
def mjolnerlaw09_PatternMerges.f (n : Nat) (ls : List S39) (k : Int) (x : S39) : Option Bool := if actsSmall ls = true ∧ x.f1.length ≤ 1073741823 then some true else none
theorem mjolnerlaw09_PatternMerges.calls (n : Nat) (A0 : Option Addr) (c0 : Nat) (l0 : List S39) (k : Int) (A1 : Option Addr) (c1 : Nat) (x : S39) (r : Bool) (w : World) (hG : LaidG w) (hr0 : Kd.C k39 w A0 l0.length l0) (hc0 : l0.length ≤ c0) (hr1 : Kd.C kI w A1 x.f1.length x.f1) (hc1 : x.f1.length ≤ c1)
    (h : mjolnerlaw09_PatternMerges.f n l0 k x = some r) :
    Calls Tryd.prog 10 #[.slice A0 l0.length c0, .int .i64 k, .agg #[.bool x.f0, .slice A1 x.f1.length c1]] w fun e w' => e = .returned (.bool r) ∧ Below w.heap.size w w' := by
  unfold mjolnerlaw09_PatternMerges.f at h
  split at h
  · rename_i hs
    obtain rfl : true = r := Option.some.inj h
    by_cases h0 : (walkF l0).2 = 0
    · by_cases hk : k < 0 ∨ (l0.length : Int) - 1 ≤ k
      · exact merges_out A0 c0 l0 x A1 c1 w hG hr0 hc0 hs.1 hr1 hc1 hs.2 k h0 hk
      · have hk2 : k.toNat + 1 < l0.length := by omega
        have e : ((k.toNat : Nat) : Int) = k := by omega
        by_cases hm : (mergeF l0[k.toNat] l0[k.toNat + 1]).2.2 = 0
        · have := merges_in A0 c0 l0 x A1 c1 w hG hr0 hc0 hs.1 hr1 hc1 hs.2 k.toNat hk2 h0 hm
          rw [e] at this
          exact this
        · have := merges_big A0 c0 l0 x A1 c1 w hG hr0 hc0 hs.1 hr1 hc1 hs.2 k.toNat hk2 h0 hm
          rw [e] at this
          exact this
    · exact merges_fail A0 c0 l0 x A1 c1 w hG hr0 hc0 hs.1 hr1 hc1 hs.2 k h0
  · cases h
theorem PatternMerges_law (ls : List S39) (k : Int) (x : S39) (_ : ls.length ≤ 1048576) (h : ∀ b ∈ ls, b.f1.all inI = true ∧ b.f1.length ≤ 1048576) (_ : x.f1.all inI = true) (hx : x.f1.length ≤ 1048576) : ∃ n, mjolnerlaw09_PatternMerges.f n ls k x = some true :=
  ⟨0, if_pos ⟨actsSmall_of fun d hd => (h d hd).2, actSmall hx⟩⟩
end Go.Proofs.YtgkebfeggekkgaaDoor.Given
