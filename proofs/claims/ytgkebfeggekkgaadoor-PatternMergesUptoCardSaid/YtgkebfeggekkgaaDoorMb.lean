/- PatternMerges, walked: it answers true. -/
import Derived.Test.YtgkebfeggekkgaaDoorMa
set_option linter.unusedVariables false
set_option linter.unusedSimpArgs false
namespace Go.Proofs.YtgkebfeggekkgaaDoor.Given
open Go.RowKit Go.Proofs.YtgkebfeggekkgaaDoor.PT Go.Proofs.YtgkebfeggekkgaaDoorW.PrintWords Go.Proofs.YtgkebfeggekkgaaDoorW.PrintLast Go.Proofs.YtgkebfeggekkgaaDoorW.PrintMore

theorem blk2f {w5 w6 : World} {u v : Value} (hb : Below (w5.alloc (.cells #[u, v] 39)).heap.size (w5.alloc (.cells #[u, v] 39)) w6) :
    w6.frozen? ⟨w5.heap.size, 0, none⟩ = false ∧ w6.frozen? ⟨w5.heap.size, 1, none⟩ = false := by
  have e2 : (w5.alloc (.cells #[u, v] 39)).heap.size = w5.heap.size + 1 := by simp
  refine ⟨(bfrozen hb (by rw [e2]; omega)).trans ?_, (bfrozen hb (by rw [e2]; omega)).trans ?_⟩
  all_goals simp [go_sem]
theorem merge_facts {p q : S39} (x : S39) (hm : (mergeF p q).2.2 = 0) {M : List Int} (hM : (mergeF p q).2.1 = M) : ∃ lb L lz rb R rz, mergeF ⟨true, M⟩ x = (lb, L, lz) ∧ mergeF q x = (rb, R, rz) ∧ (lz = 0 → rz = 0 → mergeF p ⟨true, R⟩ = (true, L, 0) ∧ rb = true) ∧ M.length ≤ 2000 ∧ L.length ≤ 2000 ∧ R.length ≤ 2000 := by
  subst hM
  have hA := fun h1 h2 => merge_assoc (a := p) (b := q) (c := x) hm h1 h2
  have h3 := mergeF_len p q
  have h4 := mergeF_len ⟨true, (mergeF p q).2.1⟩ x
  have h5 := mergeF_len q x
  have h6 : (mergeF q x).2.2 = 0 → (mergeF q x).1 = true := fun h => by rw [(mergeF_ok h).2.2.2]
  generalize mergeF ⟨true, (mergeF p q).2.1⟩ x = L at hA h4
  generalize mergeF q x = R at hA h5 h6
  obtain ⟨lb, L, lz⟩ := L
  obtain ⟨rb, R, rz⟩ := R
  exact ⟨lb, L, lz, rb, R, rz, rfl, rfl, fun e1 e2 => ⟨hA e1 e2, h6 e2⟩, h3, h4, h5⟩
section
variable (A : Option Addr) (c : Nat) (ls : List S39) (x : S39) (A0 : Option Addr) (c0 : Nat) (w : World) (hG : LaidG w) (hr : Kd.C k39 w A ls.length ls) (hc : ls.length ≤ c) (hs : actsSmall ls = true)
    (hr0 : Kd.C kI w A0 x.f1.length x.f1) (hc0 : x.f1.length ≤ c0) (hl0 : x.f1.length ≤ 1073741823)
include hG hr hc hs hr0 hc0 hl0
set_option maxRecDepth 100000 in
set_option maxHeartbeats 4000000 in
theorem merges_in (k : Nat) (hk : k + 1 < ls.length) (h0 : (walkF ls).2 = 0) (hm : (mergeF ls[k] ls[k + 1]).2.2 = 0) :
    Calls Tryd.prog 10 #[.slice A ls.length c, .int .i64 k, .agg #[.bool x.f0, .slice A0 x.f1.length c0]] w fun e w' => e = .returned (.bool true) ∧ Below w.heap.size w w' := by
  have hu39 := Tryd.underlying39
  have hb0 : Below w.heap.size w (w.alloc (.cells #[.bool x.f0, .slice A0 x.f1.length c0] 39)) := (Below.refl _ _).alloc (Nat.le_refl _) _
  have HA : Aside0 (Calls Tryd.prog 19 #[] (w.alloc (.cells #[.bool x.f0, .slice A0 x.f1.length c0] 39)) fun e w' => e = .returned (.bool true) ∧ Below (w.heap.size + 1) (w.alloc (.cells #[.bool x.f0, .slice A0 x.f1.length c0] 39)) w') :=
    ⟨(mjolnerlaw09_awake.calls true _ (hG.keep _ hb0) rfl).mono fun e w' ⟨h1, h2⟩ => ⟨h1, h2.mono (by simp)⟩⟩
  have HBX : Aside0 (∀ W, Below (w.heap.size + 1) (w.alloc (.cells #[.bool x.f0, .slice A0 x.f1.length c0] 39)) W → Below w.heap.size w W ∧ w.heap.size + 1 ≤ W.heap.size ∧
      W.cell? ⟨w.heap.size, 0, none⟩ = some (.bool x.f0) ∧ W.cell? ⟨w.heap.size, 1, none⟩ = some (.slice A0 x.f1.length c0)) := ⟨fun W hW => by
    have hz := hW.size
    have e2 : (w.alloc (.cells #[.bool x.f0, .slice A0 x.f1.length c0] 39)).heap.size = w.heap.size + 1 := by simp
    rw [e2] at hz
    refine ⟨hb0.trans (hW.mono (by omega)), hz, (bcell hW (by omega)).trans ?_, (bcell hW (by omega)).trans ?_⟩
    all_goals simp [go_sem]⟩
  have H24 := Aside0.mk (fun W (hW : Below w.heap.size w W) => walk_got A c ls W (Kd.C_below hr hW) hc hs)
  rw [h0] at H24
  have h40 := (walkF_zero h0).1
  have HR := Aside0.mk hr
  have HSM := Aside0.mk hs
  have HR0 := Aside0.mk hr0
  obtain ⟨hs', hrh, hft⟩ := C_split hr
  have HRH := Aside0.mk hrh
  have HFT := Aside0.mk hft
  have k1 : decide ((k : Int) < 0) = false := decide_eq_false (by omega)
  have k2 : decide ((ls.length : Int) - 1 ≤ (k : Int)) = false := decide_eq_false (by omega)
  have nk0 : ¬ ls.length ≤ k := by omega
  have nk1 : ¬ ls.length ≤ k + 1 := by omega
  have nk2 : ¬ (ls.length : Int) ≤ (k : Int) + 1 := by omega
  have nk3 : 0 ≤ (k : Int) + 1 := by omega
  have ka : 0 ≤ (k : Int) := by omega
  have kb : (k : Int) < ls.length := by omega
  have kc : (k : Int) + 1 < ls.length := by omega
  have kd : ((k : Int) + 1).toNat = k + 1 := by omega
  have kk : k < ls.length := by omega
  have HKT := Aside0.mk (show k ≤ ls.length by omega)
  have HK1 := Aside0.mk (show k + 1 ≤ ls.length by omega)
  have HK2 := Aside0.mk (show k + 2 ≤ ls.length by omega)
  have HJ1 := Aside0.mk (show (k : Int) + 1 = ((k + 1 : Nat) : Int) by omega)
  have HJ2 := Aside0.mk (show (k : Int) + 2 = ((k + 2 : Nat) : Int) by omega)
  have hta : ([] ++ hs'.take k).length = k := by rw [List.nil_append, List.length_take, hft.len, Nat.min_eq_left HKT.out]
  have HLA : Aside0 ((([] : List Head).length + k) * 32 ≤ 140737488355328) := ⟨by rw [List.length_nil]; omega⟩
  have HLB : Aside0 ((([] ++ hs'.take k).length + 1) * 32 ≤ 140737488355328) := ⟨by rw [hta]; omega⟩
  have HLC : Aside0 (∀ h : Head, ((([] ++ hs'.take k) ++ [h]).length + (ls.length - (k + 2))) * 32 ≤ 140737488355328) := ⟨fun h => by rw [List.length_append, hta, List.length_singleton]; omega⟩
  have HLE : Aside0 ((([] ++ hs'.take k).length + (ls.length - (k + 1))) * 32 ≤ 140737488355328) := ⟨by rw [hta]; omega⟩
  have HLN : Aside0 ((walkF ls).1.length ≤ 1048576) := ⟨by have := walkF_len ls; omega⟩
  have HMS := Aside0.mk (fun h => walk_missing hk h0 h)
  have hb5 : -9223372036854775808 ≤ (k : Int) + 1 ∧ (k : Int) + 1 ≤ 9223372036854775807 := by omega
  have hb6 : -9223372036854775808 ≤ (k : Int) + 2 ∧ (k : Int) + 2 ≤ 9223372036854775807 := by omega
  have kw : wrap64 ((k : Int) + 1) = (k : Int) + 1 := IntWalk.wrap64_in _ hb5
  have kw2 : IntKind.i64.wrap ((k : Int) + 1) = (k : Int) + 1 := (i64_w _).trans kw
  have kw3 : wrap64 ((k : Int) + 2) = (k : Int) + 2 := IntWalk.wrap64_in _ hb6
  have kw4 : IntKind.i64.wrap ((k : Int) + 2) = (k : Int) + 2 := (i64_w _).trans kw3
  clear hb5 hb6
  clear hG hr hs hr0 hb0 hrh hft hta
  generalize hwl : (walkF ls).1 = wl at H24 HLN
  have HWL := Aside0.mk hwl
  clear hwl
  go_enter Tryd.func10, Tryd.ntmps10
  go_wp2_with (first
    | (go_at_call 19; (with_reducible refine HA.out.mono ?_); rintro e w1 ⟨rfl, hb1⟩; have HB1 := Aside0.mk hb1; clear hb1)
    | (go_at_call 24; (with_reducible refine (H24.out _ (HBX.out _ HB1.out).1).mono ?_); rintro e w2 ⟨B2, d2, rfl, hd2, hC2, hb⟩; have HB2 := Aside0.mk (HB1.out.trans (hb.mono (HBX.out _ HB1.out).2.1)); have HC2 := Aside0.mk hC2; have HD2 := Aside0.mk hd2; clear hb hC2 hd2))
  obtain ⟨ad, A1, c1, rfl, hx0, hx1, hc1, hg1⟩ := at_T39 (Kd.C_below HR.out (HBX.out _ HB2.out).1) (k : Int) ka kb
  obtain ⟨ad', A2, c2, hade, hy0, hy1, hc2, hg2⟩ := at_T39 (Kd.C_below HR.out (HBX.out _ HB2.out).1) ((k : Int) + 1) nk3 kc
  obtain rfl : ad = ad' := by simpa using hade
  rw [Int.toNat_natCast] at hx0 hx1
  rw [kd] at hy0 hy1
  have hrp := rd39 ls k kk
  have hrq := rd39 ls (k + 1) hk
  rw [Int.natCast_add, Int.natCast_one] at hrq
  have hM := (mergeF_ok hm).2.2.2
  rw [← hrp, ← hrq] at hM
  have hlp : (rd_T39 ls (k : Int)).f1.length ≤ 1073741823 := by rw [hrp]; exact of_decide_eq_true (List.all_eq_true.1 HSM.out _ (List.getElem_mem _))
  have hlq : (rd_T39 ls ((k : Int) + 1)).f1.length ≤ 1073741823 := by rw [hrq]; exact of_decide_eq_true (List.all_eq_true.1 HSM.out _ (List.getElem_mem _))
  have hmp := hm
  rw [← hrp, ← hrq] at hmp
  generalize hgp : rd_T39 ls (k : Int) = p at hx0 hx1 hc1 hg1 hlp hM hrp hmp
  generalize hgq : rd_T39 ls ((k : Int) + 1) = q at hy0 hy1 hc2 hg2 hlq hM hrq hmp
  have H29 := Aside0.mk (fun W (hW : Below w2.heap.size w2 W) => merge_got p q A1 c1 A2 c2 W (Kd.C_below hg1 hW) hc1 (Kd.C_below hg2 hW) hc2 hlp hlq)
  have HM := Aside0.mk hM
  have HRP := Aside0.mk hrp
  have HRQ := Aside0.mk hrq
  have HG1 := Aside0.mk hg1
  have HG2 := Aside0.mk hg2
  clear hM hrp hrq hgp hgq hg1 hg2 hade
  have HE := Aside0.mk (show mergeF p q = (true, (mergeF p q).2.1, 0) by rw [HM.out])
  generalize hMl : (mergeF p q).2.1 = M at HE
  have HML := Aside0.mk hMl
  have HMF := Aside0.mk (merge_facts x hmp hMl)
  clear hMl
  rw [HE.out] at H29
  clear hmp
  generalize hn : M.length = n
  have HN := Aside0.mk hn
  clear hn
  apply wp_join (J := JM w2 (true, M, 0) n)
  · refine wp_region_noPanic ?_
    refine wp_region_held (S := fun W => Below w2.heap.size w2 W) (by kernel_rfl) ?_
    have hS : Below w2.heap.size w2 w2.drew := below_drew (Below.refl _ _)
    change wpAnyH _ _ _ _ _ _ _ _ w2.drew
    generalize w2.drew = W at hS ⊢
    refine wpAnyH_take (i := 0) (v := .slice (some ad) ls.length c) rfl (by kernel_rfl) (by kernel_rfl) (by kernel_rfl) (fun _ _ _ h => h) (.inl ⟨by rfl, fun w' hw' => by go_simp⟩) hS ?_
    refine wpAnyH_take (i := 1) (v := .int .i64 k) rfl (by kernel_rfl) (by kernel_rfl) (by kernel_rfl) (fun _ _ _ h => h) (.inl ⟨by rfl, fun w' hw' => by go_simp⟩) hS ?_
    refine wpAnyH_take (i := 2) (v := .pointer (some (ad.add (k * 2)))) rfl (by kernel_rfl) (by kernel_rfl) (by kernel_rfl) (fun _ _ _ h => h) (.inl ⟨by rfl, fun w' hw' => by go_simp⟩) hS ?_
    refine wpAnyH_take (i := 3) (v := .agg #[.bool p.f0, .slice A1 p.f1.length c1]) rfl (by kernel_rfl) (by kernel_rfl) (by kernel_rfl) (fun _ _ _ h => h) (.inl ⟨by rfl, fun w' hw' => by have s0 := (hw'.cell (World.block_lt_of_cell? w2 _ hx0)).trans hx0; have s1 := (hw'.cell (World.block_lt_of_cell? w2 _ hx1)).trans hx1; go_simp⟩) hS ?_
    refine wpAnyH_take (i := 4) (v := .slice (some ad) ls.length c) rfl (by kernel_rfl) (by kernel_rfl) (by kernel_rfl) (fun _ _ _ h => h) (.inl ⟨by rfl, fun w' hw' => by go_simp⟩) hS ?_
    refine wpAnyH_take (i := 5) (v := .int .i64 k) rfl (by kernel_rfl) (by kernel_rfl) (by kernel_rfl) (fun _ _ _ h => h) (.inl ⟨by rfl, fun w' hw' => by go_simp⟩) hS ?_
    refine wpAnyH_take (i := 6) (v := .int .i64 ((k : Int) + 1)) rfl (by kernel_rfl) (by kernel_rfl) (by kernel_rfl) (fun _ _ _ h => h) (.inl ⟨by rfl, fun w' hw' => by go_simp⟩) hS ?_
    refine wpAnyH_take (i := 7) (v := .pointer (some (ad.add ((k + 1) * 2)))) rfl (by kernel_rfl) (by kernel_rfl) (by kernel_rfl) (fun _ _ _ h => h) (.inl ⟨by rfl, fun w' hw' => by go_simp⟩) hS ?_
    refine wpAnyH_take (i := 8) (v := .agg #[.bool q.f0, .slice A2 q.f1.length c2]) rfl (by kernel_rfl) (by kernel_rfl) (by kernel_rfl) (fun _ _ _ h => h) (.inl ⟨by rfl, fun w' hw' => by have s0 := (hw'.cell (World.block_lt_of_cell? w2 _ hy0)).trans hy0; have s1 := (hw'.cell (World.block_lt_of_cell? w2 _ hy1)).trans hy1; go_simp⟩) hS ?_
    refine wpAnyH_all (rs := [9, 13]) (by kernel_rfl) (by simp) ?_
    intro i hi
    have hi : i = 9 ∨ i = 13 := by simpa using hi
    rcases hi with rfl | rfl
    · refine wpOp_of rfl (by rfl) ?_
      go_simp
      refine (H29.out W hS).mono ?_
      rintro e W3 ⟨B3, d3, rfl, hd3, hC3, hb⟩
      have hS3 := hS.trans (hb.mono hS.size)
      have HC3 := Aside0.mk hC3
      have HD3 := Aside0.mk hd3
      dsimp only at HC3 HD3
      rw [HN.out] at HD3 ⊢
      refine ⟨hS3, ?_⟩
      refine wpAnyH_take (i := 10) (v := .tuple #[.agg #[.bool true, .slice B3 n d3], .int .i64 0]) rfl (by kernel_rfl) (by kernel_rfl) (by kernel_rfl) (fun _ _ _ h => h) (.inl ⟨by rfl, fun w' hw' => by go_simp⟩) hS3 ?_
      refine wpAnyH_take (i := 11) (v := .agg #[.bool true, .slice B3 n d3]) rfl (by kernel_rfl) (by kernel_rfl) (by kernel_rfl) (fun _ _ _ h => h) (.inl ⟨by rfl, fun w' hw' => by go_simp⟩) hS3 ?_
      refine wpAnyH_take (i := 12) (v := .int .i64 0) rfl (by kernel_rfl) (by kernel_rfl) (by kernel_rfl) (fun _ _ _ h => h) (.inl ⟨by rfl, fun w' hw' => by go_simp⟩) hS3 ?_
      refine wpAnyH_all (rs := [13]) (by kernel_rfl) (by simp) ?_
      intro i hi
      obtain rfl : i = 13 := by simpa using hi
      refine wpOp_of rfl (by rfl) ?_
      go_simp
      have hS4 := hS3.alloc hS3.size (.cells #[.bool false, .slice none 0 0] 39)
      refine ⟨hS4, ?_⟩
      refine wpAnyH_all (rs := [14]) (by kernel_rfl) (by simp) ?_
      intro i hi
      obtain rfl : i = 14 := by simpa using hi
      refine wpOp_of rfl (by rfl) ?_
      go_simp
      have hj := JM_new (r := (true, M, 0)) (B := B3) hS3 HD3.out HC3.out
      refine ⟨hj.1, ?_⟩
      refine wpAnyH_take (i := 15) (v := .int .i64 0) rfl (by kernel_rfl) (by kernel_rfl) (by kernel_rfl) (fun _ _ _ h => h) (.inl ⟨by rfl, fun w' hw' => by go_simp⟩) hj.1 ?_
      refine wpAnyH_done (by kernel_rfl) (NoPanic.normal ?_) _
      refine ⟨rfl, W3.heap.size, B3, d3, ?_, hj⟩
      clear hj
      generalize W3.heap.size = g
      go_simp
      rfl
    · refine wpOp_of rfl (by rfl) ?_
      go_simp
      have hS1 := hS.alloc hS.size (.cells #[.bool false, .slice none 0 0] 39)
      refine ⟨hS1, ?_⟩
      refine wpAnyH_all (rs := [9]) (by kernel_rfl) (by simp) ?_
      intro i hi
      obtain rfl : i = 9 := by simpa using hi
      refine wpOp_of rfl (by rfl) ?_
      go_simp
      refine (H29.out _ hS1).mono ?_
      rintro e W3 ⟨B3, d3, rfl, hd3, hC3, hb⟩
      have hS3 := hS1.trans (hb.mono hS1.size)
      obtain ⟨z0, z1, z2⟩ := blk2 hb
      obtain ⟨z3, z4⟩ := blk2f hb
      have HC3 := Aside0.mk hC3
      have HD3 := Aside0.mk hd3
      dsimp only at HC3 HD3
      rw [HN.out] at HD3 ⊢
      refine ⟨hS3, ?_⟩
      refine wpAnyH_take (i := 10) (v := .tuple #[.agg #[.bool true, .slice B3 n d3], .int .i64 0]) rfl (by kernel_rfl) (by kernel_rfl) (by kernel_rfl) (fun _ _ _ h => h) (.inl ⟨by rfl, fun w' hw' => by go_simp⟩) hS3 ?_
      refine wpAnyH_take (i := 11) (v := .agg #[.bool true, .slice B3 n d3]) rfl (by kernel_rfl) (by kernel_rfl) (by kernel_rfl) (fun _ _ _ h => h) (.inl ⟨by rfl, fun w' hw' => by go_simp⟩) hS3 ?_
      refine wpAnyH_take (i := 12) (v := .int .i64 0) rfl (by kernel_rfl) (by kernel_rfl) (by kernel_rfl) (fun _ _ _ h => h) (.inl ⟨by rfl, fun w' hw' => by go_simp⟩) hS3 ?_
      refine wpAnyH_all (rs := [14]) (by kernel_rfl) (by simp) ?_
      intro i hi
      obtain rfl : i = 14 := by simpa using hi
      refine wpOp_of rfl (by rfl) ?_
      have hj := JM_of (r := (true, M, 0)) (B := B3) hS3 hS.size z0 z1 HD3.out HC3.out
      go_simp
      refine ⟨hj.1, ?_⟩
      refine wpAnyH_take (i := 15) (v := .int .i64 0) rfl (by kernel_rfl) (by kernel_rfl) (by kernel_rfl) (fun _ _ _ h => h) (.inl ⟨by rfl, fun w' hw' => by go_simp⟩) hj.1 ?_
      refine wpAnyH_done (by kernel_rfl) (NoPanic.normal ?_) _
      refine ⟨rfl, W.heap.size, B3, d3, ?_, hj⟩
      clear hj
      generalize W.heap.size = g
      go_simp
  · intro g B3 d3 w3 hj
    obtain ⟨hj1, hg3, m0, m1, hd3, hC3⟩ := hj
    have HB3 := Aside0.mk (HB2.out.trans (hj1.mono (HBX.out _ HB2.out).2.1))
    have HTO := Aside0.mk (fun W (hW : Below w3.heap.size w3 W) => HBX.out _ (HB3.out.trans (hW.mono (HBX.out _ HB3.out).2.1)))
    have HM01 : Aside0 (∀ W, Below w3.heap.size w3 W → W.cell? ⟨g, 0, none⟩ = some (.bool true) ∧ W.cell? ⟨g, 1, none⟩ = some (.slice B3 n d3)) := ⟨fun W hW => ⟨(hW.cell (World.block_lt_of_cell? w3 _ m0)).trans m0, (hW.cell (World.block_lt_of_cell? w3 _ m1)).trans m1⟩⟩
    have HX3 := (hj1.cell (World.block_lt_of_cell? w2 _ hx0)).trans hx0
    have HX4 := (hj1.cell (World.block_lt_of_cell? w2 _ hx1)).trans hx1
    have HY3 := (hj1.cell (World.block_lt_of_cell? w2 _ hy0)).trans hy0
    have HY4 := (hj1.cell (World.block_lt_of_cell? w2 _ hy1)).trans hy1
    have HXK := Aside0.mk (fun W (hW : Below w3.heap.size w3 W) => And.intro ((hW.cell (World.block_lt_of_cell? w3 _ HX3)).trans HX3) ((hW.cell (World.block_lt_of_cell? w3 _ HX4)).trans HX4))
    have HYK := Aside0.mk (fun W (hW : Below w3.heap.size w3 W) => And.intro ((hW.cell (World.block_lt_of_cell? w3 _ HY3)).trans HY3) ((hW.cell (World.block_lt_of_cell? w3 _ HY4)).trans HY4))
    have HD3 := Aside0.mk hd3
    have HCP := Aside0.mk (fun W (hW : Below w3.heap.size w3 W) => Kd.C_below (Kd.C_below HG1.out hj1) hW)
    have HCQ := Aside0.mk (fun W (hW : Below w3.heap.size w3 W) => Kd.C_below (Kd.C_below HG2.out hj1) hW)
    have HCX := Aside0.mk (fun W (hW : Below w3.heap.size w3 W) => Kd.C_below HR0.out (HTO.out W hW).1)
    have HCW := Aside0.mk (fun W (hW : Below w3.heap.size w3 W) => Kd.C_below (Kd.C_below HC2.out hj1) hW)
    have HCM := Aside0.mk (fun W (hW : Below w3.heap.size w3 W) => Kd.C_below hC3 hW)
    dsimp only at HCM
    have hsl0 := fun W => sliceD_high (ad := ad) HKT.out hc W
    have hsl1 := fun W => sliceD_low (ad := ad) HJ1.out HK1.out hc W
    have hsl2 := fun W => sliceD_low (ad := ad) HJ2.out HK2.out hc W
    have HT0 := Aside0.mk (fun W (hW : Below w3.heap.size w3 W) => kH_take (Kd.C_below HRH.out (HTO.out W hW).1) HKT.out)
    have HT1 := Aside0.mk (fun W (hW : Below w3.heap.size w3 W) => kH_drop (Kd.C_below HRH.out (HTO.out W hW).1) HK1.out hc)
    have HT2 := Aside0.mk (fun W (hW : Below w3.heap.size w3 W) => kH_drop (Kd.C_below HRH.out (HTO.out W hW).1) HK2.out hc)
    generalize (if c = k + 1 then some ad else some (ad.add ((k + 1) * 2))) = Ad1 at hsl1 HT1
    generalize (if c = k + 2 then some ad else some (ad.add ((k + 2) * 2))) = Ad2 at hsl2 HT2
    have HONE : Aside0 (∀ W, Below w3.heap.size w3 W → ∀ (A6 : Option Addr) (c6 : Nat), Kd.C kH W A6 ((([] ++ hs'.take k) ++ [(⟨true, B3, n, d3⟩ : Head)]) ++ hs'.drop (k + 2)).length ((([] ++ hs'.take k) ++ [(⟨true, B3, n, d3⟩ : Head)]) ++ hs'.drop (k + 2)) →
        ((([] ++ hs'.take k) ++ [(⟨true, B3, n, d3⟩ : Head)]) ++ hs'.drop (k + 2)).length ≤ c6 → Calls Tryd.prog 24 #[.slice A6 ((([] ++ hs'.take k) ++ [(⟨true, B3, n, d3⟩ : Head)]) ++ hs'.drop (k + 2)).length c6] W (GotZ W wl 0)) := ⟨fun W hW A6 c6 h6 hc6 => by
      have h := walk_one k hk HSM.out (HFT.out.keep (HTO.out W hW).1) h0 hm (l := M) (by rw [← HRP.out, ← HRQ.out]; exact HML.out) HN.out HD3.out (HCM.out W hW) rfl h6 hc6
      rw [HWL.out] at h
      exact h⟩
    obtain ⟨lw, lz0, hwm⟩ : ∃ lw lz0, walkF (ls.take k ++ ls.drop (k + 1)) = (lw, lz0) := ⟨_, _, rfl⟩
    have HLESS : Aside0 (∀ W, Below w3.heap.size w3 W → ∀ (A6 : Option Addr) (c6 : Nat), Kd.C kH W A6 (([] ++ hs'.take k) ++ hs'.drop (k + 1)).length (([] ++ hs'.take k) ++ hs'.drop (k + 1)) →
        (([] ++ hs'.take k) ++ hs'.drop (k + 1)).length ≤ c6 → Calls Tryd.prog 24 #[.slice A6 (([] ++ hs'.take k) ++ hs'.drop (k + 1)).length c6] W (GotZ W lw lz0)) := ⟨fun W hW A6 c6 h6 hc6 => by
      have h := walk_less k HSM.out (HFT.out.keep (HTO.out W hW).1) rfl h6 hc6
      rw [hwm] at h
      exact h⟩
    have HLW : Aside0 (p.f0 = false → lw = wl ∧ lz0 = 0) := ⟨fun h => by
      rw [HRP.out] at h
      have e := HMS.out h
      rw [hwm] at e
      exact ⟨(congrArg Prod.fst e).trans HWL.out, (congrArg Prod.snd e).trans h0⟩⟩
    clear hwm hj1 hg3 hC3 hd3 hx0 hx1 hy0 hy1 HX3 HX4 HY3 HY4 H29
    go_upto_region 18 with (first
      | (((with_reducible refine gate_builtin (b := .append) (xs := #[.tmp 62, .tmp 65]) rfl ?_); at_builtin; refine Kd.R_append_rows kH (w0 := w3) w3.heap.size rfl (.tmp 62) (.tmp 65) 36 39 (.agg #[.bool false, .slice none 0 0]) 32 rfl Tryd.underlying36 info39 rfl (by decide) (by decide) (.slice none 0 0) ([] : List Head) (hs'.take k) _ _ _ (fun _ => True) (fun _ => False) rfl rfl ?aO ?aR (fun _ _ h => h) (fun _ h => h.elim) ?aF ?aB ?aS ?aL ?_; (case aR => exact HT0.out _ (Below.refl _ _)); (case aB => exact Below.refl _ _); (case aF => exact (fun _ _ => trivial)); (case aO => exact Kd.R_nil _ _ _ _ _); (case aS => exact Nat.le_refl _); (case aL => exact HLA.out); intro v4 w4 ho hb hg hat; clear hg hat; have HO4 := Aside0.mk ho; have HB4 := Aside0.mk hb; obtain ⟨m0, m1⟩ := HM01.out _ hb; clear ho hb))
      | (((with_reducible refine gate_builtin (b := .append) (xs := #[.tmp 67, .tmp 69]) rfl ?_); at_builtin; refine Kd.R_append kH (w0 := w3) w3.heap.size rfl (.tmp 67) (.tmp 69) 36 39 (.agg #[.bool false, .slice none 0 0]) 32 rfl Tryd.underlying36 info39 rfl (by decide) (by decide) v4 ([] ++ hs'.take k) (⟨true, B3, n, d3⟩ : Head) [.bool true, .slice B3 n d3] (fun _ => True) (fun _ => False) rfl rfl ?aP (fun _ hk => hk.elim) ?aF ?aO ?aB ?aS ?aL ?_; (case aP => exact kH_M _); (case aB => exact HB4.out); (case aF => exact (fun _ _ => trivial)); (case aO => exact HO4.out); (case aS => exact HB4.out.size); (case aL => exact HLB.out); intro v5 w5 ho hb hg hat; clear hg hat; have HO5 := Aside0.mk ho; have HB5 := Aside0.mk hb; clear ho hb))
      | (((with_reducible refine gate_builtin (b := .append) (xs := #[.tmp 71, .tmp 75]) rfl ?_); at_builtin; refine Kd.R_append_rows kH (w0 := w3) w3.heap.size rfl (.tmp 71) (.tmp 75) 36 39 (.agg #[.bool false, .slice none 0 0]) 32 rfl Tryd.underlying36 info39 rfl (by decide) (by decide) v5 (([] ++ hs'.take k) ++ [(⟨true, B3, n, d3⟩ : Head)]) (hs'.drop (k + 2)) _ _ _ (fun _ => True) (fun _ => False) rfl rfl ?aO ?aR (fun _ _ h => h) (fun _ h => h.elim) ?aF ?aB ?aS ?aL ?_; (case aR => exact HT2.out _ HB5.out); (case aB => exact HB5.out); (case aF => exact (fun _ _ => trivial)); (case aO => exact HO5.out); (case aS => exact HB5.out.size); (case aL => exact HLC.out _); intro v6 w6 ho hb hg hat; clear hg hat; have HB6 := Aside0.mk hb; obtain ⟨A6, c6, rfl, hc6, hC6⟩ := Kd.R_reads ho; have HW6 := Aside0.mk (HONE.out _ hb _ _ hC6 hc6); generalize ((([] ++ hs'.take k) ++ [(⟨true, B3, n, d3⟩ : Head)]) ++ hs'.drop (k + 2)).length = n6 at HW6 ⊢; clear ho hb hc6 hC6))
      | (go_at_call 24; (with_reducible refine HW6.out.mono ?_); rintro e w7 ⟨B7, d7, rfl, hd7, hC7, hb⟩; have HB7 := Aside0.mk (HB6.out.trans (hb.mono HB6.out.size)); have HS7 := Aside0.mk (intsSame_calls B7 d7 B2 d2 wl.length wl w7 HLN.out rfl hC7 hd7 (HCW.out _ HB7.out) HD2.out); clear hb hC7 hd7)
      | (go_at_call 28; (with_reducible refine HS7.out.mono ?_); rintro e w8 ⟨rfl, hb⟩; have HB8 := Aside0.mk (HB7.out.trans (hb.mono HB7.out.size)); clear hb)
      | (((with_reducible refine gate_builtin (b := .append) (xs := #[.tmp 90, .tmp 93]) rfl ?_); at_builtin; refine Kd.R_append_rows kH (w0 := w8) w8.heap.size rfl (.tmp 90) (.tmp 93) 36 39 (.agg #[.bool false, .slice none 0 0]) 32 rfl Tryd.underlying36 info39 rfl (by decide) (by decide) (.slice none 0 0) ([] : List Head) (hs'.take k) _ _ _ (fun _ => True) (fun _ => False) rfl rfl ?aO ?aR (fun _ _ h => h) (fun _ h => h.elim) ?aF ?aB ?aS ?aL ?_; (case aR => exact HT0.out _ HB8.out); (case aB => exact Below.refl _ _); (case aF => exact (fun _ _ => trivial)); (case aO => exact Kd.R_nil _ _ _ _ _); (case aS => exact Nat.le_refl _); (case aL => exact HLA.out); intro v9 w9 ho hb hg hat; clear hg hat; have HO9 := Aside0.mk ho; have HX9 := Aside0.mk hb; have HB9 := Aside0.mk (HB8.out.trans (hb.mono HB8.out.size)); clear ho hb))
      | (((with_reducible refine gate_builtin (b := .append) (xs := #[.tmp 95, .tmp 99]) rfl ?_); at_builtin; refine Kd.R_append_rows kH (w0 := w8) w8.heap.size rfl (.tmp 95) (.tmp 99) 36 39 (.agg #[.bool false, .slice none 0 0]) 32 rfl Tryd.underlying36 info39 rfl (by decide) (by decide) v9 ([] ++ hs'.take k) (hs'.drop (k + 1)) _ _ _ (fun _ => True) (fun _ => False) rfl rfl ?aO ?aR (fun _ _ h => h) (fun _ h => h.elim) ?aF ?aB ?aS ?aL ?_; (case aR => exact HT1.out _ HB9.out); (case aB => exact HX9.out); (case aF => exact (fun _ _ => trivial)); (case aO => exact HO9.out); (case aS => exact HX9.out.size); (case aL => exact HLE.out); intro v10 w10 ho hb hg hat; clear hg hat; have HB10 := Aside0.mk (HB8.out.trans (hb.mono HB8.out.size)); obtain ⟨A10, c10, rfl, hc10, hC10⟩ := Kd.R_reads ho; have HW10 := Aside0.mk (HLESS.out _ HB10.out _ _ hC10 hc10); generalize (([] ++ hs'.take k) ++ hs'.drop (k + 1)).length = n10 at HW10 ⊢; obtain ⟨hx0, hx1⟩ := HXK.out _ HB10.out; clear ho hb hc10 hC10))
      | (go_at_call 24; (with_reducible refine HW10.out.mono ?_); rintro e w11 ⟨B11, d11, rfl, hd11, hC11, hb⟩; have HB11 := Aside0.mk (HB10.out.trans (hb.mono HB10.out.size)); have HC11 := Aside0.mk hC11; have HD11 := Aside0.mk hd11; obtain ⟨hx0, hx1⟩ := HXK.out _ HB11.out; obtain ⟨m0, m1⟩ := HM01.out _ HB11.out; obtain ⟨_, _, x0, x1⟩ := HTO.out _ HB11.out; clear hb hC11 hd11))
    obtain ⟨lb, L, lz, rb, R, rz, hml, hmr, hass, hM2, hL2, hR2⟩ := HMF.out
    obtain ⟨nl, hnl⟩ : ∃ nl, L.length = nl := ⟨_, rfl⟩
    obtain ⟨nr, hnr⟩ : ∃ nr, R.length = nr := ⟨_, rfl⟩
    have HNL := Aside0.mk hnl
    have HNR := Aside0.mk hnr
    have HASS := Aside0.mk hass
    have HM3 := Aside0.mk (show M.length ≤ 1073741823 from Nat.le_trans hM2 (by decide))
    have HR3 := Aside0.mk (show R.length ≤ 1073741823 from Nat.le_trans hR2 (by decide))
    have HL3 := Aside0.mk (show nl ≤ 1048576 from hnl ▸ Nat.le_trans hL2 (by decide))
    have HPL := Aside0.mk hlp
    have HQL := Aside0.mk hlq
    have H29l : Aside0 (∀ W, Below w3.heap.size w3 W → Calls Tryd.prog 29 #[.agg #[.bool true, .slice B3 n d3], .agg #[.bool x.f0, .slice A0 x.f1.length c0]] W (GotM W (lb, L, lz))) := ⟨fun W hW => by
      have h := merge_got ⟨true, M⟩ x B3 d3 A0 c0 W (HCM.out _ hW) (by show M.length ≤ d3; rw [HN.out]; exact HD3.out) (HCX.out _ hW) hc0 HM3.out hl0
      rw [hml] at h
      dsimp only at h
      rw [HN.out] at h
      exact h⟩
    have H29q : Aside0 (∀ W, Below w3.heap.size w3 W → Calls Tryd.prog 29 #[.agg #[.bool q.f0, .slice A2 q.f1.length c2], .agg #[.bool x.f0, .slice A0 x.f1.length c0]] W (GotM W (rb, R, rz))) := ⟨fun W hW => by
      have h := merge_got q x A2 c2 A0 c0 W (HCQ.out _ hW) hc2 (HCX.out _ hW) hc0 HQL.out hl0
      rw [hmr] at h
      exact h⟩
    clear hml hmr hass hM2 hL2 hR2 hnl hnr hlp hlq hm h0
    cases hpf : p.f0 with
    | true =>
      rw [hpf] at hx0
      go_upto_region 21 with (first
        | (go_at_call 29; (with_reducible refine (H29l.out _ HB11.out).mono ?_); rintro e w13 ⟨B13, d13, rfl, hd13, hC13, hb⟩; rw [HNL.out] at hd13 ⊢; have HB13 := Aside0.mk (HB11.out.trans (hb.mono HB11.out.size)); have HC13 := Aside0.mk hC13; have HD13 := Aside0.mk hd13; clear hb hC13 hd13))
      have hB14 := HB13.out.alloc HB13.out.size (.cells #[.bool lb, .slice B13 nl d13] 39)
      have q0 : (w13.alloc (.cells #[.bool lb, .slice B13 nl d13] 39)).cell? ⟨w13.heap.size, 0, none⟩ = some (.bool lb) := by simp [go_sem]
      have q1 : (w13.alloc (.cells #[.bool lb, .slice B13 nl d13] 39)).cell? ⟨w13.heap.size, 1, none⟩ = some (.slice B13 nl d13) := by simp [go_sem]
      have HCL := Aside0.mk (Kd.C_alloc HC13.out (.cells #[.bool lb, .slice B13 nl d13] 39))
      generalize w13.alloc (.cells #[.bool lb, .slice B13 nl d13] 39) = w14 at hB14 q0 q1 HCL ⊢
      generalize w13.heap.size = gl at q0 q1 ⊢
      have HB14 := Aside0.mk hB14
      obtain ⟨hy0, hy1⟩ := HYK.out _ hB14
      obtain ⟨_, _, x0, x1⟩ := HTO.out _ hB14
      have H29r := Aside0.mk (fun W (hW : Below w14.heap.size w14 W) => H29q.out W (HB14.out.trans (hW.mono HB14.out.size)))
      clear hB14 hx0 hx1 m0 m1
      apply wp_join (J := JM w14 (rb, R, rz) nr)
      ·
        refine wp_region_noPanic ?_
        refine wp_region_held (S := fun W => Below w14.heap.size w14 W) (by kernel_rfl) ?_
        have hS : Below w14.heap.size w14 w14.drew := below_drew (Below.refl _ _)
        change wpAnyH _ _ _ _ _ _ _ _ w14.drew
        generalize w14.drew = W at hS ⊢
        refine wpAnyH_take (i := 0) (v := .slice (some ad) ls.length c) rfl (by kernel_rfl) (by kernel_rfl) (by kernel_rfl) (fun _ _ _ h => h) (.inl ⟨by rfl, fun w' hw' => by go_simp⟩) hS ?_
        refine wpAnyH_take (i := 1) (v := .int .i64 k) rfl (by kernel_rfl) (by kernel_rfl) (by kernel_rfl) (fun _ _ _ h => h) (.inl ⟨by rfl, fun w' hw' => by go_simp⟩) hS ?_
        refine wpAnyH_take (i := 2) (v := .int .i64 ((k : Int) + 1)) rfl (by kernel_rfl) (by kernel_rfl) (by kernel_rfl) (fun _ _ _ h => h) (.inl ⟨by rfl, fun w' hw' => by go_simp⟩) hS ?_
        refine wpAnyH_take (i := 3) (v := .pointer (some (ad.add ((k + 1) * 2)))) rfl (by kernel_rfl) (by kernel_rfl) (by kernel_rfl) (fun _ _ _ h => h) (.inl ⟨by rfl, fun w' hw' => by go_simp⟩) hS ?_
        refine wpAnyH_take (i := 4) (v := .agg #[.bool q.f0, .slice A2 q.f1.length c2]) rfl (by kernel_rfl) (by kernel_rfl) (by kernel_rfl) (fun _ _ _ h => h) (.inl ⟨by rfl, fun w' hw' => by have s0 := (hw'.cell (World.block_lt_of_cell? w14 _ hy0)).trans hy0; have s1 := (hw'.cell (World.block_lt_of_cell? w14 _ hy1)).trans hy1; go_simp⟩) hS ?_
        refine wpAnyH_take (i := 5) (v := .agg #[.bool x.f0, .slice A0 x.f1.length c0]) rfl (by kernel_rfl) (by kernel_rfl) (by kernel_rfl) (fun _ _ _ h => h) (.inl ⟨by rfl, fun w' hw' => by have s0 := (hw'.cell (World.block_lt_of_cell? w14 _ x0)).trans x0; have s1 := (hw'.cell (World.block_lt_of_cell? w14 _ x1)).trans x1; go_simp⟩) hS ?_
        refine wpAnyH_all (rs := [6, 10]) (by kernel_rfl) (by simp) ?_
        intro i hi
        have hi : i = 6 ∨ i = 10 := by simpa using hi
        rcases hi with rfl | rfl
        · refine wpOp_of rfl (by rfl) ?_
          go_simp
          refine (H29r.out W hS).mono ?_
          rintro e W3 ⟨B5, d5, rfl, hd3, hC3, hb⟩
          have hS3 := hS.trans (hb.mono hS.size)
          have HC3 := Aside0.mk hC3
          have HD3 := Aside0.mk hd3
          dsimp only at HC3 HD3
          rw [HNR.out] at HD3 ⊢
          refine ⟨hS3, ?_⟩
          refine wpAnyH_take (i := 7) (v := .tuple #[.agg #[.bool rb, .slice B5 nr d5], .int .i64 rz]) rfl (by kernel_rfl) (by kernel_rfl) (by kernel_rfl) (fun _ _ _ h => h) (.inl ⟨by rfl, fun w' hw' => by go_simp⟩) hS3 ?_
          refine wpAnyH_take (i := 8) (v := .agg #[.bool rb, .slice B5 nr d5]) rfl (by kernel_rfl) (by kernel_rfl) (by kernel_rfl) (fun _ _ _ h => h) (.inl ⟨by rfl, fun w' hw' => by go_simp⟩) hS3 ?_
          refine wpAnyH_take (i := 9) (v := .int .i64 rz) rfl (by kernel_rfl) (by kernel_rfl) (by kernel_rfl) (fun _ _ _ h => h) (.inl ⟨by rfl, fun w' hw' => by go_simp⟩) hS3 ?_
          refine wpAnyH_all (rs := [10]) (by kernel_rfl) (by simp) ?_
          intro i hi
          obtain rfl : i = 10 := by simpa using hi
          refine wpOp_of rfl (by rfl) ?_
          go_simp
          have hS4 := hS3.alloc hS3.size (.cells #[.bool false, .slice none 0 0] 39)
          refine ⟨hS4, ?_⟩
          refine wpAnyH_all (rs := [11]) (by kernel_rfl) (by simp) ?_
          intro i hi
          obtain rfl : i = 11 := by simpa using hi
          refine wpOp_of rfl (by rfl) ?_
          go_simp
          have hj := JM_new (r := (rb, R, rz)) (B := B5) hS3 HD3.out HC3.out
          refine ⟨hj.1, ?_⟩
          refine wpAnyH_take (i := 12) (v := .int .i64 rz) rfl (by kernel_rfl) (by kernel_rfl) (by kernel_rfl) (fun _ _ _ h => h) (.inl ⟨by rfl, fun w' hw' => by go_simp⟩) hj.1 ?_
          refine wpAnyH_done (by kernel_rfl) (NoPanic.normal ?_) _
          refine ⟨rfl, W3.heap.size, B5, d5, ?_, hj⟩
          clear hj
          generalize W3.heap.size = g
          go_simp
          rfl
        · refine wpOp_of rfl (by rfl) ?_
          go_simp
          have hS1 := hS.alloc hS.size (.cells #[.bool false, .slice none 0 0] 39)
          refine ⟨hS1, ?_⟩
          refine wpAnyH_all (rs := [6]) (by kernel_rfl) (by simp) ?_
          intro i hi
          obtain rfl : i = 6 := by simpa using hi
          refine wpOp_of rfl (by rfl) ?_
          go_simp
          refine (H29r.out _ hS1).mono ?_
          rintro e W3 ⟨B5, d5, rfl, hd3, hC3, hb⟩
          have hS3 := hS1.trans (hb.mono hS1.size)
          obtain ⟨z0, z1, z2⟩ := blk2 hb
          obtain ⟨z3, z4⟩ := blk2f hb
          have HC3 := Aside0.mk hC3
          have HD3 := Aside0.mk hd3
          dsimp only at HC3 HD3
          rw [HNR.out] at HD3 ⊢
          refine ⟨hS3, ?_⟩
          refine wpAnyH_take (i := 7) (v := .tuple #[.agg #[.bool rb, .slice B5 nr d5], .int .i64 rz]) rfl (by kernel_rfl) (by kernel_rfl) (by kernel_rfl) (fun _ _ _ h => h) (.inl ⟨by rfl, fun w' hw' => by go_simp⟩) hS3 ?_
          refine wpAnyH_take (i := 8) (v := .agg #[.bool rb, .slice B5 nr d5]) rfl (by kernel_rfl) (by kernel_rfl) (by kernel_rfl) (fun _ _ _ h => h) (.inl ⟨by rfl, fun w' hw' => by go_simp⟩) hS3 ?_
          refine wpAnyH_take (i := 9) (v := .int .i64 rz) rfl (by kernel_rfl) (by kernel_rfl) (by kernel_rfl) (fun _ _ _ h => h) (.inl ⟨by rfl, fun w' hw' => by go_simp⟩) hS3 ?_
          refine wpAnyH_all (rs := [11]) (by kernel_rfl) (by simp) ?_
          intro i hi
          obtain rfl : i = 11 := by simpa using hi
          refine wpOp_of rfl (by rfl) ?_
          have hj := JM_of (r := (rb, R, rz)) (B := B5) hS3 hS.size z0 z1 HD3.out HC3.out
          go_simp
          refine ⟨hj.1, ?_⟩
          refine wpAnyH_take (i := 12) (v := .int .i64 rz) rfl (by kernel_rfl) (by kernel_rfl) (by kernel_rfl) (fun _ _ _ h => h) (.inl ⟨by rfl, fun w' hw' => by go_simp⟩) hj.1 ?_
          refine wpAnyH_done (by kernel_rfl) (NoPanic.normal ?_) _
          refine ⟨rfl, W.heap.size, B5, d5, ?_, hj⟩
          clear hj
          generalize W.heap.size = g
          go_simp

      · intro g5 B5 d5 w15 hj
        obtain ⟨hj5, hg5, r0, r1, hd5, hC5⟩ := hj
        have HB15 := Aside0.mk (HB14.out.trans (hj5.mono HB14.out.size))
        have HC5 := Aside0.mk hC5
        have HD5 := Aside0.mk hd5
        have HCL5 := Aside0.mk (Kd.C_below HCL.out hj5)
        have q0 := (hj5.cell (World.block_lt_of_cell? w14 _ q0)).trans q0
        have q1 := (hj5.cell (World.block_lt_of_cell? w14 _ q1)).trans q1
        clear hj5 hg5 hC5 hd5 hy0 hy1 x0 x1 H29r
        by_cases hlz : lz = 0
        · by_cases hrz : rz = 0
          · obtain ⟨hpt, hrb⟩ := HASS.out hlz hrz
            subst hlz
            subst hrz
            subst hrb
            dsimp only at r0 r1
            obtain ⟨hx0, hx1⟩ := HXK.out _ HB15.out
            have H29t : Aside0 (∀ W, Below w15.heap.size w15 W → Calls Tryd.prog 29 #[.agg #[.bool p.f0, .slice A1 p.f1.length c1], .agg #[.bool true, .slice B5 nr d5]] W (GotM W (true, L, 0))) := ⟨fun W hW => by
              have h := merge_got p ⟨true, R⟩ A1 c1 B5 d5 W (HCP.out _ (HB15.out.trans (hW.mono HB15.out.size))) hc1 (Kd.C_below HC5.out hW) (by show R.length ≤ d5; rw [HNR.out]; exact HD5.out) HPL.out HR3.out
              rw [hpt] at h
              dsimp only at h
              rw [HNR.out] at h
              exact h⟩
            clear hpt
            clear hpf
            go_upto_region 24 with (fail)
            apply wp_join (J := JM w15 (true, L, 0) nl)
            ·
              refine wp_region_noPanic ?_
              refine wp_region_held (S := fun W => Below w15.heap.size w15 W) (by kernel_rfl) ?_
              have hS : Below w15.heap.size w15 w15.drew := below_drew (Below.refl _ _)
              change wpAnyH _ _ _ _ _ _ _ _ w15.drew
              generalize w15.drew = W at hS ⊢
              refine wpAnyH_take (i := 0) (v := .slice (some ad) ls.length c) rfl (by kernel_rfl) (by kernel_rfl) (by kernel_rfl) (fun _ _ _ h => h) (.inl ⟨by rfl, fun w' hw' => by go_simp⟩) hS ?_
              refine wpAnyH_take (i := 1) (v := .int .i64 k) rfl (by kernel_rfl) (by kernel_rfl) (by kernel_rfl) (fun _ _ _ h => h) (.inl ⟨by rfl, fun w' hw' => by go_simp⟩) hS ?_
              refine wpAnyH_take (i := 2) (v := .pointer (some (ad.add (k * 2)))) rfl (by kernel_rfl) (by kernel_rfl) (by kernel_rfl) (fun _ _ _ h => h) (.inl ⟨by rfl, fun w' hw' => by go_simp⟩) hS ?_
              refine wpAnyH_take (i := 3) (v := .agg #[.bool p.f0, .slice A1 p.f1.length c1]) rfl (by kernel_rfl) (by kernel_rfl) (by kernel_rfl) (fun _ _ _ h => h) (.inl ⟨by rfl, fun w' hw' => by have s0 := (hw'.cell (World.block_lt_of_cell? w15 _ hx0)).trans hx0; have s1 := (hw'.cell (World.block_lt_of_cell? w15 _ hx1)).trans hx1; go_simp⟩) hS ?_
              refine wpAnyH_take (i := 4) (v := .agg #[.bool true, .slice B5 nr d5]) rfl (by kernel_rfl) (by kernel_rfl) (by kernel_rfl) (fun _ _ _ h => h) (.inl ⟨by rfl, fun w' hw' => by have s0 := (hw'.cell (World.block_lt_of_cell? w15 _ r0)).trans r0; have s1 := (hw'.cell (World.block_lt_of_cell? w15 _ r1)).trans r1; go_simp⟩) hS ?_
              refine wpAnyH_all (rs := [5, 9]) (by kernel_rfl) (by simp) ?_
              intro i hi
              have hi : i = 5 ∨ i = 9 := by simpa using hi
              rcases hi with rfl | rfl
              · refine wpOp_of rfl (by rfl) ?_
                go_simp
                refine (H29t.out W hS).mono ?_
                rintro e W3 ⟨B6, d6, rfl, hd3, hC3, hb⟩
                have hS3 := hS.trans (hb.mono hS.size)
                have HC3 := Aside0.mk hC3
                have HD3 := Aside0.mk hd3
                dsimp only at HC3 HD3
                rw [HNL.out] at HD3 ⊢
                refine ⟨hS3, ?_⟩
                refine wpAnyH_take (i := 6) (v := .tuple #[.agg #[.bool true, .slice B6 nl d6], .int .i64 0]) rfl (by kernel_rfl) (by kernel_rfl) (by kernel_rfl) (fun _ _ _ h => h) (.inl ⟨by rfl, fun w' hw' => by go_simp⟩) hS3 ?_
                refine wpAnyH_take (i := 7) (v := .agg #[.bool true, .slice B6 nl d6]) rfl (by kernel_rfl) (by kernel_rfl) (by kernel_rfl) (fun _ _ _ h => h) (.inl ⟨by rfl, fun w' hw' => by go_simp⟩) hS3 ?_
                refine wpAnyH_take (i := 8) (v := .int .i64 0) rfl (by kernel_rfl) (by kernel_rfl) (by kernel_rfl) (fun _ _ _ h => h) (.inl ⟨by rfl, fun w' hw' => by go_simp⟩) hS3 ?_
                refine wpAnyH_all (rs := [9]) (by kernel_rfl) (by simp) ?_
                intro i hi
                obtain rfl : i = 9 := by simpa using hi
                refine wpOp_of rfl (by rfl) ?_
                go_simp
                have hS4 := hS3.alloc hS3.size (.cells #[.bool false, .slice none 0 0] 39)
                refine ⟨hS4, ?_⟩
                refine wpAnyH_all (rs := [10]) (by kernel_rfl) (by simp) ?_
                intro i hi
                obtain rfl : i = 10 := by simpa using hi
                refine wpOp_of rfl (by rfl) ?_
                go_simp
                have hj := JM_new (r := (true, L, 0)) (B := B6) hS3 HD3.out HC3.out
                refine ⟨hj.1, ?_⟩
                refine wpAnyH_take (i := 11) (v := .int .i64 0) rfl (by kernel_rfl) (by kernel_rfl) (by kernel_rfl) (fun _ _ _ h => h) (.inl ⟨by rfl, fun w' hw' => by go_simp⟩) hj.1 ?_
                refine wpAnyH_done (by kernel_rfl) (NoPanic.normal ?_) _
                refine ⟨rfl, W3.heap.size, B6, d6, ?_, hj⟩
                clear hj
                generalize W3.heap.size = g
                go_simp
                rfl
              · refine wpOp_of rfl (by rfl) ?_
                go_simp
                have hS1 := hS.alloc hS.size (.cells #[.bool false, .slice none 0 0] 39)
                refine ⟨hS1, ?_⟩
                refine wpAnyH_all (rs := [5]) (by kernel_rfl) (by simp) ?_
                intro i hi
                obtain rfl : i = 5 := by simpa using hi
                refine wpOp_of rfl (by rfl) ?_
                go_simp
                refine (H29t.out _ hS1).mono ?_
                rintro e W3 ⟨B6, d6, rfl, hd3, hC3, hb⟩
                have hS3 := hS1.trans (hb.mono hS1.size)
                obtain ⟨z0, z1, z2⟩ := blk2 hb
                obtain ⟨z3, z4⟩ := blk2f hb
                have HC3 := Aside0.mk hC3
                have HD3 := Aside0.mk hd3
                dsimp only at HC3 HD3
                rw [HNL.out] at HD3 ⊢
                refine ⟨hS3, ?_⟩
                refine wpAnyH_take (i := 6) (v := .tuple #[.agg #[.bool true, .slice B6 nl d6], .int .i64 0]) rfl (by kernel_rfl) (by kernel_rfl) (by kernel_rfl) (fun _ _ _ h => h) (.inl ⟨by rfl, fun w' hw' => by go_simp⟩) hS3 ?_
                refine wpAnyH_take (i := 7) (v := .agg #[.bool true, .slice B6 nl d6]) rfl (by kernel_rfl) (by kernel_rfl) (by kernel_rfl) (fun _ _ _ h => h) (.inl ⟨by rfl, fun w' hw' => by go_simp⟩) hS3 ?_
                refine wpAnyH_take (i := 8) (v := .int .i64 0) rfl (by kernel_rfl) (by kernel_rfl) (by kernel_rfl) (fun _ _ _ h => h) (.inl ⟨by rfl, fun w' hw' => by go_simp⟩) hS3 ?_
                refine wpAnyH_all (rs := [10]) (by kernel_rfl) (by simp) ?_
                intro i hi
                obtain rfl : i = 10 := by simpa using hi
                refine wpOp_of rfl (by rfl) ?_
                have hj := JM_of (r := (true, L, 0)) (B := B6) hS3 hS.size z0 z1 HD3.out HC3.out
                go_simp
                refine ⟨hj.1, ?_⟩
                refine wpAnyH_take (i := 11) (v := .int .i64 0) rfl (by kernel_rfl) (by kernel_rfl) (by kernel_rfl) (fun _ _ _ h => h) (.inl ⟨by rfl, fun w' hw' => by go_simp⟩) hj.1 ?_
                refine wpAnyH_done (by kernel_rfl) (NoPanic.normal ?_) _
                refine ⟨rfl, W.heap.size, B6, d6, ?_, hj⟩
                clear hj
                generalize W.heap.size = g
                go_simp

            · intro g6 B6 d6 w16 hj
              obtain ⟨hj6, hg6, t0, t1, hd6, hC6⟩ := hj
              have HB16 := Aside0.mk (HB15.out.trans (hj6.mono HB15.out.size))
              have q0 := (hj6.cell (World.block_lt_of_cell? w15 _ q0)).trans q0
              have q1 := (hj6.cell (World.block_lt_of_cell? w15 _ q1)).trans q1
              have HS16 := Aside0.mk (intsSame_calls B13 d13 B6 d6 nl L w16 (HNL.out ▸ HL3.out) HNL.out.symm (by have h := Kd.C_below HCL5.out hj6; (try dsimp only at h); rw [HNL.out] at h; exact h) HD13.out (by have h := hC6; (try dsimp only at h); rw [HNL.out] at h; exact h) hd6)
              clear hj6 hg6 hd6 hC6 r0 r1 hx0 hx1 H29t
              go_wp2_with (first | (go_at_call 28; (with_reducible refine HS16.out.mono ?_); rintro e w17 ⟨rfl, hb⟩; have HB17 := Aside0.mk (HB16.out.trans (hb.mono HB16.out.size)); clear hb))
              go_ret
              exact ⟨rfl, (HTO.out _ HB17.out).1⟩
          · have e1 : (lz != 0) = false := by rw [hlz]; rfl
            have e2 : (rz != 0) = true := bne_iff_ne.2 hrz
            clear hlz hrz
            go_wp2_with (fail)
            go_ret
            exact ⟨rfl, (HTO.out _ HB15.out).1⟩
        · have e1 : (lz != 0) = true := bne_iff_ne.2 hlz
          clear hlz
          go_wp2_with (fail)
          go_ret
          exact ⟨rfl, (HTO.out _ HB15.out).1⟩
    | false =>
      rw [hpf] at hx0
      obtain ⟨rfl, rfl⟩ := HLW.out hpf
      have HS11 := Aside0.mk (intsSame_calls B11 d11 B2 d2 lw.length lw w11 HLN.out rfl HC11.out HD11.out (HCW.out _ HB11.out) HD2.out)
      go_upto_region 20 with (first
        | (go_at_call 28; (with_reducible refine HS11.out.mono ?_); rintro e w12 ⟨rfl, hb⟩; have HB12 := Aside0.mk (HB11.out.trans (hb.mono HB11.out.size)); obtain ⟨m0, m1⟩ := HM01.out _ HB12.out; obtain ⟨_, _, x0, x1⟩ := HTO.out _ HB12.out; clear hb))
      go_upto_region 21 with (first
        | (go_at_call 29; (with_reducible refine (H29l.out _ HB12.out).mono ?_); rintro e w13 ⟨B13, d13, rfl, hd13, hC13, hb⟩; rw [HNL.out] at hd13 ⊢; have HB13 := Aside0.mk (HB12.out.trans (hb.mono HB12.out.size)); have HC13 := Aside0.mk hC13; have HD13 := Aside0.mk hd13; clear hb hC13 hd13))
      have hB14 := HB13.out.alloc HB13.out.size (.cells #[.bool lb, .slice B13 nl d13] 39)
      have q0 : (w13.alloc (.cells #[.bool lb, .slice B13 nl d13] 39)).cell? ⟨w13.heap.size, 0, none⟩ = some (.bool lb) := by simp [go_sem]
      have q1 : (w13.alloc (.cells #[.bool lb, .slice B13 nl d13] 39)).cell? ⟨w13.heap.size, 1, none⟩ = some (.slice B13 nl d13) := by simp [go_sem]
      have HCL := Aside0.mk (Kd.C_alloc HC13.out (.cells #[.bool lb, .slice B13 nl d13] 39))
      generalize w13.alloc (.cells #[.bool lb, .slice B13 nl d13] 39) = w14 at hB14 q0 q1 HCL ⊢
      generalize w13.heap.size = gl at q0 q1 ⊢
      have HB14 := Aside0.mk hB14
      obtain ⟨hy0, hy1⟩ := HYK.out _ hB14
      obtain ⟨_, _, x0, x1⟩ := HTO.out _ hB14
      have H29r := Aside0.mk (fun W (hW : Below w14.heap.size w14 W) => H29q.out W (HB14.out.trans (hW.mono HB14.out.size)))
      clear hB14 hx0 hx1 m0 m1
      apply wp_join (J := JM w14 (rb, R, rz) nr)
      ·
        refine wp_region_noPanic ?_
        refine wp_region_held (S := fun W => Below w14.heap.size w14 W) (by kernel_rfl) ?_
        have hS : Below w14.heap.size w14 w14.drew := below_drew (Below.refl _ _)
        change wpAnyH _ _ _ _ _ _ _ _ w14.drew
        generalize w14.drew = W at hS ⊢
        refine wpAnyH_take (i := 0) (v := .slice (some ad) ls.length c) rfl (by kernel_rfl) (by kernel_rfl) (by kernel_rfl) (fun _ _ _ h => h) (.inl ⟨by rfl, fun w' hw' => by go_simp⟩) hS ?_
        refine wpAnyH_take (i := 1) (v := .int .i64 k) rfl (by kernel_rfl) (by kernel_rfl) (by kernel_rfl) (fun _ _ _ h => h) (.inl ⟨by rfl, fun w' hw' => by go_simp⟩) hS ?_
        refine wpAnyH_take (i := 2) (v := .int .i64 ((k : Int) + 1)) rfl (by kernel_rfl) (by kernel_rfl) (by kernel_rfl) (fun _ _ _ h => h) (.inl ⟨by rfl, fun w' hw' => by go_simp⟩) hS ?_
        refine wpAnyH_take (i := 3) (v := .pointer (some (ad.add ((k + 1) * 2)))) rfl (by kernel_rfl) (by kernel_rfl) (by kernel_rfl) (fun _ _ _ h => h) (.inl ⟨by rfl, fun w' hw' => by go_simp⟩) hS ?_
        refine wpAnyH_take (i := 4) (v := .agg #[.bool q.f0, .slice A2 q.f1.length c2]) rfl (by kernel_rfl) (by kernel_rfl) (by kernel_rfl) (fun _ _ _ h => h) (.inl ⟨by rfl, fun w' hw' => by have s0 := (hw'.cell (World.block_lt_of_cell? w14 _ hy0)).trans hy0; have s1 := (hw'.cell (World.block_lt_of_cell? w14 _ hy1)).trans hy1; go_simp⟩) hS ?_
        refine wpAnyH_take (i := 5) (v := .agg #[.bool x.f0, .slice A0 x.f1.length c0]) rfl (by kernel_rfl) (by kernel_rfl) (by kernel_rfl) (fun _ _ _ h => h) (.inl ⟨by rfl, fun w' hw' => by have s0 := (hw'.cell (World.block_lt_of_cell? w14 _ x0)).trans x0; have s1 := (hw'.cell (World.block_lt_of_cell? w14 _ x1)).trans x1; go_simp⟩) hS ?_
        refine wpAnyH_all (rs := [6, 10]) (by kernel_rfl) (by simp) ?_
        intro i hi
        have hi : i = 6 ∨ i = 10 := by simpa using hi
        rcases hi with rfl | rfl
        · refine wpOp_of rfl (by rfl) ?_
          go_simp
          refine (H29r.out W hS).mono ?_
          rintro e W3 ⟨B5, d5, rfl, hd3, hC3, hb⟩
          have hS3 := hS.trans (hb.mono hS.size)
          have HC3 := Aside0.mk hC3
          have HD3 := Aside0.mk hd3
          dsimp only at HC3 HD3
          rw [HNR.out] at HD3 ⊢
          refine ⟨hS3, ?_⟩
          refine wpAnyH_take (i := 7) (v := .tuple #[.agg #[.bool rb, .slice B5 nr d5], .int .i64 rz]) rfl (by kernel_rfl) (by kernel_rfl) (by kernel_rfl) (fun _ _ _ h => h) (.inl ⟨by rfl, fun w' hw' => by go_simp⟩) hS3 ?_
          refine wpAnyH_take (i := 8) (v := .agg #[.bool rb, .slice B5 nr d5]) rfl (by kernel_rfl) (by kernel_rfl) (by kernel_rfl) (fun _ _ _ h => h) (.inl ⟨by rfl, fun w' hw' => by go_simp⟩) hS3 ?_
          refine wpAnyH_take (i := 9) (v := .int .i64 rz) rfl (by kernel_rfl) (by kernel_rfl) (by kernel_rfl) (fun _ _ _ h => h) (.inl ⟨by rfl, fun w' hw' => by go_simp⟩) hS3 ?_
          refine wpAnyH_all (rs := [10]) (by kernel_rfl) (by simp) ?_
          intro i hi
          obtain rfl : i = 10 := by simpa using hi
          refine wpOp_of rfl (by rfl) ?_
          go_simp
          have hS4 := hS3.alloc hS3.size (.cells #[.bool false, .slice none 0 0] 39)
          refine ⟨hS4, ?_⟩
          refine wpAnyH_all (rs := [11]) (by kernel_rfl) (by simp) ?_
          intro i hi
          obtain rfl : i = 11 := by simpa using hi
          refine wpOp_of rfl (by rfl) ?_
          go_simp
          have hj := JM_new (r := (rb, R, rz)) (B := B5) hS3 HD3.out HC3.out
          refine ⟨hj.1, ?_⟩
          refine wpAnyH_take (i := 12) (v := .int .i64 rz) rfl (by kernel_rfl) (by kernel_rfl) (by kernel_rfl) (fun _ _ _ h => h) (.inl ⟨by rfl, fun w' hw' => by go_simp⟩) hj.1 ?_
          refine wpAnyH_done (by kernel_rfl) (NoPanic.normal ?_) _
          refine ⟨rfl, W3.heap.size, B5, d5, ?_, hj⟩
          clear hj
          generalize W3.heap.size = g
          go_simp
          rfl
        · refine wpOp_of rfl (by rfl) ?_
          go_simp
          have hS1 := hS.alloc hS.size (.cells #[.bool false, .slice none 0 0] 39)
          refine ⟨hS1, ?_⟩
          refine wpAnyH_all (rs := [6]) (by kernel_rfl) (by simp) ?_
          intro i hi
          obtain rfl : i = 6 := by simpa using hi
          refine wpOp_of rfl (by rfl) ?_
          go_simp
          refine (H29r.out _ hS1).mono ?_
          rintro e W3 ⟨B5, d5, rfl, hd3, hC3, hb⟩
          have hS3 := hS1.trans (hb.mono hS1.size)
          obtain ⟨z0, z1, z2⟩ := blk2 hb
          obtain ⟨z3, z4⟩ := blk2f hb
          have HC3 := Aside0.mk hC3
          have HD3 := Aside0.mk hd3
          dsimp only at HC3 HD3
          rw [HNR.out] at HD3 ⊢
          refine ⟨hS3, ?_⟩
          refine wpAnyH_take (i := 7) (v := .tuple #[.agg #[.bool rb, .slice B5 nr d5], .int .i64 rz]) rfl (by kernel_rfl) (by kernel_rfl) (by kernel_rfl) (fun _ _ _ h => h) (.inl ⟨by rfl, fun w' hw' => by go_simp⟩) hS3 ?_
          refine wpAnyH_take (i := 8) (v := .agg #[.bool rb, .slice B5 nr d5]) rfl (by kernel_rfl) (by kernel_rfl) (by kernel_rfl) (fun _ _ _ h => h) (.inl ⟨by rfl, fun w' hw' => by go_simp⟩) hS3 ?_
          refine wpAnyH_take (i := 9) (v := .int .i64 rz) rfl (by kernel_rfl) (by kernel_rfl) (by kernel_rfl) (fun _ _ _ h => h) (.inl ⟨by rfl, fun w' hw' => by go_simp⟩) hS3 ?_
          refine wpAnyH_all (rs := [11]) (by kernel_rfl) (by simp) ?_
          intro i hi
          obtain rfl : i = 11 := by simpa using hi
          refine wpOp_of rfl (by rfl) ?_
          have hj := JM_of (r := (rb, R, rz)) (B := B5) hS3 hS.size z0 z1 HD3.out HC3.out
          go_simp
          refine ⟨hj.1, ?_⟩
          refine wpAnyH_take (i := 12) (v := .int .i64 rz) rfl (by kernel_rfl) (by kernel_rfl) (by kernel_rfl) (fun _ _ _ h => h) (.inl ⟨by rfl, fun w' hw' => by go_simp⟩) hj.1 ?_
          refine wpAnyH_done (by kernel_rfl) (NoPanic.normal ?_) _
          refine ⟨rfl, W.heap.size, B5, d5, ?_, hj⟩
          clear hj
          generalize W.heap.size = g
          go_simp

      · intro g5 B5 d5 w15 hj
        obtain ⟨hj5, hg5, r0, r1, hd5, hC5⟩ := hj
        have HB15 := Aside0.mk (HB14.out.trans (hj5.mono HB14.out.size))
        have HC5 := Aside0.mk hC5
        have HD5 := Aside0.mk hd5
        have HCL5 := Aside0.mk (Kd.C_below HCL.out hj5)
        have q0 := (hj5.cell (World.block_lt_of_cell? w14 _ q0)).trans q0
        have q1 := (hj5.cell (World.block_lt_of_cell? w14 _ q1)).trans q1
        clear hj5 hg5 hC5 hd5 hy0 hy1 x0 x1 H29r
        by_cases hlz : lz = 0
        · by_cases hrz : rz = 0
          · obtain ⟨hpt, hrb⟩ := HASS.out hlz hrz
            subst hlz
            subst hrz
            subst hrb
            dsimp only at r0 r1
            obtain ⟨hx0, hx1⟩ := HXK.out _ HB15.out
            have H29t : Aside0 (∀ W, Below w15.heap.size w15 W → Calls Tryd.prog 29 #[.agg #[.bool p.f0, .slice A1 p.f1.length c1], .agg #[.bool true, .slice B5 nr d5]] W (GotM W (true, L, 0))) := ⟨fun W hW => by
              have h := merge_got p ⟨true, R⟩ A1 c1 B5 d5 W (HCP.out _ (HB15.out.trans (hW.mono HB15.out.size))) hc1 (Kd.C_below HC5.out hW) (by show R.length ≤ d5; rw [HNR.out]; exact HD5.out) HPL.out HR3.out
              rw [hpt] at h
              dsimp only at h
              rw [HNR.out] at h
              exact h⟩
            clear hpt
            clear hpf
            go_upto_region 24 with (fail)
            apply wp_join (J := JM w15 (true, L, 0) nl)
            ·
              refine wp_region_noPanic ?_
              refine wp_region_held (S := fun W => Below w15.heap.size w15 W) (by kernel_rfl) ?_
              have hS : Below w15.heap.size w15 w15.drew := below_drew (Below.refl _ _)
              change wpAnyH _ _ _ _ _ _ _ _ w15.drew
              generalize w15.drew = W at hS ⊢
              refine wpAnyH_take (i := 0) (v := .slice (some ad) ls.length c) rfl (by kernel_rfl) (by kernel_rfl) (by kernel_rfl) (fun _ _ _ h => h) (.inl ⟨by rfl, fun w' hw' => by go_simp⟩) hS ?_
              refine wpAnyH_take (i := 1) (v := .int .i64 k) rfl (by kernel_rfl) (by kernel_rfl) (by kernel_rfl) (fun _ _ _ h => h) (.inl ⟨by rfl, fun w' hw' => by go_simp⟩) hS ?_
              refine wpAnyH_take (i := 2) (v := .pointer (some (ad.add (k * 2)))) rfl (by kernel_rfl) (by kernel_rfl) (by kernel_rfl) (fun _ _ _ h => h) (.inl ⟨by rfl, fun w' hw' => by go_simp⟩) hS ?_
              refine wpAnyH_take (i := 3) (v := .agg #[.bool p.f0, .slice A1 p.f1.length c1]) rfl (by kernel_rfl) (by kernel_rfl) (by kernel_rfl) (fun _ _ _ h => h) (.inl ⟨by rfl, fun w' hw' => by have s0 := (hw'.cell (World.block_lt_of_cell? w15 _ hx0)).trans hx0; have s1 := (hw'.cell (World.block_lt_of_cell? w15 _ hx1)).trans hx1; go_simp⟩) hS ?_
              refine wpAnyH_take (i := 4) (v := .agg #[.bool true, .slice B5 nr d5]) rfl (by kernel_rfl) (by kernel_rfl) (by kernel_rfl) (fun _ _ _ h => h) (.inl ⟨by rfl, fun w' hw' => by have s0 := (hw'.cell (World.block_lt_of_cell? w15 _ r0)).trans r0; have s1 := (hw'.cell (World.block_lt_of_cell? w15 _ r1)).trans r1; go_simp⟩) hS ?_
              refine wpAnyH_all (rs := [5, 9]) (by kernel_rfl) (by simp) ?_
              intro i hi
              have hi : i = 5 ∨ i = 9 := by simpa using hi
              rcases hi with rfl | rfl
              · refine wpOp_of rfl (by rfl) ?_
                go_simp
                refine (H29t.out W hS).mono ?_
                rintro e W3 ⟨B6, d6, rfl, hd3, hC3, hb⟩
                have hS3 := hS.trans (hb.mono hS.size)
                have HC3 := Aside0.mk hC3
                have HD3 := Aside0.mk hd3
                dsimp only at HC3 HD3
                rw [HNL.out] at HD3 ⊢
                refine ⟨hS3, ?_⟩
                refine wpAnyH_take (i := 6) (v := .tuple #[.agg #[.bool true, .slice B6 nl d6], .int .i64 0]) rfl (by kernel_rfl) (by kernel_rfl) (by kernel_rfl) (fun _ _ _ h => h) (.inl ⟨by rfl, fun w' hw' => by go_simp⟩) hS3 ?_
                refine wpAnyH_take (i := 7) (v := .agg #[.bool true, .slice B6 nl d6]) rfl (by kernel_rfl) (by kernel_rfl) (by kernel_rfl) (fun _ _ _ h => h) (.inl ⟨by rfl, fun w' hw' => by go_simp⟩) hS3 ?_
                refine wpAnyH_take (i := 8) (v := .int .i64 0) rfl (by kernel_rfl) (by kernel_rfl) (by kernel_rfl) (fun _ _ _ h => h) (.inl ⟨by rfl, fun w' hw' => by go_simp⟩) hS3 ?_
                refine wpAnyH_all (rs := [9]) (by kernel_rfl) (by simp) ?_
                intro i hi
                obtain rfl : i = 9 := by simpa using hi
                refine wpOp_of rfl (by rfl) ?_
                go_simp
                have hS4 := hS3.alloc hS3.size (.cells #[.bool false, .slice none 0 0] 39)
                refine ⟨hS4, ?_⟩
                refine wpAnyH_all (rs := [10]) (by kernel_rfl) (by simp) ?_
                intro i hi
                obtain rfl : i = 10 := by simpa using hi
                refine wpOp_of rfl (by rfl) ?_
                go_simp
                have hj := JM_new (r := (true, L, 0)) (B := B6) hS3 HD3.out HC3.out
                refine ⟨hj.1, ?_⟩
                refine wpAnyH_take (i := 11) (v := .int .i64 0) rfl (by kernel_rfl) (by kernel_rfl) (by kernel_rfl) (fun _ _ _ h => h) (.inl ⟨by rfl, fun w' hw' => by go_simp⟩) hj.1 ?_
                refine wpAnyH_done (by kernel_rfl) (NoPanic.normal ?_) _
                refine ⟨rfl, W3.heap.size, B6, d6, ?_, hj⟩
                clear hj
                generalize W3.heap.size = g
                go_simp
                rfl
              · refine wpOp_of rfl (by rfl) ?_
                go_simp
                have hS1 := hS.alloc hS.size (.cells #[.bool false, .slice none 0 0] 39)
                refine ⟨hS1, ?_⟩
                refine wpAnyH_all (rs := [5]) (by kernel_rfl) (by simp) ?_
                intro i hi
                obtain rfl : i = 5 := by simpa using hi
                refine wpOp_of rfl (by rfl) ?_
                go_simp
                refine (H29t.out _ hS1).mono ?_
                rintro e W3 ⟨B6, d6, rfl, hd3, hC3, hb⟩
                have hS3 := hS1.trans (hb.mono hS1.size)
                obtain ⟨z0, z1, z2⟩ := blk2 hb
                obtain ⟨z3, z4⟩ := blk2f hb
                have HC3 := Aside0.mk hC3
                have HD3 := Aside0.mk hd3
                dsimp only at HC3 HD3
                rw [HNL.out] at HD3 ⊢
                refine ⟨hS3, ?_⟩
                refine wpAnyH_take (i := 6) (v := .tuple #[.agg #[.bool true, .slice B6 nl d6], .int .i64 0]) rfl (by kernel_rfl) (by kernel_rfl) (by kernel_rfl) (fun _ _ _ h => h) (.inl ⟨by rfl, fun w' hw' => by go_simp⟩) hS3 ?_
                refine wpAnyH_take (i := 7) (v := .agg #[.bool true, .slice B6 nl d6]) rfl (by kernel_rfl) (by kernel_rfl) (by kernel_rfl) (fun _ _ _ h => h) (.inl ⟨by rfl, fun w' hw' => by go_simp⟩) hS3 ?_
                refine wpAnyH_take (i := 8) (v := .int .i64 0) rfl (by kernel_rfl) (by kernel_rfl) (by kernel_rfl) (fun _ _ _ h => h) (.inl ⟨by rfl, fun w' hw' => by go_simp⟩) hS3 ?_
                refine wpAnyH_all (rs := [10]) (by kernel_rfl) (by simp) ?_
                intro i hi
                obtain rfl : i = 10 := by simpa using hi
                refine wpOp_of rfl (by rfl) ?_
                have hj := JM_of (r := (true, L, 0)) (B := B6) hS3 hS.size z0 z1 HD3.out HC3.out
                go_simp
                refine ⟨hj.1, ?_⟩
                refine wpAnyH_take (i := 11) (v := .int .i64 0) rfl (by kernel_rfl) (by kernel_rfl) (by kernel_rfl) (fun _ _ _ h => h) (.inl ⟨by rfl, fun w' hw' => by go_simp⟩) hj.1 ?_
                refine wpAnyH_done (by kernel_rfl) (NoPanic.normal ?_) _
                refine ⟨rfl, W.heap.size, B6, d6, ?_, hj⟩
                clear hj
                generalize W.heap.size = g
                go_simp

            · intro g6 B6 d6 w16 hj
              obtain ⟨hj6, hg6, t0, t1, hd6, hC6⟩ := hj
              have HB16 := Aside0.mk (HB15.out.trans (hj6.mono HB15.out.size))
              have q0 := (hj6.cell (World.block_lt_of_cell? w15 _ q0)).trans q0
              have q1 := (hj6.cell (World.block_lt_of_cell? w15 _ q1)).trans q1
              have HS16 := Aside0.mk (intsSame_calls B13 d13 B6 d6 nl L w16 (HNL.out ▸ HL3.out) HNL.out.symm (by have h := Kd.C_below HCL5.out hj6; (try dsimp only at h); rw [HNL.out] at h; exact h) HD13.out (by have h := hC6; (try dsimp only at h); rw [HNL.out] at h; exact h) hd6)
              clear hj6 hg6 hd6 hC6 r0 r1 hx0 hx1 H29t
              go_wp2_with (first | (go_at_call 28; (with_reducible refine HS16.out.mono ?_); rintro e w17 ⟨rfl, hb⟩; have HB17 := Aside0.mk (HB16.out.trans (hb.mono HB16.out.size)); clear hb))
              go_ret
              exact ⟨rfl, (HTO.out _ HB17.out).1⟩
          · have e1 : (lz != 0) = false := by rw [hlz]; rfl
            have e2 : (rz != 0) = true := bne_iff_ne.2 hrz
            clear hlz hrz
            go_wp2_with (fail)
            go_ret
            exact ⟨rfl, (HTO.out _ HB15.out).1⟩
        · have e1 : (lz != 0) = true := bne_iff_ne.2 hlz
          clear hlz
          go_wp2_with (fail)
          go_ret
          exact ⟨rfl, (HTO.out _ HB15.out).1⟩
end
end Go.Proofs.YtgkebfeggekkgaaDoor.Given
