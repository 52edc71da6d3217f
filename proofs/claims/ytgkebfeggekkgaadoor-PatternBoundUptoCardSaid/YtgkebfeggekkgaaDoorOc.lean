/- PatternBound, walked: the main case. -/
import Derived.Test.YtgkebfeggekkgaaDoorJ12
set_option linter.unusedVariables false
set_option linter.unusedSimpArgs false
set_option linter.unusedSectionVars false
namespace Go.Proofs.YtgkebfeggekkgaaDoor.Given
open Go.RowKit Go.Proofs.YtgkebfeggekkgaaDoor.PT Go.Proofs.YtgkebfeggekkgaaDoorW.PrintWords Go.Proofs.YtgkebfeggekkgaaDoorW.PrintLast Go.Proofs.YtgkebfeggekkgaaDoorW.PrintMore

attribute [local go_sem high] eqA31
theorem C_one3 {W : World} {g : Nat} {x : S31} (h0 : W.cell? ⟨g, 0, none⟩ = some (.int .i64 x.f0)) (h1 : W.cell? ⟨g, 1, none⟩ = some (.int .i64 x.f1)) (h2 : W.cell? ⟨g, 2, none⟩ = some (.int .i64 x.f2)) : Kd.C k31 W (some ⟨g, 0, none⟩) 1 [x] := by
  refine ⟨rfl, by simp, fun _ => ⟨_, rfl, fun j y hj => ?_⟩⟩
  rcases j with _ | j
  · obtain rfl : x = y := by simpa using hj
    refine ⟨[.int .i64 x.f0, .int .i64 x.f1, .int .i64 x.f2], rfl, k31_mk W x, fun i v hv => ?_⟩
    rcases i with _ | _ | _ | i
    · obtain rfl : Value.int .i64 x.f0 = v := by simpa using hv
      exact h0
    · obtain rfl : Value.int .i64 x.f1 = v := by simpa using hv
      exact h1
    · obtain rfl : Value.int .i64 x.f2 = v := by simpa using hv
      exact h2
    · simp at hv
  · simp at hj
theorem one_kept {w4 w5 : World} {base : Nat} {ok : Nat → Prop} {v : Value} {xs : List BHead} {x : S31} (h : Kd.R kB 34 w4 base ok v xs) (hg : (w4.alloc (.cells #[.int .i64 x.f0, .int .i64 x.f1, .int .i64 x.f2] 31)).grownBy w5 v.ownBlock) : Kd.C k31 w5 (some ⟨w4.heap.size, 0, none⟩) 1 [x] := by
  have hne : some w4.heap.size ≠ v.ownBlock := fun e => by
    have := ((Kd.R_bound h).1 _ e.symm).2.2.1
    omega
  have hlt : w4.heap.size < (w4.alloc (.cells #[.int .i64 x.f0, .int .i64 x.f1, .int .i64 x.f2] 31)).heap.size := by simp
  refine C_one3 ((hg.cell_far ⟨w4.heap.size, 0, none⟩ hlt hne).trans ?_) ((hg.cell_far ⟨w4.heap.size, 1, none⟩ hlt hne).trans ?_) ((hg.cell_far ⟨w4.heap.size, 2, none⟩ hlt hne).trans ?_)
  all_goals simp [go_sem]
section
variable (A : Option Addr) (c : Nat) (ls : List S34) (at' : Int) (x : S31) (gap : Int) (w : World) (hG : LaidG w) (hr : Kd.C k34 w A ls.length ls) (hc : ls.length ≤ c)
theorem bd_rows {hs' : List BHead} (hf : BFits w hs' ls) (W : World) (hW : Below w.heap.size w W) (g : Nat) (hg : Kd.C k31 W (some ⟨g, 0, none⟩) 1 [x]) (pos k : Int) (own : Bool) {gs : List BHead} (A6 : Option Addr) (c6 : Nat) (hgs : gs = ([] ++ hs') ++ [(⟨pos, k, own, some ⟨g, 0, none⟩, 1, 1⟩ : BHead)]) (h6 : Kd.C kB W A6 gs.length gs) (hc6 : gs.length ≤ c6)
    (a : Int) (r1 : List S31) (r2 r3 : Int) (hF : pattern_Furthest.f (ls ++ [⟨pos, k, own, [x]⟩]) a = some (r1, r2, r3)) : Calls Tryd.prog 20 #[.slice A6 gs.length c6, .int .i64 a] W (GotF W r1 r2 r3) := by
  have hft : BFits W gs (ls ++ [⟨pos, k, own, [x]⟩]) := by
    rw [hgs, List.nil_append]
    exact (hf.keep hW).app (.cons ⟨rfl, rfl, rfl, rfl, Nat.le_refl _, hg⟩ .nil)
  have hj := B_join h6 hft
  have e := hft.len
  rw [e] at hj hc6 ⊢
  exact fur_got A6 c6 _ a W hj hc6 r1 r2 r3 hF
theorem bd_check2 (W : World) (hW : Below (w.heap.size + 1) (wX w x) W) : Calls Tryd.prog 23 #[.slice (some ⟨W.heap.size, 0, none⟩) 1 1] (W.alloc (.cells #[.int .i64 x.f0, .int .i64 x.f1, .int .i64 x.f2] 31)) fun e w' => e = .returned (.int .i64 (checkL [x])) ∧ Below (w.heap.size + 1) (wX w x) w' ∧ Below W.heap.size W w' := by
  have hz := hW.size
  rw [wX_size] at hz
  refine (check_calls (some ⟨W.heap.size, 0, none⟩) 1 [x] _ (C_one rfl ?_) (Nat.le_refl _)).mono fun e w' ⟨h1, h2⟩ => ⟨h1, (hW.alloc hz _).trans (h2.mono ?_), ((Below.refl _ _).alloc (Nat.le_refl _) _).trans (h2.mono ?_)⟩
  · exact Below.refl _ _
  · simp; omega
  · simp
theorem same_quiet (A : Option Addr) (c : Nat) (B : Option Addr) (d : Nat) (m : Nat) (l : List S31) (W : World) (k : Nat) (hl : l.length ≤ 1048576) (hm : l.length = m) (hA : Kd.C k31 W A m l) (hc : m ≤ c) (hB : Kd.C k31 W B m l) (hd : m ≤ d) :
    Calls Tryd.prog 22 #[.slice A m c, .slice B m d] (W.drewN k) fun e w'' => e = .returned (.bool true) ∧ ∃ j, w'' = W.drewN j := by
  subst hm
  exact Calls.quiet_of ((mjolnerref09_Same.calls (l.length + 1) A c l B d l true (W.drewN k) (Kd.C_drewN hA k) hc (Kd.C_drewN hB k) hd (by rw [same_f l l (by omega) _ (by omega), decide_eq_true rfl])).mono fun e w' ⟨h1, h2⟩ => ⟨h1, h2.out⟩)
theorem step_many : ∀ (r : List S34) (out : List S31) (fin : Bool) (n : Int) (p : List S31) (m : Int), stepL out fin n r = (0, p, m) → n ≤ m ∧ m ≤ n + r.length
  | [], out, fin, n, p, m, h => by
    rw [stepL] at h
    cases h
    exact ⟨Int.le_refl _, by simp⟩
  | b :: r, out, fin, n, p, m, h => by
    rw [stepL] at h
    split at h
    · cases h
      exact ⟨Int.le_refl _, by simp; omega⟩
    · split at h
      · cases h
      · split at h
        · split at h
          · have := step_many r _ _ _ p m h
            simp only [List.length_cons]
            omega
          · cases h
        · split at h
          · have := step_many r _ _ _ p m h
            simp only [List.length_cons]
            omega
          · cases h
theorem fur_many {l : List S34} {at' : Int} {p : List S31} {n : Int} (h : pattern_Furthest.f l at' = some (p, n, 0)) : 1 ≤ n ∧ n ≤ l.length := by
  obtain ⟨hz, F, b, r, hf, hd, hs⟩ := fur_ok h
  have h1 := step_many r _ _ _ p n hs
  have h2 : (l.drop F).length = r.length + 1 := by rw [hd]; rfl
  rw [List.length_drop] at h2
  omega
/-- a binding that counts for nothing hidden: none is introduced behind a place -/
def okV (a : Int) (b : S34) : Bool := !(decide (a < b.f0) && decide (b.f1 = 2))
include hG hr hc
set_option maxRecDepth 100000 in
set_option maxHeartbeats 4000000 in
theorem bd_main (N : Nat) (hN : ls.length = N + 1) (hl : ls.length ≤ 1048576) (p : List S31) (n : Int) (hp : pattern_Furthest.f ls at' = some (p, n, 0)) (b : S34) (hb : rd_T34 ls (N : Int) = b)
    (g1 : 1 ≤ gap) (g2 : gap ≤ 1000) (g3 : checkL [x] = 0) (g4 : b.f0 ≤ 1152921504606846976) (g5 : at' ≤ b.f0) :
    Calls Tryd.prog 4 #[.slice A (N + 1) c, .int .i64 at', .agg #[.int .i64 x.f0, .int .i64 x.f1, .int .i64 x.f2], .int .i64 gap] w fun e w' => e = .returned (.bool true) ∧ Below w.heap.size w w' := by
  have hu31 := Tryd.underlying31
  have hu34 := Tryd.underlying34
  have hNl : ls.length - 1 < ls.length := by omega
  have hbl : ls[ls.length - 1] = b := by
    rw [← hb, rd34 ls N (by omega)]
    congr 1
    omega
  have HA := Aside0.mk (bd_awake A c ls x w hG hr hc)
  have HBX := Aside0.mk (fun W => wX_in (w := w) (x := x) (W := W))
  have H23 := bd_check2 x w
  rw [g3] at H23
  replace H23 := Aside0.mk H23
  have H20 := Aside0.mk (fun W (hW : Below w.heap.size w W) => fur_got A c ls at' W (Kd.C_below hr hW) hc p n 0 hp)
  obtain ⟨⟨sp, sn, sz⟩, hsp⟩ : ∃ r, pattern_Furthest.f ls b.f0 = some r := Option.ne_none_iff_exists'.1 (fur_some ls b.f0)
  obtain ⟨⟨mp, mn, mz⟩, hmp⟩ : ∃ r, pattern_Furthest.f (ls ++ [⟨b.f0 + gap, 3, true, [x]⟩]) at' = some r := Option.ne_none_iff_exists'.1 (fur_some _ at')
  have H20s := Aside0.mk (fun W (hW : Below w.heap.size w W) => fur_got A c ls b.f0 W (Kd.C_below hr hW) hc sp sn sz hsp)
  have hFA := bound_anew hp hNl g1 g3 (x := x) (gap := gap) (by rw [hbl]; exact g5)
  have hFO := bound_own hp hNl g1 g3 (x := x) (gap := gap)
  have hFS := bound_seen hp hNl g1 g3 (x := x) (gap := gap) (by rw [hbl]; exact g5)
  have hFM := bound_more hp hNl g1 g3 (x := x) (gap := gap) (by rw [hbl]; exact g5)
  unfold moreF at hFM
  rw [hbl] at hFA hFO hFS hFM
  rw [hsp] at hFS
  rw [hmp] at hFM
  have HFS := Aside0.mk hFS
  have HFM := Aside0.mk hFM
  have hpl := fur_small hp
  obtain ⟨hs', hrh, hft⟩ := B_split hr
  have hbm : -1 ≤ b.f0 := by
    have := bind_mono ls (-1) (fur_ok hp).1
    rw [lastB_get ls (-1) hNl, hbl] at this
    exact this.1
  have HMORE : Aside0 (∀ (W : World) (hW : Below w.heap.size w W) (g : Nat) (hg : Kd.C k31 W (some ⟨g, 0, none⟩) 1 [x]) (gs : List BHead) (A6 : Option Addr) (c6 : Nat), gs = ([] ++ hs') ++ [(⟨b.f0 + gap, 3, true, some ⟨g, 0, none⟩, 1, 1⟩ : BHead)] → Kd.C kB W A6 gs.length gs → gs.length ≤ c6 → Calls Tryd.prog 20 #[.slice A6 gs.length c6, .int .i64 at'] W (GotF W mp mn mz)) :=
    ⟨fun W hW g hg gs A6 c6 e h6 h7 => bd_rows ls x w hft W hW g hg _ _ _ A6 c6 e h6 h7 at' mp mn mz hmp⟩
  have HANEW : Aside0 (∀ (W : World) (hW : Below w.heap.size w W) (g : Nat) (hg : Kd.C k31 W (some ⟨g, 0, none⟩) 1 [x]) (gs : List BHead) (A6 : Option Addr) (c6 : Nat), gs = ([] ++ hs') ++ [(⟨b.f0 + gap, 2, false, some ⟨g, 0, none⟩, 1, 1⟩ : BHead)] → Kd.C kB W A6 gs.length gs → gs.length ≤ c6 → Calls Tryd.prog 20 #[.slice A6 gs.length c6, .int .i64 at'] W (GotF W p n 0)) :=
    ⟨fun W hW g hg gs A6 c6 e h6 h7 => bd_rows ls x w hft W hW g hg _ _ _ A6 c6 e h6 h7 at' p n 0 hFA⟩
  have HOWN : Aside0 (∀ (W : World) (hW : Below w.heap.size w W) (g : Nat) (hg : Kd.C k31 W (some ⟨g, 0, none⟩) 1 [x]) (gs : List BHead) (A6 : Option Addr) (c6 : Nat), gs = ([] ++ hs') ++ [(⟨b.f0 + gap, 2, false, some ⟨g, 0, none⟩, 1, 1⟩ : BHead)] → Kd.C kB W A6 gs.length gs → gs.length ≤ c6 → Calls Tryd.prog 20 #[.slice A6 gs.length c6, .int .i64 (b.f0 + gap)] W (GotF W [x] 1 0)) :=
    ⟨fun W hW g hg gs A6 c6 e h6 h7 => bd_rows ls x w hft W hW g hg _ _ _ A6 c6 e h6 h7 (b.f0 + gap) [x] 1 0 hFO⟩
  rw [hN] at H20 H20s hr hrh
  have HT := Aside0.mk (fun W (hW : Below w.heap.size w W) => Kd.C_below hrh hW)
  have hsl : hs'.length = N + 1 := hrh.1
  have HLA : Aside0 ((([] : List BHead).length + (N + 1)) * 48 ≤ 140737488355328) := ⟨by rw [List.length_nil]; omega⟩
  have HLB : Aside0 ((([] ++ hs').length + 1) * 48 ≤ 140737488355328) := ⟨by rw [List.nil_append, hsl]; omega⟩
  have HR := Aside0.mk hr
  have HB0 := Aside0.mk hb
  have HPL := Aside0.mk hpl
  have n0 : ¬ (N : Int) + 1 ≤ (N : Int) := by omega
  have n1 : 0 ≤ (N : Int) := by omega
  have n2 : (N : Int) < ((N + 1 : Nat) : Int) := by omega
  have n3 : N < N + 1 := by omega
  have n4 : ¬ N + 1 ≤ N := by omega
  have l0 : (((N + 1 : Nat) : Int) == 0) = false := by rw [beq_eq_false_iff_ne]; omega
  have l1 : ((N : Int) + 1 == 0) = false := by rw [beq_eq_false_iff_ne]; omega
  have l2 : ((N + 1 : Nat) == 0) = false := by rw [beq_eq_false_iff_ne]; omega
  have hb5 : -9223372036854775808 ≤ (N : Int) ∧ (N : Int) ≤ 9223372036854775807 := by omega
  have hb6 : -9223372036854775808 ≤ b.f0 + gap ∧ b.f0 + gap ≤ 9223372036854775807 := by omega
  have hb7 : N + 1 ≤ 1048576 := by omega
  have HNB := Aside0.mk hb7
  have hmany := fur_many hp
  have hb8 : -9223372036854775808 ≤ n + 1 ∧ n + 1 ≤ 9223372036854775807 := by omega
  have HNM := Aside0.mk hb8
  have d1 : decide (gap < 1) = false := decide_eq_false (by omega)
  have d2 : decide (1000 < gap) = false := decide_eq_false (by omega)
  have d3 : decide (1152921504606846976 < b.f0) = false := decide_eq_false (by omega)
  have d4 : decide (b.f0 < at') = false := decide_eq_false (by omega)
  have kw0 : IntKind.i64.wrap (N : Int) = (N : Int) := IntWalk.i64_in _ hb5
  have kw1 : IntKind.i64.wrap (b.f0 + gap) = b.f0 + gap := IntWalk.i64_in _ hb6
  clear hmany hb8 hG hr hp hb hb5 hb6 hb7 hrh hft hFA hFO hFS hFM hsp hmp hpl hsl hbm g1 g2 g3 g4 g5 hbl hNl hl
  go_enter Tryd.func4, Tryd.ntmps4
  go_upto_region 5 with (first
    | (go_at_call 19; (with_reducible refine HA.out.mono ?_); rintro e w1 ⟨rfl, hb1⟩; have HB1 := Aside0.mk hb1; clear hb1)
    | (go_at_call 20; (with_reducible refine (H20.out _ (HBX.out _ HB1.out).1).mono ?_); rintro e w2 ⟨B2, d2, rfl, hd2, hC2, hb⟩; have HB2 := Aside0.mk (HB1.out.trans (hb.mono (HBX.out _ HB1.out).2.1)); obtain ⟨_, _, x0, x1, x2⟩ := HBX.out _ HB2.out; have HC2 := Aside0.mk hC2; have HD2 := Aside0.mk hd2; clear hb hC2 hd2)
    | (go_at_call 23; (with_reducible refine (H23.out _ HB2.out).mono ?_); rintro e w3 ⟨rfl, hb3, hz3⟩; have HB3 := Aside0.mk hb3; have HC3 := Aside0.mk (Kd.C_below HC2.out hz3); clear hb3 hz3))
  obtain ⟨ad, A5, c5, rfl, hx0, hx1, hx2, hx3, hc5, hg5⟩ := at_T34 (Kd.C_below HR.out (HBX.out _ HB3.out).1) (N : Int) n1 n2
  rw [Int.toNat_natCast] at hx0 hx1 hx2 hx3
  rw [HB0.out] at hx0 hx1 hx2 hx3
  clear hg5 hc5 x0 x1 x2
  go_upto_region 13 with (first
    | (((with_reducible refine gate_builtin (b := .append) (xs := #[.tmp 75, .tmp 76]) rfl ?_); at_builtin; refine Kd.R_append_rows kB (w0 := w3) w3.heap.size rfl (.tmp 75) (.tmp 76) 22 34 (.agg #[.int .i64 0, .int .i64 0, .bool false, .slice none 0 0]) 48 rfl Tryd.underlying22 info34 rfl (by decide) (by decide) (.slice none 0 0) ([] : List BHead) hs' _ _ _ (fun _ => True) (fun _ => False) rfl rfl ?aO ?aR (fun _ _ h => h) (fun _ h => h.elim) ?aF ?aB ?aS ?aL ?_; (case aR => exact HT.out _ (HBX.out _ HB3.out).1); (case aB => exact Below.refl _ _); (case aF => exact (fun _ _ => trivial)); (case aO => exact Kd.R_nil _ _ _ _ _); (case aS => exact Nat.le_refl _); (case aL => exact HLA.out); intro v4 w4 ho hb hg hat; clear hg hat; have HO4 := Aside0.mk ho; have HX4 := Aside0.mk hb; have HB4 := Aside0.mk (HB3.out.trans (hb.mono (HBX.out _ HB3.out).2.1)); obtain ⟨_, _, x0, x1, x2⟩ := HBX.out _ HB4.out; clear ho hb))
    | (((with_reducible refine gate_builtin (b := .append) (xs := #[.tmp 78, .tmp 85]) rfl ?_); at_builtin; refine Kd.R_append kB (w0 := w3) w3.heap.size rfl (.tmp 78) (.tmp 85) 22 34 (.agg #[.int .i64 0, .int .i64 0, .bool false, .slice none 0 0]) 48 rfl Tryd.underlying22 info34 rfl (by decide) (by decide) v4 ([] ++ hs') (⟨b.f0 + gap, 3, true, some ⟨w4.heap.size, 0, none⟩, 1, 1⟩ : BHead) [.int .i64 (b.f0 + gap), .int .i64 3, .bool true, .slice (some ⟨w4.heap.size, 0, none⟩) 1 1] (fun _ => True) (fun _ => False) rfl (Eq.trans (b := .slice (some ⟨w4.heap.size + 1, 0, none⟩) 1 1) rfl (by simp)) ?aP (fun _ hk => hk.elim) ?aF ?aO ?aB ?aS ?aL ?_; (case aP => exact kB_M _); (case aB => exact HX4.out.alloc HX4.out.size _); (case aF => exact (fun _ _ => trivial)); (case aO => exact Kd.R_alloc HO4.out _); (case aS => exact Nat.le_trans HX4.out.size (by simp)); (case aL => exact HLB.out); intro v5 w5 ho hb hg hat; clear hat; have HZ5 := Aside0.mk hb; have HX5 := Aside0.mk (one_kept HO4.out hg); have HB5 := Aside0.mk (HB3.out.trans (hb.mono (HBX.out _ HB3.out).2.1)); obtain ⟨A5, c5, rfl, hc5, hC5⟩ := Kd.R_reads ho; have HM5 := Aside0.mk (fun W (hW : Below w5.heap.size w5 W) => HMORE.out W ((HBX.out _ (HB5.out.trans (hW.mono (HBX.out _ HB5.out).2.1))).1) w4.heap.size (Kd.C_below HX5.out hW) _ A5 c5 rfl (Kd.C_below hC5 hW) hc5); generalize (([] ++ hs') ++ [(⟨b.f0 + gap, 3, true, some ⟨w4.heap.size, 0, none⟩, 1, 1⟩ : BHead)]).length = m5 at HM5 ⊢; obtain ⟨_, _, x0, x1, x2⟩ := HBX.out _ HB5.out; clear ho hb hg hC5 hc5))
    | (((with_reducible refine gate_builtin (b := .append) (xs := #[.tmp 87, .tmp 88]) rfl ?_); at_builtin; refine Kd.R_append_rows kB (w0 := w5) w5.heap.size rfl (.tmp 87) (.tmp 88) 22 34 (.agg #[.int .i64 0, .int .i64 0, .bool false, .slice none 0 0]) 48 rfl Tryd.underlying22 info34 rfl (by decide) (by decide) (.slice none 0 0) ([] : List BHead) hs' _ _ _ (fun _ => True) (fun _ => False) rfl rfl ?aO ?aR (fun _ _ h => h) (fun _ h => h.elim) ?aF ?aB ?aS ?aL ?_; (case aR => exact HT.out _ (HBX.out _ HB5.out).1); (case aB => exact Below.refl _ _); (case aF => exact (fun _ _ => trivial)); (case aO => exact Kd.R_nil _ _ _ _ _); (case aS => exact Nat.le_refl _); (case aL => exact HLA.out); intro v6 w6 ho hb hg hat; clear hg hat; have HO6 := Aside0.mk ho; have HX6 := Aside0.mk hb; have HB6 := Aside0.mk (HB5.out.trans (hb.mono (HBX.out _ HB5.out).2.1)); obtain ⟨_, _, x0, x1, x2⟩ := HBX.out _ HB6.out; clear ho hb))
    | (((with_reducible refine gate_builtin (b := .append) (xs := #[.tmp 90, .tmp 97]) rfl ?_); at_builtin; refine Kd.R_append kB (w0 := w5) w5.heap.size rfl (.tmp 90) (.tmp 97) 22 34 (.agg #[.int .i64 0, .int .i64 0, .bool false, .slice none 0 0]) 48 rfl Tryd.underlying22 info34 rfl (by decide) (by decide) v6 ([] ++ hs') (⟨b.f0 + gap, 2, false, some ⟨w6.heap.size, 0, none⟩, 1, 1⟩ : BHead) [.int .i64 (b.f0 + gap), .int .i64 2, .bool false, .slice (some ⟨w6.heap.size, 0, none⟩) 1 1] (fun _ => True) (fun _ => False) rfl (Eq.trans (b := .slice (some ⟨w6.heap.size + 1, 0, none⟩) 1 1) rfl (by simp)) ?aP (fun _ hk => hk.elim) ?aF ?aO ?aB ?aS ?aL ?_; (case aP => exact kB_M _); (case aB => exact HX6.out.alloc HX6.out.size _); (case aF => exact (fun _ _ => trivial)); (case aO => exact Kd.R_alloc HO6.out _); (case aS => exact Nat.le_trans HX6.out.size (by simp)); (case aL => exact HLB.out); intro v7 w7 ho hb hg hat; clear hat; have HY7 := Aside0.mk (one_kept HO6.out hg); have HX7 := Aside0.mk hb; have HB7 := Aside0.mk (HB5.out.trans (hb.mono (HBX.out _ HB5.out).2.1)); obtain ⟨A7, c7, rfl, hc7, hC7⟩ := Kd.R_reads ho; have HN7 := Aside0.mk (fun W (hW : Below w7.heap.size w7 W) => HANEW.out W ((HBX.out _ (HB7.out.trans (hW.mono (HBX.out _ HB7.out).2.1))).1) w6.heap.size (Kd.C_below HY7.out hW) _ A7 c7 rfl (Kd.C_below hC7 hW) hc7); have HO7 := Aside0.mk (fun W (hW : Below w7.heap.size w7 W) => HOWN.out W ((HBX.out _ (HB7.out.trans (hW.mono (HBX.out _ HB7.out).2.1))).1) w6.heap.size (Kd.C_below HY7.out hW) _ A7 c7 rfl (Kd.C_below hC7 hW) hc7); generalize (([] ++ hs') ++ [(⟨b.f0 + gap, 2, false, some ⟨w6.heap.size, 0, none⟩, 1, 1⟩ : BHead)]).length = m7 at HN7 HO7 ⊢; obtain ⟨_, _, x0, x1, x2⟩ := HBX.out _ HB7.out; clear ho hb hg hC7 hc7)))
  have HTO : Aside0 (∀ W, Below w5.heap.size w5 W → Below w.heap.size w W ∧ w.heap.size + 1 ≤ W.heap.size ∧ W.cell? ⟨w.heap.size, 0, none⟩ = some (.int .i64 x.f0) ∧ W.cell? ⟨w.heap.size, 1, none⟩ = some (.int .i64 x.f1) ∧ W.cell? ⟨w.heap.size, 2, none⟩ = some (.int .i64 x.f2)) := ⟨fun W hW => HBX.out _ (HB5.out.trans (hW.mono (HBX.out _ HB5.out).2.1))⟩
  have HCP : Aside0 (∀ W, Below w5.heap.size w5 W → Kd.C k31 W B2 p.length p) := ⟨fun W hW => Kd.C_below (Kd.C_below HC3.out HZ5.out) hW⟩
  clear x0 x1 x2 hx0 hx1 hx2 hx3
  go_upto_region 18 with (first
    | (go_at_call 20; (with_reducible refine (HN7.out _ (Below.refl _ _)).mono ?_); rintro e w8 ⟨B8, d8, rfl, hd8, hC8, hb⟩; have HX8 := Aside0.mk hb; have HV8 := Aside0.mk (HX7.out.trans (hb.mono HX7.out.size)); have HC8 := Aside0.mk hC8; have HD8 := Aside0.mk hd8; clear hb hC8 hd8)
    | (go_at_call 20; (with_reducible refine (HO7.out _ HX8.out).mono ?_); rintro e w9 ⟨B9, d9, rfl, hd9, hC9, hb⟩; have HV9 := Aside0.mk (HV8.out.trans (hb.mono HV8.out.size)); have HC9 := Aside0.mk hC9; have HD9 := Aside0.mk hd9; have HS9 := Aside0.mk (same_calls B8 d8 B2 d2 p.length p w9 (by have := HPL.out; omega) rfl (Kd.C_below HC8.out hb) HD8.out (HCP.out _ HV9.out) HD2.out); clear hb hC9 hd9)
    | (go_at_call 22; (with_reducible refine HS9.out.mono ?_); rintro e w10 ⟨rfl, hb⟩; have HV10 := Aside0.mk (HV9.out.trans (hb.mono HV9.out.size)); have HS10 := Aside0.mk (same_calls B9 d9 (some ⟨w10.heap.size, 0, none⟩) 1 1 [x] (w10.alloc (.cells #[.int .i64 x.f0, .int .i64 x.f1, .int .i64 x.f2] 31)) (by simp) rfl (Kd.C_alloc (Kd.C_below HC9.out hb) _) HD9.out (C_one rfl (Below.refl _ _)) (Nat.le_refl _)); obtain ⟨_, _, x0, x1, x2⟩ := HTO.out _ HV10.out; clear hb)
    | (go_at_call 22; (with_reducible refine HS10.out.mono ?_); rintro e w11 ⟨rfl, hb⟩; have HV11 := Aside0.mk ((HV10.out.alloc HV10.out.size (.cells #[.int .i64 x.f0, .int .i64 x.f1, .int .i64 x.f2] 31)).trans (hb.mono (Nat.le_trans HV10.out.size (by simp)))); clear hb x0 x1 x2)
    | (go_at_call 20; (with_reducible refine (H20s.out _ (HTO.out _ HV11.out).1).mono ?_); rintro e w12 ⟨B12, d12, rfl, hd12, hC12, hb⟩; have HV12 := Aside0.mk (HV11.out.trans (hb.mono HV11.out.size)); have HC12 := Aside0.mk hC12; have HD12 := Aside0.mk hd12; clear hb hC12 hd12))
  clear HN7 HO7 HX7 HX8 HV8 HC8 HD8 HV9 HC9 HD9 HS9 HV10 HS10 HV11 H20 H20s HA H23 HMORE HANEW HOWN HT HLA HLB
  go_wp2_with (fail)
  go_loopw [25, 26] (fun cs i W => ∃ (k : Nat) (cb : Bool), k ≤ N + 1 ∧ i = .int .i64 k ∧ cs = .bool cb ∧ Aside0 (cb = ((sz == 0) && (ls.take k).all (okV at'))) ∧ Aside0 (Below w12.heap.size w12 W)) (fun _ i _ => N + 1 - (intOf i).toNat)
  case atStart => exact ⟨0, _, Nat.zero_le _, rfl, rfl, ⟨by simp⟩, ⟨Below.refl _ _⟩⟩
  case round =>
    obtain ⟨k, cb, hk, rfl, rfl, hcb, hbe⟩ := hrel
    have HVW := Aside0.mk (HV12.out.trans (hbe.out.mono HV12.out.size))
    by_cases hlt : k < N + 1
    · have hkl : k < ls.length := by rw [hN]; exact hlt
      obtain ⟨ad', A5', c5', hade, hx0, hx1, hx2, hx3, hc5', hg5'⟩ := at_T34 (Kd.C_below HR.out (HTO.out _ HVW.out).1) (k : Int) (by omega) (by omega)
      obtain rfl : ad = ad' := by simpa using hade
      rw [Int.toNat_natCast] at hx0 hx1 hx2 hx3
      have hrd := rd34 ls k hkl
      have HS := Aside0.mk (show ((sz == 0) && (ls.take (k + 1)).all (okV at')) = (cb && okV at' (rd_T34 ls (k : Int))) by
        rw [hcb.out, List.take_succ_eq_append_getElem hkl, List.all_append, ← hrd]
        simp [Bool.and_assoc])
      generalize rd_T34 ls (k : Int) = y at hx0 hx1 hx2 hx3 hc5' hg5' HS
      obtain ⟨f0, f1, f2, f3⟩ := y
      dsimp only at hx0 hx1 hx2 hx3
      have m0 : ¬ (N : Int) + 1 ≤ (k : Int) := by omega
      have m1 : ¬ N + 1 ≤ k := by omega
      have m2 : decide (k < N + 1) = true := decide_eq_true hlt
      have m3 : decide ((k : Int) < (N : Int) + 1) = true := decide_eq_true (by omega)
      have hb9 : -9223372036854775808 ≤ (k : Int) + 1 ∧ (k : Int) + 1 ≤ 9223372036854775807 := by have := HNB.out; omega
      clear hade hrd hg5' hc5' hcb hkl hx2 hx3
      by_cases q0 : at' < f0
      · have d0 : decide (at' < f0) = true := decide_eq_true q0
        by_cases q1 : f1 = 2
        · subst q1
          have HS2 := Aside0.mk (show false = ((sz == 0) && (ls.take (k + 1)).all (okV at')) by rw [HS.out]; unfold okV; rw [d0]; simp)
          have kw9 : IntKind.i64.wrap ((k : Int) + 1) = (k : Int) + 1 := IntWalk.i64_in _ hb9
          clear q0 hb9
          go_wp2_with (fail)
          exact ⟨⟨k + 1, _, hlt, by first | rfl | simp, rfl, HS2, hbe⟩, by simp [intOf]; omega⟩
        · have d1 : (f1 == 2) = false := beq_eq_false_iff_ne.2 q1
          have HS2 := Aside0.mk (show cb = ((sz == 0) && (ls.take (k + 1)).all (okV at')) by rw [HS.out]; unfold okV; simp [q1])
          have kw9 : IntKind.i64.wrap ((k : Int) + 1) = (k : Int) + 1 := IntWalk.i64_in _ hb9
          clear q0 q1 hb9
          go_wp2_with (fail)
          exact ⟨⟨k + 1, _, hlt, by first | rfl | simp, rfl, HS2, hbe⟩, by simp [intOf]; omega⟩
      · have d0 : decide (at' < f0) = false := decide_eq_false q0
        have HS2 := Aside0.mk (show cb = ((sz == 0) && (ls.take (k + 1)).all (okV at')) by rw [HS.out]; unfold okV; simp [q0])
        have kw9 : IntKind.i64.wrap ((k : Int) + 1) = (k : Int) + 1 := IntWalk.i64_in _ hb9
        clear q0 hb9
        go_wp2_with (fail)
        exact ⟨⟨k + 1, _, hlt, by first | rfl | simp, rfl, HS2, hbe⟩, by simp [intOf]; omega⟩
    · have m2 : decide (k < N + 1) = false := decide_eq_false hlt
      have m3 : decide ((k : Int) < (N : Int) + 1) = false := decide_eq_false (by omega)
      have hkl : ls.take k = ls := List.take_of_length_le (by omega)
      have HCB := Aside0.mk (show cb = ((sz == 0) && ls.all (okV at')) by rw [hcb.out, hkl])
      clear hcb hkl
      cases cb with
      | false =>
        go_wp2_with (fail)
        go_ret
        exact ⟨rfl, (HTO.out _ HVW.out).1⟩
      | true =>
        have hcb := HCB.out
        rw [eq_comm, Bool.and_eq_true, beq_iff_eq, List.all_eq_true] at hcb
        obtain ⟨rfl, hall⟩ := hcb
        have hnv : ∀ y ∈ ls, ¬ (at' < y.f0 ∧ y.f1 = 2) := fun y hy h => by
          have := hall y hy
          unfold okV at this
          rw [decide_eq_true h.1, decide_eq_true h.2] at this
          cases this
        have hfs := HFS.out hnv
        simp only [Option.some.injEq, Prod.mk.injEq, and_true] at hfs
        obtain ⟨rfl, rfl⟩ := hfs
        have HFN := Aside0.mk (HFM.out hnv)
        have HS12 := Aside0.mk (same_calls B12 d12 B2 d2 sp.length sp wr (by have := HPL.out; omega) rfl (Kd.C_below HC12.out hbe.out) HD12.out (HCP.out _ HVW.out) HD2.out)
        clear hall hnv HCB HFS HFM
        go_upto_region 29 with (first
          | (go_at_call 22; (with_reducible refine HS12.out.mono ?_); rintro e w13 ⟨rfl, hb⟩; have HV13 := Aside0.mk (HVW.out.trans (hb.mono HVW.out.size)); clear hb)
          | (go_at_call 20; (with_reducible refine (HM5.out _ HV13.out).mono ?_); rintro e w14 ⟨B14, d14, rfl, hd14, hC14, hb⟩; have HV14 := Aside0.mk (HV13.out.trans (hb.mono HV13.out.size)); have HC14 := Aside0.mk hC14; have HD14 := Aside0.mk hd14; clear hb hC14 hd14))
        obtain ⟨ad', A6, c6, hade, hx0, hx1, hx2, hx3, hc6, hg6⟩ := at_T34 (Kd.C_below HR.out (HTO.out _ HV14.out).1) (N : Int) n1 n2
        obtain rfl : ad = ad' := by simpa using hade
        rw [Int.toNat_natCast] at hx0 hx1 hx2 hx3
        rw [HB0.out] at hx0 hx1 hx2 hx3
        clear hade hg6 hc6 hx2 hx3
        by_cases h4 : b.f1 = 4
        · have hfn := HFN.out
          rw [if_pos h4] at hfn
          simp only [Option.some.injEq, Prod.mk.injEq] at hfn
          obtain ⟨rfl, rfl, rfl⟩ := hfn
          rw [h4] at hx1
          clear h4 HFN
          go_wp2_with (fail)
          go_ret
          exact ⟨rfl, (HTO.out _ HV14.out).1⟩
        · have hfn := HFN.out
          rw [if_neg h4] at hfn
          have e4 : (b.f1 == 4) = false := beq_eq_false_iff_ne.2 h4
          by_cases h40 : sp.length = 40
          · rw [if_pos h40] at hfn
            simp only [Option.some.injEq, Prod.mk.injEq] at hfn
            obtain ⟨rfl, rfl, rfl⟩ := hfn
            have q1 : ((sp.length : Int) == 40) = true := by rw [h40]; rfl
            have q2 : (sp.length == 40) = true := by rw [h40]; rfl
            have q3 : decide (sp.length = 40) = true := decide_eq_true h40
            clear h4 HFN h40
            go_wp2_with (fail)
            go_ret
            exact ⟨rfl, (HTO.out _ HV14.out).1⟩
          · rw [if_neg h40] at hfn
            simp only [Option.some.injEq, Prod.mk.injEq] at hfn
            obtain ⟨rfl, rfl, rfl⟩ := hfn
            have q1 : ((sp.length : Int) == 40) = false := by rw [beq_eq_false_iff_ne]; omega
            have q2 : (sp.length == 40) = false := beq_eq_false_iff_ne.2 h40
            have q3 : decide (sp.length = 40) = false := decide_eq_false h40
            have hll : (sp ++ [x]).length = sp.length + 1 := by rw [List.length_append, List.length_singleton]
            have h14 := HC14.out
            have hd14 := HD14.out
            rw [hll] at h14 hd14
            have o0 : 0 ≤ (sp.length : Int) := by omega
            have o1 : (sp.length : Int) < ((sp.length + 1 : Nat) : Int) := by omega
            obtain ⟨ad4, rfl, hy0, hy1, hy2⟩ := at_T31 h14 (sp.length : Int) o0 o1
            have hrx : rd_T31 (sp ++ [x]) (sp.length : Int) = x := by
              rw [rd31 _ sp.length (by rw [hll]; omega)]
              simp
            rw [hrx] at hy0 hy1 hy2
            rw [Int.toNat_natCast] at hy0 hy1 hy2
            have hsl : ∀ W, (Instr.sliceAt 24 (.slice (some ad4) (sp.length + 1) d14) none (some (.int .i64 (sp.length : Int))) none).run Tryd.prog W = .ok (.slice (some ad4) sp.length d14) W := fun W => slice_high W (Nat.le_succ _) hd14 (fun h => by cases h)
            have hp14 : Kd.C k31 w14 (some ad4) sp.length sp := by
              have h := Kd.C_take (m := sp.length) (HC14.out) (by rw [hll]; omega)
              rw [List.take_left'  rfl] at h
              exact h
            have HQ := Aside0.mk (fun k => same_quiet (some ad4) d14 B2 d2 sp.length sp w14 k (by have := HPL.out; omega) rfl hp14 (by omega) (HCP.out _ HV14.out) HD2.out)
            obtain ⟨_, _, x0, x1, x2⟩ := HTO.out _ HV14.out
            have o2 : ¬ (sp.length : Int) + 1 ≤ (sp.length : Int) := by omega
            have o3 : sp.length < sp.length + 1 := by omega
            have o4 : ¬ sp.length + 1 ≤ sp.length := by omega
            have hb9 : -9223372036854775808 ≤ (sp.length : Int) + 1 ∧ (sp.length : Int) + 1 ≤ 9223372036854775807 := by have := HPL.out; omega
            have kw7 : IntKind.i64.wrap ((sp.length : Int) + 1) = (sp.length : Int) + 1 := IntWalk.i64_in _ hb9
            have kw8 : IntKind.i64.wrap (sn + 1) = sn + 1 := IntWalk.i64_in _ HNM.out
            clear h4 HFN h40 hll h14 hd14 hrx hp14 hb9
            go_upto_region 33 with (fail)
            go_quiet ((go_at_call 22; exact HQ.out _))
            go_wp2_with (fail)
            go_ret
            exact ⟨rfl, pw_below_drewN (HTO.out _ HV14.out).1 _⟩
end
end Go.Proofs.YtgkebfeggekkgaaDoor.Given
