/- The contracts of the reference's Walk and Merge. -/
import Derived.Test.YtgkebfeggekkgaaDoorHx
set_option linter.unusedVariables false
set_option linter.unusedSimpArgs false
namespace Go.Proofs.YtgkebfeggekkgaaDoor.Given
open Go.RowKit Go.Proofs.YtgkebfeggekkgaaDoor.PT Go.Proofs.YtgkebfeggekkgaaDoorW.PrintWords Go.Proofs.YtgkebfeggekkgaaDoorW.PrintLast Go.Proofs.YtgkebfeggekkgaaDoorW.PrintMore

/-- a slice of integers, and an error, read -/
def GotZ (w : World) (l : List Int) (z : Int) (e : Ending) (w' : World) : Prop := ∃ A c, e = .returned (.tuple #[.slice A l.length c, .int .i64 z]) ∧ l.length ≤ c ∧ Kd.C kI w' A l.length l ∧ Below w.heap.size w w'
theorem walkF_eq (ls : List S39) (h : ls.length ≤ 40) (hok : ls.all (fun d => actOk d.f0 d.f1) = true) : walkF ls = if 2000 < (refW (actsOf ls)).length then ([], 2) else (refW (actsOf ls), 0) := by
  unfold walkF
  rw [if_neg (by omega), if_pos hok]
  rcases walk_ref (actsOf ls) with ⟨h1, h2⟩ | ⟨h1, h2⟩
  · rw [h1, if_pos rfl, if_neg (by omega)]
  · rw [h1, if_neg (by decide), if_pos (by omega)]
set_option maxRecDepth 100000 in
set_option maxHeartbeats 2000000 in
theorem refWalk_calls (A : Option Addr) (c : Nat) (ls : List S39) (w : World) (hr : Kd.C k39 w A ls.length ls) (hlen : ∀ d ∈ ls, d.f1.length ≤ 1073741823) : Calls Tryd.prog 27 #[.slice A ls.length c] w (GotZ w (walkF ls).1 (walkF ls).2) := by
  by_cases h40 : 40 < ls.length
  · have e : walkF ls = ([], 2) := by unfold walkF; rw [if_pos h40]
    rw [e]
    have d1 : decide (40 < ls.length) = true := decide_eq_true h40
    have d2 : decide ((40 : Int) < (ls.length : Int)) = true := decide_eq_true (by omega)
    clear h40 e
    go_enter Tryd.func27, Tryd.ntmps27
    go_wp2
    go_ret2
    exact ⟨none, 0, rfl, Nat.le_refl _, Kd.C_nil _ _, Below.refl _ _⟩
  · have d1 : decide (40 < ls.length) = false := decide_eq_false (by omega)
    have d2 : decide ((40 : Int) < (ls.length : Int)) = false := decide_eq_false (by omega)
    have hl40 : ls.length ≤ 40 := by omega
    have HR := Aside0.mk hr
    have HLE := Aside0.mk hlen
    have hu39 := Tryd.underlying39
    clear hr hlen h40
    go_enter Tryd.func27, Tryd.ntmps27
    go_wp2
    go_loopw [4] (fun i W => ∃ k : Nat, k ≤ ls.length ∧ i = .int .i64 k ∧ Aside0 (Below w.heap.size w W) ∧ Aside0 (∀ (j : Nat) (h : j < ls.length), j < k → actOk ls[j].f0 ls[j].f1 = true)) (fun i _ => ls.length - (intOf i).toNat)
    case atStart => exact ⟨0, Nat.zero_le _, rfl, ⟨Below.refl _ _⟩, ⟨fun j _ h => by omega⟩⟩
    case round =>
      obtain ⟨k, hk, rfl, hbel, hOK⟩ := hrel
      by_cases hlt : k < ls.length
      · obtain ⟨ad, A1, c1, rfl, hx0, hx1, hc1, hg⟩ := at_T39 (Kd.C_below HR.out hbel.out) (k : Int) (by omega) (by omega)
        rw [Int.toNat_natCast] at hx0 hx1
        have hrd := rd39 ls k hlt
        have hl1 := HLE.out ls[k] (List.getElem_mem _)
        rw [← hrd] at hl1
        generalize hgl : rd_T39 ls (k : Int) = x at hx0 hx1 hc1 hg hrd hl1
        have HRD := Aside0.mk hrd
        have HV := Aside0.mk (validDo_calls x.f0 A1 c1 x.f1 wr hg hc1 hl1)
        clear hgl hrd hg hl1
        obtain ⟨f0, f1⟩ := x
        dsimp only at hx0 hx1 hc1 HV
        cases hok : actOk f0 f1 with
        | false =>
          rw [hok] at HV
          have HW := Aside0.mk (walkF_bad ls hl40 k hlt (by rw [← HRD.out]; exact hok))
          clear hok
          go_wp2_with (first | (go_at_call 63; (with_reducible refine HV.out.mono ?_); rintro e w1 ⟨rfl, hb⟩; have HB1 := Aside0.mk (hbel.out.trans (hb.mono hbel.out.size)); clear hb))
          rw [HW.out]
          go_ret2
          exact ⟨none, 0, rfl, Nat.le_refl _, Kd.C_nil _ _, HB1.out⟩
        | true =>
          rw [hok] at HV
          have HN := Aside0.mk (show ∀ (j : Nat) (h : j < ls.length), j < k + 1 → actOk ls[j].f0 ls[j].f1 = true from fun j hj hjk => by
            by_cases hjk2 : j = k
            · subst hjk2
              rw [← HRD.out]
              exact hok
            · exact hOK.out j hj (by omega))
          clear hok hOK
          go_wp2_with (first | (go_at_call 63; (with_reducible refine HV.out.mono ?_); rintro e w1 ⟨rfl, hb⟩; have HB1 := Aside0.mk (hbel.out.trans (hb.mono hbel.out.size)); clear hb))
          exact ⟨⟨k + 1, by omega, by first | rfl | simp, HB1, HN⟩, by simp [intOf]; omega⟩
      · have hke : k = ls.length := by omega
        subst hke
        have hall : ls.all (fun d => actOk d.f0 d.f1) = true := by
          rw [List.all_eq_true]
          intro d hd'
          obtain ⟨j, hj, rfl⟩ := List.getElem_of_mem hd'
          exact hOK.out j hj hj
        have HALL := Aside0.mk (List.all_eq_true.1 hall)
        have HW := Aside0.mk (walkF_eq ls hl40 hall)
        have hal : (actsOf ls).length = ls.length := by simp [actsOf]
        have HAL := Aside0.mk hal
        have e1 : IntKind.i64.wrap ((ls.length : Int) - 1) = (ls.length : Int) - 1 := IntWalk.i64_in _ (by omega)
        clear hall hOK hal
        go_wp2_with (fail)
        go_loopw [5, 6] (fun v i W => ∃ (j : Int) (A2 : Option Addr) (c2 : Nat), -1 ≤ j ∧ j < ls.length ∧ i = .int .i64 j ∧ v = .slice A2 (refW ((actsOf ls).drop (j + 1).toNat)).length c2 ∧ (refW ((actsOf ls).drop (j + 1).toNat)).length ≤ c2 ∧ Aside0 (Kd.C kI W A2 (refW ((actsOf ls).drop (j + 1).toNat)).length (refW ((actsOf ls).drop (j + 1).toNat))) ∧ Aside0 (Below w.heap.size w W)) (fun _ i _ => (intOf i + 1).toNat)
        case atStart =>
          have e0 : refW ((actsOf ls).drop ((ls.length : Int) - 1 + 1).toNat) = [] := by
            rw [show ((ls.length : Int) - 1 + 1).toNat = ls.length by omega, List.drop_of_length_le (by rw [HAL.out]; exact Nat.le_refl _)]
            rfl
          exact ⟨(ls.length : Int) - 1, none, 0, by omega, by omega, by first | rfl | simp, by rw [e0]; rfl, by rw [e0]; exact Nat.le_refl _, ⟨by rw [e0]; exact Kd.C_nil _ _⟩, hbel⟩
        case round =>
          obtain ⟨j, A2, c2, hj0, hj1, rfl, rfl, hc2, hC2, hbel2⟩ := hrel
          by_cases hneg : j < 0
          · obtain rfl : j = -1 := by omega
            have e0 : (actsOf ls).drop ((-1 : Int) + 1).toNat = actsOf ls := List.drop_zero
            rw [e0] at hC2 hc2 ⊢
            have HC2 := Aside0.mk hC2.out
            by_cases hbig : 2000 < (refW (actsOf ls)).length
            · have HE := Aside0.mk (show walkF ls = ([], 2) by rw [HW.out, if_pos hbig])
              have g1 : decide (2000 < (refW (actsOf ls)).length) = true := decide_eq_true hbig
              have g2 : decide ((2000 : Int) < ((refW (actsOf ls)).length : Int)) = true := decide_eq_true (by omega)
              clear hbig HW hC2
              generalize (refW (actsOf ls)).length = n at g1 g2
              go_wp2_with (fail)
              rw [HE.out]
              go_ret2
              exact ⟨none, 0, rfl, Nat.le_refl _, Kd.C_nil _ _, hbel2.out⟩
            · have HE := Aside0.mk (show walkF ls = (refW (actsOf ls), 0) by rw [HW.out, if_neg hbig])
              have g1 : decide (2000 < (refW (actsOf ls)).length) = false := decide_eq_false hbig
              have g2 : decide ((2000 : Int) < ((refW (actsOf ls)).length : Int)) = false := decide_eq_false (by omega)
              have HCC := Aside0.mk hc2
              clear hbig HW hC2 hc2
              have HFIN : Aside0 (∀ (n : Nat) (A : Option Addr) (c : Nat) (e : Ending) (w' : World), n = (refW (actsOf ls)).length → e = .returned (.tuple #[.slice A n c, .int .i64 0]) → n ≤ c → Kd.C kI w' A n (refW (actsOf ls)) → Below w.heap.size w w' → GotZ w (walkF ls).1 (walkF ls).2 e w') := ⟨by
                rintro n A c e w' rfl rfl h3 h4 h5
                rw [HE.out]
                exact ⟨A, c, rfl, h3, h4, h5⟩⟩
              generalize hn : (refW (actsOf ls)).length = n at g1 g2 HC2 HCC ⊢
              have HNN := Aside0.mk hn
              clear hn
              go_wp2_with (fail)
              go_ret2
              exact HFIN.out n A2 c2 _ _ HNN.out.symm rfl HCC.out HC2.out hbel2.out
          · obtain ⟨k, hk⟩ : ∃ k : Nat, j = k := ⟨j.toNat, by omega⟩
            subst hk
            have hlt2 : k < ls.length := by omega
            obtain ⟨ad, A1, c1, rfl, hx0, hx1, hc1, hg⟩ := at_T39 (Kd.C_below HR.out hbel2.out) (k : Int) (by omega) (by omega)
            rw [Int.toNat_natCast] at hx0 hx1
            have hrd := rd39 ls k hlt2
            have hl1 := HLE.out ls[k] (List.getElem_mem _)
            have hok := HALL.out ls[k] (List.getElem_mem _)
            have hdr : refW ((actsOf ls).drop k) = putL (actL ls[k].f0 ls[k].f1) (refW ((actsOf ls).drop (k + 1))) := by
              have hkA : k < (actsOf ls).length := by rw [HAL.out]; exact hlt2
              have hga : (actsOf ls)[k] = actL ls[k].f0 ls[k].f1 := by simp [actsOf]
              rw [List.drop_eq_getElem_cons hkA, hga]
              rfl
            rw [← hrd] at hl1 hok hdr
            generalize hgl : rd_T39 ls (k : Int) = x at hx0 hx1 hc1 hg hl1 hok hdr
            have e1 : ((k : Int) + 1).toNat = k + 1 := by omega
            rw [e1] at hC2 hc2 ⊢
            have hrl := refW_len ((actsOf ls).drop (k + 1))
            have HDR := Aside0.mk hdr
            obtain ⟨f0, f1⟩ := x
            dsimp only at hx0 hx1 hc1 hg hl1 hok
            have HA := Aside0.mk (refActs_calls f0 A1 c1 f1 wr hg hc1)
            have HPUT := Aside0.mk (fun (A3 : Option Addr) (c3 : Nat) (W : World) (h3 : Kd.C kI W A3 (actL f0 f1).length (actL f0 f1)) (h3c : (actL f0 f1).length ≤ c3) (hW : Below wr.heap.size wr W) => put_calls A3 c3 (actL f0 f1) A2 c2 (refW ((actsOf ls).drop (k + 1))) W h3 h3c (Kd.C_below hC2.out hW) hc2 (by have := actL_len f0 f1; omega) (by omega) (acts_any f0 f1 hok))
            clear hgl hrd hg hl1 hok hdr hC2 hrl hc2
            generalize (refW ((actsOf ls).drop (k + 1))).length = n1 at HPUT
            have HLA := Aside0.mk (actL_len f0 f1)
            have HN2 : Aside0 (∀ A3 c3 W, Kd.C kI W A3 (actL f0 f1).length (actL f0 f1) → (actL f0 f1).length ≤ c3 → Below wr.heap.size wr W → Calls Tryd.prog 64 #[.slice A3 (actL f0 f1).length c3, .slice A2 n1 c2] W (GotI W (refW ((actsOf ls).drop k)))) := ⟨fun A3 c3 W h1 h2 h3 => by rw [HDR.out]; exact HPUT.out A3 c3 W h1 h2 h3⟩
            clear HPUT
            have eNext : ((k : Int) - 1 + 1).toNat = k := by omega
            have ewr : IntKind.i64.wrap ((k : Int) - 1) = (k : Int) - 1 := IntWalk.i64_in _ (by omega)
            have HEN := Aside0.mk eNext
            clear eNext
            go_wp2_with (first
              | (go_at_call 65; (with_reducible refine HA.out.mono ?_); rintro e w1 ⟨A3, c3, rfl, hc3, hC3, hb⟩; have HB1 := Aside0.mk hb; have HQ := Aside0.mk (HN2.out A3 c3 w1 hC3 hc3 hb); clear hb hC3 hc3)
              | (go_at_call 64; (with_reducible refine HQ.out.mono ?_); rintro e w2 ⟨A4, c4, rfl, hc4, hC4, hb⟩; have HB2 := Aside0.mk (HB1.out.trans (hb.mono HB1.out.size)); have HC4 := Aside0.mk hC4; have HD4 := Aside0.mk hc4; clear hb hC4 hc4))
            exact ⟨⟨(k : Int) - 1, A4, c4, by omega, by omega, by first | rfl | simp, by rw [HEN.out], by rw [HEN.out]; exact HD4.out, ⟨by rw [HEN.out]; exact HC4.out⟩, ⟨hbel2.out.trans (HB2.out.mono hbel2.out.size)⟩⟩, by simp [intOf]⟩
/-- a do-part and an error, read -/
def GotM (w : World) (r : Bool × List Int × Int) (e : Ending) (w' : World) : Prop := ∃ A c, e = .returned (.tuple #[.agg #[.bool r.1, .slice A r.2.1.length c], .int .i64 r.2.2]) ∧ r.2.1.length ≤ c ∧ Kd.C kI w' A r.2.1.length r.2.1 ∧ Below w.heap.size w w'
section
variable (b0 : Bool) (A0 : Option Addr) (c0 : Nat) (l0 : List Int) (b1 : Bool) (A1 : Option Addr) (c1 : Nat) (l1 : List Int) (w : World)
/-- the world behind the reference's blocks -/
def wN : World := ((w.alloc (.cells #[.bool b0, .slice A0 l0.length c0] 39)).alloc (.cells #[.bool b1, .slice A1 l1.length c1] 39)).alloc (.cells #[.bool false, .slice none 0 0] 39)
def SN (W : World) : Prop := Below (w.heap.size + 1 + 1 + 1) (wN b0 A0 c0 l0 b1 A1 c1 l1 w) W
theorem wN_size : (wN b0 A0 c0 l0 b1 A1 c1 l1 w).heap.size = w.heap.size + 1 + 1 + 1 := by simp [wN]
theorem wN_below : Below w.heap.size w (wN b0 A0 c0 l0 b1 A1 c1 l1 w) := (((Below.refl _ _).alloc (Nat.le_refl _) _).alloc (by simp) _).alloc (by simp; omega) _
variable {b0 A0 c0 l0 b1 A1 c1 l1 w} {W : World}
theorem SN.below (h : SN b0 A0 c0 l0 b1 A1 c1 l1 w W) : Below w.heap.size w W := (wN_below ..).trans (h.mono (by omega))
theorem SN.size (h : SN b0 A0 c0 l0 b1 A1 c1 l1 w W) : w.heap.size + 1 + 1 + 1 ≤ W.heap.size := by have := Below.size h; rw [wN_size] at this; exact this
theorem SN.keep {W' : World} (h : SN b0 A0 c0 l0 b1 A1 c1 l1 w W) (hb : Below W.heap.size W W') : SN b0 A0 c0 l0 b1 A1 c1 l1 w W' := Below.trans h (hb.mono h.size)
theorem SN.cells (h : SN b0 A0 c0 l0 b1 A1 c1 l1 w W) : W.cell? ⟨w.heap.size, 0, none⟩ = some (.bool b0) ∧ W.cell? ⟨w.heap.size, 1, none⟩ = some (.slice A0 l0.length c0) ∧
    W.cell? ⟨w.heap.size + 1, 0, none⟩ = some (.bool b1) ∧ W.cell? ⟨w.heap.size + 1, 1, none⟩ = some (.slice A1 l1.length c1) := by
  refine ⟨(bcell h (by omega)).trans ?_, (bcell h (by omega)).trans ?_, (bcell h (by omega)).trans ?_, (bcell h (by omega)).trans ?_⟩
  all_goals simp [wN, go_sem]
theorem SN.rd (h : SN b0 A0 c0 l0 b1 A1 c1 l1 w W) : W.cell? ⟨w.heap.size + 1 + 1, 0, none⟩ = some (.bool false) ∧ W.cell? ⟨w.heap.size + 1 + 1, 1, none⟩ = some (.slice none 0 0) ∧ W.frozen? ⟨w.heap.size + 1 + 1, 0, none⟩ = false ∧ W.frozen? ⟨w.heap.size + 1 + 1, 1, none⟩ = false := by
  refine ⟨(bcell h (by omega)).trans ?_, (bcell h (by omega)).trans ?_, (bfrozen h (by omega)).trans ?_, (bfrozen h (by omega)).trans ?_⟩
  all_goals simp [wN, go_sem]
end
theorem mergeF_eq (a b : S39) (h : (actOk a.f0 a.f1 && actOk b.f0 b.f1) = true) : mergeF a b = if 2000 < (putL (actL a.f0 a.f1) (actL b.f0 b.f1)).length then (false, [], 2) else (true, putL (actL a.f0 a.f1) (actL b.f0 b.f1), 0) := by
  unfold mergeF
  rw [if_pos h]
  rcases fill_put (actL a.f0 a.f1) (actL b.f0 b.f1) with ⟨h1, h2⟩ | ⟨h1, h2⟩
  · rw [h1, if_pos rfl, if_neg (by omega)]
  · rw [h1, if_neg (by decide), if_pos (by omega)]
set_option maxRecDepth 100000 in
set_option maxHeartbeats 2000000 in
theorem refMerge_bad (b0 : Bool) (A0 : Option Addr) (c0 : Nat) (l0 : List Int) (b1 : Bool) (A1 : Option Addr) (c1 : Nat) (l1 : List Int) (w : World) (hr0 : Kd.C kI w A0 l0.length l0) (hc0 : l0.length ≤ c0) (hr1 : Kd.C kI w A1 l1.length l1) (hc1 : l1.length ≤ c1) (hl0 : l0.length ≤ 1073741823) (hl1 : l1.length ≤ 1073741823)
    (hok : (actOk b0 l0 && actOk b1 l1) = false) : Calls Tryd.prog 30 #[.agg #[.bool b0, .slice A0 l0.length c0], .agg #[.bool b1, .slice A1 l1.length c1]] w (GotM w (false, [], 1)) := by
  have hu39 := Tryd.underlying39
  have hS0 : SN b0 A0 c0 l0 b1 A1 c1 l1 w (wN b0 A0 c0 l0 b1 A1 c1 l1 w) := Below.refl _ _
  have HV0 := Aside0.mk (validDo_calls b0 A0 c0 l0 (wN b0 A0 c0 l0 b1 A1 c1 l1 w) (Kd.C_below hr0 hS0.below) hc0 hl0)
  have HV1 := Aside0.mk (fun W (hW : SN b0 A0 c0 l0 b1 A1 c1 l1 w W) => validDo_calls b1 A1 c1 l1 W (Kd.C_below hr1 hW.below) hc1 hl1)
  have HS0 := Aside0.mk hS0
  have hwn : wN b0 A0 c0 l0 b1 A1 c1 l1 w = ((w.alloc (.cells #[.bool b0, .slice A0 l0.length c0] 39)).alloc (.cells #[.bool b1, .slice A1 l1.length c1] 39)).alloc (.cells #[.bool false, .slice none 0 0] 39) := rfl
  rw [hwn] at HV0
  clear hr0 hr1 hS0 hwn
  cases h0 : actOk b0 l0 with
  | false =>
    rw [h0] at HV0
    clear hok h0
    go_enter Tryd.func30, Tryd.ntmps30
    go_wp2_with (first
      | (go_at_call 63; (with_reducible refine HV0.out.mono ?_); rintro e w1 ⟨rfl, hb⟩; have HS1 := Aside0.mk (HS0.out.keep hb); obtain ⟨d0, d1, g0, g1⟩ := HS1.out.rd; clear hb))
    refine bodyPost_ret (v := .tuple #[.agg #[.bool false, .slice none 0 0], .int .i64 1]) (by simp [results, Tryd.results30, go_sem, d0, d1, hu39]) rfl ⟨none, 0, rfl, Nat.le_refl _, Kd.C_nil _ _, ?_⟩
    exact (HS1.out.below.setCell (p := ⟨w.heap.size + 1 + 1, 0, none⟩) (by simp only; omega) _).setCell (p := ⟨w.heap.size + 1 + 1, 1, none⟩) (by simp only; omega) _
  | true =>
    have h1 : actOk b1 l1 = false := by rw [h0] at hok; simpa using hok
    rw [h0] at HV0
    rw [h1] at HV1
    clear hok h0 h1
    go_enter Tryd.func30, Tryd.ntmps30
    go_wp2_with (first
      | (go_at_call 63; (with_reducible refine HV0.out.mono ?_); rintro e w1 ⟨rfl, hb⟩; have HS1 := Aside0.mk (HS0.out.keep hb); obtain ⟨x0, x1, x2, x3⟩ := HS1.out.cells; have HV2 := Aside0.mk (HV1.out w1 HS1.out); clear hb)
      | (go_at_call 63; (with_reducible refine HV2.out.mono ?_); rintro e w2 ⟨rfl, hb⟩; have HS2 := Aside0.mk (HS1.out.keep hb); obtain ⟨d0, d1, g0, g1⟩ := HS2.out.rd; clear hb))
    refine bodyPost_ret (v := .tuple #[.agg #[.bool false, .slice none 0 0], .int .i64 1]) (by simp [results, Tryd.results30, go_sem, d0, d1, hu39]) rfl ⟨none, 0, rfl, Nat.le_refl _, Kd.C_nil _ _, ?_⟩
    exact (HS2.out.below.setCell (p := ⟨w.heap.size + 1 + 1, 0, none⟩) (by simp only; omega) _).setCell (p := ⟨w.heap.size + 1 + 1, 1, none⟩) (by simp only; omega) _
end Go.Proofs.YtgkebfeggekkgaaDoor.Given
