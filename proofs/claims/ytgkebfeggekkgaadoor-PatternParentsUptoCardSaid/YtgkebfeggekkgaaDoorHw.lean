/- PatternParents, walked: it answers true. -/
import Derived.Test.YtgkebfeggekkgaaDoorLPp
import Derived.Test.YtgkebfeggekkgaaDoorJ4
set_option linter.unusedVariables false
set_option linter.unusedSimpArgs false
namespace Go.Proofs.YtgkebfeggekkgaaDoor.Given
open Go.RowKit Go.Proofs.YtgkebfeggekkgaaDoor.PT Go.Proofs.YtgkebfeggekkgaaDoorW.PrintWords Go.Proofs.YtgkebfeggekkgaaDoorW.PrintLast Go.Proofs.YtgkebfeggekkgaaDoorW.PrintMore

theorem parents_bad_nil (ls : List (List S31)) (h : ¬ (parentsF ls).2 = 0) : (parentsF ls).1 = [] := by
  unfold parentsF at h ⊢
  by_cases h5 : 500 < ls.length
  · rw [if_pos h5]
  · rw [if_neg h5] at h ⊢
    by_cases hz : validL ls = 0
    · rw [if_pos hz] at h ⊢
      cases hp : parRows ls 0 ls with
      | none => rfl
      | some l => rw [hp] at h; exact absurd rfl h
    · rw [if_neg hz]
theorem parents_ok (ls : List (List S31)) (h : (parentsF ls).2 = 0) : ls.length ≤ 500 ∧ validL ls = 0 ∧ rowsDup ls 0 ls = false ∧ (parentsF ls).1 = rowsBest ls 0 ls := by
  unfold parentsF at h ⊢
  by_cases h5 : 500 < ls.length
  · rw [if_pos h5] at h
    cases h
  · rw [if_neg h5] at h ⊢
    by_cases hz : validL ls = 0
    · rw [if_pos hz, parRows_eq] at h ⊢
      cases hd : rowsDup ls 0 ls with
      | true =>
        rw [hd] at h
        cases h
      | false => exact ⟨by omega, hz, rfl, rfl⟩
    · rw [if_neg hz] at h
      exact absurd h hz
/-- what is known on the way up: whether b is met, or still ahead -/
def OnWay (ls : List (List S31)) (a b : Nat) (at' : Int) (m : Nat) (met : Bool) : Prop :=
  (at' = -1 ∧ conformsB (rd_L5 ls (a : Int)) (rd_L5 ls (b : Int)) = met) ∨
  ∃ k : Nat, at' = k ∧ k < ls.length ∧ m ≤ longer ls (rd_L5 ls (k : Int)).length ∧ conformsB (rd_L5 ls (a : Int)) (rd_L5 ls (b : Int)) = (met || conformsB (rd_L5 ls (k : Int)) (rd_L5 ls (b : Int)))
theorem way_start (ls : List (List S31)) (a b : Nat) (ha : a < ls.length) : OnWay ls a b (a : Int) 0 false := .inr ⟨a, rfl, ha, Nat.zero_le _, by rw [Bool.false_or]⟩
/-- one step on the way -/
theorem way_next (ls : List (List S31)) (hd : rowsDup ls 0 ls = false) (a b : Nat) (hb : b < ls.length) (k m : Nat) (hk : k < ls.length) (met : Bool) (hm : m ≤ longer ls (rd_L5 ls (k : Int)).length)
    (hc : conformsB (rd_L5 ls (a : Int)) (rd_L5 ls (b : Int)) = (met || conformsB (rd_L5 ls (k : Int)) (rd_L5 ls (b : Int)))) (u : Int) (hu : (rowsBest ls 0 ls)[k]? = some u) :
    OnWay ls a b u (m + 1) (met || ((k : Int) == (b : Int))) ∧ (u = -1 ∨ ∃ j : Nat, u = j ∧ j < ls.length ∧ (rd_L5 ls (j : Int)).length < (rd_L5 ls (k : Int)).length) := by
  have hlen := rowsB_len ls ls 0
  have hu' : u = (rowsBest ls 0 ls)[k]'(by rw [hlen]; exact hk) := by
    rw [List.getElem?_eq_getElem (by rw [hlen]; exact hk)] at hu
    exact (Option.some.inj hu).symm
  have ekb : (decide (k = b)) = ((k : Int) == (b : Int)) := by
    by_cases h : k = b
    · rw [decide_eq_true h, beq_iff_eq.2 (by omega)]
    · rw [decide_eq_false h, beq_eq_false_iff_ne.2 (by omega)]
  rw [rd5 ls k hk] at hm hc
  rw [rd5 ls b hb] at hc
  rcases up_step ls hd k hk u hu' with ⟨h1, h2⟩ | ⟨j, hj, h1, h2, h3⟩
  · refine ⟨.inl ⟨h1, ?_⟩, .inl h1⟩
    rw [rd5 ls b hb, hc, h2 b hb, ekb]
  · refine ⟨.inr ⟨j, h1, hj, ?_, ?_⟩, .inr ⟨j, h1, hj, ?_⟩⟩
    · rw [rd5 ls j hj]
      have := longer_step ls ls[j].length ls[k].length h2 ls[k] (List.getElem_mem _) rfl
      omega
    · rw [rd5 ls b hb, rd5 ls j hj, hc, h3 b hb, ekb, Bool.or_assoc]
    · rw [rd5 ls j hj, rd5 ls k hk]
      exact h2
theorem parents_pair (ls : List (List S31)) : pattern_Parents.f ls = some ((parentsF ls).1, (parentsF ls).2) := rfl
section
variable (A : Option Addr) (c : Nat) (ls : List (List S31)) (a b : Int) (w : World) (hG : LaidG w) (hr : Kd.C (Kd.slice 31 k31) w A ls.length ls) (hc : ls.length ≤ c)
include hG hr hc
set_option maxRecDepth 100000 in
set_option maxHeartbeats 2000000 in
theorem parents_err (h : ¬ (parentsF ls).2 = 0) : Calls Tryd.prog 15 #[.slice A ls.length c, .int .i64 a, .int .i64 b] w fun e w' => e = .returned (.bool true) ∧ Below w.heap.size w w' := by
  have HA := Aside0.mk (mjolnerlaw09_awake.calls true w hG rfl)
  have HP := Aside0.mk (fun W (hb : Below w.heap.size w W) => pattern_Parents.calls A c ls (parentsF ls).1 (parentsF ls).2 W (Kd.C_below hr hb) hc (parents_pair ls))
  rw [parents_bad_nil ls h] at HP
  have hz : ((parentsF ls).2 != 0) = true := bne_iff_ne.2 h
  have hz2 : ((parentsF ls).2 == 0) = false := beq_eq_false_iff_ne.2 h
  generalize (parentsF ls).2 = z at HP hz hz2
  clear h hG hr
  go_enter Tryd.func15, Tryd.ntmps15
  go_wp2_with (first
    | (go_at_call 19; (with_reducible refine HA.out.mono ?_); rintro e w1 ⟨rfl, hb1⟩; have HB1 := Aside0.mk hb1; clear hb1)
    | (go_at_call 40; (with_reducible refine (HP.out _ HB1.out).mono ?_); rintro e w2 ⟨v, rfl, hR, hb⟩; obtain ⟨A2, c2, rfl, hc2, hC2⟩ := Kd.R_reads hR; have HB2 := Aside0.mk (HB1.out.trans (hb.mono HB1.out.size)); clear hb hR hC2 hc2))
  go_ret
  exact ⟨rfl, HB2.out⟩
set_option maxRecDepth 100000 in
set_option maxHeartbeats 2000000 in
theorem parents_out (h : (parentsF ls).2 = 0) (ho : ¬ (0 ≤ a ∧ 0 ≤ b ∧ a < ls.length ∧ b < ls.length)) : Calls Tryd.prog 15 #[.slice A ls.length c, .int .i64 a, .int .i64 b] w fun e w' => e = .returned (.bool true) ∧ Below w.heap.size w w' := by
  have HA := Aside0.mk (mjolnerlaw09_awake.calls true w hG rfl)
  have HP := Aside0.mk (fun W (hb : Below w.heap.size w W) => pattern_Parents.calls A c ls (parentsF ls).1 (parentsF ls).2 W (Kd.C_below hr hb) hc (parents_pair ls))
  rw [h] at HP
  have hlen : (parentsF ls).1.length ≤ 500 := by
    obtain ⟨h1, _, _, h4⟩ := parents_ok ls h
    rw [h4, rowsB_len]
    exact h1
  generalize (parentsF ls).1 = U at HP hlen
  have HU := Aside0.mk hlen
  clear h hG hr hlen
  have hcs : (decide (a < 0) = true) ∨ (decide (a < 0) = false ∧ decide (b < 0) = true) ∨ (decide (a < 0) = false ∧ decide (b < 0) = false ∧ decide ((ls.length : Int) ≤ a) = true) ∨ (decide (a < 0) = false ∧ decide (b < 0) = false ∧ decide ((ls.length : Int) ≤ a) = false ∧ decide ((ls.length : Int) ≤ b) = true) := by
    simp only [decide_eq_true_eq, decide_eq_false_iff_not]
    omega
  clear ho
  rcases hcs with h1 | ⟨h1, h2⟩ | ⟨h1, h2, h3⟩ | ⟨h1, h2, h3, h4⟩
  all_goals
    go_enter Tryd.func15, Tryd.ntmps15
    go_wp2_with (first
      | (go_at_call 19; (with_reducible refine HA.out.mono ?_); rintro e w1 ⟨rfl, hb1⟩; have HB1 := Aside0.mk hb1; clear hb1)
      | (go_at_call 40; (with_reducible refine (HP.out _ HB1.out).mono ?_); rintro e w2 ⟨v, rfl, hR, hb⟩; obtain ⟨A2, c2, rfl, hc2, hC2⟩ := Kd.R_reads hR; have HB2 := Aside0.mk (HB1.out.trans (hb.mono HB1.out.size)); clear hb hR hC2 hc2))
    go_ret
    exact ⟨rfl, HB2.out⟩
set_option maxRecDepth 100000 in
set_option maxHeartbeats 4000000 in
theorem parents_in (h : (parentsF ls).2 = 0) (a b : Nat) (ha : a < ls.length) (hb : b < ls.length) : Calls Tryd.prog 15 #[.slice A ls.length c, .int .i64 a, .int .i64 b] w fun e w' => e = .returned (.bool true) ∧ Below w.heap.size w w' := by
  have HA := Aside0.mk (mjolnerlaw09_awake.calls true w hG rfl)
  have HP := Aside0.mk (fun W (hb : Below w.heap.size w W) => pattern_Parents.calls A c ls (parentsF ls).1 (parentsF ls).2 W (Kd.C_below hr hb) hc (parents_pair ls))
  rw [h] at HP
  obtain ⟨h500, hval, hdup, hU⟩ := parents_ok ls h
  have hlen : (parentsF ls).1.length = ls.length := by rw [hU, rowsB_len]
  have HUP := Aside0.mk hU
  have HDU := Aside0.mk hdup
  have HCK := Aside0.mk (valid_each ls hval)
  have HR := Aside0.mk hr
  have HLEN := Aside0.mk hlen
  clear h hG hr hU hdup hval hlen
  have c1 : decide ((a : Int) < 0) = false := decide_eq_false (by omega)
  have c2 : decide ((b : Int) < 0) = false := decide_eq_false (by omega)
  have c3 : decide (ls.length ≤ a) = false := decide_eq_false (by omega)
  have c4 : decide (ls.length ≤ b) = false := decide_eq_false (by omega)
  have c5 : decide ((ls.length : Int) ≤ (a : Int)) = false := decide_eq_false (by omega)
  have c6 : decide ((ls.length : Int) ≤ (b : Int)) = false := decide_eq_false (by omega)
  go_enter Tryd.func15, Tryd.ntmps15
  go_wp2_with (first
    | (go_at_call 19; (with_reducible refine HA.out.mono ?_); rintro e w1 ⟨rfl, hb1⟩; have HB1 := Aside0.mk hb1; clear hb1)
    | (go_at_call 40; (with_reducible refine (HP.out _ HB1.out).mono ?_); rintro e w2 ⟨v, rfl, hR, hbw⟩; obtain ⟨A2, c2, rfl, hc2, hC2⟩ := Kd.R_reads hR; rw [HLEN.out] at hc2 ⊢; have HC2 := Aside0.mk hC2; have HB2 := Aside0.mk (HB1.out.trans (hbw.mono HB1.out.size)); clear hbw hR hC2))
  obtain ⟨bk, o, rfl, hbk, hcell⟩ := cells_int HC2.out (by rw [HLEN.out]; omega)
  have HCELL := Aside0.mk hcell
  clear hcell
  have HC2S := Aside0.mk hc2
  clear hc2
  go_loopw [10, 11, 12] (fun t10 t11 t12 W => ∃ (at' : Int) (m : Nat) (met : Bool), t10 = .bool met ∧ t11 = .int .i64 at' ∧ t12 = .int .i64 m ∧ m ≤ 501 ∧ Aside0 (Below w2.heap.size w2 W) ∧ Aside0 (OnWay ls a b at' m met)) (fun _ t11 _ _ => if intOf t11 < 0 then 0 else (rd_L5 ls (intOf t11)).length + 1)
  case atStart => exact ⟨a, 0, false, rfl, rfl, rfl, by omega, ⟨Below.refl _ _⟩, ⟨way_start ls a b ha⟩⟩
  case round =>
    obtain ⟨at', m, met, rfl, rfl, rfl, hm5, hbel, hway⟩ := hrel
    have HBW := Aside0.mk (HB2.out.trans (hbel.out.mono HB2.out.size))
    rcases hway.out with ⟨rfl, hcf⟩ | ⟨k, rfl, hk, hm, hcf⟩
    · -- the way is at its end
      have HCF := Aside0.mk hcf
      clear hway hcf
      obtain ⟨ad, B0, d0, rfl, hx0, hd0, hg0⟩ := at_L5 (Kd.C_below HR.out HBW.out) (a : Int) (by omega) (by omega)
      obtain ⟨ad', B1, d1, hade, hx1, hd1, hg1⟩ := at_L5 (Kd.C_below HR.out HBW.out) (b : Int) (by omega) (by omega)
      obtain rfl : ad = ad' := by simpa using hade
      rw [Int.toNat_natCast] at hx0 hx1
      have HG0 := Aside0.mk hg0
      have HG1 := Aside0.mk hg1
      have HLA := Aside0.mk (HCK.out (rd_L5 ls (a : Int)) (by rw [rd5 ls a ha]; exact List.getElem_mem _))
      have HLB := Aside0.mk (HCK.out (rd_L5 ls (b : Int)) (by rw [rd5 ls b hb]; exact List.getElem_mem _))
      clear hg0 hg1 hade
      generalize rd_L5 ls (a : Int) = p at hx0 hd0 HG0 HLA HCF
      generalize rd_L5 ls (b : Int) = q at hx1 hd1 HG1 HLB HCF
      have HC25 := Aside0.mk (fun W (hW : Below wr.heap.size wr W) => mjolnerlaw09_conforms.calls B0 d0 p B1 d1 q (conformsB p q) true W (Kd.C_below HG0.out hW) hd0 (Kd.C_below HG1.out hW) hd1 (law_conf p q HLA.out HLB.out))
      rw [HCF.out] at HC25
      have HX0 := Aside0.mk hx0
      have HX1 := Aside0.mk hx1
      generalize p.length = np at HX0 HC25
      generalize q.length = nq at HX1 HC25
      have hbk0 := World.block_lt_of_cell? wr _ hx0
      have hbk1 := World.block_lt_of_cell? wr _ hx1
      clear hx0 hx1
      go_wp2_with (fail)
      have pa0 : (0 : Int) ≤ (a : Int) := by omega
      have pa1 : (a : Int) < (ls.length : Int) := by omega
      have pb0 : (0 : Int) ≤ (b : Int) := by omega
      have pb1 : (b : Int) < (ls.length : Int) := by omega
      refine wp_region_noPanic ?_
      refine wp_region_held (S := fun W => Below wr.heap.size wr W) (by kernel_rfl) ?_
      have hS : Below wr.heap.size wr wr.drew := below_drew (Below.refl _ _)
      change wpAnyH _ _ _ _ _ _ _ _ wr.drew
      generalize wr.drew = W at hS ⊢
      refine wpAnyH_take (i := 0) (v := .slice (some ad) ls.length c) rfl (by kernel_rfl) (by kernel_rfl) (by kernel_rfl) (fun _ _ _ h => h) (.inl ⟨by rfl, fun w' hw' => by go_simp⟩) hS ?_
      refine wpAnyH_take (i := 1) (v := .int .i64 a) rfl (by kernel_rfl) (by kernel_rfl) (by kernel_rfl) (fun _ _ _ h => h) (.inl ⟨by rfl, fun w' hw' => by go_simp⟩) hS ?_
      refine wpAnyH_take (i := 2) (v := .pointer (some (ad.add a))) rfl (by kernel_rfl) (by kernel_rfl) (by kernel_rfl) (fun _ _ _ h => h) (.inl ⟨by rfl, fun w' hw' => by go_simp⟩) hS ?_
      refine wpAnyH_take (i := 3) (v := .slice B0 np d0) rfl (by kernel_rfl) (by kernel_rfl) (by kernel_rfl) (fun _ _ _ h => h) (.inl ⟨by rfl, fun w' hw' => by have q0 := (Below.cell hw' (p := ad.add a) hbk0).trans HX0.out; go_simp⟩) hS ?_
      refine wpAnyH_take (i := 4) (v := .slice (some ad) ls.length c) rfl (by kernel_rfl) (by kernel_rfl) (by kernel_rfl) (fun _ _ _ h => h) (.inl ⟨by rfl, fun w' hw' => by go_simp⟩) hS ?_
      refine wpAnyH_take (i := 5) (v := .int .i64 b) rfl (by kernel_rfl) (by kernel_rfl) (by kernel_rfl) (fun _ _ _ h => h) (.inl ⟨by rfl, fun w' hw' => by go_simp⟩) hS ?_
      refine wpAnyH_take (i := 6) (v := .pointer (some (ad.add b))) rfl (by kernel_rfl) (by kernel_rfl) (by kernel_rfl) (fun _ _ _ h => h) (.inl ⟨by rfl, fun w' hw' => by go_simp⟩) hS ?_
      refine wpAnyH_take (i := 7) (v := .slice B1 nq d1) rfl (by kernel_rfl) (by kernel_rfl) (by kernel_rfl) (fun _ _ _ h => h) (.inl ⟨by rfl, fun w' hw' => by have q0 := (Below.cell hw' (p := ad.add b) hbk1).trans HX1.out; go_simp⟩) hS ?_
      refine wpAnyH_all (rs := [8]) (by kernel_rfl) (by simp) ?_
      intro i hi
      obtain rfl : i = 8 := by simpa using hi
      refine wpOp_of rfl (by rfl) ?_
      go_simp
      refine (HC25.out W hS).mono ?_
      rintro e w3 ⟨rfl, hb3⟩
      replace hS : Below wr.heap.size wr w3 := hS.trans (hb3.mono hS.size)
      refine ⟨hS, ?_⟩
      refine wpAnyH_take (i := 9) (v := .tuple #[.bool met, .bool true]) rfl (by kernel_rfl) (by kernel_rfl) (by kernel_rfl) (fun _ _ _ h => h) (.inl ⟨by rfl, fun w' hw' => by go_simp⟩) hS ?_
      refine wpAnyH_take (i := 10) (v := .bool met) rfl (by kernel_rfl) (by kernel_rfl) (by kernel_rfl) (fun _ _ _ h => h) (.inl ⟨by rfl, fun w' hw' => by go_simp⟩) hS ?_
      refine wpAnyH_take (i := 11) (v := .bool true) rfl (by kernel_rfl) (by kernel_rfl) (by kernel_rfl) (fun _ _ _ h => h) (.inl ⟨by rfl, fun w' hw' => by go_simp⟩) hS ?_
      refine wpAnyH_take (i := 12) (v := .bool met) rfl (by kernel_rfl) (by kernel_rfl) (by kernel_rfl) (fun _ _ _ h => h) (.inl ⟨by rfl, fun w' hw' => by go_simp⟩) hS ?_
      refine wpAnyH_take (i := 13) (v := .bool true) rfl (by kernel_rfl) (by kernel_rfl) (by kernel_rfl) (fun _ _ _ h => h) (.inl ⟨by rfl, fun w' hw' => by go_simp⟩) hS ?_
      refine wpAnyH_done (by kernel_rfl) (NoPanic.normal ?_) _
      have HB3 := Aside0.mk (HBW.out.trans (hS.mono HBW.out.size))
      clear hS hb3
      cases met with
      | true =>
        go_wp2_with (fail)
        go_ret
        exact ⟨rfl, HB3.out⟩
      | false =>
        go_wp2_with (fail)
        go_ret
        exact ⟨rfl, HB3.out⟩
    · -- one step up
      have HCF := Aside0.mk hcf
      have HM := Aside0.mk hm
      clear hway hcf hm
      have hkn : k < (parentsF ls).1.length := by rw [HLEN.out]; exact hk
      have hu := HCELL.out k _ (List.getElem?_eq_getElem hkn)
      have hu0 : (rowsBest ls 0 ls)[k]? = some (parentsF ls).1[k] := by rw [← HUP.out]; exact List.getElem?_eq_getElem hkn
      generalize (parentsF ls).1[k] = u at hu hu0
      obtain ⟨hnx, hcs⟩ := way_next ls HDU.out a b hb k m hk met HM.out HCF.out u hu0
      have HNX := Aside0.mk hnx
      have hu2 : wr.cell? ⟨bk, o + k, none⟩ = some (.int .i64 u) := (bcell hbel.out hbk).trans hu
      obtain ⟨ad, B0, d0, rfl, hx0, hd0, hg0⟩ := at_L5 (Kd.C_below HR.out HBW.out) (k : Int) (by omega) (by omega)
      rw [Int.toNat_natCast] at hx0
      have hlk : m ≤ ls.length := Nat.le_trans HM.out (longer_le ls _)
      have g1 : decide (ls.length ≤ k) = false := decide_eq_false (by omega)
      have g2 : decide ((ls.length : Int) ≤ (k : Int)) = false := decide_eq_false (by omega)
      have g3 : decide (ls.length < m) = false := decide_eq_false (by omega)
      have g4 : decide ((ls.length : Int) < (m : Int)) = false := decide_eq_false (by omega)
      have g5 : (0 : Int) ≤ (k : Int) := by omega
      have g6 : (k : Int) < (ls.length : Int) := by omega
      clear hg0 hnx hu hu0
      rcases hcs with rfl | ⟨j, rfl, hj, hjl⟩
      · cases met with
        | true =>
          go_wp2
          repeat (go_quiet (fail); try go_wp2)
          exact ⟨⟨(-1), m + 1, true, rfl, rfl, by first | rfl | simp, by omega, ⟨by repeat (first | exact hbel.out | apply pw_below_drewN | apply below_drew)⟩, ⟨by have h := HNX.out; rwa [Bool.true_or] at h⟩⟩, by have e1 : intOf (Value.int .i64 (k : Int)) = (k : Int) := rfl; have e0 : intOf (Value.int .i64 (-1)) = -1 := rfl; rw [e0, e1, if_pos (by decide), if_neg (by omega)]; omega⟩
        | false =>
          by_cases hkb : (k : Int) = (b : Int)
          · have f1 : ((k : Int) == (b : Int)) = true := beq_iff_eq.2 hkb
            have f2 : (k == b) = true := beq_iff_eq.2 (by omega)
            have HNY : Aside0 (OnWay ls a b (-1) (m + 1) true) := ⟨by have h := HNX.out; rwa [Bool.false_or, f1] at h⟩
            clear hkb
            go_wp2
            repeat (go_quiet (fail); try go_wp2)
            exact ⟨⟨(-1), m + 1, true, rfl, rfl, by first | rfl | simp, by omega, ⟨by repeat (first | exact hbel.out | apply pw_below_drewN | apply below_drew)⟩, HNY⟩, by have e1 : intOf (Value.int .i64 (k : Int)) = (k : Int) := rfl; have e0 : intOf (Value.int .i64 (-1)) = -1 := rfl; rw [e0, e1, if_pos (by decide), if_neg (by omega)]; omega⟩
          · have f1 : ((k : Int) == (b : Int)) = false := beq_eq_false_iff_ne.2 hkb
            have f2 : (k == b) = false := beq_eq_false_iff_ne.2 (by omega)
            have HNY : Aside0 (OnWay ls a b (-1) (m + 1) false) := ⟨by have h := HNX.out; rwa [Bool.false_or, f1] at h⟩
            clear hkb
            go_wp2
            repeat (go_quiet (fail); try go_wp2)
            exact ⟨⟨(-1), m + 1, false, rfl, rfl, by first | rfl | simp, by omega, ⟨by repeat (first | exact hbel.out | apply pw_below_drewN | apply below_drew)⟩, HNY⟩, by have e1 : intOf (Value.int .i64 (k : Int)) = (k : Int) := rfl; have e0 : intOf (Value.int .i64 (-1)) = -1 := rfl; rw [e0, e1, if_pos (by decide), if_neg (by omega)]; omega⟩
      · obtain ⟨ad', B1, d1, hade, hx1, hd1, hg1⟩ := at_L5 (Kd.C_below HR.out HBW.out) (j : Int) (by omega) (by omega)
        obtain rfl : ad = ad' := by simpa using hade
        rw [Int.toNat_natCast] at hx1
        have HJ := Aside0.mk hjl
        have g7 : (0 : Int) ≤ (j : Int) := by omega
        have g8 : (j : Int) < (ls.length : Int) := by omega
        have g9 : decide (ls.length ≤ j) = false := decide_eq_false (by omega)
        have g10 : decide ((ls.length : Int) ≤ (j : Int)) = false := decide_eq_false (by omega)
        have g11 : decide ((rd_L5 ls (k : Int)).length ≤ (rd_L5 ls (j : Int)).length) = false := decide_eq_false (by omega)
        have g12 : decide (((rd_L5 ls (k : Int)).length : Int) ≤ ((rd_L5 ls (j : Int)).length : Int)) = false := decide_eq_false (by omega)
        clear hade hg1 hjl
        cases met with
        | true =>
          go_wp2
          repeat (go_quiet (fail); try go_wp2)
          exact ⟨⟨(j : Int), m + 1, true, rfl, rfl, by first | rfl | simp, by omega, ⟨by repeat (first | exact hbel.out | apply pw_below_drewN | apply below_drew)⟩, ⟨by have h := HNX.out; rwa [Bool.true_or] at h⟩⟩, by have hj := HJ.out; have e1 : intOf (Value.int .i64 (k : Int)) = (k : Int) := rfl; have e0 : intOf (Value.int .i64 (j : Int)) = (j : Int) := rfl; rw [e0, e1, if_neg (by omega), if_neg (by omega)]; omega⟩
        | false =>
          by_cases hkb : (k : Int) = (b : Int)
          · have f1 : ((k : Int) == (b : Int)) = true := beq_iff_eq.2 hkb
            have f2 : (k == b) = true := beq_iff_eq.2 (by omega)
            have HNY : Aside0 (OnWay ls a b (j : Int) (m + 1) true) := ⟨by have h := HNX.out; rwa [Bool.false_or, f1] at h⟩
            clear hkb
            go_wp2
            repeat (go_quiet (fail); try go_wp2)
            exact ⟨⟨(j : Int), m + 1, true, rfl, rfl, by first | rfl | simp, by omega, ⟨by repeat (first | exact hbel.out | apply pw_below_drewN | apply below_drew)⟩, HNY⟩, by have hj := HJ.out; have e1 : intOf (Value.int .i64 (k : Int)) = (k : Int) := rfl; have e0 : intOf (Value.int .i64 (j : Int)) = (j : Int) := rfl; rw [e0, e1, if_neg (by omega), if_neg (by omega)]; omega⟩
          · have f1 : ((k : Int) == (b : Int)) = false := beq_eq_false_iff_ne.2 hkb
            have f2 : (k == b) = false := beq_eq_false_iff_ne.2 (by omega)
            have HNY : Aside0 (OnWay ls a b (j : Int) (m + 1) false) := ⟨by have h := HNX.out; rwa [Bool.false_or, f1] at h⟩
            clear hkb
            go_wp2
            repeat (go_quiet (fail); try go_wp2)
            exact ⟨⟨(j : Int), m + 1, false, rfl, rfl, by first | rfl | simp, by omega, ⟨by repeat (first | exact hbel.out | apply pw_below_drewN | apply below_drew)⟩, HNY⟩, by have hj := HJ.out; have e1 : intOf (Value.int .i64 (k : Int)) = (k : Int) := rfl; have e0 : intOf (Value.int .i64 (j : Int)) = (j : Int) := rfl; rw [e0, e1, if_neg (by omega), if_neg (by omega)]; omega⟩
end
/-- for the card: the law's function, true everywhere -/
def mjolnerlaw09_PatternParents.f (k : Nat) (ls : List (List S31)) (a b : Int) : Option Bool := some true
theorem mjolnerlaw09_PatternParents.calls (k : Nat) (A0 : Option Addr) (c0 : Nat) (l0 : List (List S31)) (a b : Int) (r : Bool) (w : World) (hG : LaidG w) (hr0 : Kd.C (Kd.slice 31 k31) w A0 l0.length l0) (hc0 : l0.length ≤ c0) (h : mjolnerlaw09_PatternParents.f k l0 a b = some r) :
    Calls Tryd.prog 15 #[.slice A0 l0.length c0, .int .i64 a, .int .i64 b] w fun e w' => e = .returned (.bool r) ∧ Below w.heap.size w w' := by
  obtain rfl : true = r := Option.some.inj h
  by_cases hz : (parentsF l0).2 = 0
  · by_cases hin : 0 ≤ a ∧ 0 ≤ b ∧ a < l0.length ∧ b < l0.length
    · obtain ⟨h1, h2, h3, h4⟩ := hin
      have := parents_in A0 c0 l0 w hG hr0 hc0 hz a.toNat b.toNat (by omega) (by omega)
      rw [Int.toNat_of_nonneg h1, Int.toNat_of_nonneg h2] at this
      exact this
    · exact parents_out A0 c0 l0 a b w hG hr0 hc0 hz hin
  · exact parents_err A0 c0 l0 a b w hG hr0 hc0 hz
theorem PatternParents_law (ls : List (List S31)) (a b : Int) (_ : ls.length ≤ 1048576) (_ : ∀ y ∈ ls, y.all inI3 = true ∧ y.length ≤ 1048576) : ∃ k, mjolnerlaw09_PatternParents.f k ls a b = some true := ⟨0, rfl⟩
end Go.Proofs.YtgkebfeggekkgaaDoor.Given
