/- The contract of the reference's Furthest: what the program's returns. -/
import Derived.Test.YtgkebfeggekkgaaDoorJ10
set_option linter.unusedVariables false
set_option linter.unusedSimpArgs false
namespace Go.Proofs.YtgkebfeggekkgaaDoor.Given
open Go.RowKit Go.Proofs.YtgkebfeggekkgaaDoor.PT Go.Proofs.YtgkebfeggekkgaaDoorW.PrintWords Go.Proofs.YtgkebfeggekkgaaDoorW.PrintLast Go.Proofs.YtgkebfeggekkgaaDoorW.PrintMore

theorem bind_own : ∀ (l : List S34) (last : Int), bindL last l = 0 → ∀ b ∈ l, b.f2 = true → b.f3.length = 1
  | [], _, _, b, h => by cases h
  | x :: r, last, hz, b, h => by
    rw [bindL] at hz
    split at hz
    · rename_i hx
      split at hz
      · cases hz
      · rename_i hb
        rcases List.mem_cons.1 h with rfl | h
        · intro h2
          by_cases h3 : b.f3.length = 1
          · exact h3
          · exfalso
            apply hb
            unfold badB
            rw [h2, decide_eq_false h3]
            simp
        · exact bind_own r _ hz b h
    · rename_i hx
      exact absurd hz hx
theorem step_next (b : S34) (r : List S34) (o : List S31) (n : Int) (h1 : ¬ b.f1 = 2) (ho : checkL o = 0) (hb : checkL b.f3 = 0) (hw : b.f2 = true → b.f3.length = 1) :
    ((nextF o b.f2 b.f3).2 = 0 → stepL o false n (b :: r) = stepL (nextF o b.f2 b.f3).1 (decide (b.f1 = 4)) (n + 1) r ∧ checkL (nextF o b.f2 b.f3).1 = 0) ∧ (¬ (nextF o b.f2 b.f3).2 = 0 → stepL o false n (b :: r) = ((nextF o b.f2 b.f3).2, [], 0)) := by
  have h40 := checkL_small ho
  rw [stepL, if_neg h1, if_neg (by decide)]
  unfold nextF
  by_cases h2 : b.f2 = true
  · have hl := hw h2
    rw [if_pos h2, if_pos h2, hl]
    by_cases h3 : o.length = 40
    · rw [if_pos h3, if_neg (by omega)]
      exact ⟨fun h => absurd h (by decide), fun _ => rfl⟩
    · rw [if_neg h3, if_pos (by omega)]
      exact ⟨fun _ => ⟨rfl, check_both ho hb (by omega)⟩, fun h => absurd rfl h⟩
  · rw [if_neg h2, if_neg h2]
    by_cases h3 : conformsB b.f3 o = true
    · rw [if_pos h3, if_pos h3]
      exact ⟨fun _ => ⟨rfl, hb⟩, fun h => absurd rfl h⟩
    · rw [if_neg h3, if_neg h3]
      exact ⟨fun h => absurd h (by decide), fun _ => rfl⟩
/-- what Furthest returns, in either way -/
def GotF (w : World) (p : List S31) (n z : Int) (e : Ending) (w' : World) : Prop := ∃ A c, e = .returned (.tuple #[.slice A p.length c, .int .i64 n, .int .i64 z]) ∧ p.length ≤ c ∧ Kd.C k31 w' A p.length p ∧ Below w.heap.size w w'
set_option maxRecDepth 100000 in
set_option maxHeartbeats 1000000 in
theorem refFur_bad (A : Option Addr) (c : Nat) (ls : List S34) (at' : Int) (w : World) (hr : Kd.C k34 w A ls.length ls) (hc : ls.length ≤ c) (hl : ls.length ≤ 1048576) (z : Int) (hz : bindL (-1) ls = z) (h0 : ¬ z = 0) :
    Calls Tryd.prog 21 #[.slice A ls.length c, .int .i64 at'] w (GotF w [] 0 z) := by
  have hf := refBind_f ls (by omega)
  rw [hz] at hf
  have H55 := Aside0.mk (mjolnerref09_bindings.calls _ A c ls z w hr hc hf)
  have k1 : (z != 0) = true := bne_iff_ne.2 h0
  clear hf hz h0 hr
  go_enter Tryd.func21, Tryd.ntmps21
  go_wp2_with (first | (go_at_call 55; (with_reducible refine H55.out.mono ?_); rintro e w1 ⟨rfl, hb1⟩; have HB1 := Aside0.mk hb1; clear hb1))
  go_ret3
  exact ⟨none, 0, rfl, Nat.le_refl _, Kd.C_nil _ _, HB1.out⟩
def FurPost2 (r : Option (List S31 × Int × Int)) (w : World) (e : Ending) (w' : World) : Prop := match r with | some x => GotF w x.1 x.2.1 x.2.2 e w' | none => True
set_option maxRecDepth 100000 in
set_option maxHeartbeats 4000000 in
theorem refFur_walk (A : Option Addr) (c : Nat) (ls : List S34) (at' : Int) (w : World) (hr : Kd.C k34 w A ls.length ls) (hc : ls.length ≤ c) (hl : ls.length ≤ 1048576) (hz : bindL (-1) ls = 0) (r1 : List S31) (r2 r3 : Int) (h : pattern_Furthest.f ls at' = some (r1, r2, r3)) :
    Calls Tryd.prog 21 #[.slice A ls.length c, .int .i64 at'] w (GotF w r1 r2 r3) := by
  have hf := refBind_f ls (by omega)
  rw [hz] at hf
  have H55 := Aside0.mk (mjolnerref09_bindings.calls _ A c ls 0 w hr hc hf)
  have HR := Aside0.mk hr
  have HE := Aside0.mk (bind_each ls (-1) hz)
  have HOW := Aside0.mk (bind_own ls (-1) hz)
  have HH := Aside0.mk h
  have HZ := Aside0.mk hz
  have hu34 := Tryd.underlying34
  clear hf hz hr h
  go_enter Tryd.func21, Tryd.ntmps21
  go_wp2_with (first | (go_at_call 55; (with_reducible refine H55.out.mono ?_); rintro e w1 ⟨rfl, hb1⟩; have HB1 := Aside0.mk hb1; clear hb1))
  go_loopw [8, 9] (fun f i W => ∃ (k : Nat) (fi : Int), k ≤ ls.length ∧ i = .int .i64 k ∧ f = .int .i64 fi ∧ Aside0 (Below w.heap.size w W) ∧ Aside0 (firstL at' ls 0 (-1) = firstL at' (ls.drop k) k fi)) (fun _ i _ => ls.length - (intOf i).toNat)
  case atStart => exact ⟨0, -1, Nat.zero_le _, rfl, rfl, HB1, ⟨by rw [List.drop_zero]; rfl⟩⟩
  case round =>
    obtain ⟨k, fi, hk, rfl, rfl, hbel, hrest⟩ := hrel
    by_cases hlt : k < ls.length
    · obtain ⟨ad, A3, c3, rfl, hx0, hx1, hx2, hx3, hc3, hg⟩ := at_T34 (Kd.C_below HR.out hbel.out) (k : Int) (by omega) (by omega)
      rw [Int.toNat_natCast] at hx0 hx1 hx2 hx3
      have hrd := rd34 ls k hlt
      generalize hgl : rd_T34 ls (k : Int) = x at hx0 hx1 hx2 hx3 hc3 hg hrd
      have hdrop : ls.drop k = x :: ls.drop (k + 1) := by rw [List.drop_eq_getElem_cons hlt, ← hrd]
      have HS := Aside0.mk (show firstL at' ls 0 (-1) = firstL at' (ls.drop (k + 1)) ((k + 1 : Nat) : Int) (if x.f0 ≤ at' ∧ x.f1 = 2 then (k : Int) else fi) by rw [hrest.out, hdrop]; rfl)
      clear hgl hrd hdrop hg hrest
      obtain ⟨f0, f1, f2, f3⟩ := x
      dsimp only at hx0 hx1 hx2 hx3 hc3 HS
      by_cases q0 : f0 ≤ at'
      · have d0 : decide (f0 ≤ at') = true := decide_eq_true q0
        by_cases q1 : f1 = 2
        · rw [if_pos ⟨q0, q1⟩] at HS
          subst q1
          clear q0
          go_wp2
          exact ⟨⟨k + 1, k, by omega, by first | rfl | simp, rfl, ⟨hbel.out⟩, HS⟩, by simp [intOf]; omega⟩
        · rw [if_neg (fun h => q1 h.2)] at HS
          have d1 : (f1 == 2) = false := by simpa using q1
          clear q0 q1
          go_wp2
          exact ⟨⟨k + 1, fi, by omega, by first | rfl | simp, rfl, ⟨hbel.out⟩, HS⟩, by simp [intOf]; omega⟩
      · rw [if_neg (fun h => q0 h.1)] at HS
        have d0 : decide (f0 ≤ at') = false := decide_eq_false q0
        clear q0
        go_wp2
        exact ⟨⟨k + 1, fi, by omega, by first | rfl | simp, rfl, ⟨hbel.out⟩, HS⟩, by simp [intOf]; omega⟩
    · have hfi := hrest.out
      rw [List.drop_of_length_le (show ls.length ≤ k by omega)] at hfi
      have HFI := Aside0.mk (show firstL at' ls 0 (-1) = fi from hfi)
      clear hfi hrest
      by_cases hneg : fi < 0
      · have d0 : decide (fi < 0) = true := decide_eq_true hneg
        have HV : Aside0 (([] : List S31) = r1 ∧ (0 : Int) = r2 ∧ (5 : Int) = r3) := ⟨by
          have h := HH.out
          unfold pattern_Furthest.f at h
          rw [if_pos HZ.out, if_pos (by rw [HFI.out]; exact hneg)] at h
          simpa using h⟩
        obtain ⟨rfl, rfl, rfl⟩ := HV.out
        clear hneg
        go_wp2
        go_ret3
        exact ⟨none, 0, rfl, Nat.le_refl _, Kd.C_nil _ _, hbel.out⟩
      · have hat0 := first_at at' ls 0 (-1)
        rw [HFI.out] at hat0
        obtain ⟨i0, hi0, hfi0, hk0, _⟩ := hat0.resolve_left (by omega)
        obtain rfl : fi = (i0 : Int) := by omega
        have HST : Aside0 (stepL ls[i0].f3 false 1 (ls.drop (i0 + 1)) = (r3, r1, r2)) := ⟨by
          have h := HH.out
          unfold pattern_Furthest.f at h
          rw [if_pos HZ.out, if_neg (by rw [HFI.out]; omega), HFI.out, Int.toNat_natCast, List.drop_eq_getElem_cons hi0] at h
          dsimp only at h
          generalize stepL ls[i0].f3 false 1 (ls.drop (i0 + 1)) = s at h ⊢
          obtain ⟨s1, s2, s3⟩ := s
          simp only [Option.some.injEq, Prod.mk.injEq] at h
          obtain ⟨rfl, rfl, rfl⟩ := h
          rfl⟩
        have d0 : decide ((i0 : Int) < 0) = false := decide_eq_false (by omega)
        obtain ⟨ad, A3, c3, rfl, hx0, hx1, hx2, hx3, hc3, hg⟩ := at_T34 (Kd.C_below HR.out hbel.out) (i0 : Int) (by omega) (by omega)
        rw [Int.toNat_natCast] at hx0 hx1 hx2 hx3
        have hrd := rd34 ls i0 hi0
        generalize hgl : rd_T34 ls (i0 : Int) = x at hx0 hx1 hx2 hx3 hc3 hg hrd
        have HK0 := Aside0.mk hk0
        have HG0 := Aside0.mk hg
        have HC0 := Aside0.mk hc3
        have HCK := Aside0.mk (show checkL x.f3 = 0 by rw [hrd]; exact HE.out _ (List.getElem_mem _))
        rw [← hrd] at HST
        clear hgl hrd hg hc3 hat0 hfi0 hneg
        have hi1 : (i0 : Int) < ls.length := by omega
        have hi2 : 0 ≤ (i0 : Int) := by omega
        have hb5 : -9223372036854775808 ≤ (i0 : Int) + 1 ∧ (i0 : Int) + 1 ≤ 9223372036854775807 := by omega
        have kw : wrap64 ((i0 : Int) + 1) = (i0 : Int) + 1 := IntWalk.wrap64_in _ hb5
        have kw2 : IntKind.i64.wrap ((i0 : Int) + 1) = (i0 : Int) + 1 := (i64_w _).trans kw
        clear hb5
        go_wp2
        go_loopw [10, 11, 12] (fun p n i W => ∃ (o : List S31) (B : Option Addr) (d : Nat) (nn q : Nat), i0 ≤ q ∧ q < ls.length ∧ nn ≤ q + 1 ∧ i = .int .i64 ((q : Int) + 1) ∧ n = .int .i64 (nn : Int) ∧ p = .slice B o.length d ∧ Aside0 (Below w.heap.size w W) ∧ Aside0 (o.length ≤ d ∧ Kd.C k31 W B o.length o) ∧ Aside0 (checkL o = 0) ∧
          Aside0 (∃ h : q < ls.length, stepL o (decide (ls[q].f1 = 4)) nn (ls.drop (q + 1)) = (r3, r1, r2))) (fun _ _ i _ => ls.length - (intOf i).toNat)
        case atStart => exact ⟨x.f3, A3, c3, 1, i0, Nat.le_refl _, by omega, by omega, rfl, rfl, rfl, hbel, ⟨HC0.out, HG0.out⟩, HCK, ⟨by omega, by rw [HK0.out]; exact HST.out⟩⟩
        case round =>
          obtain ⟨o, B, d, nn, q, hq0, hq1, hnn, rfl, rfl, rfl, hbe, hoC, hck, hstp⟩ := hrel
          have kd : ((q : Int) + 1).toNat = q + 1 := by omega
          have e1 : 0 ≤ (q : Int) := by omega
          have e2 : (q : Int) < ls.length := by omega
          have e3 : 0 ≤ (q : Int) + 1 := by omega
          obtain ⟨ad', A5, c5, hade, hp0, hp1, hp2, hp3, hc5, hg5⟩ := at_T34 (Kd.C_below HR.out hbe.out) (q : Int) e1 e2
          obtain rfl : ad = ad' := by simpa using hade
          rw [Int.toNat_natCast] at hp0 hp1 hp2 hp3
          have hprd := rd34 ls q hq1
          have HST2 : Aside0 (stepL o (decide ((rd_T34 ls (q : Int)).f1 = 4)) nn (ls.drop (q + 1)) = (r3, r1, r2)) := ⟨by
            obtain ⟨_, h⟩ := hstp.out
            rw [hprd]
            exact h⟩
          generalize rd_T34 ls (q : Int) = y at hp0 hp1 hp2 hp3 hc5 hg5 hprd HST2
          obtain ⟨y0, y1, y2, y3⟩ := y
          dsimp only at hp0 hp1 hp2 hp3 HST2
          have hb5 : -9223372036854775808 ≤ (q : Int) ∧ (q : Int) ≤ 9223372036854775807 := by omega
          have hb6 : -9223372036854775808 ≤ (q : Int) + 1 + 1 ∧ (q : Int) + 1 + 1 ≤ 9223372036854775807 := by omega
          have hb7 : -9223372036854775808 ≤ (nn : Int) + 1 ∧ (nn : Int) + 1 ≤ 9223372036854775807 := by omega
          clear hade hg5 hc5 hprd hstp
          by_cases hlt2 : q + 1 < ls.length
          · have e4 : (q : Int) + 1 < ls.length := by omega
            obtain ⟨ad', A6, c6, hade, hy0, hy1, hy2, hy3, hc6, hg6⟩ := at_T34 (Kd.C_below HR.out hbe.out) ((q : Int) + 1) e3 e4
            obtain rfl : ad = ad' := by simpa using hade
            rw [kd] at hy0 hy1 hy2 hy3
            have hrd := rd34 ls (q + 1) hlt2
            rw [Int.natCast_add, Int.natCast_one] at hrd
            have hdrop : ls.drop (q + 1) = rd_T34 ls ((q : Int) + 1) :: ls.drop (q + 2) := by rw [List.drop_eq_getElem_cons hlt2, ← hrd]
            have hmem : rd_T34 ls ((q : Int) + 1) ∈ ls := by rw [hrd]; exact List.getElem_mem _
            have HRD := Aside0.mk hrd
            generalize rd_T34 ls ((q : Int) + 1) = x2 at hy0 hy1 hy2 hy3 hc6 hg6 HRD hdrop hmem
            have HC2 := Aside0.mk (HE.out x2 hmem)
            have HW2 := Aside0.mk (HOW.out x2 hmem)
            have HG6 := Aside0.mk hg6
            have HC6 := Aside0.mk hc6
            rw [hdrop] at HST2
            have n1 : decide ((q : Int) + 1 < ls.length) = true := decide_eq_true e4
            have n2 : decide (q + 1 < ls.length) = true := decide_eq_true hlt2
            have n3 : ¬ (ls.length : Int) ≤ (q : Int) + 1 := by omega
            have n4 : ¬ ls.length ≤ q + 1 := by omega
            have n5 : ¬ ls.length ≤ q := by omega
            have HQ := Aside0.mk (show i0 ≤ q + 1 ∧ q + 1 < ls.length ∧ nn + 1 ≤ q + 1 + 1 by omega)
            clear hade hdrop hmem hrd hg6 hc6
            by_cases hv : x2.f1 = 2
            · have HV : Aside0 ((0 : Int) = r3 ∧ o = r1 ∧ (nn : Int) = r2) := ⟨by
                have h := HST2.out
                rw [stepL, if_pos hv] at h
                simpa using h⟩
              obtain ⟨rfl, rfl, rfl⟩ := HV.out
              obtain ⟨f0, f1, f2, f3⟩ := x2
              dsimp only at hy0 hy1 hy2 hy3 hv
              subst hv
              go_wp2
              go_ret3
              exact ⟨_, _, rfl, hoC.out.1, hoC.out.2, hbe.out⟩
            · by_cases h4 : y1 = 4
              · have HV : Aside0 ((4 : Int) = r3 ∧ ([] : List S31) = r1 ∧ (0 : Int) = r2) := ⟨by
                  have h := HST2.out
                  rw [stepL, if_neg hv, decide_eq_true h4, if_pos rfl] at h
                  simpa using h⟩
                obtain ⟨rfl, rfl, rfl⟩ := HV.out
                subst h4
                obtain ⟨f0, f1, f2, f3⟩ := x2
                dsimp only at hy0 hy1 hy2 hy3 hv
                have v1 : (f1 != 2) = true := bne_iff_ne.2 hv
                have kw0 : IntKind.i64.wrap (q : Int) = (q : Int) := IntWalk.i64_in _ hb5
                clear hv hb5 hb6 hb7
                go_wp2
                go_ret3
                exact ⟨none, 0, rfl, Nat.le_refl _, Kd.C_nil _ _, hbe.out⟩
              · rw [decide_eq_false h4] at HST2
                have hstep := step_next x2 (ls.drop (q + 2)) o nn hv hck.out HC2.out HW2.out
                have HN := Aside0.mk (next_calls B d o x2.f0 x2.f1 x2.f2 A6 c6 x2.f3 wr hoC.out.2 hoC.out.1 HG6.out HC6.out hck.out (checkL_small HC2.out))
                have v1 : (x2.f1 != 2) = true := bne_iff_ne.2 hv
                have v2 : (y1 == 4) = false := beq_eq_false_iff_ne.2 h4
                by_cases hnz : (nextF o x2.f2 x2.f3).2 = 0
                · obtain ⟨hs1, hs2⟩ := hstep.1 hnz
                  have HS := Aside0.mk (show stepL (nextF o x2.f2 x2.f3).1 (decide (x2.f1 = 4)) ((nn + 1 : Nat) : Int) (ls.drop (q + 1 + 1)) = (r3, r1, r2) by rw [← HST2.out, hs1]; rfl)
                  have HS2 := Aside0.mk hs2
                  rw [hnz] at HN
                  have HF1 := Aside0.mk (show x2.f1 = ls[q + 1].f1 from congrArg S34.f1 HRD.out)
                  generalize (nextF o x2.f2 x2.f3).1 = oo at HN HS HS2
                  obtain ⟨f0, f1, f2, f3⟩ := x2
                  dsimp only at hy0 hy1 hy2 hy3 hv v1 HN HS HF1
                  have kw0 : IntKind.i64.wrap (q : Int) = (q : Int) := IntWalk.i64_in _ hb5
                  have kw1 : IntKind.i64.wrap ((q : Int) + 1 + 1) = (q : Int) + 1 + 1 := IntWalk.i64_in _ hb6
                  have kw3 : IntKind.i64.wrap ((nn : Int) + 1) = (nn : Int) + 1 := IntWalk.i64_in _ hb7
                  clear hv h4 hb5 hb6 hb7 hstep hs1 hs2 hnz
                  go_wp2_with (first | (go_at_call 56; (with_reducible refine HN.out.mono ?_); rintro e w5 ⟨B5, d5, rfl, hd5, hC5, hb⟩; have HB5 := Aside0.mk (hbe.out.trans (hb.mono hbe.out.size)); have HC5 := Aside0.mk (And.intro hd5 hC5); clear hb hC5 hd5))
                  exact ⟨⟨oo, B5, d5, nn + 1, q + 1, HQ.out.1, HQ.out.2.1, HQ.out.2.2, by first | rfl | simp, by first | rfl | simp, rfl, HB5, HC5, HS2, ⟨HQ.out.2.1, by rw [← HF1.out]; exact HS.out⟩⟩, by simp [intOf]; omega⟩
                · have HV : Aside0 ((nextF o x2.f2 x2.f3).2 = r3 ∧ ([] : List S31) = r1 ∧ (0 : Int) = r2) := ⟨by
                    have h := HST2.out
                    rw [hstep.2 hnz] at h
                    simpa using h⟩
                  obtain ⟨e5, rfl, rfl⟩ := HV.out
                  rw [e5] at HN
                  have v3 : (r3 != 0) = true := bne_iff_ne.2 (by rw [← e5]; exact hnz)
                  generalize (nextF o x2.f2 x2.f3).1 = oo at HN
                  obtain ⟨f0, f1, f2, f3⟩ := x2
                  dsimp only at hy0 hy1 hy2 hy3 hv v1 HN
                  have kw0 : IntKind.i64.wrap (q : Int) = (q : Int) := IntWalk.i64_in _ hb5
                  clear hv h4 hb5 hb6 hb7 hstep hnz e5
                  go_wp2_with (first | (go_at_call 56; (with_reducible refine HN.out.mono ?_); rintro e w5 ⟨B5, d5, rfl, hd5, hC5, hb⟩; have HB5 := Aside0.mk (hbe.out.trans (hb.mono hbe.out.size)); clear hb hC5 hd5))
                  go_ret3
                  exact ⟨none, 0, rfl, Nat.le_refl _, Kd.C_nil _ _, HB5.out⟩
          · have n1 : decide ((q : Int) + 1 < ls.length) = false := decide_eq_false (by omega)
            have n2 : decide (q + 1 < ls.length) = false := decide_eq_false hlt2
            have HV : Aside0 ((0 : Int) = r3 ∧ o = r1 ∧ (nn : Int) = r2) := ⟨by
              have h := HST2.out
              rw [List.drop_of_length_le (by omega), stepL] at h
              simpa using h⟩
            obtain ⟨rfl, rfl, rfl⟩ := HV.out
            clear hb5 hb6 hb7
            go_wp2
            go_ret3
            exact ⟨_, _, rfl, hoC.out.1, hoC.out.2, hbe.out⟩
theorem refFur_got (A : Option Addr) (c : Nat) (ls : List S34) (at' : Int) (w : World) (hr : Kd.C k34 w A ls.length ls) (hc : ls.length ≤ c) (hl : ls.length ≤ 1048576) (r1 : List S31) (r2 r3 : Int) (h : pattern_Furthest.f ls at' = some (r1, r2, r3)) :
    Calls Tryd.prog 21 #[.slice A ls.length c, .int .i64 at'] w (GotF w r1 r2 r3) := by
  by_cases hz : bindL (-1) ls = 0
  · exact refFur_walk A c ls at' w hr hc hl hz r1 r2 r3 h
  · unfold pattern_Furthest.f at h
    rw [if_neg hz] at h
    simp only [Option.some.injEq, Prod.mk.injEq] at h
    obtain ⟨rfl, rfl, rfl⟩ := h
    exact refFur_bad A c ls at' w hr hc hl _ rfl hz
theorem fur_got (A : Option Addr) (c : Nat) (ls : List S34) (at' : Int) (w : World) (hr : Kd.C k34 w A ls.length ls) (hc : ls.length ≤ c) (r1 : List S31) (r2 r3 : Int) (h : pattern_Furthest.f ls at' = some (r1, r2, r3)) :
    Calls Tryd.prog 20 #[.slice A ls.length c, .int .i64 at'] w (GotF w r1 r2 r3) := by
  refine (pattern_Furthest.calls A c ls at' r1 r2 r3 w hr hc h).mono ?_
  rintro e w' ⟨v, rfl, hR, hb⟩
  obtain ⟨A2, c2, rfl, hc2, hC2⟩ := Kd.R_reads hR
  exact ⟨A2, c2, rfl, hc2, hC2, hb⟩
end Go.Proofs.YtgkebfeggekkgaaDoor.Given
