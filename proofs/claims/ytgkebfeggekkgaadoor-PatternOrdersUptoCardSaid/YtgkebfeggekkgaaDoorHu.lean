/- The contract of the reference's Common (its result lies in the first pattern's row), and plain forms of the reference's checks, Conforms, Extend and Needs. -/
import Derived.Test.YtgkebfeggekkgaaDoorJ0
import Derived.Test.YtgkebfeggekkgaaDoorJ1
import Derived.Test.YtgkebfeggekkgaaDoorJ2
import Derived.Test.YtgkebfeggekkgaaDoorPTx34
import Derived.Test.YtgkebfeggekkgaaDoorJ5
set_option linter.unusedVariables false
set_option linter.unusedSimpArgs false
namespace Go.Proofs.YtgkebfeggekkgaaDoor.Given
open Go.RowKit Go.Proofs.YtgkebfeggekkgaaDoor.PT Go.Proofs.YtgkebfeggekkgaaDoorW.PrintWords Go.Proofs.YtgkebfeggekkgaaDoorW.PrintLast Go.Proofs.YtgkebfeggekkgaaDoorW.PrintMore

attribute [local go_sem high] eqA31
theorem refChecks_f (p q : List S31) : mjolnerref09_checks.f 41 p q = some (validL [p, q]) := by
  unfold mjolnerref09_checks.f
  rw [refCheck_f40 p 41 (Nat.le_refl _), Option.bind_some, validL_two]
  by_cases h : checkL p = 0
  · rw [if_pos h, if_pos h, refCheck_f40 q 41 (Nat.le_refl _)]
    rfl
  · rw [if_neg h, if_neg h]
theorem refBegins (q p : List S31) (hp : checkL p = 0) : mjolnerref09_Begins.f 41 q p = some (conformsB q p) := by
  have := checkL_small hp
  exact begins_f q p (by omega) 41 (by omega)
theorem refConforms_f (q p : List S31) : mjolnerref09_Conforms.f 41 q p = pattern_Conforms.f q p := by
  unfold mjolnerref09_Conforms.f pattern_Conforms.f
  rw [refChecks_f, Option.bind_some]
  by_cases h : validL [q, p] = 0
  · rw [if_pos h, if_pos h, refBegins q p (validL_two_ok h).2]
    rfl
  · rw [if_neg h, if_neg h]
theorem refNeeds_f (s t : List S31) : mjolnerref09_Needs.f 41 s t = pattern_Needs.f s t := by
  unfold mjolnerref09_Needs.f pattern_Needs.f
  rw [refChecks_f, Option.bind_some]
  by_cases h : validL [s, t] = 0
  · rw [if_pos h, if_pos h, refBegins s t (validL_two_ok h).2, Option.bind_some, refBegins t s (validL_two_ok h).1]
    unfold needsZ
    cases conformsB s t with
    | true => rfl
    | false =>
      cases conformsB t s with
      | true => rfl
      | false => rfl
  · rw [if_neg h, if_neg h]
theorem refBoth_f (p q : List S31) (hp : p.length ≤ 40) (hq : q.length ≤ 1048576) : mjolnerref09_Both.f p q = some (p ++ q) := by
  unfold mjolnerref09_Both.f
  have q1 : ([] : List S31).length + p.length < 5864062014805 := by rw [List.length_nil]; omega
  have q2 : (([] : List S31) ++ p).length + q.length < 5864062014805 := by rw [List.nil_append]; omega
  rw [if_pos q1, Option.bind_some, if_pos q2, List.nil_append]
theorem refExtend_f (p l : List S31) : mjolnerref09_Extend.f 41 p l = pattern_Extend.f p l := by
  unfold mjolnerref09_Extend.f pattern_Extend.f
  rw [refChecks_f, Option.bind_some]
  by_cases h : validL [p, l] = 0
  · have h1 := checkL_small (validL_two_ok h).1
    have h2 := checkL_small (validL_two_ok h).2
    have e : wrap64 ((p.length : Int) + (l.length : Int)) = ((p.length + l.length : Nat) : Int) := w64 (by omega) (by omega)
    rw [if_pos h, if_pos h, e, refBoth_f p l h1 (by omega)]
    by_cases h40 : p.length + l.length ≤ 40
    · rw [if_neg (by omega), if_pos h40]
      rfl
    · rw [if_pos (by omega), if_neg h40]
  · rw [if_neg h, if_neg h]
def RefCommonPost (A0 : Option Addr) (c0 : Nat) (l0 l1 : List S31) (w : World) (e : Ending) (w' : World) : Prop :=
  e = .returned (.tuple #[if validL [l0, l1] = 0 then .slice A0 (commonN l0 l1) c0 else .slice none 0 0, .int .i64 (validL [l0, l1])]) ∧ Below w.heap.size w w'
set_option maxRecDepth 100000 in
set_option maxHeartbeats 1000000 in
theorem refCommon_calls (A0 : Option Addr) (c0 : Nat) (l0 : List S31) (A1 : Option Addr) (c1 : Nat) (l1 : List S31) (w : World) (hr0 : Kd.C k31 w A0 l0.length l0) (hc0 : l0.length ≤ c0) (hr1 : Kd.C k31 w A1 l1.length l1) (hc1 : l1.length ≤ c1) :
    Calls Tryd.prog 36 #[.slice A0 l0.length c0, .slice A1 l1.length c1] w (RefCommonPost A0 c0 l0 l1 w) := by
  have HK := Aside0.mk (mjolnerref09_checks.calls 41 A0 c0 l0 A1 c1 l1 _ w hr0 hc0 hr1 hc1 (refChecks_f l0 l1))
  have HR0 := Aside0.mk hr0
  have HR1 := Aside0.mk hr1
  by_cases hz : validL [l0, l1] = 0
  · have hs0 := checkL_small (validL_two_ok hz).1
    have hs1 := checkL_small (validL_two_ok hz).2
    have HP : Aside0 (∀ e w', e = .returned (.tuple #[.slice A0 (commonN l0 l1) c0, .int .i64 0]) ∧ Below w.heap.size w w' → RefCommonPost A0 c0 l0 l1 w e w') := ⟨fun e w' ⟨h1, h2⟩ => ⟨by rw [h1, if_pos hz, hz], h2⟩⟩
    rw [hz] at HK
    have hA : A0 = none → l0.length = 0 := fun e => by subst e; rw [C_none hr0]; rfl
    have HSL : Aside0 (∀ (n : Nat) (W : World), n ≤ l0.length → (Instr.sliceAt 24 (.slice A0 l0.length c0) none (some (.int .i64 n)) none).run Tryd.prog W = .ok (.slice A0 n c0) W) := ⟨fun n W hn => slice_high W hn hc0 hA⟩
    have hu31 := Tryd.underlying31
    clear hz hr0 hr1 hA
    refine Calls.mono ?_ HP.out
    go_enter Tryd.func36, Tryd.ntmps36
    go_wp2_with (first | (go_at_call 70; (with_reducible refine HK.out.mono ?_); rintro e w1 ⟨rfl, hb1⟩; have HB1 := Aside0.mk hb1; clear hb1))
    go_loopw [7] (fun i W => ∃ j : Int, 0 ≤ j ∧ j ≤ l0.length ∧ j ≤ l1.length ∧ i = .int .i64 j ∧ Aside0 (Below w.heap.size w W) ∧ Aside0 (commonN l0 l1 = j.toNat + commonN (l0.drop j.toNat) (l1.drop j.toNat))) (fun i _ => l0.length - (intOf i).toNat)
    case atStart => exact ⟨0, Int.le_refl _, by omega, by omega, rfl, HB1, ⟨by show commonN l0 l1 = 0 + commonN (l0.drop 0) (l1.drop 0); rw [List.drop_zero, List.drop_zero, Nat.zero_add]⟩⟩
    case round =>
      obtain ⟨j, hj, hk0, hk1, rfl, hbel, hcom⟩ := hrel
      by_cases hlt0 : j < l0.length
      · by_cases hlt1 : j < l1.length
        · obtain ⟨ad0, rfl, hx0, hx1, hx2⟩ := at_T31 (Kd.C_below HR0.out hbel.out) j hj hlt0
          obtain ⟨ad1, rfl, hy0, hy1, hy2⟩ := at_T31 (Kd.C_below HR1.out hbel.out) j hj hlt1
          have HD : Aside0 (commonN l0 l1 = j.toNat + if rd_T31 l0 j = rd_T31 l1 j then commonN (l0.drop (j.toNat + 1)) (l1.drop (j.toNat + 1)) + 1 else 0) := ⟨by
            have h0 : j.toNat < l0.length := by omega
            have h1 : j.toNat < l1.length := by omega
            have e0 := rd31 l0 j.toNat h0
            have e1 := rd31 l1 j.toNat h1
            rw [Int.toNat_of_nonneg hj] at e0 e1
            rw [hcom.out, List.drop_eq_getElem_cons h0, List.drop_eq_getElem_cons h1, e0, e1]
            rfl⟩
          clear hcom
          generalize rd_T31 l0 j = x at hx0 hx1 hx2 HD
          generalize rd_T31 l1 j = y at hy0 hy1 hy2 HD
          have n0 : decide (j < (l0.length : Int)) = true := decide_eq_true hlt0
          have n1 : decide (j < (l1.length : Int)) = true := decide_eq_true hlt1
          have hd40 : j ≤ 40 := by omega
          by_cases hxy : x = y
          · have HC := Aside0.mk (show commonN l0 l1 = (j + 1).toNat + commonN (l0.drop (j + 1).toNat) (l1.drop (j + 1).toNat) by
              rw [HD.out, if_pos hxy, show (j + 1).toNat = j.toNat + 1 by omega]
              omega)
            have c6 : ((x.f0 == y.f0) && ((x.f1 == y.f1) && (x.f2 == y.f2))) = true := by rw [hxy]; simp
            clear HD hxy
            go_wp2
            repeat (go_quiet (fail); try go_wp2)
            exact ⟨⟨j + 1, by omega, by omega, by omega, by first | rfl | simp, ⟨by repeat (first | exact hbel.out | apply pw_below_drewN | apply below_drew)⟩, HC⟩, by simp [intOf]; omega⟩
          · have HC := Aside0.mk (show (commonN l0 l1 : Int) = j by rw [HD.out, if_neg hxy]; omega)
            have c6 : ((x.f0 == y.f0) && ((x.f1 == y.f1) && (x.f2 == y.f2))) = false := by
              rw [Bool.eq_false_iff]
              intro h
              simp only [Bool.and_eq_true, beq_iff_eq] at h
              exact hxy ((S31.ext_iff' _ _).2 h)
            have hsl := fun W => HSL.out (commonN l0 l1) W (by have := HC.out; omega)
            rw [HC.out] at hsl
            clear HD hxy
            go_wp2
            repeat (go_quiet (fail); try go_wp2)
            go_ret2
            exact ⟨rfl, by repeat (first | exact hbel.out | apply pw_below_drewN | apply below_drew)⟩
        · have HC := Aside0.mk (show (commonN l0 l1 : Int) = j by
            rw [hcom.out, List.drop_of_length_le (show l1.length ≤ j.toNat by omega)]
            cases l0.drop j.toNat <;> simp [commonN] <;> omega)
          have n0 : decide (j < (l0.length : Int)) = true := decide_eq_true hlt0
          have n1 : decide (j < (l1.length : Int)) = false := decide_eq_false hlt1
          have hsl := fun W => HSL.out (commonN l0 l1) W (by have := HC.out; omega)
          rw [HC.out] at hsl
          clear hcom
          go_wp2
          repeat (go_quiet (fail); try go_wp2)
          go_ret2
          exact ⟨rfl, by repeat (first | exact hbel.out | apply pw_below_drewN | apply below_drew)⟩
      · have HC := Aside0.mk (show (commonN l0 l1 : Int) = j by
          rw [hcom.out, List.drop_of_length_le (show l0.length ≤ j.toNat by omega)]
          simp [commonN]
          omega)
        have n0 : decide (j < (l0.length : Int)) = false := decide_eq_false hlt0
        have hsl := fun W => HSL.out (commonN l0 l1) W (by have := HC.out; omega)
        rw [HC.out] at hsl
        clear hcom
        go_wp2
        repeat (go_quiet (fail); try go_wp2)
        go_ret2
        exact ⟨rfl, by repeat (first | exact hbel.out | apply pw_below_drewN | apply below_drew)⟩
  · have HP : Aside0 (∀ e w', e = .returned (.tuple #[.slice none 0 0, .int .i64 (validL [l0, l1])]) ∧ Below w.heap.size w w' → RefCommonPost A0 c0 l0 l1 w e w') := ⟨fun e w' ⟨h1, h2⟩ => ⟨by rw [h1, if_neg hz], h2⟩⟩
    have hzb : (validL [l0, l1] != 0) = true := bne_iff_ne.2 hz
    clear hz hr0 hr1
    refine Calls.mono ?_ HP.out
    generalize validL [l0, l1] = z at HK hzb
    go_enter Tryd.func36, Tryd.ntmps36
    go_wp2_with (first | (go_at_call 70; (with_reducible refine HK.out.mono ?_); rintro e w1 ⟨rfl, hb1⟩; have HB1 := Aside0.mk hb1; clear hb1))
    go_ret2
    exact ⟨rfl, HB1.out⟩
end Go.Proofs.YtgkebfeggekkgaaDoor.Given
