/- Plain laws of patterns: conformity is to be a beginning; the law's own helpers; the reference's equality. -/
import Derived.Test.YtgkebfeggekkgaaDoorJ8
import Derived.Test.YtgkebfeggekkgaaDoorJ2
import Derived.Test.YtgkebfeggekkgaaDoorJ0
import Derived.Test.YtgkebfeggekkgaaDoorJ4
import Derived.Test.YtgkebfeggekkgaaDoorJ1
import Derived.Test.YtgkebfeggekkgaaDoorJ3
section
set_option linter.unusedVariables false
set_option linter.unusedSimpArgs false
namespace Go.Proofs.YtgkebfeggekkgaaDoor.Given
open Go.RowKit Go.Proofs.YtgkebfeggekkgaaDoor.PT Go.Proofs.YtgkebfeggekkgaaDoorW.PrintWords

theorem awake_tr : mjolnerlaw09_awake.f = some true := by kernel_rfl
theorem prefix_iff : ∀ (q p : List S31), commonN q p = p.length ↔ p <+: q
  | [], [] => by simp [commonN]
  | [], y :: p => by simp [commonN]
  | x :: q, [] => by simp [commonN]
  | x :: q, y :: p => by
    have h := prefix_iff q p
    rw [List.cons_prefix_cons]
    unfold commonN
    split
    · rename_i e
      subst e
      simp only [List.length_cons, Nat.add_right_cancel_iff, true_and]
      exact h
    · rename_i e
      simp only [List.length_cons]
      constructor
      · intro h; omega
      · intro h; exact absurd h.1.symm e
theorem conf_iff (q p : List S31) : conformsB q p = true ↔ p <+: q := by
  unfold conformsB
  rw [decide_eq_true_iff]
  exact prefix_iff q p
theorem conf_trans {a b c : List S31} (h1 : conformsB a b = true) (h2 : conformsB b c = true) : conformsB a c = true := by
  rw [conf_iff] at h1 h2 ⊢
  exact h2.trans h1
theorem conf_chain {a b c : List S31} (h1 : conformsB a b = true) (h2 : conformsB a c = true) : conformsB b c = true ∨ conformsB c b = true := by
  rw [conf_iff] at h1 h2
  rw [conf_iff, conf_iff]
  rcases List.prefix_or_prefix_of_prefix h1 h2 with h | h
  · exact .inr h
  · exact .inl h
theorem law_conf (q p : List S31) (hq : checkL q = 0) (hp : checkL p = 0) : mjolnerlaw09_conforms.f q p = some (conformsB q p, true) := by
  unfold mjolnerlaw09_conforms.f pattern_Conforms.f
  rw [validL_two, if_pos hq, hp, if_pos rfl, Option.bind_some]
  rfl
theorem conf_refl (p : List S31) : conformsB p p = true := (conf_iff p p).2 (List.prefix_refl p)
theorem conf_nil (p : List S31) : conformsB p [] = true := (conf_iff p []).2 (List.nil_prefix)
theorem conf_anti {p q : List S31} (h1 : conformsB p q = true) (h2 : conformsB q p = true) : p = q := by
  rw [conf_iff] at h1 h2
  exact h2.eq_of_length (Nat.le_antisymm h2.length_le h1.length_le)
theorem same_loop (a b : List S31) (hab : a.length = b.length) (ha : a.length ≤ 9223372036854775806) : ∀ (d i k : Nat), i + d = a.length → d < k → mjolnerref09_Same.l0 k a b (i : Int) = some (decide (a.drop i = b.drop i)) := by
  intro d
  induction d with
  | zero =>
    intro i k hi hk
    obtain ⟨k, rfl⟩ : ∃ m, k = m + 1 := ⟨k - 1, by omega⟩
    rw [mjolnerref09_Same.l0, if_neg (by omega), List.drop_of_length_le (by omega), List.drop_of_length_le (by omega)]
    rfl
  | succ d ih =>
    intro i k hi hk
    obtain ⟨k, rfl⟩ : ∃ m, k = m + 1 := ⟨k - 1, by omega⟩
    have h1 : (i : Int) < (a.length : Int) := by omega
    have h2 : (0 : Int) ≤ (i : Int) := by omega
    have h3 : (i : Int) < (b.length : Int) := by omega
    have hi1 : i < a.length := by omega
    have hi2 : i < b.length := by omega
    have h4 := ih (i + 1) k (by omega) (by omega)
    have h5 : wrap64 ((i : Int) + 1) = ((i + 1 : Nat) : Int) := w64 (by omega) (by omega)
    rw [mjolnerref09_Same.l0, if_pos h1, if_pos h2, if_pos h3, rd31 a i hi1, rd31 b i hi2, h5, h4, List.drop_eq_getElem_cons hi1, List.drop_eq_getElem_cons hi2]
    by_cases he : a[i] = b[i]
    · rw [if_neg (by rw [he]; simp)]
      congr 1
      rw [he]
      by_cases hd : a.drop (i + 1) = b.drop (i + 1)
      · rw [decide_eq_true hd, decide_eq_true (by rw [hd])]
      · rw [decide_eq_false hd, decide_eq_false (fun e => hd (List.cons.inj e).2)]
    · rw [if_pos]
      · rw [decide_eq_false (fun e => he (List.cons.inj e).1)]
      · have hn : ¬ (a[i].f0 = b[i].f0 ∧ a[i].f1 = b[i].f1 ∧ a[i].f2 = b[i].f2) := fun h => he ((S31.ext_iff' _ _).2 h)
        by_cases c0 : a[i].f0 = b[i].f0
        · by_cases c1 : a[i].f1 = b[i].f1
          · have c2 : ¬ a[i].f2 = b[i].f2 := fun c2 => hn ⟨c0, c1, c2⟩
            simp [c2]
          · simp [c1]
        · simp [c0]
theorem same_f (a b : List S31) (ha : a.length ≤ 9223372036854775806) (k : Nat) (hk : a.length < k) : mjolnerref09_Same.f k a b = some (decide (a = b)) := by
  unfold mjolnerref09_Same.f
  by_cases hl : a.length = b.length
  · rw [if_pos (by omega)]
    have := same_loop a b hl ha a.length 0 k (by omega) hk
    rw [List.drop_zero, List.drop_zero] at this
    exact this
  · rw [if_neg (by omega), decide_eq_false (fun e => hl (by rw [e]))]
end Go.Proofs.YtgkebfeggekkgaaDoor.Given
end
section
/- Plain: the reference's validity, beginnings and equality of lists of integers. -/
set_option linter.unusedVariables false
set_option linter.unusedSimpArgs false
namespace Go.Proofs.YtgkebfeggekkgaaDoor.Given
open Go.RowKit Go.Proofs.YtgkebfeggekkgaaDoor.PT Go.Proofs.YtgkebfeggekkgaaDoorW.PrintWords

theorem refValid (x : S31) : mjolnerref09_Valid.f x.f0 x.f1 x.f2 = some (okP x) := by
  unfold mjolnerref09_Valid.f okP
  by_cases h1 : x.f0 ≥ 0
  · rw [if_pos h1, decide_eq_true (show 0 ≤ x.f0 from h1)]
    by_cases h2 : x.f1 ≥ 0
    · rw [if_pos h2, decide_eq_true (show 0 ≤ x.f1 from h2)]
      by_cases h3 : x.f2 ≥ 0
      · rw [if_pos h3, decide_eq_true (show 0 ≤ x.f2 from h3)]
        by_cases h4 : x.f1 > 0
        · rw [if_pos h4, decide_eq_false (show ¬ x.f1 = 0 by omega)]
          rfl
        · rw [if_neg h4, decide_eq_true (show x.f1 = 0 by omega)]
          by_cases h5 : x.f2 = 0
          · rw [decide_eq_true h5, beq_iff_eq.2 h5]
            rfl
          · rw [decide_eq_false h5, beq_eq_false_iff_ne.2 h5]
            rfl
      · rw [if_neg h3, decide_eq_false (show ¬ 0 ≤ x.f2 from h3)]
        rfl
    · rw [if_neg h2, decide_eq_false (show ¬ 0 ≤ x.f1 from h2)]
      rfl
  · rw [if_neg h1, decide_eq_false (show ¬ 0 ≤ x.f0 from h1)]
    rfl
theorem refCheck_loop (l : List S31) (hl : l.length ≤ 40) : ∀ (d i k : Nat), i + d = l.length → d < k → mjolnerref09_Check.l0 k l (i : Int) = some (if (l.drop i).all okP then 0 else 1) := by
  intro d
  induction d with
  | zero =>
    intro i k hi hk
    obtain ⟨k, rfl⟩ : ∃ m, k = m + 1 := ⟨k - 1, by omega⟩
    rw [mjolnerref09_Check.l0, if_neg (by omega), List.drop_of_length_le (by omega)]
    rfl
  | succ d ih =>
    intro i k hi hk
    obtain ⟨k, rfl⟩ : ∃ m, k = m + 1 := ⟨k - 1, by omega⟩
    have h := ih (i + 1) k (by omega) (by omega)
    rw [mjolnerref09_Check.l0, if_pos (by omega), if_pos (by omega), rd31 l i (by omega), refValid, Option.bind_some, w64 (n := i + 1) (by omega) (by omega), h, List.drop_eq_getElem_cons (show i < l.length by omega), List.all_cons]
    cases okP l[i] with
    | true => rw [if_pos rfl, Bool.true_and]
    | false => rfl
theorem refCheck_f (l : List S31) (k : Nat) (hk : l.length < k) : mjolnerref09_Check.f k l = some (checkL l) := by
  unfold mjolnerref09_Check.f checkL
  by_cases h : 40 < l.length
  · rw [if_pos (by omega), if_pos h]
  · rw [if_neg (by omega), if_neg h]
    exact refCheck_loop l (by omega) l.length 0 k (by omega) hk
theorem refCheck_f40 (l : List S31) (k : Nat) (hk : 41 ≤ k) : mjolnerref09_Check.f k l = some (checkL l) := by
  by_cases h : 40 < l.length
  · unfold mjolnerref09_Check.f checkL
    rw [if_pos (by omega), if_pos h]
  · exact refCheck_f l k (by omega)
theorem begins_f (q p : List S31) (hp : p.length ≤ 9223372036854775806) (k : Nat) (hk : p.length < k) : mjolnerref09_Begins.f k q p = some (conformsB q p) := by
  unfold mjolnerref09_Begins.f
  by_cases h : p.length ≤ q.length
  · have hl : (q.take p.length).length = p.length := by rw [List.length_take]; omega
    rw [if_pos (by omega), if_pos (by omega), Int.toNat_natCast, same_f _ _ (by omega) k (by omega), Option.bind_some]
    congr 1
    cases hc : conformsB q p with
    | true => exact decide_eq_true (List.prefix_iff_eq_take.1 ((conf_iff q p).1 hc)).symm
    | false =>
      refine decide_eq_false (fun he => ?_)
      have := (conf_iff q p).2 (List.prefix_iff_eq_take.2 he.symm)
      rw [hc] at this
      cases this
  · rw [if_neg (by omega)]
    congr 1
    cases hc : conformsB q p with
    | true => exact absurd ((conf_iff q p).1 hc).length_le h
    | false => rfl
theorem rdIn (l : List Int) (i : Nat) (h : i < l.length) : rd l (i : Int) = l[i] := by
  unfold rd
  simp [h]
theorem ints_loop (a b : List Int) (hab : a.length = b.length) (ha : a.length ≤ 9223372036854775806) : ∀ (d i k : Nat), i + d = a.length → d < k → mjolnerlaw09_ints.l0 k a b (i : Int) = some (decide (a.drop i = b.drop i)) := by
  intro d
  induction d with
  | zero =>
    intro i k hi hk
    obtain ⟨k, rfl⟩ : ∃ m, k = m + 1 := ⟨k - 1, by omega⟩
    rw [mjolnerlaw09_ints.l0, if_neg (by omega), List.drop_of_length_le (by omega), List.drop_of_length_le (by omega)]
    rfl
  | succ d ih =>
    intro i k hi hk
    obtain ⟨k, rfl⟩ : ∃ m, k = m + 1 := ⟨k - 1, by omega⟩
    have hi1 : i < a.length := by omega
    have hi2 : i < b.length := by omega
    have h4 := ih (i + 1) k (by omega) (by omega)
    have h5 : wrap64 ((i : Int) + 1) = ((i + 1 : Nat) : Int) := w64 (by omega) (by omega)
    rw [mjolnerlaw09_ints.l0, if_pos (by omega), if_pos (by omega), if_pos (by omega), rdIn a i hi1, rdIn b i hi2, h5, h4, List.drop_eq_getElem_cons hi1, List.drop_eq_getElem_cons hi2]
    by_cases he : a[i] = b[i]
    · rw [if_pos he]
      congr 1
      rw [he]
      by_cases hd : a.drop (i + 1) = b.drop (i + 1)
      · rw [decide_eq_true hd, decide_eq_true (by rw [hd])]
      · rw [decide_eq_false hd, decide_eq_false (fun e => hd (List.cons.inj e).2)]
    · rw [if_neg he, decide_eq_false (fun e => he (List.cons.inj e).1)]
theorem ints_f (a b : List Int) (ha : a.length ≤ 9223372036854775806) (k : Nat) (hk : a.length < k) : mjolnerlaw09_ints.f k a b = some (decide (a = b)) := by
  unfold mjolnerlaw09_ints.f
  by_cases hl : a.length = b.length
  · rw [if_pos (by omega)]
    exact ints_loop a b hl ha a.length 0 k (by omega) hk
  · rw [if_neg (by omega), decide_eq_false (fun e => hl (by rw [e]))]
end Go.Proofs.YtgkebfeggekkgaaDoor.Given
end
section
/- The contract of the reference's Common (its result lies in the first pattern's row), and plain forms of the reference's checks, Conforms, Extend and Needs. -/
set_option linter.unusedVariables false
set_option linter.unusedSimpArgs false
namespace Go.Proofs.YtgkebfeggekkgaaDoor.Given
open Go.RowKit Go.Proofs.YtgkebfeggekkgaaDoor.PT Go.Proofs.YtgkebfeggekkgaaDoorW.PrintWords Go.Proofs.YtgkebfeggekkgaaDoorW.PrintLast Go.Proofs.YtgkebfeggekkgaaDoorW.PrintMore

attribute [local go_sem high] eqA31
theorem refChecks_f (p q : List S31) : mjolnerref09_checks.f 41 p q = some (validL [p, q]) := by
  unfold mjolnerref09_checks.f
  rw [refCheck_f40 p 41 (Nat.le_refl _), Option.bind_some, validL_two]
  by_cases h : checkL p = 0
  · rw [if_pos h, if_pos h, refCheck_f40 q 41 (Nat.le_refl _)]
    rfl
  · rw [if_neg h, if_neg h]
theorem refBegins (q p : List S31) (hp : checkL p = 0) : mjolnerref09_Begins.f 41 q p = some (conformsB q p) := by
  have := checkL_small hp
  exact begins_f q p (by omega) 41 (by omega)
theorem refConforms_f (q p : List S31) : mjolnerref09_Conforms.f 41 q p = pattern_Conforms.f q p := by
  unfold mjolnerref09_Conforms.f pattern_Conforms.f
  rw [refChecks_f, Option.bind_some]
  by_cases h : validL [q, p] = 0
  · rw [if_pos h, if_pos h, refBegins q p (validL_two_ok h).2]
    rfl
  · rw [if_neg h, if_neg h]
theorem refNeeds_f (s t : List S31) : mjolnerref09_Needs.f 41 s t = pattern_Needs.f s t := by
  unfold mjolnerref09_Needs.f pattern_Needs.f
  rw [refChecks_f, Option.bind_some]
  by_cases h : validL [s, t] = 0
  · rw [if_pos h, if_pos h, refBegins s t (validL_two_ok h).2, Option.bind_some, refBegins t s (validL_two_ok h).1]
    unfold needsZ
    cases conformsB s t with
    | true => rfl
    | false =>
      cases conformsB t s with
      | true => rfl
      | false => rfl
  · rw [if_neg h, if_neg h]
theorem refBoth_f (p q : List S31) (hp : p.length ≤ 40) (hq : q.length ≤ 1048576) : mjolnerref09_Both.f p q = some (p ++ q) := by
  unfold mjolnerref09_Both.f
  have q1 : ([] : List S31).length + p.length < 5864062014805 := by rw [List.length_nil]; omega
  have q2 : (([] : List S31) ++ p).length + q.length < 5864062014805 := by rw [List.nil_append]; omega
  rw [if_pos q1, Option.bind_some, if_pos q2, List.nil_append]
theorem refExtend_f (p l : List S31) : mjolnerref09_Extend.f 41 p l = pattern_Extend.f p l := by
  unfold mjolnerref09_Extend.f pattern_Extend.f
  rw [refChecks_f, Option.bind_some]
  by_cases h : validL [p, l] = 0
  · have h1 := checkL_small (validL_two_ok h).1
    have h2 := checkL_small (validL_two_ok h).2
    have e : wrap64 ((p.length : Int) + (l.length : Int)) = ((p.length + l.length : Nat) : Int) := w64 (by omega) (by omega)
    rw [if_pos h, if_pos h, e, refBoth_f p l h1 (by omega)]
    by_cases h40 : p.length + l.length ≤ 40
    · rw [if_neg (by omega), if_pos h40]
      rfl
    · rw [if_pos (by omega), if_neg h40]
  · rw [if_neg h, if_neg h]
def RefCommonPost (A0 : Option Addr) (c0 : Nat) (l0 l1 : List S31) (w : World) (e : Ending) (w' : World) : Prop :=
  e = .returned (.tuple #[if validL [l0, l1] = 0 then .slice A0 (commonN l0 l1) c0 else .slice none 0 0, .int .i64 (validL [l0, l1])]) ∧ Below w.heap.size w w'
set_option maxRecDepth 100000 in
set_option maxHeartbeats 1000000 in
theorem refCommon_calls (A0 : Option Addr) (c0 : Nat) (l0 : List S31) (A1 : Option Addr) (c1 : Nat) (l1 : List S31) (w : World) (hr0 : Kd.C k31 w A0 l0.length l0) (hc0 : l0.length ≤ c0) (hr1 : Kd.C k31 w A1 l1.length l1) (hc1 : l1.length ≤ c1) :
    Calls Tryd.prog 36 #[.slice A0 l0.length c0, .slice A1 l1.length c1] w (RefCommonPost A0 c0 l0 l1 w) := by
  have HK := Aside0.mk (mjolnerref09_checks.calls 41 A0 c0 l0 A1 c1 l1 _ w hr0 hc0 hr1 hc1 (refChecks_f l0 l1))
  have HR0 := Aside0.mk hr0
  have HR1 := Aside0.mk hr1
  by_cases hz : validL [l0, l1] = 0
  · have hs0 := checkL_small (validL_two_ok hz).1
    have hs1 := checkL_small (validL_two_ok hz).2
    have HP : Aside0 (∀ e w', e = .returned (.tuple #[.slice A0 (commonN l0 l1) c0, .int .i64 0]) ∧ Below w.heap.size w w' → RefCommonPost A0 c0 l0 l1 w e w') := ⟨fun e w' ⟨h1, h2⟩ => ⟨by rw [h1, if_pos hz, hz], h2⟩⟩
    rw [hz] at HK
    have hA : A0 = none → l0.length = 0 := fun e => by subst e; rw [C_none hr0]; rfl
    have HSL : Aside0 (∀ (n : Nat) (W : World), n ≤ l0.length → (Instr.sliceAt 24 (.slice A0 l0.length c0) none (some (.int .i64 n)) none).run Tryd.prog W = .ok (.slice A0 n c0) W) := ⟨fun n W hn => slice_high W hn hc0 hA⟩
    have hu31 := Tryd.underlying31
    clear hz hr0 hr1 hA
    refine Calls.mono ?_ HP.out
    go_enter Tryd.func36, Tryd.ntmps36
    go_wp2_with (first | (go_at_call 70; (with_reducible refine HK.out.mono ?_); rintro e w1 ⟨rfl, hb1⟩; have HB1 := Aside0.mk hb1; clear hb1))
    go_loopw [7] (fun i W => ∃ j : Int, 0 ≤ j ∧ j ≤ l0.length ∧ j ≤ l1.length ∧ i = .int .i64 j ∧ Aside0 (Below w.heap.size w W) ∧ Aside0 (commonN l0 l1 = j.toNat + commonN (l0.drop j.toNat) (l1.drop j.toNat))) (fun i _ => l0.length - (intOf i).toNat)
    case atStart => exact ⟨0, Int.le_refl _, by omega, by omega, rfl, HB1, ⟨by show commonN l0 l1 = 0 + commonN (l0.drop 0) (l1.drop 0); rw [List.drop_zero, List.drop_zero, Nat.zero_add]⟩⟩
    case round =>
      obtain ⟨j, hj, hk0, hk1, rfl, hbel, hcom⟩ := hrel
      by_cases hlt0 : j < l0.length
      · by_cases hlt1 : j < l1.length
        · obtain ⟨ad0, rfl, hx0, hx1, hx2⟩ := at_T31 (Kd.C_below HR0.out hbel.out) j hj hlt0
          obtain ⟨ad1, rfl, hy0, hy1, hy2⟩ := at_T31 (Kd.C_below HR1.out hbel.out) j hj hlt1
          have HD : Aside0 (commonN l0 l1 = j.toNat + if rd_T31 l0 j = rd_T31 l1 j then commonN (l0.drop (j.toNat + 1)) (l1.drop (j.toNat + 1)) + 1 else 0) := ⟨by
            have h0 : j.toNat < l0.length := by omega
            have h1 : j.toNat < l1.length := by omega
            have e0 := rd31 l0 j.toNat h0
            have e1 := rd31 l1 j.toNat h1
            rw [Int.toNat_of_nonneg hj] at e0 e1
            rw [hcom.out, List.drop_eq_getElem_cons h0, List.drop_eq_getElem_cons h1, e0, e1]
            rfl⟩
          clear hcom
          generalize rd_T31 l0 j = x at hx0 hx1 hx2 HD
          generalize rd_T31 l1 j = y at hy0 hy1 hy2 HD
          have n0 : decide (j < (l0.length : Int)) = true := decide_eq_true hlt0
          have n1 : decide (j < (l1.length : Int)) = true := decide_eq_true hlt1
          have hd40 : j ≤ 40 := by omega
          by_cases hxy : x = y
          · have HC := Aside0.mk (show commonN l0 l1 = (j + 1).toNat + commonN (l0.drop (j + 1).toNat) (l1.drop (j + 1).toNat) by
              rw [HD.out, if_pos hxy, show (j + 1).toNat = j.toNat + 1 by omega]
              omega)
            have c6 : ((x.f0 == y.f0) && ((x.f1 == y.f1) && (x.f2 == y.f2))) = true := by rw [hxy]; simp
            clear HD hxy
            go_wp2
            repeat (go_quiet (fail); try go_wp2)
            exact ⟨⟨j + 1, by omega, by omega, by omega, by first | rfl | simp, ⟨by repeat (first | exact hbel.out | apply pw_below_drewN | apply below_drew)⟩, HC⟩, by simp [intOf]; omega⟩
          · have HC := Aside0.mk (show (commonN l0 l1 : Int) = j by rw [HD.out, if_neg hxy]; omega)
            have c6 : ((x.f0 == y.f0) && ((x.f1 == y.f1) && (x.f2 == y.f2))) = false := by
              rw [Bool.eq_false_iff]
              intro h
              simp only [Bool.and_eq_true, beq_iff_eq] at h
              exact hxy ((S31.ext_iff' _ _).2 h)
            have hsl := fun W => HSL.out (commonN l0 l1) W (by have := HC.out; omega)
            rw [HC.out] at hsl
            clear HD hxy
            go_wp2
            repeat (go_quiet (fail); try go_wp2)
            go_ret2
            exact ⟨rfl, by repeat (first | exact hbel.out | apply pw_below_drewN | apply below_drew)⟩
        · have HC := Aside0.mk (show (commonN l0 l1 : Int) = j by
            rw [hcom.out, List.drop_of_length_le (show l1.length ≤ j.toNat by omega)]
            cases l0.drop j.toNat <;> simp [commonN] <;> omega)
          have n0 : decide (j < (l0.length : Int)) = true := decide_eq_true hlt0
          have n1 : decide (j < (l1.length : Int)) = false := decide_eq_false hlt1
          have hsl := fun W => HSL.out (commonN l0 l1) W (by have := HC.out; omega)
          rw [HC.out] at hsl
          clear hcom
          go_wp2
          repeat (go_quiet (fail); try go_wp2)
          go_ret2
          exact ⟨rfl, by repeat (first | exact hbel.out | apply pw_below_drewN | apply below_drew)⟩
      · have HC := Aside0.mk (show (commonN l0 l1 : Int) = j by
          rw [hcom.out, List.drop_of_length_le (show l0.length ≤ j.toNat by omega)]
          simp [commonN]
          omega)
        have n0 : decide (j < (l0.length : Int)) = false := decide_eq_false hlt0
        have hsl := fun W => HSL.out (commonN l0 l1) W (by have := HC.out; omega)
        rw [HC.out] at hsl
        clear hcom
        go_wp2
        repeat (go_quiet (fail); try go_wp2)
        go_ret2
        exact ⟨rfl, by repeat (first | exact hbel.out | apply pw_below_drewN | apply below_drew)⟩
  · have HP : Aside0 (∀ e w', e = .returned (.tuple #[.slice none 0 0, .int .i64 (validL [l0, l1])]) ∧ Below w.heap.size w w' → RefCommonPost A0 c0 l0 l1 w e w') := ⟨fun e w' ⟨h1, h2⟩ => ⟨by rw [h1, if_neg hz], h2⟩⟩
    have hzb : (validL [l0, l1] != 0) = true := bne_iff_ne.2 hz
    clear hz hr0 hr1
    refine Calls.mono ?_ HP.out
    generalize validL [l0, l1] = z at HK hzb
    go_enter Tryd.func36, Tryd.ntmps36
    go_wp2_with (first | (go_at_call 70; (with_reducible refine HK.out.mono ?_); rintro e w1 ⟨rfl, hb1⟩; have HB1 := Aside0.mk hb1; clear hb1))
    go_ret2
    exact ⟨rfl, HB1.out⟩
end Go.Proofs.YtgkebfeggekkgaaDoor.Given
end
