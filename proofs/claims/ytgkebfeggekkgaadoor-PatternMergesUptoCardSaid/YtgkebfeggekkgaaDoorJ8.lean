-- Written by a program of mine (wip/print_given.sh: the kit's print, changed so that some functions are given by contracts).
import Derived.Test.YtgkebfeggekkgaaDoorPTx0
import Derived.Test.YtgkebfeggekkgaaDoorJ5
import Derived.Test.YtgkebfeggekkgaaDoorJ6
import Derived.Test.YtgkebfeggekkgaaDoorJ7
section
namespace Go.Proofs.YtgkebfeggekkgaaDoor.PT
open Go.RowKit Go.Proofs.YtgkebfeggekkgaaDoor.Given Go.Proofs.YtgkebfeggekkgaaDoorW.PrintWords Go.Proofs.YtgkebfeggekkgaaDoorW.PrintLast Go.Proofs.YtgkebfeggekkgaaDoorW.PrintMore
attribute [local go_sem] max2_int min2_int max_two min_two max_three min_three max_four min_four   -- for this text's walks alone
set_option linter.unusedVariables false
set_option linter.unusedSimpArgs false

/-! ### mjolnerlaw09_conforms: function 25 -/
def mjolnerlaw09_conforms.f (l0 : List (S31)) (l1 : List (S31)) : Option (Bool × Bool) := (pattern_Conforms.f l0 l1).bind fun bt266 => (some (bt266.1, (bt266.2 == 0)))
set_option maxHeartbeats 8000000 in
set_option maxRecDepth 100000 in
theorem mjolnerlaw09_conforms.calls (A0 : Option Addr) (c0 : Nat) (l0 : List (S31)) (A1 : Option Addr) (c1 : Nat) (l1 : List (S31)) (r1 : Bool) (r2 : Bool) (w : World) (hr0 : Kd.C k31 w A0 l0.length l0) (hc0 : l0.length ≤ c0) (hr1 : Kd.C k31 w A1 l1.length l1) (hc1 : l1.length ≤ c1) (h : mjolnerlaw09_conforms.f l0 l1 = some (r1, r2)) :
    Calls Tryd.prog 25 #[.slice A0 l0.length c0, .slice A1 l1.length c1] w fun e w' => e = .returned (.tuple #[.bool r1, .bool r2]) ∧ Below w.heap.size w w' := by
  have HR0 := Aside0.mk hr0
  have HC0 := Aside0.mk hc0
  clear hr0 hc0
  have HR1 := Aside0.mk hr1
  have HC1 := Aside0.mk hc1
  clear hr1 hc1
  have HB := Aside0.mk (Below.refl w.heap.size w)
  have H : ((pattern_Conforms.f l0 l1).bind fun bt266 => (some (bt266.1, (bt266.2 == 0)))) = some (r1, r2) := h
  clear h
  replace H := Option.bind_eq_some_iff.mp H
  obtain ⟨⟨t266, t267⟩, A30, H⟩ := H
  replace H : (some (t266, (t267 == 0))) = some (r1, r2) := H
  have A3 := Aside0.mk A30
  clear A30
  simp only [Option.some.injEq, Prod.mk.injEq] at H
  obtain ⟨rfl, rfl⟩ := H
  go_enter Tryd.func25, Tryd.ntmps25
  go_wp2_with (first | ((with_reducible refine gate_callee (f := 34) rfl ?_); refine goesL_ (some 11) rfl rfl Tryd.func34 (by kernel_rfl) rfl #[.slice A0 l0.length c0, .slice A1 l1.length c1] rfl (by (try simp only [List.map_toArray, List.map_cons, List.map_nil]); first | done | rfl | (simp only [List.length_drop, List.length_take]; rfl)) ?_; (with_reducible refine (pattern_Conforms.calls _ _ l0 _ _ l1 t266 t267 _ ?side1 ?side2 ?side3 ?side4 A3.out).mono ?_); (case side1 => repeat (first | exact HR0.out | (with_reducible refine Kd.C_alloc ?_ _) | (with_reducible refine Kd.C_drewN ?_ _) | (with_reducible refine Kd.C_drew ?_))); (case side2 => exact HC0.out); (case side3 => repeat (first | exact HR1.out | (with_reducible refine Kd.C_alloc ?_ _) | (with_reducible refine Kd.C_drewN ?_ _) | (with_reducible refine Kd.C_drew ?_))); (case side4 => exact HC1.out); rintro e w4 ⟨rfl, hb⟩; refine ⟨_, rfl, ?_⟩; have n0_ := Aside0.mk (below_step (by repeat (first | (with_reducible first | exact HB.out | apply below_alloc | apply pw_below_drewN | apply below_drew1) | exact HB.out)) hb); clear HB; have HB := n0_; clear n0_; (try clear hb); (try clear hb2); (try clear hk); (try clear hi)))
  go_ret2
  exact ⟨by first | rfl | (simp [errW_none, errW_some] <;> rfl) | (simp [*, errW_none, errW_some] <;> rfl), by repeat (first | (with_reducible first | exact HB.out | apply below_alloc | apply pw_below_drewN | apply below_drew1) | exact HB.out)⟩

end Go.Proofs.YtgkebfeggekkgaaDoor.PT
end
section
/- Plain laws of patterns: conformity is to be a beginning; the law's own helpers; the reference's equality. -/
set_option linter.unusedVariables false
set_option linter.unusedSimpArgs false
namespace Go.Proofs.YtgkebfeggekkgaaDoor.Given
open Go.RowKit Go.Proofs.YtgkebfeggekkgaaDoor.PT Go.Proofs.YtgkebfeggekkgaaDoorW.PrintWords

theorem awake_tr : mjolnerlaw09_awake.f = some true := by kernel_rfl
theorem prefix_iff : ∀ (q p : List S31), commonN q p = p.length ↔ p <+: q
  | [], [] => by simp [commonN]
  | [], y :: p => by simp [commonN]
  | x :: q, [] => by simp [commonN]
  | x :: q, y :: p => by
    have h := prefix_iff q p
    rw [List.cons_prefix_cons]
    unfold commonN
    split
    · rename_i e
      subst e
      simp only [List.length_cons, Nat.add_right_cancel_iff, true_and]
      exact h
    · rename_i e
      simp only [List.length_cons]
      constructor
      · intro h; omega
      · intro h; exact absurd h.1.symm e
theorem conf_iff (q p : List S31) : conformsB q p = true ↔ p <+: q := by
  unfold conformsB
  rw [decide_eq_true_iff]
  exact prefix_iff q p
theorem conf_trans {a b c : List S31} (h1 : conformsB a b = true) (h2 : conformsB b c = true) : conformsB a c = true := by
  rw [conf_iff] at h1 h2 ⊢
  exact h2.trans h1
theorem conf_chain {a b c : List S31} (h1 : conformsB a b = true) (h2 : conformsB a c = true) : conformsB b c = true ∨ conformsB c b = true := by
  rw [conf_iff] at h1 h2
  rw [conf_iff, conf_iff]
  rcases List.prefix_or_prefix_of_prefix h1 h2 with h | h
  · exact .inr h
  · exact .inl h
theorem law_conf (q p : List S31) (hq : checkL q = 0) (hp : checkL p = 0) : mjolnerlaw09_conforms.f q p = some (conformsB q p, true) := by
  unfold mjolnerlaw09_conforms.f pattern_Conforms.f
  rw [validL_two, if_pos hq, hp, if_pos rfl, Option.bind_some]
  rfl
theorem conf_refl (p : List S31) : conformsB p p = true := (conf_iff p p).2 (List.prefix_refl p)
theorem conf_nil (p : List S31) : conformsB p [] = true := (conf_iff p []).2 (List.nil_prefix)
theorem conf_anti {p q : List S31} (h1 : conformsB p q = true) (h2 : conformsB q p = true) : p = q := by
  rw [conf_iff] at h1 h2
  exact h2.eq_of_length (Nat.le_antisymm h2.length_le h1.length_le)
theorem same_loop (a b : List S31) (hab : a.length = b.length) (ha : a.length ≤ 9223372036854775806) : ∀ (d i k : Nat), i + d = a.length → d < k → mjolnerref09_Same.l0 k a b (i : Int) = some (decide (a.drop i = b.drop i)) := by
  intro d
  induction d with
  | zero =>
    intro i k hi hk
    obtain ⟨k, rfl⟩ : ∃ m, k = m + 1 := ⟨k - 1, by omega⟩
    rw [mjolnerref09_Same.l0, if_neg (by omega), List.drop_of_length_le (by omega), List.drop_of_length_le (by omega)]
    rfl
  | succ d ih =>
    intro i k hi hk
    obtain ⟨k, rfl⟩ : ∃ m, k = m + 1 := ⟨k - 1, by omega⟩
    have h1 : (i : Int) < (a.length : Int) := by omega
    have h2 : (0 : Int) ≤ (i : Int) := by omega
    have h3 : (i : Int) < (b.length : Int) := by omega
    have hi1 : i < a.length := by omega
    have hi2 : i < b.length := by omega
    have h4 := ih (i + 1) k (by omega) (by omega)
    have h5 : wrap64 ((i : Int) + 1) = ((i + 1 : Nat) : Int) := w64 (by omega) (by omega)
    rw [mjolnerref09_Same.l0, if_pos h1, if_pos h2, if_pos h3, rd31 a i hi1, rd31 b i hi2, h5, h4, List.drop_eq_getElem_cons hi1, List.drop_eq_getElem_cons hi2]
    by_cases he : a[i] = b[i]
    · rw [if_neg (by rw [he]; simp)]
      congr 1
      rw [he]
      by_cases hd : a.drop (i + 1) = b.drop (i + 1)
      · rw [decide_eq_true hd, decide_eq_true (by rw [hd])]
      · rw [decide_eq_false hd, decide_eq_false (fun e => hd (List.cons.inj e).2)]
    · rw [if_pos]
      · rw [decide_eq_false (fun e => he (List.cons.inj e).1)]
      · have hn : ¬ (a[i].f0 = b[i].f0 ∧ a[i].f1 = b[i].f1 ∧ a[i].f2 = b[i].f2) := fun h => he ((S31.ext_iff' _ _).2 h)
        by_cases c0 : a[i].f0 = b[i].f0
        · by_cases c1 : a[i].f1 = b[i].f1
          · have c2 : ¬ a[i].f2 = b[i].f2 := fun c2 => hn ⟨c0, c1, c2⟩
            simp [c2]
          · simp [c1]
        · simp [c0]
theorem same_f (a b : List S31) (ha : a.length ≤ 9223372036854775806) (k : Nat) (hk : a.length < k) : mjolnerref09_Same.f k a b = some (decide (a = b)) := by
  unfold mjolnerref09_Same.f
  by_cases hl : a.length = b.length
  · rw [if_pos (by omega)]
    have := same_loop a b hl ha a.length 0 k (by omega) hk
    rw [List.drop_zero, List.drop_zero] at this
    exact this
  · rw [if_neg (by omega), decide_eq_false (fun e => hl (by rw [e]))]
end Go.Proofs.YtgkebfeggekkgaaDoor.Given
end
section
/- Plain: the reference's validity, beginnings and equality of lists of integers. -/
set_option linter.unusedVariables false
set_option linter.unusedSimpArgs false
namespace Go.Proofs.YtgkebfeggekkgaaDoor.Given
open Go.RowKit Go.Proofs.YtgkebfeggekkgaaDoor.PT Go.Proofs.YtgkebfeggekkgaaDoorW.PrintWords

theorem refValid (x : S31) : mjolnerref09_Valid.f x.f0 x.f1 x.f2 = some (okP x) := by
  unfold mjolnerref09_Valid.f okP
  by_cases h1 : x.f0 ≥ 0
  · rw [if_pos h1, decide_eq_true (show 0 ≤ x.f0 from h1)]
    by_cases h2 : x.f1 ≥ 0
    · rw [if_pos h2, decide_eq_true (show 0 ≤ x.f1 from h2)]
      by_cases h3 : x.f2 ≥ 0
      · rw [if_pos h3, decide_eq_true (show 0 ≤ x.f2 from h3)]
        by_cases h4 : x.f1 > 0
        · rw [if_pos h4, decide_eq_false (show ¬ x.f1 = 0 by omega)]
          rfl
        · rw [if_neg h4, decide_eq_true (show x.f1 = 0 by omega)]
          by_cases h5 : x.f2 = 0
          · rw [decide_eq_true h5, beq_iff_eq.2 h5]
            rfl
          · rw [decide_eq_false h5, beq_eq_false_iff_ne.2 h5]
            rfl
      · rw [if_neg h3, decide_eq_false (show ¬ 0 ≤ x.f2 from h3)]
        rfl
    · rw [if_neg h2, decide_eq_false (show ¬ 0 ≤ x.f1 from h2)]
      rfl
  · rw [if_neg h1, decide_eq_false (show ¬ 0 ≤ x.f0 from h1)]
    rfl
theorem refCheck_loop (l : List S31) (hl : l.length ≤ 40) : ∀ (d i k : Nat), i + d = l.length → d < k → mjolnerref09_Check.l0 k l (i : Int) = some (if (l.drop i).all okP then 0 else 1) := by
  intro d
  induction d with
  | zero =>
    intro i k hi hk
    obtain ⟨k, rfl⟩ : ∃ m, k = m + 1 := ⟨k - 1, by omega⟩
    rw [mjolnerref09_Check.l0, if_neg (by omega), List.drop_of_length_le (by omega)]
    rfl
  | succ d ih =>
    intro i k hi hk
    obtain ⟨k, rfl⟩ : ∃ m, k = m + 1 := ⟨k - 1, by omega⟩
    have h := ih (i + 1) k (by omega) (by omega)
    rw [mjolnerref09_Check.l0, if_pos (by omega), if_pos (by omega), rd31 l i (by omega), refValid, Option.bind_some, w64 (n := i + 1) (by omega) (by omega), h, List.drop_eq_getElem_cons (show i < l.length by omega), List.all_cons]
    cases okP l[i] with
    | true => rw [if_pos rfl, Bool.true_and]
    | false => rfl
theorem refCheck_f (l : List S31) (k : Nat) (hk : l.length < k) : mjolnerref09_Check.f k l = some (checkL l) := by
  unfold mjolnerref09_Check.f checkL
  by_cases h : 40 < l.length
  · rw [if_pos (by omega), if_pos h]
  · rw [if_neg (by omega), if_neg h]
    exact refCheck_loop l (by omega) l.length 0 k (by omega) hk
theorem refCheck_f40 (l : List S31) (k : Nat) (hk : 41 ≤ k) : mjolnerref09_Check.f k l = some (checkL l) := by
  by_cases h : 40 < l.length
  · unfold mjolnerref09_Check.f checkL
    rw [if_pos (by omega), if_pos h]
  · exact refCheck_f l k (by omega)
theorem begins_f (q p : List S31) (hp : p.length ≤ 9223372036854775806) (k : Nat) (hk : p.length < k) : mjolnerref09_Begins.f k q p = some (conformsB q p) := by
  unfold mjolnerref09_Begins.f
  by_cases h : p.length ≤ q.length
  · have hl : (q.take p.length).length = p.length := by rw [List.length_take]; omega
    rw [if_pos (by omega), if_pos (by omega), Int.toNat_natCast, same_f _ _ (by omega) k (by omega), Option.bind_some]
    congr 1
    cases hc : conformsB q p with
    | true => exact decide_eq_true (List.prefix_iff_eq_take.1 ((conf_iff q p).1 hc)).symm
    | false =>
      refine decide_eq_false (fun he => ?_)
      have := (conf_iff q p).2 (List.prefix_iff_eq_take.2 he.symm)
      rw [hc] at this
      cases this
  · rw [if_neg (by omega)]
    congr 1
    cases hc : conformsB q p with
    | true => exact absurd ((conf_iff q p).1 hc).length_le h
    | false => rfl
theorem rdIn (l : List Int) (i : Nat) (h : i < l.length) : rd l (i : Int) = l[i] := by
  unfold rd
  simp [h]
theorem ints_loop (a b : List Int) (hab : a.length = b.length) (ha : a.length ≤ 9223372036854775806) : ∀ (d i k : Nat), i + d = a.length → d < k → mjolnerlaw09_ints.l0 k a b (i : Int) = some (decide (a.drop i = b.drop i)) := by
  intro d
  induction d with
  | zero =>
    intro i k hi hk
    obtain ⟨k, rfl⟩ : ∃ m, k = m + 1 := ⟨k - 1, by omega⟩
    rw [mjolnerlaw09_ints.l0, if_neg (by omega), List.drop_of_length_le (by omega), List.drop_of_length_le (by omega)]
    rfl
  | succ d ih =>
    intro i k hi hk
    obtain ⟨k, rfl⟩ : ∃ m, k = m + 1 := ⟨k - 1, by omega⟩
    have hi1 : i < a.length := by omega
    have hi2 : i < b.length := by omega
    have h4 := ih (i + 1) k (by omega) (by omega)
    have h5 : wrap64 ((i : Int) + 1) = ((i + 1 : Nat) : Int) := w64 (by omega) (by omega)
    rw [mjolnerlaw09_ints.l0, if_pos (by omega), if_pos (by omega), if_pos (by omega), rdIn a i hi1, rdIn b i hi2, h5, h4, List.drop_eq_getElem_cons hi1, List.drop_eq_getElem_cons hi2]
    by_cases he : a[i] = b[i]
    · rw [if_pos he]
      congr 1
      rw [he]
      by_cases hd : a.drop (i + 1) = b.drop (i + 1)
      · rw [decide_eq_true hd, decide_eq_true (by rw [hd])]
      · rw [decide_eq_false hd, decide_eq_false (fun e => hd (List.cons.inj e).2)]
    · rw [if_neg he, decide_eq_false (fun e => he (List.cons.inj e).1)]
theorem ints_f (a b : List Int) (ha : a.length ≤ 9223372036854775806) (k : Nat) (hk : a.length < k) : mjolnerlaw09_ints.f k a b = some (decide (a = b)) := by
  unfold mjolnerlaw09_ints.f
  by_cases hl : a.length = b.length
  · rw [if_pos (by omega)]
    exact ints_loop a b hl ha a.length 0 k (by omega) hk
  · rw [if_neg (by omega), decide_eq_false (fun e => hl (by rw [e]))]
end Go.Proofs.YtgkebfeggekkgaaDoor.Given
end
