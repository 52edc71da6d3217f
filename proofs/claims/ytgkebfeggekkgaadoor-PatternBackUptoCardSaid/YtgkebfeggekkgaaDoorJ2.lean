/- Plain: the digits of a number, read, are the number; what is read as a number is its digits. -/
import Derived.Test.YtgkebfeggekkgaaDoorLSpl
import Derived.Test.YtgkebfeggekkgaaDoorPTx0
import Derived.Test.YtgkebfeggekkgaaDoorJ1
import Derived.Test.YtgkebfeggekkgaaDoorPTx9
section
set_option linter.unusedVariables false
set_option linter.unusedSimpArgs false
namespace Go.Proofs.YtgkebfeggekkgaaDoor.Given
open Go.RowKit Go.Proofs.YtgkebfeggekkgaaDoor.PT Go.Proofs.YtgkebfeggekkgaaDoorW.PrintWords

theorem digB_iff' (b : UInt8) : digB b = true ↔ 48 ≤ b.toNat ∧ b.toNat ≤ 57 := by
  unfold digB
  rw [Bool.and_eq_true, decide_eq_true_iff, decide_eq_true_iff]
theorem valN_snoc' : ∀ (l : List UInt8) (n : Nat) (b : UInt8), valN n (l ++ [b]) = 10 * valN n l + (b.toNat - 48)
  | [], n, b => rfl
  | a :: l, n, b => by
    show valN (10 * n + (a.toNat - 48)) (l ++ [b]) = 10 * valN (10 * n + (a.toNat - 48)) l + (b.toNat - 48)
    exact valN_snoc' l _ b
theorem ofNat_dig (d : Nat) (h : d < 10) : (UInt8.ofNat (48 + d)).toNat = 48 + d := by
  rw [UInt8.toNat_ofNat']
  omega
theorem dec_small {u : Nat} (h : u < 10) : Lib.decDigits u = [UInt8.ofNat (48 + u)] := by rw [Lib.decDigits, dif_pos h]
theorem dec_big {u : Nat} (h : ¬ u < 10) : Lib.decDigits u = Lib.decDigits (u / 10) ++ [UInt8.ofNat (48 + u % 10)] := by rw [Lib.decDigits, dif_neg h]
/-- the digits of a number are digits, their value is the number, and they begin with a zero only if there is no other one -/
theorem dec_facts : ∀ (n u : Nat), u < n → (Lib.decDigits u).all digB = true ∧ valN 0 (Lib.decDigits u) = u ∧ Lib.decDigits u ≠ [] ∧ ((Lib.decDigits u).head? = some 48 → u = 0)
  | 0, u, h => by omega
  | n + 1, u, h => by
    by_cases h10 : u < 10
    · have e := ofNat_dig u h10
      rw [dec_small h10]
      refine ⟨?_, ?_, by simp, fun hh => ?_⟩
      · rw [List.all_cons, (digB_iff' _).2 (by omega)]
        rfl
      · show 10 * 0 + ((UInt8.ofNat (48 + u)).toNat - 48) = u
        omega
      · have : UInt8.ofNat (48 + u) = 48 := Option.some.inj hh
        rw [this] at e
        have h48 : (48 : UInt8).toNat = 48 := rfl
        omega
    · obtain ⟨h1, h2, h3, h4⟩ := dec_facts n (u / 10) (by omega)
      have e := ofNat_dig (u % 10) (by omega)
      rw [dec_big h10]
      refine ⟨?_, ?_, by simp, fun hh => ?_⟩
      · rw [List.all_append, h1, List.all_cons, (digB_iff' _).2 (by omega)]
        rfl
      · rw [valN_snoc', h2, e]
        omega
      · cases hd : Lib.decDigits (u / 10) with
        | nil => exact absurd hd h3
        | cons a r =>
          rw [hd] at hh h4
          have := h4 hh
          omega
theorem dec_num (u : Nat) : numV (Lib.decDigits u) = if (Lib.decDigits u).length ≤ 18 then some u else none := by
  obtain ⟨h1, h2, h3, h4⟩ := dec_facts (u + 1) u (by omega)
  unfold numV
  by_cases hl : (Lib.decDigits u).length ≤ 18
  · rw [if_pos hl, if_neg, digV_all _ 0 h1, h2]
    rintro (h | h | ⟨h, h'⟩)
    · exact h3 h
    · omega
    · have := h4 h'
      subst this
      rw [dec_small (by decide)] at h
      simp at h
  · rw [if_neg hl, if_pos (.inr (.inl (by omega)))]
theorem dec_len (u : Nat) (h : u < 1000000000000000000) : (Lib.decDigits u).length ≤ 18 := by
  rw [Lib.decDigits_length]
  rcases Nat.eq_zero_or_pos (Lib.nDigits u) with h0 | h0
  · omega
  · rcases Nat.lt_or_ge 18 (Lib.nDigits u) with hg | hg
    · exfalso
      -- more digits: at least ten to the eighteenth
      have key : ∀ (k v : Nat), k + 1 ≤ Lib.nDigits v → k = 0 ∨ 10 ^ k ≤ v := by
        intro k
        induction k with
        | zero => intro v _; exact .inl rfl
        | succ k ih =>
          intro v hv
          right
          by_cases h10 : v < 10
          · rw [Lib.nDigits_small h10] at hv
            omega
          · rw [Lib.nDigits_big h10] at hv
            rcases ih (v / 10) (by omega) with hk | hk
            · subst hk
              show 10 ^ 1 ≤ v
              omega
            · rw [Nat.pow_succ]
              omega
      rcases key 18 u (by omega) with hk | hk
      · omega
      · have : (10 : Nat) ^ 18 = 1000000000000000000 := by decide
        omega
    · exact hg
/-- what is a number without unnecessary zeros is its digits -/
theorem val_dec : ∀ (n : Nat) (l : List UInt8), l.length = n → l ≠ [] → l.all digB = true → (1 < l.length → l.head? ≠ some 48) → Lib.decDigits (valN 0 l) = l := by
  intro n
  induction n with
  | zero => intro l hl hne _ _; exact absurd (List.length_eq_zero_iff.1 hl) hne
  | succ n ih =>
    intro l hl hne ha hz
    obtain ⟨p, b, rfl⟩ : ∃ p b, l = p ++ [b] := ⟨l.dropLast, l.getLast hne, (List.dropLast_concat_getLast hne).symm⟩
    rw [List.all_append, Bool.and_eq_true] at ha
    have hb : digB b = true := by simpa using ha.2
    have hr := (digB_iff' b).1 hb
    rw [valN_snoc']
    by_cases hp : p = []
    · subst hp
      show Lib.decDigits (10 * 0 + (b.toNat - 48)) = [b]
      rw [dec_small (by omega)]
      congr 1
      apply UInt8.toNat_inj.1
      rw [ofNat_dig _ (by omega)]
      omega
    · have hpl : 0 < p.length := List.length_pos_iff.2 hp
      have hh : (p ++ [b]).head? = p.head? := by cases p with | nil => exact absurd rfl hp | cons a r => rfl
      have hz' := hz (by rw [List.length_append]; simp; omega)
      rw [hh] at hz'
      have ihp := ih p (by rw [List.length_append, List.length_singleton] at hl; omega) hp ha.1 (fun _ => hz')
      have hpos : 1 ≤ valN 0 p := by
        rcases Nat.eq_zero_or_pos (valN 0 p) with h0 | h0
        · exfalso
          rw [h0, dec_small (by decide)] at ihp
          rw [← ihp] at hz'
          exact hz' rfl
        · exact h0
      have e1 : (10 * valN 0 p + (b.toNat - 48)) / 10 = valN 0 p := by omega
      have e2 : (10 * valN 0 p + (b.toNat - 48)) % 10 = b.toNat - 48 := by omega
      rw [dec_big (by omega), e1, e2, ihp]
      congr 2
      apply UInt8.toNat_inj.1
      rw [ofNat_dig _ (by omega)]
      omega
theorem num_dec {l : List UInt8} {n : Nat} (h : numV l = some n) : Lib.decDigits n = l ∧ n < 1000000000000000000 := by
  unfold numV at h
  split at h
  · cases h
  · rename_i hc
    rw [not_or, not_or, not_and] at hc
    obtain ⟨c1, c2, c3⟩ := hc
    cases ha : l.all digB with
    | false => rw [digV_not l 0 ha] at h; cases h
    | true =>
      rw [digV_all l 0 ha] at h
      have hv := Option.some.inj h
      subst hv
      refine ⟨val_dec l.length l rfl c1 ha c3, ?_⟩
      have key : ∀ (l : List UInt8) (n k : Nat), l.all digB = true → n < 10 ^ k → valN n l < 10 ^ (k + l.length) := by
        intro l
        induction l with
        | nil => intro n k _ h; exact h
        | cons b l ih =>
          intro n k ha h
          rw [List.all_cons, Bool.and_eq_true] at ha
          have hd := (digB_iff' b).1 ha.1
          have := ih (10 * n + (b.toNat - 48)) (k + 1) ha.2 (pow_step k n _ (by omega) h)
          rw [List.length_cons, Nat.add_comm l.length 1, ← Nat.add_assoc]
          exact this
      have h1 := key l 0 0 ha (by decide)
      rw [Nat.zero_add] at h1
      have h2 : 10 ^ l.length ≤ 10 ^ 18 := Nat.pow_le_pow_right (by decide) (by omega)
      have : (10 : Nat) ^ 18 = 1000000000000000000 := by decide
      omega
end Go.Proofs.YtgkebfeggekkgaaDoor.Given
end
section
-- Written by a program of mine (wip/print_given.sh: the kit's print, changed so that some functions are given by contracts).
namespace Go.Proofs.YtgkebfeggekkgaaDoor.PT
open Go.RowKit Go.Proofs.YtgkebfeggekkgaaDoor.Given Go.Proofs.YtgkebfeggekkgaaDoorW.PrintWords Go.Proofs.YtgkebfeggekkgaaDoorW.PrintLast Go.Proofs.YtgkebfeggekkgaaDoorW.PrintMore
attribute [local go_sem] max2_int min2_int max_two min_two max_three min_three max_four min_four   -- for this text's walks alone
set_option linter.unusedVariables false
set_option linter.unusedSimpArgs false

/-! ### mjolnerlaw09_conforms: function 25 -/
def mjolnerlaw09_conforms.f (l0 : List (S31)) (l1 : List (S31)) : Option (Bool × Bool) := (pattern_Conforms.f l0 l1).bind fun bt266 => (some (bt266.1, (bt266.2 == 0)))
set_option maxHeartbeats 8000000 in
set_option maxRecDepth 100000 in
theorem mjolnerlaw09_conforms.calls (A0 : Option Addr) (c0 : Nat) (l0 : List (S31)) (A1 : Option Addr) (c1 : Nat) (l1 : List (S31)) (r1 : Bool) (r2 : Bool) (w : World) (hr0 : Kd.C k31 w A0 l0.length l0) (hc0 : l0.length ≤ c0) (hr1 : Kd.C k31 w A1 l1.length l1) (hc1 : l1.length ≤ c1) (h : mjolnerlaw09_conforms.f l0 l1 = some (r1, r2)) :
    Calls Tryd.prog 25 #[.slice A0 l0.length c0, .slice A1 l1.length c1] w fun e w' => e = .returned (.tuple #[.bool r1, .bool r2]) ∧ Below w.heap.size w w' := by
  have HR0 := Aside0.mk hr0
  have HC0 := Aside0.mk hc0
  clear hr0 hc0
  have HR1 := Aside0.mk hr1
  have HC1 := Aside0.mk hc1
  clear hr1 hc1
  have HB := Aside0.mk (Below.refl w.heap.size w)
  have H : ((pattern_Conforms.f l0 l1).bind fun bt266 => (some (bt266.1, (bt266.2 == 0)))) = some (r1, r2) := h
  clear h
  replace H := Option.bind_eq_some_iff.mp H
  obtain ⟨⟨t266, t267⟩, A30, H⟩ := H
  replace H : (some (t266, (t267 == 0))) = some (r1, r2) := H
  have A3 := Aside0.mk A30
  clear A30
  simp only [Option.some.injEq, Prod.mk.injEq] at H
  obtain ⟨rfl, rfl⟩ := H
  go_enter Tryd.func25, Tryd.ntmps25
  go_wp2_with (first | ((with_reducible refine gate_callee (f := 34) rfl ?_); refine goesL_ (some 11) rfl rfl Tryd.func34 (by kernel_rfl) rfl #[.slice A0 l0.length c0, .slice A1 l1.length c1] rfl (by (try simp only [List.map_toArray, List.map_cons, List.map_nil]); first | done | rfl | (simp only [List.length_drop, List.length_take]; rfl)) ?_; (with_reducible refine (pattern_Conforms.calls _ _ l0 _ _ l1 t266 t267 _ ?side1 ?side2 ?side3 ?side4 A3.out).mono ?_); (case side1 => repeat (first | exact HR0.out | (with_reducible refine Kd.C_alloc ?_ _) | (with_reducible refine Kd.C_drewN ?_ _) | (with_reducible refine Kd.C_drew ?_))); (case side2 => exact HC0.out); (case side3 => repeat (first | exact HR1.out | (with_reducible refine Kd.C_alloc ?_ _) | (with_reducible refine Kd.C_drewN ?_ _) | (with_reducible refine Kd.C_drew ?_))); (case side4 => exact HC1.out); rintro e w4 ⟨rfl, hb⟩; refine ⟨_, rfl, ?_⟩; have n0_ := Aside0.mk (below_step (by repeat (first | (with_reducible first | exact HB.out | apply below_alloc | apply pw_below_drewN | apply below_drew1) | exact HB.out)) hb); clear HB; have HB := n0_; clear n0_; (try clear hb); (try clear hb2); (try clear hk); (try clear hi)))
  go_ret2
  exact ⟨by first | rfl | (simp [errW_none, errW_some] <;> rfl) | (simp [*, errW_none, errW_some] <;> rfl), by repeat (first | (with_reducible first | exact HB.out | apply below_alloc | apply pw_below_drewN | apply below_drew1) | exact HB.out)⟩

end Go.Proofs.YtgkebfeggekkgaaDoor.PT
end
section
/- Plain laws of patterns: conformity is to be a beginning; the law's own helpers; the reference's equality. -/
set_option linter.unusedVariables false
set_option linter.unusedSimpArgs false
namespace Go.Proofs.YtgkebfeggekkgaaDoor.Given
open Go.RowKit Go.Proofs.YtgkebfeggekkgaaDoor.PT Go.Proofs.YtgkebfeggekkgaaDoorW.PrintWords

theorem awake_tr : mjolnerlaw09_awake.f = some true := by kernel_rfl
theorem prefix_iff : ∀ (q p : List S31), commonN q p = p.length ↔ p <+: q
  | [], [] => by simp [commonN]
  | [], y :: p => by simp [commonN]
  | x :: q, [] => by simp [commonN]
  | x :: q, y :: p => by
    have h := prefix_iff q p
    rw [List.cons_prefix_cons]
    unfold commonN
    split
    · rename_i e
      subst e
      simp only [List.length_cons, Nat.add_right_cancel_iff, true_and]
      exact h
    · rename_i e
      simp only [List.length_cons]
      constructor
      · intro h; omega
      · intro h; exact absurd h.1.symm e
theorem conf_iff (q p : List S31) : conformsB q p = true ↔ p <+: q := by
  unfold conformsB
  rw [decide_eq_true_iff]
  exact prefix_iff q p
theorem conf_trans {a b c : List S31} (h1 : conformsB a b = true) (h2 : conformsB b c = true) : conformsB a c = true := by
  rw [conf_iff] at h1 h2 ⊢
  exact h2.trans h1
theorem conf_chain {a b c : List S31} (h1 : conformsB a b = true) (h2 : conformsB a c = true) : conformsB b c = true ∨ conformsB c b = true := by
  rw [conf_iff] at h1 h2
  rw [conf_iff, conf_iff]
  rcases List.prefix_or_prefix_of_prefix h1 h2 with h | h
  · exact .inr h
  · exact .inl h
theorem law_conf (q p : List S31) (hq : checkL q = 0) (hp : checkL p = 0) : mjolnerlaw09_conforms.f q p = some (conformsB q p, true) := by
  unfold mjolnerlaw09_conforms.f pattern_Conforms.f
  rw [validL_two, if_pos hq, hp, if_pos rfl, Option.bind_some]
  rfl
theorem conf_refl (p : List S31) : conformsB p p = true := (conf_iff p p).2 (List.prefix_refl p)
theorem conf_nil (p : List S31) : conformsB p [] = true := (conf_iff p []).2 (List.nil_prefix)
theorem conf_anti {p q : List S31} (h1 : conformsB p q = true) (h2 : conformsB q p = true) : p = q := by
  rw [conf_iff] at h1 h2
  exact h2.eq_of_length (Nat.le_antisymm h2.length_le h1.length_le)
theorem same_loop (a b : List S31) (hab : a.length = b.length) (ha : a.length ≤ 9223372036854775806) : ∀ (d i k : Nat), i + d = a.length → d < k → mjolnerref09_Same.l0 k a b (i : Int) = some (decide (a.drop i = b.drop i)) := by
  intro d
  induction d with
  | zero =>
    intro i k hi hk
    obtain ⟨k, rfl⟩ : ∃ m, k = m + 1 := ⟨k - 1, by omega⟩
    rw [mjolnerref09_Same.l0, if_neg (by omega), List.drop_of_length_le (by omega), List.drop_of_length_le (by omega)]
    rfl
  | succ d ih =>
    intro i k hi hk
    obtain ⟨k, rfl⟩ : ∃ m, k = m + 1 := ⟨k - 1, by omega⟩
    have h1 : (i : Int) < (a.length : Int) := by omega
    have h2 : (0 : Int) ≤ (i : Int) := by omega
    have h3 : (i : Int) < (b.length : Int) := by omega
    have hi1 : i < a.length := by omega
    have hi2 : i < b.length := by omega
    have h4 := ih (i + 1) k (by omega) (by omega)
    have h5 : wrap64 ((i : Int) + 1) = ((i + 1 : Nat) : Int) := w64 (by omega) (by omega)
    rw [mjolnerref09_Same.l0, if_pos h1, if_pos h2, if_pos h3, rd31 a i hi1, rd31 b i hi2, h5, h4, List.drop_eq_getElem_cons hi1, List.drop_eq_getElem_cons hi2]
    by_cases he : a[i] = b[i]
    · rw [if_neg (by rw [he]; simp)]
      congr 1
      rw [he]
      by_cases hd : a.drop (i + 1) = b.drop (i + 1)
      · rw [decide_eq_true hd, decide_eq_true (by rw [hd])]
      · rw [decide_eq_false hd, decide_eq_false (fun e => hd (List.cons.inj e).2)]
    · rw [if_pos]
      · rw [decide_eq_false (fun e => he (List.cons.inj e).1)]
      · have hn : ¬ (a[i].f0 = b[i].f0 ∧ a[i].f1 = b[i].f1 ∧ a[i].f2 = b[i].f2) := fun h => he ((S31.ext_iff' _ _).2 h)
        by_cases c0 : a[i].f0 = b[i].f0
        · by_cases c1 : a[i].f1 = b[i].f1
          · have c2 : ¬ a[i].f2 = b[i].f2 := fun c2 => hn ⟨c0, c1, c2⟩
            simp [c2]
          · simp [c1]
        · simp [c0]
theorem same_f (a b : List S31) (ha : a.length ≤ 9223372036854775806) (k : Nat) (hk : a.length < k) : mjolnerref09_Same.f k a b = some (decide (a = b)) := by
  unfold mjolnerref09_Same.f
  by_cases hl : a.length = b.length
  · rw [if_pos (by omega)]
    have := same_loop a b hl ha a.length 0 k (by omega) hk
    rw [List.drop_zero, List.drop_zero] at this
    exact this
  · rw [if_neg (by omega), decide_eq_false (fun e => hl (by rw [e]))]
end Go.Proofs.YtgkebfeggekkgaaDoor.Given
end
