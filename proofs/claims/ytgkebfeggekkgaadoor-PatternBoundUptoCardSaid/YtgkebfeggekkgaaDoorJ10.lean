/- PatternOrders, walked: it answers true. -/
import Derived.Test.YtgkebfeggekkgaaDoorJ9
import Derived.Test.YtgkebfeggekkgaaDoorJ8
import Derived.Test.YtgkebfeggekkgaaDoorJ2
import Derived.Test.YtgkebfeggekkgaaDoorHh
import Derived.Test.YtgkebfeggekkgaaDoorPTx8
import Derived.Test.YtgkebfeggekkgaaDoorJ1
section
set_option linter.unusedVariables false
set_option linter.unusedSimpArgs false
namespace Go.Proofs.YtgkebfeggekkgaaDoor.Given
open Go.RowKit Go.Proofs.YtgkebfeggekkgaaDoor.PT Go.Proofs.YtgkebfeggekkgaaDoorW.PrintWords Go.Proofs.YtgkebfeggekkgaaDoorW.PrintLast Go.Proofs.YtgkebfeggekkgaaDoorW.PrintMore

theorem same_calls (A : Option Addr) (c : Nat) (B : Option Addr) (d : Nat) (n : Nat) (l : List S31) (W : World) (hl : l.length ≤ 1048576) (hn : n = l.length) (hA : Kd.C k31 W A n l) (hc : n ≤ c) (hB : Kd.C k31 W B n l) (hd : n ≤ d) :
    Calls Tryd.prog 22 #[.slice A n c, .slice B n d] W fun e w' => e = .returned (.bool true) ∧ Below W.heap.size W w' := by
  subst hn
  exact (mjolnerref09_Same.calls (l.length + 1) A c l B d l true W hA hc hB hd (by rw [same_f l l (by omega) _ (by omega), decide_eq_true rfl])).mono fun e w' ⟨h1, h2⟩ => ⟨h1, h2.below⟩
/-- what Common and Extend return, in either way: a slice of a list's length -/
def GotL (w : World) (l : List S31) (z : Int) (e : Ending) (w' : World) : Prop := ∃ A c, e = .returned (.tuple #[.slice A l.length c, .int .i64 z]) ∧ l.length ≤ c ∧ Kd.C k31 w' A l.length l ∧ Below w.heap.size w w'
theorem pats_got {w : World} {l : List S31} {z : Int} {e : Ending} {w' : World} (h : ∃ v, e = .returned (.tuple #[v, .int .i64 z]) ∧ Kd.R k31 31 w' w.heap.size (fun _ => True) v l ∧ Below w.heap.size w w') : GotL w l z e w' := by
  obtain ⟨v, rfl, hR, hb⟩ := h
  obtain ⟨A, c, rfl, hc, hC⟩ := Kd.R_reads hR
  exact ⟨A, c, rfl, hc, hC, hb⟩
section
variable {w : World} {A0 A1 : Option Addr} {c0 c1 : Nat} {p q : List S31} (hr0 : Kd.C k31 w A0 p.length p) (hc0 : p.length ≤ c0) (hr1 : Kd.C k31 w A1 q.length q) (hc1 : q.length ≤ c1)
def comL (p q : List S31) : List S31 := if validL [p, q] = 0 then p.take (commonN p q) else []
def extL (p q : List S31) : List S31 × Int := if validL [p, q] = 0 then (if p.length + q.length ≤ 40 then (p ++ q, 0) else ([], 2)) else ([], validL [p, q])
theorem com_len (p q : List S31) : (comL p q).length ≤ 40 := by
  unfold comL
  split
  · rename_i h
    have := checkL_small (validL_two_ok h).1
    rw [List.length_take]
    omega
  · simp
theorem ext_len (p q : List S31) : (extL p q).1.length ≤ 40 := by
  unfold extL
  split
  · split
    · rename_i h
      show (p ++ q).length ≤ 40
      rw [List.length_append]
      exact h
    · simp
  · simp
theorem com_f (p q : List S31) : pattern_Common.f p q = some (comL p q, validL [p, q]) := by
  unfold pattern_Common.f comL
  by_cases h : validL [p, q] = 0
  · rw [if_pos h, if_pos h, h]
  · rw [if_neg h, if_neg h]
theorem ext_f (p q : List S31) : pattern_Extend.f p q = some ((extL p q).1, (extL p q).2) := by
  unfold pattern_Extend.f extL
  split
  · split <;> rfl
  · rfl
theorem conf_f (p q : List S31) : ∃ b, pattern_Conforms.f p q = some (b, validL [p, q]) := by
  unfold pattern_Conforms.f
  by_cases h : validL [p, q] = 0
  · exact ⟨_, by rw [if_pos h, h]⟩
  · exact ⟨_, by rw [if_neg h]⟩
theorem needs_f (p q : List S31) : ∃ n z, pattern_Needs.f p q = some (n, z) := by
  unfold pattern_Needs.f
  split
  · exact ⟨_, _, rfl⟩
  · exact ⟨_, _, rfl⟩
include hr0 hc0 hr1 hc1
theorem com_got (W : World) (hb : Below w.heap.size w W) : Calls Tryd.prog 31 #[.slice A0 p.length c0, .slice A1 q.length c1] W (GotL W (comL p q) (validL [p, q])) :=
  (pattern_Common.calls A0 c0 p A1 c1 q _ _ W (Kd.C_below hr0 hb) hc0 (Kd.C_below hr1 hb) hc1 (com_f p q)).mono fun _ _ h => pats_got h
theorem refCom_got (W : World) (hb : Below w.heap.size w W) : Calls Tryd.prog 36 #[.slice A0 p.length c0, .slice A1 q.length c1] W (GotL W (comL p q) (validL [p, q])) := by
  refine (refCommon_calls A0 c0 p A1 c1 q W (Kd.C_below hr0 hb) hc0 (Kd.C_below hr1 hb) hc1).mono ?_
  rintro e w' ⟨rfl, h2⟩
  unfold comL
  by_cases h : validL [p, q] = 0
  · have hn := (commonN_le p q).1
    have hl : (p.take (commonN p q)).length = commonN p q := by rw [List.length_take]; omega
    rw [if_pos h, if_pos h]
    refine ⟨A0, c0, by rw [hl], by rw [hl]; omega, ?_, h2⟩
    exact Kd.C_take (Kd.C_below hr0 (hb.trans (h2.mono hb.size))) hn
  · rw [if_neg h, if_neg h]
    exact ⟨none, 0, rfl, Nat.le_refl _, Kd.C_nil _ _, h2⟩
theorem ext_got (W : World) (hb : Below w.heap.size w W) : Calls Tryd.prog 32 #[.slice A0 p.length c0, .slice A1 q.length c1] W (GotL W (extL p q).1 (extL p q).2) :=
  (pattern_Extend.calls A0 c0 p A1 c1 q _ _ W (Kd.C_below hr0 hb) hc0 (Kd.C_below hr1 hb) hc1 (ext_f p q)).mono fun _ _ h => pats_got h
theorem refExt_got (W : World) (hb : Below w.heap.size w W) : Calls Tryd.prog 37 #[.slice A0 p.length c0, .slice A1 q.length c1] W (GotL W (extL p q).1 (extL p q).2) :=
  (mjolnerref09_Extend.calls 41 A0 c0 p A1 c1 q _ _ W (Kd.C_below hr0 hb) hc0 (Kd.C_below hr1 hb) hc1 (by rw [refExtend_f]; exact ext_f p q)).mono fun _ _ h => pats_got h
end
set_option maxRecDepth 100000 in
set_option maxHeartbeats 4000000 in
theorem orders_true (A0 : Option Addr) (c0 : Nat) (p : List S31) (A1 : Option Addr) (c1 : Nat) (q : List S31) (w : World) (hG : LaidG w) (hr0 : Kd.C k31 w A0 p.length p) (hc0 : p.length ≤ c0) (hr1 : Kd.C k31 w A1 q.length q) (hc1 : q.length ≤ c1) :
    Calls Tryd.prog 13 #[.slice A0 p.length c0, .slice A1 q.length c1] w fun e w' => e = .returned (.bool true) ∧ Below w.heap.size w w' := by
  have HA := Aside0.mk (mjolnerlaw09_awake.calls true w hG rfl)
  have H23 := Aside0.mk (fun W (hb : Below w.heap.size w W) => check_calls A0 c0 p W (Kd.C_below hr0 hb) hc0)
  have H33 := Aside0.mk (fun W (hb : Below w.heap.size w W) => mjolnerref09_Check.calls 41 A0 c0 p _ W (Kd.C_below hr0 hb) hc0 (refCheck_f40 p 41 (Nat.le_refl _)))
  obtain ⟨b, hb⟩ := conf_f p q
  have H34 := Aside0.mk (fun W (hb0 : Below w.heap.size w W) => pattern_Conforms.calls A0 c0 p A1 c1 q _ _ W (Kd.C_below hr0 hb0) hc0 (Kd.C_below hr1 hb0) hc1 hb)
  have H35 := Aside0.mk (fun W (hb0 : Below w.heap.size w W) => mjolnerref09_Conforms.calls 41 A0 c0 p A1 c1 q _ _ W (Kd.C_below hr0 hb0) hc0 (Kd.C_below hr1 hb0) hc1 (by rw [refConforms_f]; exact hb))
  have H31 := Aside0.mk (com_got hr0 hc0 hr1 hc1)
  have H36 := Aside0.mk (refCom_got hr0 hc0 hr1 hc1)
  have H32 := Aside0.mk (ext_got hr0 hc0 hr1 hc1)
  have H37 := Aside0.mk (refExt_got hr0 hc0 hr1 hc1)
  obtain ⟨nn, nz, hn⟩ := needs_f p q
  have H26 := Aside0.mk (fun W (hb0 : Below w.heap.size w W) => pattern_Needs.calls A0 c0 p A1 c1 q _ _ W (Kd.C_below hr0 hb0) hc0 (Kd.C_below hr1 hb0) hc1 hn)
  have H38 := Aside0.mk (fun W (hb0 : Below w.heap.size w W) => mjolnerref09_Needs.calls 41 A0 c0 p A1 c1 q _ _ W (Kd.C_below hr0 hb0) hc0 (Kd.C_below hr1 hb0) hc1 (by rw [refNeeds_f]; exact hn))
  have HL1 := Aside0.mk (com_len p q)
  have HL2 := Aside0.mk (ext_len p q)
  clear hb hn hG hr0 hr1
  generalize checkL p = zc at H23 H33
  generalize validL [p, q] = zv at H34 H35 H31 H36
  generalize comL p q = lc at H31 H36 HL1
  generalize extL p q = le at H32 H37 HL2
  obtain ⟨le1, le2⟩ := le
  dsimp only at H32 H37 HL2
  go_enter Tryd.func13, Tryd.ntmps13
  go_wp2_with (first
    | (go_at_call 19; (with_reducible refine HA.out.mono ?_); rintro e w1 ⟨rfl, hb1⟩; have HB1 := Aside0.mk hb1; clear hb1)
    | (go_at_call 23; (with_reducible refine (H23.out _ HB1.out).mono ?_); rintro e w2 ⟨rfl, hb⟩; have HB2 := Aside0.mk (HB1.out.trans (hb.mono HB1.out.size)); clear hb)
    | (go_at_call 33; (with_reducible refine (H33.out _ HB2.out).mono ?_); rintro e w3 ⟨rfl, hb⟩; have HB3 := Aside0.mk (HB2.out.trans (hb.mono HB2.out.size)); clear hb)
    | (go_at_call 34; (with_reducible refine (H34.out _ HB3.out).mono ?_); rintro e w4 ⟨rfl, hb⟩; have HB4 := Aside0.mk (HB3.out.trans (hb.mono HB3.out.size)); clear hb)
    | (go_at_call 35; (with_reducible refine (H35.out _ HB4.out).mono ?_); rintro e w5 ⟨rfl, hb⟩; have HB5 := Aside0.mk (HB4.out.trans (hb.mono HB4.out.size)); clear hb)
    | (go_at_call 31; (with_reducible refine (H31.out _ HB5.out).mono ?_); rintro e w6 ⟨B6, d6, rfl, hd6, hC6, hb⟩; have HB6 := Aside0.mk (HB5.out.trans (hb.mono HB5.out.size)); have HC6 := Aside0.mk hC6; have HD6 := Aside0.mk hd6; clear hb hC6 hd6)
    | (go_at_call 36; (with_reducible refine (H36.out _ HB6.out).mono ?_); rintro e w7 ⟨B7, d7, rfl, hd7, hC7, hb⟩; have HB7 := Aside0.mk (HB6.out.trans (hb.mono HB6.out.size)); have HS7 := Aside0.mk (same_calls B6 d6 B7 d7 lc.length lc w7 (by have := HL1.out; omega) rfl (Kd.C_below HC6.out hb) HD6.out hC7 hd7); clear hb hC7 hd7)
    | (go_at_call 22; (with_reducible refine HS7.out.mono ?_); rintro e w8 ⟨rfl, hb⟩; have HB8 := Aside0.mk (HB7.out.trans (hb.mono HB7.out.size)); clear hb)
    | (go_at_call 32; (with_reducible refine (H32.out _ HB8.out).mono ?_); rintro e w9 ⟨B9, d9, rfl, hd9, hC9, hb⟩; have HB9 := Aside0.mk (HB8.out.trans (hb.mono HB8.out.size)); have HC9 := Aside0.mk hC9; have HD9 := Aside0.mk hd9; clear hb hC9 hd9)
    | (go_at_call 37; (with_reducible refine (H37.out _ HB9.out).mono ?_); rintro e w10 ⟨B10, d10, rfl, hd10, hC10, hb⟩; have HB10 := Aside0.mk (HB9.out.trans (hb.mono HB9.out.size)); have HC10 := Aside0.mk hC10; have HD10 := Aside0.mk hd10; have HC11 := Aside0.mk (Kd.C_below HC9.out hb); clear hb hC10 hd10)
    | (go_at_call 26; (with_reducible refine (H26.out _ HB10.out).mono ?_); rintro e w11 ⟨rfl, hb⟩; have HB11 := Aside0.mk (HB10.out.trans (hb.mono HB10.out.size)); have HC12 := Aside0.mk (Kd.C_below HC10.out hb); have HC13 := Aside0.mk (Kd.C_below HC11.out hb); clear hb)
    | (go_at_call 38; (with_reducible refine (H38.out _ HB11.out).mono ?_); rintro e w12 ⟨rfl, hb⟩; have HB12 := Aside0.mk (HB11.out.trans (hb.mono HB11.out.size)); have HS12 := Aside0.mk (same_calls B9 d9 B10 d10 le1.length le1 w12 (by have := HL2.out; omega) rfl (Kd.C_below HC13.out hb) HD9.out (Kd.C_below HC12.out hb) HD10.out); clear hb)
    | (go_at_call 22; (with_reducible refine HS12.out.mono ?_); rintro e w13 ⟨rfl, hb⟩; have HB13 := Aside0.mk (HB12.out.trans (hb.mono HB12.out.size)); clear hb))
  go_ret
  exact ⟨rfl, HB13.out⟩
/-- for the card: the law's function, true everywhere -/
def mjolnerlaw09_PatternOrders.f (k : Nat) (p q : List S31) : Option Bool := some true
theorem mjolnerlaw09_PatternOrders.calls (k : Nat) (A0 : Option Addr) (c0 : Nat) (l0 : List S31) (A1 : Option Addr) (c1 : Nat) (l1 : List S31) (r : Bool) (w : World) (hG : LaidG w) (hr0 : Kd.C k31 w A0 l0.length l0) (hc0 : l0.length ≤ c0) (hr1 : Kd.C k31 w A1 l1.length l1) (hc1 : l1.length ≤ c1) (h : mjolnerlaw09_PatternOrders.f k l0 l1 = some r) :
    Calls Tryd.prog 13 #[.slice A0 l0.length c0, .slice A1 l1.length c1] w fun e w' => e = .returned (.bool r) ∧ Below w.heap.size w w' := by
  obtain rfl : true = r := Option.some.inj h
  exact orders_true A0 c0 l0 A1 c1 l1 w hG hr0 hc0 hr1 hc1
theorem PatternOrders_law (p q : List S31) (_ : p.all inI3 = true) (_ : q.all inI3 = true) : ∃ k, mjolnerlaw09_PatternOrders.f k p q = some true := ⟨0, rfl⟩
end Go.Proofs.YtgkebfeggekkgaaDoor.Given
end
section
/- Plain: what valid bindings make is valid. -/
set_option linter.unusedVariables false
set_option linter.unusedSimpArgs false
namespace Go.Proofs.YtgkebfeggekkgaaDoor.Given
open Go.RowKit Go.Proofs.YtgkebfeggekkgaaDoor.PT Go.Proofs.YtgkebfeggekkgaaDoorW.PrintWords

theorem check_both {p q : List S31} (hp : checkL p = 0) (hq : checkL q = 0) (hl : p.length + q.length ≤ 40) : checkL (p ++ q) = 0 := by
  have h1 := checkL_small hp
  have h2 := checkL_small hq
  unfold checkL at hp hq ⊢
  rw [if_neg (by omega)] at hp hq
  rw [if_neg (by rw [List.length_append]; omega), List.all_append]
  split at hp
  · rename_i a
    split at hq
    · rename_i b
      rw [a, b]
      rfl
    · cases hq
  · cases hp
theorem step_valid : ∀ (r : List S34) (out : List S31) (fin : Bool) (n : Int) (p : List S31) (N : Int), checkL out = 0 → (∀ b ∈ r, checkL b.f3 = 0) → stepL out fin n r = (0, p, N) → checkL p = 0
  | [], out, fin, n, p, N, ho, _, h => by
    rw [stepL] at h
    cases h
    exact ho
  | b :: r, out, fin, n, p, N, ho, hr, h => by
    have hb := hr b (List.mem_cons_self ..)
    have hr' : ∀ c ∈ r, checkL c.f3 = 0 := fun c hc => hr c (List.mem_cons_of_mem _ hc)
    rw [stepL] at h
    by_cases c1 : b.f1 = 2
    · rw [if_pos c1] at h
      cases h
      exact ho
    · rw [if_neg c1] at h
      by_cases c2 : fin = true
      · rw [if_pos c2] at h
        cases h
      · rw [if_neg c2] at h
        by_cases c3 : b.f2 = true
        · rw [if_pos c3] at h
          by_cases c4 : out.length + b.f3.length ≤ 40
          · rw [if_pos c4] at h
            exact step_valid r _ _ _ p N (check_both ho hb c4) hr' h
          · rw [if_neg c4] at h
            cases h
        · rw [if_neg c3] at h
          by_cases c4 : conformsB b.f3 out = true
          · rw [if_pos c4] at h
            exact step_valid r _ _ _ p N hb hr' h
          · rw [if_neg c4] at h
            cases h
end Go.Proofs.YtgkebfeggekkgaaDoor.Given
end
section
/- The contracts of the reference's bindings, next and Furthest; and that they are those of the program. -/
set_option linter.unusedVariables false
set_option linter.unusedSimpArgs false
namespace Go.Proofs.YtgkebfeggekkgaaDoor.Given
open Go.RowKit Go.Proofs.YtgkebfeggekkgaaDoor.PT Go.Proofs.YtgkebfeggekkgaaDoorW.PrintWords Go.Proofs.YtgkebfeggekkgaaDoorW.PrintLast Go.Proofs.YtgkebfeggekkgaaDoorW.PrintMore

theorem refBind_loop (l : List S34) (hl : l.length ≤ 9223372036854775806) : ∀ (d i k : Nat) (last : Int), i + d = l.length → d + 41 < k → mjolnerref09_bindings.l0 k l last (i : Int) = some (bindL last (l.drop i)) := by
  intro d
  induction d with
  | zero =>
    intro i k last hi hk
    obtain ⟨k, rfl⟩ : ∃ m, k = m + 1 := ⟨k - 1, by omega⟩
    rw [mjolnerref09_bindings.l0, if_neg (by omega), List.drop_of_length_le (by omega), bindL]
  | succ d ih =>
    intro i k last hi hk
    obtain ⟨k, rfl⟩ : ∃ m, k = m + 1 := ⟨k - 1, by omega⟩
    have hil : i < l.length := by omega
    have hw : wrap64 ((i : Int) + 1) = ((i + 1 : Nat) : Int) := w64 (by omega) (by omega)
    rw [mjolnerref09_bindings.l0, if_pos (by omega), if_pos (by omega), rd34 l i hil, hw, refCheck_f40 _ k (by omega), Option.bind_some, List.drop_eq_getElem_cons hil, bindL]
    have h := fun x => ih (i + 1) k x (by omega) (by omega)
    generalize l[i] = b at h ⊢
    rw [h]
    by_cases hc : checkL b.f3 = 0
    · rw [if_pos hc, if_pos hc]
      unfold badB
      by_cases q0 : b.f0 ≤ last
      · rw [if_pos q0, decide_eq_true q0]
        rfl
      · rw [if_neg q0, decide_eq_false q0]
        by_cases q2 : b.f1 < 2
        · rw [if_pos q2, decide_eq_false (show ¬ b.f1 = 2 by omega), decide_eq_false (show ¬ b.f1 = 3 by omega), decide_eq_false (show ¬ b.f1 = 4 by omega)]
          rfl
        · rw [if_neg q2]
          by_cases q4 : b.f1 > 4
          · rw [if_pos q4, decide_eq_false (show ¬ b.f1 = 2 by omega), decide_eq_false (show ¬ b.f1 = 3 by omega), decide_eq_false (show ¬ b.f1 = 4 by omega)]
            rfl
          · rw [if_neg q4]
            have e : (!decide (b.f1 = 2) && !decide (b.f1 = 3) && !decide (b.f1 = 4)) = false := by
              by_cases a2 : b.f1 = 2
              · rw [decide_eq_true a2]; rfl
              · by_cases a3 : b.f1 = 3
                · rw [decide_eq_true a3, decide_eq_false a2]; rfl
                · rw [decide_eq_true (show b.f1 = 4 by omega), decide_eq_false a2, decide_eq_false a3]; rfl
            rw [e]
            cases b.f2 with
            | false => rfl
            | true =>
              rw [if_pos rfl]
              by_cases ql : b.f3.length = 1
              · rw [if_pos (show (b.f3.length : Int) = 1 by omega), decide_eq_true ql]
                rfl
              · rw [if_neg (show ¬ (b.f3.length : Int) = 1 by omega), decide_eq_false ql]
                rfl
    · rw [if_neg hc, if_neg hc]
theorem refBind_f (l : List S34) (hl : l.length ≤ 9223372036854775806) : mjolnerref09_bindings.f (l.length + 42) l = some (bindL (-1) l) := by
  have := refBind_loop l hl l.length 0 (l.length + 42) (-1) (by omega) (by omega)
  rw [List.drop_zero] at this
  exact this
/-- what a binding makes of the pattern so far -/
def nextF (o : List S31) (own : Bool) (f3 : List S31) : List S31 × Int :=
  if own = true then (if o.length = 40 then ([], 2) else (o ++ f3, 0)) else if conformsB f3 o = true then (f3, 0) else ([], 9)
set_option maxRecDepth 100000 in
set_option maxHeartbeats 1000000 in
theorem next_calls (A0 : Option Addr) (c0 : Nat) (o : List S31) (f0 f1 : Int) (f2 : Bool) (A3 : Option Addr) (c3 : Nat) (f3 : List S31) (w : World) (hr0 : Kd.C k31 w A0 o.length o) (hc0 : o.length ≤ c0) (hr3 : Kd.C k31 w A3 f3.length f3) (hc3 : f3.length ≤ c3)
    (ho : checkL o = 0) (h3 : f3.length ≤ 40) : Calls Tryd.prog 56 #[.slice A0 o.length c0, .agg #[.int .i64 f0, .int .i64 f1, .bool f2, .slice A3 f3.length c3]] w (GotL w (nextF o f2 f3).1 (nextF o f2 f3).2) := by
  have hu34 := Tryd.underlying34
  have ho40 := checkL_small ho
  have hb1 : Below w.heap.size w (w.alloc (.cells #[.int .i64 f0, .int .i64 f1, .bool f2, .slice A3 f3.length c3] 34)) := (Below.refl _ _).alloc (Nat.le_refl _) _
  have HB := Aside0.mk hb1
  have HBg := Aside0.mk (mjolnerref09_Begins.calls 41 A3 c3 f3 A0 c0 o _ (w.alloc (.cells #[.int .i64 f0, .int .i64 f1, .bool f2, .slice A3 f3.length c3] 34)) (Kd.C_below hr3 hb1) hc3 (Kd.C_below hr0 hb1) hc0 (refBegins f3 o ho))
  have HBo := Aside0.mk (mjolnerref09_Both.calls A0 c0 o A3 c3 f3 _ (w.alloc (.cells #[.int .i64 f0, .int .i64 f1, .bool f2, .slice A3 f3.length c3] 34)) (Kd.C_below hr0 hb1) hc0 (Kd.C_below hr3 hb1) hc3 (refBoth_f o f3 ho40 (by omega)))
  have HR3 := Aside0.mk (Kd.C_below hr3 hb1)
  have hsz : w.heap.size ≤ (w.alloc (.cells #[.int .i64 f0, .int .i64 f1, .bool f2, .slice A3 f3.length c3] 34)).heap.size := by simp
  have HSZ := Aside0.mk hsz
  have HC3 := Aside0.mk hc3
  clear hb1 hr0 hr3 hsz h3
  cases f2 with
  | true =>
    by_cases h40 : o.length = 40
    · have e : nextF o true f3 = ([], 2) := by unfold nextF; rw [if_pos rfl, if_pos h40]
      have k1 : ((o.length : Int) == 40) = true := by rw [h40]; rfl
      have k2 : (o.length == 40) = true := by rw [h40]; rfl
      have k3 : decide (o.length = 40) = true := decide_eq_true h40
      rw [e]
      clear h40 e HBg HBo
      go_enter Tryd.func56, Tryd.ntmps56
      go_wp2
      go_ret2
      exact ⟨none, 0, rfl, Nat.le_refl _, Kd.C_nil _ _, HB.out⟩
    · have e : nextF o true f3 = (o ++ f3, 0) := by unfold nextF; rw [if_pos rfl, if_neg h40]
      have k1 : ((o.length : Int) == 40) = false := by rw [beq_eq_false_iff_ne]; omega
      have k2 : (o.length == 40) = false := by rw [beq_eq_false_iff_ne]; omega
      have k3 : decide (o.length = 40) = false := decide_eq_false h40
      rw [e]
      clear h40 e HBg
      generalize o ++ f3 = oo at HBo ⊢
      go_enter Tryd.func56, Tryd.ntmps56
      go_wp2_with (first | (go_at_call 72; (with_reducible refine HBo.out.mono ?_); rintro e w1 ⟨v, rfl, hR, hb⟩; obtain ⟨A5, c5, rfl, hc5, hC5⟩ := Kd.R_reads hR; have HC5 := Aside0.mk hC5; have HD5 := Aside0.mk hc5; have HB5 := Aside0.mk hb; clear hC5 hc5 hb hR))
      go_ret2
      exact ⟨_, _, rfl, HD5.out, HC5.out, HB.out.trans (HB5.out.mono HSZ.out)⟩
  | false =>
    cases hcf : conformsB f3 o with
    | true =>
      have e : nextF o false f3 = (f3, 0) := by unfold nextF; rw [if_neg (by decide), if_pos hcf]
      rw [hcf] at HBg
      rw [e]
      clear hcf e HBo
      go_enter Tryd.func56, Tryd.ntmps56
      go_wp2_with (first | (go_at_call 71; (with_reducible refine HBg.out.mono ?_); rintro e w1 ⟨rfl, hd⟩; have HB1 := Aside0.mk hd.below; have e0 := (bcell hd.below (b := w.heap.size) (o := 3) (by simp)).trans (show _ = some (.slice A3 f3.length c3) by simp [go_sem]); clear hd))
      go_ret2
      exact ⟨_, _, rfl, HC3.out, Kd.C_below HR3.out HB1.out, HB.out.trans (HB1.out.mono HSZ.out)⟩
    | false =>
      have e : nextF o false f3 = ([], 9) := by unfold nextF; rw [if_neg (by decide), if_neg (by rw [hcf]; decide)]
      rw [hcf] at HBg
      rw [e]
      clear hcf e HBo
      go_enter Tryd.func56, Tryd.ntmps56
      go_wp2_with (first | (go_at_call 71; (with_reducible refine HBg.out.mono ?_); rintro e w1 ⟨rfl, hd⟩; have HB1 := Aside0.mk hd.below; clear hd))
      go_ret2
      exact ⟨none, 0, rfl, Nat.le_refl _, Kd.C_nil _ _, HB.out.trans (HB1.out.mono HSZ.out)⟩
end Go.Proofs.YtgkebfeggekkgaaDoor.Given
end
