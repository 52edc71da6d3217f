/- Plain: what one binding more behind bindings does to the furthest one (the law of PatternBound). -/
import Derived.Test.YtgkebfeggekkgaaDoorJ11
import Derived.Test.YtgkebfeggekkgaaDoorNb
section
set_option linter.unusedVariables false
set_option linter.unusedSimpArgs false
set_option linter.unusedSectionVars false
namespace Go.Proofs.YtgkebfeggekkgaaDoor.Given
open Go.RowKit Go.Proofs.YtgkebfeggekkgaaDoor.PT Go.Proofs.YtgkebfeggekkgaaDoorW.PrintWords

/-- where the last binding stands -/
def lastB (last : Int) : List S34 → Int
  | [] => last
  | b :: r => lastB b.f0 r
/-- whether the last one was final -/
def lastF (fin : Bool) : List S34 → Bool
  | [] => fin
  | b :: r => lastF (decide (b.f1 = 4)) r
theorem lastB_get : ∀ (l : List S34) (last : Int) (h : l.length - 1 < l.length), lastB last l = l[l.length - 1].f0
  | [], last, h => by simp at h
  | [b], last, h => rfl
  | b :: c :: r, last, h => by
    show lastB b.f0 (c :: r) = _
    rw [lastB_get (c :: r) b.f0 (by simp)]
    simp
theorem lastF_get : ∀ (l : List S34) (fin : Bool) (h : l.length - 1 < l.length), lastF fin l = decide (l[l.length - 1].f1 = 4)
  | [], fin, h => by simp at h
  | [b], fin, h => rfl
  | b :: c :: r, fin, h => by
    show lastF (decide (b.f1 = 4)) (c :: r) = _
    rw [lastF_get (c :: r) _ (by simp)]
    simp
theorem lastF_app : ∀ (a : List S34) (b : S34) (r : List S34) (fin : Bool), lastF fin (a ++ b :: r) = lastF (decide (b.f1 = 4)) r
  | [], b, r, fin => rfl
  | x :: a, b, r, fin => by
    show lastF (decide (x.f1 = 4)) (a ++ b :: r) = _
    exact lastF_app a b r _
theorem bind_mono : ∀ (l : List S34) (last : Int), bindL last l = 0 → last ≤ lastB last l ∧ ∀ b ∈ l, b.f0 ≤ lastB last l
  | [], last, _ => ⟨Int.le_refl _, fun b hb => by simp at hb⟩
  | x :: r, last, h => by
    rw [bindL] at h
    split at h
    · split at h
      · cases h
      · rename_i hb
        obtain ⟨h1, h2⟩ := bind_mono r x.f0 h
        have h3 : last < x.f0 := by
          rcases Int.lt_or_le last x.f0 with h4 | h4
          · exact h4
          · exfalso
            apply hb
            unfold badB
            rw [decide_eq_true h4]
            rfl
        refine ⟨?_, fun b hb => ?_⟩
        · show last ≤ lastB x.f0 r
          omega
        · show b.f0 ≤ lastB x.f0 r
          rcases List.mem_cons.1 hb with rfl | hb
          · exact h1
          · exact h2 b hb
    · rename_i hx
      exact absurd h hx
theorem bind_snoc (z : S34) (hz : checkL z.f3 = 0) : ∀ (l : List S34) (last : Int), bindL last l = 0 → badB (lastB last l) z = false → bindL last (l ++ [z]) = 0
  | [], last, _, hb => by
    show bindL last [z] = 0
    rw [bind_ok hz (show badB last z = false from hb)]
    rfl
  | x :: r, last, h, hb => by
    show bindL last (x :: (r ++ [z])) = 0
    rw [bindL] at h ⊢
    split at h
    · rename_i hx
      rw [if_pos hx]
      split at h
      · cases h
      · rename_i hn
        rw [if_neg hn]
        exact bind_snoc z hz r x.f0 h hb
    · rename_i hx
      exact absurd h hx
theorem first_app (at' : Int) : ∀ (a b : List S34) (i f : Int), firstL at' (a ++ b) i f = firstL at' b (i + a.length) (firstL at' a i f)
  | [], b, i, f => by simp [firstL]
  | x :: a, b, i, f => by
    show firstL at' (a ++ b) (i + 1) (if x.f0 ≤ at' ∧ x.f1 = 2 then i else f) = firstL at' b (i + (a.length + 1 : Nat)) (firstL at' a (i + 1) (if x.f0 ≤ at' ∧ x.f1 = 2 then i else f))
    rw [first_app at' a b, show i + 1 + (a.length : Int) = i + (a.length + 1 : Nat) by omega]
theorem first_congr (s t : Int) : ∀ (l : List S34) (i f : Int), (∀ b ∈ l, b.f1 = 2 → (b.f0 ≤ s ↔ b.f0 ≤ t)) → firstL s l i f = firstL t l i f
  | [], _, _, _ => rfl
  | b :: r, i, f, h => by
    show firstL s r (i + 1) (if b.f0 ≤ s ∧ b.f1 = 2 then i else f) = firstL t r (i + 1) (if b.f0 ≤ t ∧ b.f1 = 2 then i else f)
    have e : (if b.f0 ≤ s ∧ b.f1 = 2 then i else f) = (if b.f0 ≤ t ∧ b.f1 = 2 then i else f) := by
      by_cases h2 : b.f1 = 2
      · have := h b (List.mem_cons_self ..) h2
        by_cases h3 : b.f0 ≤ s
        · rw [if_pos ⟨h3, h2⟩, if_pos ⟨this.1 h3, h2⟩]
        · rw [if_neg (fun h => h3 h.1), if_neg (fun h => h3 (this.2 h.1))]
      · rw [if_neg (fun h => h2 h.2), if_neg (fun h => h2 h.2)]
    rw [e]
    exact first_congr s t r _ _ fun b hb => h b (List.mem_cons_of_mem _ hb)
theorem step_virt (z : S34) (hz : z.f1 = 2) : ∀ (r : List S34) (out : List S31) (fin : Bool) (n : Int), stepL out fin n (r ++ [z]) = stepL out fin n r
  | [], out, fin, n => by
    have h0 : stepL out fin n ([] : List S34) = (0, out, n) := by rw [stepL]
    show stepL out fin n [z] = stepL out fin n []
    rw [h0, stepL, if_pos hz]
  | b :: r, out, fin, n => by
    show stepL out fin n (b :: (r ++ [z])) = _
    rw [stepL, stepL, step_virt z hz r, step_virt z hz r]
theorem step_app (s : List S34) : ∀ (r : List S34) (out : List S31) (fin : Bool) (n : Int) (p : List S31) (m : Int), stepL out fin n r = (0, p, m) → (∀ b ∈ r, ¬ b.f1 = 2) → stepL out fin n (r ++ s) = stepL p (lastF fin r) m s
  | [], out, fin, n, p, m, h, _ => by
    rw [stepL] at h
    cases h
    rfl
  | b :: r, out, fin, n, p, m, h, hv => by
    show stepL out fin n (b :: (r ++ s)) = stepL p (lastF (decide (b.f1 = 4)) r) m s
    have hr : ∀ c ∈ r, ¬ c.f1 = 2 := fun c hc => hv c (List.mem_cons_of_mem _ hc)
    have h1 := hv b (List.mem_cons_self ..)
    rw [stepL, if_neg h1] at h ⊢
    by_cases c2 : fin = true
    · rw [if_pos c2] at h
      cases h
    · rw [if_neg c2] at h ⊢
      by_cases c3 : b.f2 = true
      · rw [if_pos c3] at h ⊢
        by_cases c4 : out.length + b.f3.length ≤ 40
        · rw [if_pos c4] at h ⊢
          exact step_app s r _ _ _ p m h hr
        · rw [if_neg c4] at h
          cases h
      · rw [if_neg c3] at h ⊢
        by_cases c4 : conformsB b.f3 out = true
        · rw [if_pos c4] at h ⊢
          exact step_app s r _ _ _ p m h hr
        · rw [if_neg c4] at h
          cases h
theorem bound_len {l : List S34} {at' : Int} {p : List S31} {n : Int} (hp : pattern_Furthest.f l at' = some (p, n, 0)) : p.length ≤ 40 := by
  obtain ⟨hz, F, b, r, hf, hd, hs⟩ := fur_ok hp
  exact checkL_small (step_valid r b.f3 false 1 p n (bind_each l _ hz b (List.mem_of_mem_drop (i := F) (by rw [hd]; exact List.mem_cons_self ..))) (fun c hc => bind_each l _ hz c (List.mem_of_mem_drop (i := F) (by rw [hd]; exact List.mem_cons_of_mem _ hc))) hs)
section
variable {l : List S34} {at' : Int} {p : List S31} {n : Int} (hp : pattern_Furthest.f l at' = some (p, n, 0)) (hl : l.length - 1 < l.length) {gap : Int} (hg : 1 ≤ gap) {x : S31} (hx : checkL [x] = 0)
include hp hl hg hx
/-- a new introduction behind: it hides nothing ahead -/
theorem bound_anew (hat : at' ≤ l[l.length - 1].f0) : pattern_Furthest.f (l ++ [⟨l[l.length - 1].f0 + gap, 2, false, [x]⟩]) at' = some (p, n, 0) := by
  obtain ⟨hz, F, b, r, hf, hd, hs⟩ := fur_ok hp
  have hF : F < l.length := by
    rcases Nat.lt_or_ge F l.length with h | h
    · exact h
    · rw [List.drop_of_length_le h] at hd
      cases hd
  refine fur_of (F := F) (b := b) (r := r ++ [⟨l[l.length - 1].f0 + gap, 2, false, [x]⟩]) (bind_snoc _ hx l _ hz ?_) ?_ ?_ ?_
  · rw [lastB_get l _ hl]
    unfold badB
    rw [decide_eq_false (by show ¬ l[l.length - 1].f0 + gap ≤ l[l.length - 1].f0; omega)]
    rfl
  · rw [first_app, hf]
    show (if l[l.length - 1].f0 + gap ≤ at' ∧ (2 : Int) = 2 then (0 : Int) + l.length else (F : Int)) = F
    rw [if_neg (fun h => by omega)]
  · rw [List.drop_append_of_le_length (Nat.le_of_lt hF), hd]
    rfl
  · rw [step_virt _ rfl, hs]
theorem bound_own : pattern_Furthest.f (l ++ [⟨l[l.length - 1].f0 + gap, 2, false, [x]⟩]) (l[l.length - 1].f0 + gap) = some ([x], 1, 0) := by
  obtain ⟨hz, F, b, r, hf, hd, hs⟩ := fur_ok hp
  refine fur_of (F := l.length) (b := ⟨l[l.length - 1].f0 + gap, 2, false, [x]⟩) (r := []) (bind_snoc _ hx l _ hz ?_) ?_ ?_ ?_
  · rw [lastB_get l _ hl]
    unfold badB
    rw [decide_eq_false (by show ¬ l[l.length - 1].f0 + gap ≤ l[l.length - 1].f0; omega)]
    rfl
  · rw [first_app]
    show (if l[l.length - 1].f0 + gap ≤ l[l.length - 1].f0 + gap ∧ (2 : Int) = 2 then (0 : Int) + l.length else _) = _
    rw [if_pos ⟨Int.le_refl _, rfl⟩, Int.zero_add]
  · rw [List.drop_append_of_le_length (Nat.le_refl _), List.drop_length]
    rfl
  · rw [stepL]
/-- seen from the last one, where none is introduced behind the place -/
theorem bound_seen (hat : at' ≤ l[l.length - 1].f0) (hv : ∀ b ∈ l, ¬ (at' < b.f0 ∧ b.f1 = 2)) : pattern_Furthest.f l l[l.length - 1].f0 = some (p, n, 0) := by
  obtain ⟨hz, F, b, r, hf, hd, hs⟩ := fur_ok hp
  have hm := bind_mono l (-1) hz
  rw [lastB_get l _ hl] at hm
  refine fur_of (F := F) hz ?_ hd hs
  rw [← hf]
  exact first_congr _ _ l _ _ fun b hb h2 => ⟨fun h => by
    rcases Int.lt_or_le at' b.f0 with h3 | h3
    · exact absurd ⟨h3, h2⟩ (hv b hb)
    · exact h3, fun h => hm.2 b hb⟩
/-- a further binding behind -/
def moreF (l : List S34) (p : List S31) (n : Int) (x : S31) (h : l.length - 1 < l.length) : List S31 × Int × Int :=
  if l[l.length - 1].f1 = 4 then ([], 0, 4) else if p.length = 40 then ([], 0, 2) else (p ++ [x], n + 1, 0)
theorem bound_more (hat : at' ≤ l[l.length - 1].f0) (hv : ∀ b ∈ l, ¬ (at' < b.f0 ∧ b.f1 = 2)) : pattern_Furthest.f (l ++ [⟨l[l.length - 1].f0 + gap, 3, true, [x]⟩]) at' = some (moreF l p n x hl) := by
  obtain ⟨hz, F, b, r, hf, hd, hs⟩ := fur_ok hp
  have hF : F < l.length := by
    rcases Nat.lt_or_ge F l.length with h | h
    · exact h
    · rw [List.drop_of_length_le h] at hd
      cases hd
  -- behind the first one none is introduced
  have hrv : ∀ c ∈ r, ¬ c.f1 = 2 := by
    intro c hc h2
    have e1 : l = l.take F ++ (b :: r) := by rw [← hd, List.take_append_drop]
    have h3 := hf
    rw [e1, first_app] at h3
    have h4 : firstL at' r (0 + ((l.take F).length : Int) + 1) (if b.f0 ≤ at' ∧ b.f1 = 2 then (0 + ((l.take F).length : Int)) else firstL at' (l.take F) 0 (-1)) = F := h3
    rw [List.length_take, Nat.min_eq_left (Nat.le_of_lt hF)] at h4
    obtain ⟨j, hj, rfl⟩ := List.getElem_of_mem hc
    have hcl : r[j] ∈ l := by rw [e1]; exact List.mem_append_right _ (List.mem_cons_of_mem _ hc)
    refine first_none at' r _ _ (by rw [h4]; omega) j hj h2 ?_
    rcases Int.lt_or_le at' r[j].f0 with h5 | h5
    · exact absurd ⟨h5, h2⟩ (hv _ hcl)
    · exact h5
  have hb2 : b.f1 = 2 := by
    rcases first_at at' l 0 (-1) with h | ⟨k, hk, h, h1, _⟩
    · omega
    · obtain rfl : k = F := by omega
      rw [List.drop_eq_getElem_cons hk] at hd
      cases hd
      exact h1
  have hlf : lastF false r = decide (l[l.length - 1].f1 = 4) := by
    rw [← lastF_get l false hl]
    have e1 : l = l.take F ++ (b :: r) := by rw [← hd, List.take_append_drop]
    conv => rhs; rw [e1]
    rw [lastF_app, hb2]
    rfl
  have hz' : bindL (-1) (l ++ [⟨l[l.length - 1].f0 + gap, 3, true, [x]⟩]) = 0 := by
    refine bind_snoc _ hx l _ hz ?_
    rw [lastB_get l _ hl]
    unfold badB
    rw [decide_eq_false (by show ¬ l[l.length - 1].f0 + gap ≤ l[l.length - 1].f0; omega)]
    rfl
  have hf' : firstL at' (l ++ [⟨l[l.length - 1].f0 + gap, 3, true, [x]⟩]) 0 (-1) = F := by
    rw [first_app, hf]
    show (if l[l.length - 1].f0 + gap ≤ at' ∧ (3 : Int) = 2 then (0 : Int) + l.length else (F : Int)) = F
    rw [if_neg (fun h => by omega)]
  have hd' : (l ++ [(⟨l[l.length - 1].f0 + gap, 3, true, [x]⟩ : S34)]).drop F = b :: (r ++ [⟨l[l.length - 1].f0 + gap, 3, true, [x]⟩]) := by
    rw [List.drop_append_of_le_length (Nat.le_of_lt hF), hd]
    rfl
  unfold pattern_Furthest.f
  rw [if_pos hz', if_neg (by omega), hf', Int.toNat_natCast, hd']
  dsimp only
  rw [step_app _ r _ _ _ p n hs hrv, hlf, stepL, if_neg (show ¬ (3 : Int) = 2 by decide)]
  have h40 : p.length ≤ 40 := bound_len hp
  unfold moreF
  by_cases h4 : l[l.length - 1].f1 = 4
  · rw [decide_eq_true h4, if_pos rfl, if_pos h4]
  · rw [decide_eq_false h4, if_neg (by decide), if_neg h4, if_pos rfl]
    by_cases h5 : p.length = 40
    · rw [if_pos h5, if_neg (by show ¬ p.length + 1 ≤ 40; omega)]
    · rw [if_neg h5, if_pos (by show p.length + 1 ≤ 40; omega), stepL]
end
end Go.Proofs.YtgkebfeggekkgaaDoor.Given
end
section
/- PatternBinds, walked: it answers true. -/
set_option linter.unusedVariables false
set_option linter.unusedSimpArgs false
namespace Go.Proofs.YtgkebfeggekkgaaDoor.Given
open Go.RowKit Go.Proofs.YtgkebfeggekkgaaDoor.PT Go.Proofs.YtgkebfeggekkgaaDoorW.PrintWords Go.Proofs.YtgkebfeggekkgaaDoorW.PrintLast Go.Proofs.YtgkebfeggekkgaaDoorW.PrintMore

theorem step_err : ∀ (r : List S34) (o : List S31) (fin : Bool) (n : Int), (stepL o fin n r).1 = 0 ∨ (stepL o fin n r).2.1 = []
  | [], o, fin, n => by
    rw [stepL]
    exact .inl rfl
  | b :: r, o, fin, n => by
    rw [stepL]
    split
    · exact .inl rfl
    · split
      · exact .inr rfl
      · split
        · split
          · exact step_err r _ _ _
          · exact .inr rfl
        · split
          · exact step_err r _ _ _
          · exact .inr rfl
theorem fur_len {l : List S34} {at' : Int} {p : List S31} {n z : Int} (h : pattern_Furthest.f l at' = some (p, n, z)) : z = 0 ∨ p = [] := by
  unfold pattern_Furthest.f at h
  by_cases hz : bindL (-1) l = 0
  · rw [if_pos hz] at h
    by_cases hf : firstL at' l 0 (-1) < 0
    · rw [if_pos hf] at h
      simp only [Option.some.injEq, Prod.mk.injEq] at h
      exact .inr h.1.symm
    · rw [if_neg hf] at h
      cases hd : l.drop (firstL at' l 0 (-1)).toNat with
      | nil => rw [hd] at h; cases h
      | cons b r =>
        rw [hd] at h
        simp only [Option.some.injEq, Prod.mk.injEq] at h
        obtain ⟨rfl, rfl, rfl⟩ := h
        exact step_err r _ _ _
  · rw [if_neg hz] at h
    simp only [Option.some.injEq, Prod.mk.injEq] at h
    exact .inr h.1.symm
theorem fur_small {l : List S34} {at' : Int} {p : List S31} {n z : Int} (h : pattern_Furthest.f l at' = some (p, n, z)) : p.length ≤ 40 := by
  rcases fur_len h with rfl | rfl
  · exact bound_len h
  · simp
set_option maxRecDepth 100000 in
set_option maxHeartbeats 1000000 in
theorem binds_true (A : Option Addr) (c : Nat) (ls : List S34) (at' : Int) (w : World) (hG : LaidG w) (hr : Kd.C k34 w A ls.length ls) (hc : ls.length ≤ c) (hl : ls.length ≤ 1048576) :
    Calls Tryd.prog 3 #[.slice A ls.length c, .int .i64 at'] w fun e w' => e = .returned (.bool true) ∧ Below w.heap.size w w' := by
  obtain ⟨⟨p, n, z⟩, hp⟩ : ∃ r, pattern_Furthest.f ls at' = some r := Option.ne_none_iff_exists'.1 (fur_some ls at')
  have HA : Aside0 (Calls Tryd.prog 19 #[] w fun e w' => e = .returned (.bool true) ∧ Below w.heap.size w w') := ⟨mjolnerlaw09_awake.calls true w hG rfl⟩
  have H20 := Aside0.mk (fun W (hW : Below w.heap.size w W) => fur_got A c ls at' W (Kd.C_below hr hW) hc p n z hp)
  have H21 := Aside0.mk (fun W (hW : Below w.heap.size w W) => refFur_got A c ls at' W (Kd.C_below hr hW) hc hl p n z hp)
  have HL := Aside0.mk (fur_small hp)
  clear hr hG hp
  go_enter Tryd.func3, Tryd.ntmps3
  go_wp2_with (first
    | (go_at_call 19; (with_reducible refine HA.out.mono ?_); rintro e w1 ⟨rfl, hb1⟩; have HB1 := Aside0.mk hb1; clear hb1)
    | (go_at_call 20; (with_reducible refine (H20.out _ HB1.out).mono ?_); rintro e w2 ⟨B2, d2, rfl, hd2, hC2, hb⟩; have HB2 := Aside0.mk (HB1.out.trans (hb.mono HB1.out.size)); have HC2 := Aside0.mk hC2; have HD2 := Aside0.mk hd2; clear hb hC2 hd2)
    | (go_at_call 21; (with_reducible refine (H21.out _ HB2.out).mono ?_); rintro e w3 ⟨B3, d3, rfl, hd3, hC3, hb⟩; have HB3 := Aside0.mk (HB2.out.trans (hb.mono HB2.out.size)); have HS3 := Aside0.mk (same_calls B2 d2 B3 d3 p.length p w3 (by have := HL.out; omega) rfl (Kd.C_below HC2.out hb) HD2.out hC3 hd3); clear hb hC3 hd3)
    | (go_at_call 22; (with_reducible refine HS3.out.mono ?_); rintro e w4 ⟨rfl, hb⟩; have HB4 := Aside0.mk (HB3.out.trans (hb.mono HB3.out.size)); clear hb))
  go_ret
  exact ⟨rfl, HB4.out⟩
def mjolnerlaw09_PatternBinds.f (k : Nat) (ls : List S34) (at' : Int) : Option Bool := if ls.length ≤ 1048576 then some true else none
theorem mjolnerlaw09_PatternBinds.calls (k : Nat) (A0 : Option Addr) (c0 : Nat) (l0 : List S34) (a1 : Int) (r : Bool) (w : World) (hG : LaidG w) (hr0 : Kd.C k34 w A0 l0.length l0) (hc0 : l0.length ≤ c0) (h : mjolnerlaw09_PatternBinds.f k l0 a1 = some r) :
    Calls Tryd.prog 3 #[.slice A0 l0.length c0, .int .i64 a1] w fun e w' => e = .returned (.bool r) ∧ Below w.heap.size w w' := by
  unfold mjolnerlaw09_PatternBinds.f at h
  split at h
  · rename_i hs
    obtain rfl : true = r := Option.some.inj h
    exact binds_true A0 c0 l0 a1 w hG hr0 hc0 hs
  · cases h
theorem PatternBinds_law (ls : List S34) (a : Int) (hl : ls.length ≤ 1048576) (_ : ∀ b ∈ ls, b.f3.all inI3 = true ∧ inI b.f0 = true ∧ inI b.f1 = true ∧ b.f3.length ≤ 1048576) : ∃ k, mjolnerlaw09_PatternBinds.f k ls a = some true := ⟨0, if_pos hl⟩
end Go.Proofs.YtgkebfeggekkgaaDoor.Given
end
