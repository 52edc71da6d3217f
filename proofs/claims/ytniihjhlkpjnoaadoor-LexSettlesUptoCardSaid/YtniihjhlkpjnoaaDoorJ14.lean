-- Out of this text a program of mine (wip/slim.py) took what this claim does not use.
/- Plain: tokens read alone, two that stand side by side, printed ones, veiled ones, and those ahead of a change. -/
import Derived.Test.YtniihjhlkpjnoaaDoorJ13
section
set_option linter.unusedVariables false
set_option linter.unusedSimpArgs false
namespace Go.Proofs.YtniihjhlkpjnoaaDoor.Given
theorem itm_len {t : List UInt8} (h0 : t ≠ []) (hb : classL t ≠ 6) (he : cE (itm t) = 0) : 1 ≤ cLen (itm t) ∧ cLen (itm t) ≤ t.length := item_len t h0 he hb
theorem rd_mem {t : List UInt8} {a : Nat} {m : Int} {xs : List (Nat × Core)} (h : Rd t a m xs) : ∀ p ∈ xs, a ≤ p.1 ∧ p.1 + cLen p.2 ≤ a + t.length ∧ 1 ≤ cLen p.2 ∧ t.drop (p.1 - a) ≠ [] ∧ classL (t.drop (p.1 - a)) ≠ 6 ∧ itm (t.drop (p.1 - a)) = p.2 ∧ cE p.2 = 0 := by
 induction h with
 | nil a m => exact fun p hp => by cases hp
 | blank c r a m xs hb h ih =>
  intro p hp
  obtain ⟨h1, h2, h3, h4, h5, h6, h7⟩ := ih p hp
  have e : p.1 - a = (p.1 - (a + 1)) + 1 := by omega
  rw [e, List.drop_succ_cons, List.length_cons]
  exact ⟨by omega, by omega, h3, h4, h5, h6, h7⟩
 | item t a m xs h0 hb ho he h ih =>
  obtain ⟨g1, g2⟩ := itm_len h0 hb he
  intro p hp
  rcases List.mem_cons.1 hp with rfl | hp
  ·have e : a - a = 0 := by omega
   refine ⟨by omega, ?_, g1, ?_⟩
   ·show a + cLen (itm t) ≤ _
    omega
   ·show t.drop (a - a) ≠ [] ∧ _
    rw [e, List.drop_zero]
    exact ⟨h0, hb, rfl, he⟩
  ·obtain ⟨h1, h2, h3, h4, h5, h6, h7⟩ := ih p hp
   rw [List.length_drop] at h2
   have e : p.1 - a = cLen (itm t) + (p.1 - (a + cLen (itm t))) := by omega
   rw [List.drop_drop] at h4 h5 h6
   rw [e]
   exact ⟨by omega, by omega, h3, h4, h5, h6, h7⟩
theorem rd_order {t : List UInt8} {a : Nat} {m : Int} {xs : List (Nat × Core)} (h : Rd t a m xs) : xs.Pairwise fun x y => x.1 + cLen x.2 ≤ y.1 := by
 induction h with
 | nil a m => exact List.Pairwise.nil
 | blank c r a m xs hb h ih => exact ih
 | item t a m xs h0 hb ho he h ih => exact List.pairwise_cons.2 ⟨fun y hy => (rd_mem h y hy).1, ih⟩
theorem itm_cut (u : List UInt8) (h0 : u ≠ []) (hb : classL u ≠ 6) (he : cE (itm u) = 0) (n : Nat) (hn : cLen (itm u) ≤ n) : u.take n ≠ [] ∧ classL (u.take n) = classL u ∧ itm (u.take n) = itm u := by
 obtain ⟨g1, g2⟩ := itm_len h0 hb he
 have hne : u.take n ≠ [] := fun h => by
  have := congrArg List.length h
  rw [List.length_take, List.length_nil] at this
  omega
 have e : u.take n ++ u.drop n = u := List.take_append_drop n u
 have hl : (u.take n).length = min n u.length := List.length_take
 have := item_trunc (u.take n) (u.drop n) hne (by rw [e]; exact he) (by rw [e]; exact hb) (by
  rw [e, hl]
  show cLen (itm u) ≤ _
  omega)
 rw [e] at this
 exact ⟨hne, this.1, this.2⟩
theorem over_low (t : List UInt8) (m : Int) (h : m < 131072) : overB false t m = false := by
 unfold overB
 rw [decide_eq_false (show ¬ (131072 : Int) ≤ m by omega), Bool.and_false]
theorem alone (u : List UInt8) (h0 : u ≠ []) (hb : classL u ≠ 6) (he : cE (itm u) = 0) (a : Nat) (m : Int) (hm : m < 131072) : Rd (u.take (cLen (itm u))) a m [(a, itm u)] := by
 obtain ⟨c1, c2, c3⟩ := itm_cut u h0 hb he _ (Nat.le_refl _)
 have key := Rd.item (u.take (cLen (itm u))) a m [] c1 (by rw [c2]; exact hb) (over_low _ _ hm) (by rw [c3]; exact he)
 rw [c3] at key
 refine key ?_
 rw [List.drop_eq_nil_of_le (by rw [List.length_take]; omega)]
 exact .nil _ _
theorem pair (u : List UInt8) (h0 : u ≠ []) (hb : classL u ≠ 6) (he : cE (itm u) = 0) (h0' : u.drop (cLen (itm u)) ≠ []) (hb' : classL (u.drop (cLen (itm u))) ≠ 6) (he' : cE (itm (u.drop (cLen (itm u)))) = 0) :
  Rd (u.take (cLen (itm u) + cLen (itm (u.drop (cLen (itm u)))))) 0 0 [(0, itm u), (cLen (itm u), itm (u.drop (cLen (itm u))))] := by
 obtain ⟨c1, c2, c3⟩ := itm_cut u h0 hb he (cLen (itm u) + cLen (itm (u.drop (cLen (itm u))))) (by omega)
 have key := Rd.item (u.take (cLen (itm u) + cLen (itm (u.drop (cLen (itm u)))))) 0 0 [(cLen (itm u), itm (u.drop (cLen (itm u))))] c1 (by rw [c2]; exact hb) (over_low _ _ (by decide)) (by rw [c3]; exact he)
 rw [c3] at key
 refine key ?_
 rw [List.drop_take, Nat.zero_add, show cLen (itm u) + cLen (itm (u.drop (cLen (itm u)))) - cLen (itm u) = cLen (itm (u.drop (cLen (itm u)))) by omega]
 exact alone _ h0' hb' he' _ _ (by split <;> decide)
def OneTok (b : List UInt8) : Prop := b ≠ [] ∧ classL b ≠ 6 ∧ cE (itm b) = 0 ∧ cLen (itm b) = b.length ∧ (itm b).1 ≠ 0
def joinB : List (List UInt8) → List UInt8
 | [] => []
 | [b] => b
 | b :: c :: r => b ++ 32 :: joinB (c :: r)
theorem itm_sep (t : List UInt8) (c : UInt8) (r : List UInt8) (hs : sepB c = true) (h0 : t ≠ []) (hb : classL t ≠ 6) (he : cE (itm t) = 0) : classL (t ++ c :: r) = classL t ∧ itm (t ++ c :: r) = itm t := item_sep' t c r hs h0 he hb
theorem printed : ∀ (l : List (List UInt8)) (a : Nat) (m : Int), (∀ b ∈ l, OneTok b) → m + l.length ≤ 131072 → ∃ zs, Rd (joinB l) a m zs ∧ zs.map (·.2) = l.map itm
 | [], a, m, _, _ => ⟨[], .nil a m, rfl⟩
 | [b], a, m, h, hm => by
  obtain ⟨h0, hb, he, hl, hk⟩ := h b List.mem_cons_self
  have := alone b h0 hb he a m (by simp at hm; omega)
  rw [hl, List.take_length] at this
  exact ⟨_, this, rfl⟩
 | b :: c :: r, a, m, h, hm => by
  obtain ⟨h0, hb, he, hl, hk⟩ := h b List.mem_cons_self
  simp only [List.length_cons] at hm
  obtain ⟨zs, h1, h2⟩ := printed (c :: r) (a + b.length + 1) (m + 1) (fun x hx => h x (List.mem_cons_of_mem _ hx)) (by simp only [List.length_cons]; omega)
  obtain ⟨s1, s2⟩ := itm_sep b 32 (joinB (c :: r)) (by decide) h0 hb he
  have hne : b ++ 32 :: joinB (c :: r) ≠ [] := by simp
  have key := Rd.item (b ++ 32 :: joinB (c :: r)) a m zs hne (by rw [s1]; exact hb) (over_low _ _ (by omega)) (by rw [s2]; exact he)
  rw [s2, hl, if_neg hk, List.drop_left] at key
  exact ⟨_, key (.blank 32 _ _ _ _ rfl h1), by rw [List.map_cons, h2]; rfl⟩
def vl : List UInt8 → Nat → List (Nat × Core) → List UInt8
 | t, _, [] => t
 | t, a, (p, x) :: xs => t.take (p - a) ++ (if x.1 = 0 then ((t.drop (p - a)).take (cLen x)).map veilB else (t.drop (p - a)).take (cLen x)) ++ vl (t.drop (p - a + cLen x)) (p + cLen x) xs
theorem vl_blank (c : UInt8) (r : List UInt8) (a : Nat) (xs : List (Nat × Core)) (h : ∀ p ∈ xs, a + 1 ≤ p.1) : vl (c :: r) a xs = c :: vl r (a + 1) xs := by
 cases xs with
 | nil => rfl
 | cons p xs =>
  obtain ⟨p, x⟩ := p
  have hp : a + 1 ≤ p := h (p, x) List.mem_cons_self
  rw [vl, vl, show p - a = (p - (a + 1)) + 1 by omega, List.take_succ_cons, List.drop_succ_cons, show p - (a + 1) + 1 + cLen x = (p - (a + 1) + cLen x) + 1 by omega, List.drop_succ_cons]
  rfl
theorem vl_item (t : List UInt8) (a : Nat) (x : Core) (xs : List (Nat × Core)) : vl t a ((a, x) :: xs) = (if x.1 = 0 then (t.take (cLen x)).map veilB else t.take (cLen x)) ++ vl (t.drop (cLen x)) (a + cLen x) xs := by
 rw [vl, Nat.sub_self, List.take_zero, List.drop_zero, List.nil_append, Nat.zero_add]
def HeadA (t u : List UInt8) : Prop := (t = [] ∧ u = []) ∨ (∃ c r, u = c :: r ∧ sepB c = true) ∨ ∃ c r s, t = c :: r ∧ u = c :: s
def HeadB (t u : List UInt8) : Prop := (t = [] ∧ u = []) ∨ (∃ c r, u = c :: r ∧ sepB c = true) ∨ ∃ c r s, t = c :: r ∧ u = c :: s ∧ HeadA r s
theorem headA_of {t u : List UInt8} (h : HeadB t u) : HeadA t u := by
 rcases h with h | h | ⟨c, r, s, h1, h2, _⟩
 ·exact .inl h
 ·exact .inr (.inl h)
 ·exact .inr (.inr ⟨c, r, s, h1, h2⟩)
theorem behind (b t u : List UInt8) (h : HeadB t u) (h0 : b ≠ []) (hb : classL (b ++ t) ≠ 6) (he : cE (itm (b ++ t)) = 0) (hl : cLen (itm (b ++ t)) ≤ b.length) : classL (b ++ u) = classL (b ++ t) ∧ itm (b ++ u) = itm (b ++ t) := by
 have sep : ∀ (s t : List UInt8) (c : UInt8) (r : List UInt8), s ≠ [] → classL (s ++ t) ≠ 6 → cE (itm (s ++ t)) = 0 → cLen (itm (s ++ t)) ≤ s.length → sepB c = true → classL (s ++ c :: r) = classL (s ++ t) ∧ itm (s ++ c :: r) = itm (s ++ t) := by
  intro s t c r h0 hb he hl hs
  have g := item_trunc s t h0 he hb hl
  have g2 : itm s = itm (s ++ t) := g.2
  obtain ⟨q1, q2⟩ := itm_sep s c r hs h0 (by rw [g.1]; exact hb) (by rw [g2]; exact he)
  exact ⟨q1.trans g.1, q2.trans g2⟩
 rcases h with ⟨rfl, rfl⟩ | ⟨c, r, rfl, hs⟩ | ⟨c, r, s, rfl, rfl, h⟩
 ·exact ⟨rfl, rfl⟩
 ·exact sep b t c r h0 hb he hl hs
 ·rcases h with ⟨rfl, rfl⟩ | ⟨d, r', rfl, hs⟩ | ⟨d, r', s', rfl, rfl⟩
  ·exact ⟨rfl, rfl⟩
  ·have e : ∀ v, b ++ c :: v = (b ++ [c]) ++ v := fun v => by simp
   rw [e r] at hb he hl ⊢
   rw [e (d :: r')]
   exact sep _ _ _ _ (by simp) hb he (by rw [List.length_append]; omega) hs
  ·have e : ∀ v, b ++ c :: d :: v = (b ++ [c, d]) ++ v := fun v => by simp
   rw [e r'] at hb he hl ⊢
   rw [e s']
   exact item_near _ _ _ (by simp) he hb (by rw [List.length_append]; exact Nat.add_le_add_right hl 2)
theorem rd_veil {t : List UInt8} {a : Nat} {m : Int} {xs : List (Nat × Core)} (h : Rd t a m xs) :
  HeadB t (vl t a xs) ∧ (vl t a xs).length = t.length ∧ (vl t a xs).map (fun c => decide (c = 10)) = t.map (fun c => decide (c = 10)) ∧ Rd (vl t a xs) a m (xs.filter fun p => !decide (p.2.1 = 0)) := by
 have vb : ∀ c, decide (veilB c = 10) = decide (c = 10) := fun c => by
  unfold veilB
  by_cases hc : c = 10
  ·rw [if_pos hc, hc]
  ·rw [if_neg hc, decide_eq_false hc]
   decide
 have vs : ∀ c, blkB (veilB c) = true := fun c => by unfold veilB; split <;> decide
 have vc : ∀ c r, classL (veilB c :: r) = 6 := fun c r => by
  unfold veilB
  split
  ·rw [class_cons]; rfl
  ·rw [class_cons]; rfl
 induction h with
 | nil a m => exact ⟨.inl ⟨rfl, rfl⟩, rfl, rfl, .nil a m⟩
 | blank c r a m xs hb h ih =>
  obtain ⟨i1, i2, i3, i4⟩ := ih
  rw [vl_blank c r a xs fun p hp => (rd_mem h p hp).1]
  have hs : sepB c = true := by
   rw [class_cons] at hb
   repeat' split at hb
   all_goals first | (exact absurd hb (by decide)) | skip
   rename_i g
   unfold sepB
   rw [g]
   rfl
  have hb' : ∀ s, classL (c :: s) = 6 := by
   intro s
   have : blkB c = true := by
    rw [class_cons] at hb
    repeat' split at hb
    all_goals first | (exact absurd hb (by decide)) | assumption
   have key : ∀ c, blkB c = true → c.toNat ≠ 40 ∧ c.toNat ≠ 39 ∧ c.toNat ≠ 34 ∧ digB c = false ∧ letB c = false := byte_all _ (by decide +kernel)
   obtain ⟨k1, k2, k3, k4, k5⟩ := key c this
   rw [class_cons, if_neg (fun h => k1 h.1), if_neg k2, if_neg k3, if_neg (by rw [k4]; decide), if_neg (by rw [k5]; decide), if_pos this]
  exact ⟨.inr (.inl ⟨c, _, rfl, hs⟩), by rw [List.length_cons, i2, List.length_cons], by rw [List.map_cons, i3, List.map_cons], .blank c _ a m _ (hb' _) i4⟩
 | item t a m xs h0 hb ho he h ih =>
  obtain ⟨i1, i2, i3, i4⟩ := ih
  obtain ⟨g1, g2⟩ := itm_len h0 hb he
  have ht : t.take (cLen (itm t)) ++ t.drop (cLen (itm t)) = t := List.take_append_drop _ _
  have hlen : (t.take (cLen (itm t))).length = cLen (itm t) := by rw [List.length_take]; omega
  rw [vl_item]
  by_cases hk : (itm t).1 = 0
  ·rw [if_pos hk]
   rw [if_pos hk] at i4 h
   have hrd : ∀ (b : List UInt8) (a : Nat) (u : List UInt8) (zs : List (Nat × Core)), Rd u (a + b.length) m zs → Rd (b.map veilB ++ u) a m zs := by
    intro b
    induction b with
    | nil => intro a u zs h; exact h
    | cons c b ih =>
     intro a u zs h
     refine .blank _ _ _ _ _ (vc c _) (ih (a + 1) u zs ?_)
     rw [List.length_cons] at h
     rwa [show a + 1 + b.length = a + (b.length + 1) by omega]
   refine ⟨?_, ?_, ?_, ?_⟩
   ·refine .inr (.inl ?_)
    cases t with
    | nil => exact absurd rfl h0
    | cons c r =>
     obtain ⟨j, hj⟩ : ∃ j, cLen (itm (c :: r)) = j + 1 := ⟨cLen (itm (c :: r)) - 1, by omega⟩
     rw [hj, List.take_succ_cons, List.map_cons]
     refine ⟨_, _, rfl, ?_⟩
     unfold sepB
     rw [vs]
     rfl
   ·rw [List.length_append, List.length_map, hlen, i2, List.length_drop]
    omega
   ·rw [List.map_append, i3, List.map_map, show (fun c => decide (c = 10)) ∘ veilB = fun c => decide (c = (10 : UInt8)) from funext vb, ← List.map_append, ht]
   ·rw [List.filter_cons_of_neg (by simp [hk])]
    exact hrd _ a _ _ (by rw [hlen]; exact i4)
  ·rw [if_neg hk]
   rw [if_neg hk] at i4 h
   have hne : t.take (cLen (itm t)) ≠ [] := fun h => by
    rw [h] at hlen
    simp at hlen
    omega
   have hc := behind (t.take (cLen (itm t))) (t.drop (cLen (itm t))) _ i1 hne (by rw [ht]; exact hb) (by rw [ht]; exact he) (by rw [ht, hlen]; exact Nat.le_refl _)
   rw [ht] at hc
   obtain ⟨c1, c2⟩ := hc
   refine ⟨?_, ?_, ?_, ?_⟩
   ·refine .inr (.inr ?_)
    have hd : ∀ n (t u v : List UInt8), t ≠ [] → t.take (n + 1) ++ u = t → HeadB u v → ∃ c r s, t = c :: r ∧ t.take (n + 1) ++ v = c :: s ∧ HeadA r s := by
     intro n t u v h0 ht hv
     cases t with
     | nil => exact absurd rfl h0
     | cons c r =>
      rw [List.take_succ_cons, List.cons_append] at ht ⊢
      have ht : r.take n ++ u = r := (List.cons.inj ht).2
      refine ⟨c, r, _, rfl, rfl, ?_⟩
      cases n with
      | zero =>
       rw [List.take_zero, List.nil_append] at ht ⊢
       rw [← ht]
       exact headA_of hv
      | succ n =>
       cases r with
       | nil =>
        rw [List.take_nil, List.nil_append] at ht ⊢
        rw [ht] at hv
        exact headA_of hv
       | cons d r => exact .inr (.inr ⟨d, _, _, rfl, rfl⟩)
    obtain ⟨j, hj⟩ : ∃ j, cLen (itm t) = j + 1 := ⟨cLen (itm t) - 1, by omega⟩
    rw [hj] at ht i1 ⊢
    exact hd j t _ _ h0 ht i1
   ·rw [List.length_append, hlen, i2, List.length_drop]
    omega
   ·rw [List.map_append, i3, ← List.map_append, ht]
   ·rw [List.filter_cons_of_pos (by simp [hk])]
    have key := Rd.item (t.take (cLen (itm t)) ++ vl (t.drop (cLen (itm t))) (a + cLen (itm t)) xs) a m (xs.filter fun p => !decide (p.2.1 = 0)) (by simp [hne]) (by rw [c1]; exact hb)
     (by unfold overB at ho ⊢; rw [c1]; simpa using ho) (by rw [c2]; exact he)
    rw [c2] at key
    refine key ?_
    rw [List.drop_append_of_le_length (by omega), List.drop_eq_nil_of_le (by omega), List.nil_append, if_neg hk]
    exact i4
theorem long_stop (b : List UInt8) (c : UInt8) (r : List UInt8) (h0 : b ≠ []) (hb : classL (b ++ c :: r) ≠ 6) (he : cE (itm (b ++ c :: r)) = 0) (hl : cLen (itm (b ++ c :: r)) = b.length)
  (hk : 1 ≤ (itm (b ++ c :: r)).1 ∧ (itm (b ++ c :: r)).1 ≤ 4) : alnB c = false := by
 have hlt : b.length < (b ++ c :: r).length := by simp
 have hget : (b ++ c :: r).getD b.length 0 = c := getD_end b c r
 generalize ht : b ++ c :: r = t at *
 unfold itm at he hl hk
 generalize classL t = k at *
 unfold itemL at he hl hk
 by_cases c1 : k = 1
 ·rw [if_pos c1] at he hl hk
  have hn : runL alnB t = b.length := by
   unfold letterI letterN at he hl
   split at hl
   ·exact hl
   ·rename_i hw
    rw [if_neg hw] at he
    split at hl
    ·rename_i h16
     rw [if_pos h16] at he
     cases he
    ·exact hl
  have := runL_stop alnB t 0 (by omega) (by rw [List.drop_zero, Nat.zero_add]; omega)
  rw [List.drop_zero, Nat.zero_add, hn, hget] at this
  exact this
 ·rw [if_neg c1] at he hl hk
  by_cases c2 : k = 2
  ·rw [if_pos c2] at he hl hk
   unfold numberI at he hl hk
   have hx : ¬ ((numL t).1 < t.length ∧ letB (t.getD (numL t).1 0) = true) := fun h => by
    unfold numberX at he
    rw [if_pos h] at he
    cases he
   have hn : (numL t).1 = b.length := by
    unfold numberX at hl
    rw [if_neg hx] at hl
    exact hl
   have h2 := num_stop t (by omega)
   rw [hn, hget] at h2 hx
   have h3 : letB c = false := by
    cases hc : letB c with
    | false => rfl
    | true => exact absurd ⟨hlt, hc⟩ hx
   unfold alnB
   rw [h2, h3]
   rfl
  ·rw [if_neg c2] at he hl hk
   exfalso
   by_cases c3 : k = 3
   ·rw [if_pos c3] at he hl hk
    unfold tickI at hk
    split at hk
    ·exact absurd hk.1 (by decide)
    ·split at hk
     ·exact absurd hk.1 (by decide)
     ·exact absurd hk.2 (show ¬ (5 : Int) ≤ 4 by decide)
   ·rw [if_neg c3] at he hl hk
    by_cases c4 : k = 4
    ·rw [if_pos c4] at he hl hk
     unfold quoteI quoteN at hk
     repeat' split at hk
     all_goals first | (exact absurd hk.1 (by decide)) | (exact absurd hk.2 (show ¬ (6 : Int) ≤ 4 by decide))
    ·rw [if_neg c4] at he hl hk
     by_cases c5 : k = 5
     ·rw [if_pos c5] at he hl hk
      unfold noteI at hk
      cases hn : endL (t.drop 2) with
      | none => rw [hn] at hk; exact absurd hk.1 (by decide)
      | some n => rw [hn] at hk; exact absurd hk.1 (show ¬ (1 : Int) ≤ 0 by decide)
     ·rw [if_neg c5] at he hl hk
      unfold signI signN at hk
      split at hk
      ·exact absurd hk.1 (show ¬ (1 : Int) ≤ 0 by decide)
      ·exact absurd hk.2 (show ¬ (7 : Int) ≤ 4 by decide)
theorem long_first (c : UInt8) (r : List UInt8) (he : cE (itm (c :: r)) = 0) (hk : 1 ≤ (itm (c :: r)).1 ∧ (itm (c :: r)).1 ≤ 4) : alnB c = true := by
 have hcl : classL (c :: r) = 1 ∨ classL (c :: r) = 2 → alnB c = true := by
  intro h
  rw [class_cons] at h
  unfold alnB
  by_cases hd : digB c = true
  ·rw [hd, Bool.or_true]
  ·by_cases hl : letB c = true
   ·rw [hl]
    rfl
   ·exfalso
    rw [if_neg hd, if_neg hl] at h
    repeat' split at h
    all_goals exact absurd h (by decide)
 apply hcl
 unfold itm at he hk
 generalize hkk : classL (c :: r) = k at *
 generalize c :: r = t at *
 unfold itemL at he hk
 by_cases c1 : k = 1
 ·exact .inl c1
 ·rw [if_neg c1] at hk
  by_cases c2 : k = 2
  ·exact .inr c2
  ·rw [if_neg c2] at hk
   exfalso
   by_cases c3 : k = 3
   ·rw [if_pos c3] at hk
    unfold tickI at hk
    split at hk
    ·exact absurd hk.1 (by decide)
    ·split at hk
     ·exact absurd hk.1 (by decide)
     ·exact absurd hk.2 (show ¬ (5 : Int) ≤ 4 by decide)
   ·rw [if_neg c3] at hk
    by_cases c4 : k = 4
    ·rw [if_pos c4] at hk
     unfold quoteI quoteN at hk
     repeat' split at hk
     all_goals first | (exact absurd hk.1 (by decide)) | (exact absurd hk.2 (show ¬ (6 : Int) ≤ 4 by decide))
    ·rw [if_neg c4] at hk
     by_cases c5 : k = 5
     ·rw [if_pos c5] at hk
      unfold noteI at hk
      cases hn : endL (t.drop 2) with
      | none => rw [hn] at hk; exact absurd hk.1 (by decide)
      | some n => rw [hn] at hk; exact absurd hk.1 (show ¬ (1 : Int) ≤ 0 by decide)
     ·rw [if_neg c5] at hk
      unfold signI signN at hk
      split at hk
      ·exact absurd hk.1 (show ¬ (1 : Int) ≤ 0 by decide)
      ·exact absurd hk.2 (show ¬ (7 : Int) ≤ 4 by decide)
end Go.Proofs.YtniihjhlkpjnoaaDoor.Given
end
section
/- Plain: what Lex, Spans and Veil answer, told by one reading of the text. -/
set_option linter.unusedVariables false
set_option linter.unusedSimpArgs false
namespace Go.Proofs.YtniihjhlkpjnoaaDoor.Given
def Chain : List (Nat × Core) → Nat → Nat → Prop
 | [], f, n => f ≤ n
 | x :: xs, f, n => f ≤ x.1 ∧ 1 ≤ cLen x.2 ∧ Chain xs (x.1 + cLen x.2) n
theorem chain_mono : ∀ (xs : List (Nat × Core)) (f g n : Nat), f ≤ g → Chain xs g n → Chain xs f n
 | [], f, g, n, h, hc => Nat.le_trans h hc
 | x :: xs, f, g, n, h, hc => ⟨Nat.le_trans h hc.1, hc.2⟩
theorem chain_le : ∀ (xs : List (Nat × Core)) (f n : Nat), Chain xs f n → f ≤ n
 | [], f, n, hc => hc
 | x :: xs, f, n, hc => by
  have := chain_le xs _ n hc.2.2
  have := hc.1
  omega
theorem rd_chain {t : List UInt8} {a : Nat} {m : Int} {xs : List (Nat × Core)} (h : Rd t a m xs) : Chain xs a (a + t.length) := by
 induction h with
 | nil a m => exact Nat.le_refl _
 | blank c r a m xs hb h ih =>
  rw [List.length_cons, show a + (r.length + 1) = a + 1 + r.length by omega]
  exact chain_mono _ _ _ _ (by omega) ih
 | item t a m xs h0 hb ho he h ih =>
  obtain ⟨g1, g2⟩ := itm_len h0 hb he
  rw [List.length_drop, show a + cLen (itm t) + (t.length - cLen (itm t)) = a + t.length by omega] at ih
  exact ⟨Nat.le_refl _, g1, ih⟩
def spansF : List (Nat × Itm) → Nat → Nat → List (Int × Nat × Nat)
 | [], f, n => gapS f n
 | x :: xs, f, n => gapS f x.1 ++ (if x.2.kind = 0 then 2 else 3, x.1, x.1 + x.2.len) :: spansF xs (x.1 + x.2.len) n
theorem spans_f : ∀ (xs : List (Nat × Itm)) (s : List (Int × Nat × Nat) × Nat) (n : Nat), (xs.foldl spanA s).1 ++ gapS (xs.foldl spanA s).2 n = s.1 ++ spansF xs s.2 n
 | [], s, n => rfl
 | x :: xs, s, n => by
  rw [List.foldl_cons, spans_f xs, spanA, spansF]
  simp
theorem spansF_len : ∀ (xs : List (Nat × Itm)) (f n : Nat), (spansF xs f n).length ≤ 2 * xs.length + 1
 | [], f, n => by
  unfold spansF gapS
  split <;> simp
 | x :: xs, f, n => by
  have := spansF_len xs (x.1 + x.2.len) n
  have hg : (gapS f x.1).length ≤ 1 := by unfold gapS; split <;> simp
  rw [spansF, List.length_append, List.length_cons, List.length_cons]
  omega
theorem take_split (t : List UInt8) (f a b : Nat) (h1 : f ≤ a) (h2 : a ≤ b) : (t.drop f).take (b - f) = (t.drop f).take (a - f) ++ (t.drop a).take (b - a) := by
 have e : b - f = (a - f) + (b - a) := by omega
 rw [e, List.take_add, List.drop_drop, show f + (a - f) = a by omega]
theorem veil_f (t : List UInt8) : ∀ (xs : List (Nat × Itm)) (s : List UInt8 × Nat) (a n : Nat), s.2 ≤ a → Chain (xs.map tk) a n →
  (xs.foldl (veilA t) s).1 ++ t.drop (xs.foldl (veilA t) s).2 = s.1 ++ (t.drop s.2).take (a - s.2) ++ vl (t.drop a) a (xs.map tk)
 | [], s, a, n, h, hc => by
  show s.1 ++ t.drop s.2 = _ ++ t.drop a
  rw [List.append_assoc, show t.drop a = (t.drop s.2).drop (a - s.2) by rw [List.drop_drop]; congr 1; omega, List.take_append_drop]
 | (p, x) :: xs, s, a, n, h, hc => by
  obtain ⟨c1, c2, c3⟩ := hc
  have c1 : a ≤ p := c1
  have c3 : Chain (xs.map tk) (p + x.len) n := c3
  rw [List.foldl_cons, List.map_cons]
  show _ = s.1 ++ (t.drop s.2).take (a - s.2) ++ vl (t.drop a) a ((p, core x) :: xs.map tk)
  rw [vl, List.drop_drop, List.drop_drop, show a + (p - a) = p by omega, show a + (p - a + cLen (core x)) = p + x.len by show a + (p - a + x.len) = _; omega]
  show _ = s.1 ++ (t.drop s.2).take (a - s.2) ++ ((t.drop a).take (p - a) ++ (if x.kind = 0 then ((t.drop p).take x.len).map veilB else (t.drop p).take x.len) ++ vl (t.drop (p + x.len)) (p + x.len) (xs.map tk))
  by_cases hk : x.kind = 0
  ·rw [show veilA t s (p, x) = (s.1 ++ (t.drop s.2).take (p - s.2) ++ ((t.drop p).take x.len).map veilB, p + x.len) from if_pos hk, if_pos hk]
   rw [veil_f t xs _ (p + x.len) n (Nat.le_refl _) c3]
   rw [Nat.sub_self, List.take_zero, take_split t s.2 a p h c1]
   simp
  ·rw [show veilA t s (p, x) = s from if_neg hk, if_neg hk]
   rw [veil_f t xs s (p + x.len) n (by omega) c3, take_split t s.2 a (p + x.len) h (by omega), take_split t a p (p + x.len) c1 (by omega), show p + x.len - p = x.len by omega]
   simp
theorem read_cases (t : List UInt8) : (∃ e p, e ≠ 0 ∧ lexR t = ([], e, p) ∧ spansR t = ([], e, p) ∧ veilR t = ([], e, p)) ∨
  (t.length ≤ 1048576 ∧ ∃ xs : List (Nat × Itm), Rd t 0 0 (xs.map tk) ∧ xs.length ≤ t.length + 1 ∧ lexR t = (toksL xs, 0, 0) ∧ spansR t = (spansF xs 0 t.length, 0, 0) ∧ veilR t = (vl t 0 (xs.map tk), 0, 0)) := by
 unfold lexR spansR veilR
 by_cases hl : 1048576 < t.length
 ·rw [if_pos hl, if_pos hl, if_pos hl]
  exact .inl ⟨2, 0, by decide, rfl, rfl, rfl⟩
 ·rw [if_neg hl, if_neg hl, if_neg hl]
  have herr := items_err false (t.length + 1) t 0 0
  have hle := items_le false (t.length + 1) t 0 0
  cases hn : (itemsL false (t.length + 1) t 0 0).2 with
  | some p => exact .inl ⟨p.1, p.2, herr p hn, rfl, rfl, rfl⟩
  | none =>
   have hr : Rd t 0 0 ((itemsL false (t.length + 1) t 0 0).1.map tk) := rd_of _ _ _ _ _ (by omega) (Prod.ext rfl hn)
   refine .inr ⟨by omega, (itemsL false (t.length + 1) t 0 0).1, hr, hle, rfl, ?_, ?_⟩
   ·have := spans_f (itemsL false (t.length + 1) t 0 0).1 ([], 0) t.length
    rw [List.nil_append] at this
    exact Prod.ext this rfl
   ·have hc := rd_chain hr
    have := veil_f t (itemsL false (t.length + 1) t 0 0).1 ([], 0) 0 _ (Nat.le_refl _) hc
    exact Prod.ext (this.trans (by simp)) rfl
theorem rd_one {t : List UInt8} {a : Nat} {m : Int} {xs : List (Nat × Core)} (h : Rd t a m xs) (p : Nat × Core) (hp : p ∈ xs) (hk : p.2.1 ≠ 0) : OneTok ((t.drop (p.1 - a)).take (cLen p.2)) ∧ itm ((t.drop (p.1 - a)).take (cLen p.2)) = p.2 := by
 obtain ⟨m1, m2, m3, m4, m5, m6, m7⟩ := rd_mem h p hp
 obtain ⟨c1, c2, c3⟩ := itm_cut _ m4 m5 (by rw [m6]; exact m7) (cLen p.2) (by rw [m6]; exact Nat.le_refl _)
 rw [m6] at c3
 refine ⟨⟨c1, by rw [c2]; exact m5, by rw [c3]; exact m7, ?_, by rw [c3]; exact hk⟩, c3⟩
 rw [c3, List.length_take, List.length_drop]
 omega
theorem rd_two {t : List UInt8} {a : Nat} {m : Int} {xs : List (Nat × Core)} (h : Rd t a m xs) (p q : Nat × Core) (hp : p ∈ xs) (hq : q ∈ xs) (hpq : p.1 + cLen p.2 = q.1) :
  Rd ((t.drop (p.1 - a)).take (cLen p.2 + cLen q.2)) 0 0 [(0, p.2), (cLen p.2, q.2)] := by
 obtain ⟨m1, m2, m3, m4, m5, m6, m7⟩ := rd_mem h p hp
 obtain ⟨n1, n2, n3, n4, n5, n6, n7⟩ := rd_mem h q hq
 have e : (t.drop (p.1 - a)).drop (cLen p.2) = t.drop (q.1 - a) := by rw [List.drop_drop]; congr 1; omega
 have := pair (t.drop (p.1 - a)) m4 m5 (by rw [m6]; exact m7) (by rw [m6, e]; exact n4) (by rw [m6, e]; exact n5) (by rw [m6, e, n6]; exact n7)
 rw [m6, e, n6] at this
 exact this
theorem read_of {t : List UInt8} {zs : List (Nat × Core)} (h : Rd t 0 0 zs) (hl : t.length ≤ 1048576) : ∃ xs : List (Nat × Itm), xs.map tk = zs ∧ xs.length ≤ t.length + 1 ∧ lexR t = (toksL xs, 0, 0) ∧ spansR t = (spansF xs 0 t.length, 0, 0) := by
 obtain ⟨ys, h1, h2⟩ := rd_to h (t.length + 1) (by omega)
 have hle := items_le false (t.length + 1) t 0 0
 rw [h1] at hle
 refine ⟨ys, h2, hle, ?_, ?_⟩
 ·unfold lexR
  rw [if_neg (by omega), h1]
 ·unfold spansR
  rw [if_neg (by omega), h1]
  have := spans_f ys ([], 0) t.length
  rw [List.nil_append] at this
  exact Prod.ext this rfl
theorem tk_toks (xs : List (Nat × Itm)) : (xs.map tk).filter (fun p => !decide (p.2.1 = 0)) = (toksL xs).map tk := by
 unfold toksL
 rw [List.filter_map]
 rfl
end Go.Proofs.YtniihjhlkpjnoaaDoor.Given
end
