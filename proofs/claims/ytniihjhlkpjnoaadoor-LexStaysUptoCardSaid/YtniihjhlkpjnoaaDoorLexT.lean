-- Out of this text a program of mine (wip/slim.py) took what this claim does not use.
/- Plain: the item at the beginning of a text is that of the text cut behind it; two bytes behind it settle it; a separator behind it changes nothing. -/
import Derived.Test.YtniihjhlkpjnoaaDoorJ5
set_option linter.unusedVariables false
set_option linter.unusedSimpArgs false
namespace Go.Proofs.YtniihjhlkpjnoaaDoor.Given
def core (x : Itm) : Int × List UInt8 × Int × Nat × Int := (x.kind, x.text, x.n, x.len, x.e)
theorem runL_trunc (p : UInt8 → Bool) (s u : List UInt8) (h : runL p (s ++ u) ≤ s.length) : runL p s = runL p (s ++ u) := by
 have hle := runL_le p s
 by_cases hn : runL p s < s.length
 ·exact (runL_app p u s hn).symm
 ·have := runL_all p u s (by omega)
  omega
theorem letter_trunc (s u : List UInt8) (he : (letterI (s ++ u)).e = 0) (hl : (letterI (s ++ u)).len ≤ s.length) : core (letterI s) = core (letterI (s ++ u)) := by
 have hn : runL alnB (s ++ u) ≤ s.length := by
  unfold letterI letterN at he hl
  split at hl
  ·exact hl
  ·rename_i hw
   rw [if_neg hw] at he
   split at hl
   ·rename_i h16
    rw [if_pos h16] at he
    cases he
   ·exact hl
 unfold letterI
 rw [runL_trunc _ _ _ hn]
 generalize runL alnB (s ++ u) = n at hn
 unfold letterN
 rw [take_app hn]
 split
 ·simp only [core, tokI, take_app hn]
 ·split
  ·rfl
  ·simp only [core, tokI, take_app hn]
theorem expL_ge (t : List UInt8) (m : Nat) : m ≤ (expL t m).1 := by
 have hk : m ≤ expAt t m := by unfold expAt; split <;> omega
 unfold expL expK
 split
 ·split
  ·show m ≤ expAt t m + _
   omega
  ·exact Nat.le_refl _
 ·exact Nat.le_refl _
theorem realL_ge (t : List UInt8) (m : Nat) : m ≤ (realL t m).1 := by
 unfold realL
 split
 ·exact expL_ge t m
 ·exact Nat.le_refl _
theorem num_ge (t : List UInt8) : runL digB t ≤ (numL t).1 := by
 unfold numL numN
 split
 ·have := realL_ge t (runL digB t + 1 + runL digB (t.drop (runL digB t + 1)))
  omega
 ·exact Nat.le_refl _
theorem runL_pos (p : UInt8 → Bool) (t : List UInt8) (k : Nat) (hk : k < t.length) (h : p (t.getD k 0) = true) : 1 ≤ runL p (t.drop k) := by
 rw [List.drop_eq_getElem_cons hk]
 rw [List.getD_eq_getElem?_getD, List.getElem?_eq_getElem hk, Option.getD_some] at h
 unfold runL
 rw [if_pos h]
 omega
theorem let101 {c : UInt8} (h : c.toNat = 101) : letB c = true := by
 unfold letB
 rw [h]
 rfl
theorem num_trunc (s u : List UInt8) (h : (numL (s ++ u)).1 ≤ s.length) (hx : ¬ ((numL (s ++ u)).1 < (s ++ u).length ∧ letB ((s ++ u).getD (numL (s ++ u)).1 0) = true)) : (numL s).1 = (numL (s ++ u)).1 ∧ (numL s).2.1 = (numL (s ++ u)).2.1 := by
 have hge := num_ge (s ++ u)
 unfold numL at h hx hge ⊢
 rw [runL_trunc digB s u (by omega)]
 generalize runL digB (s ++ u) = d at h hx hge ⊢
 unfold numN at h hx hge ⊢
 by_cases hc : d + 1 < (s ++ u).length ∧ ((s ++ u).getD d 0).toNat = 46 ∧ digB ((s ++ u).getD (d + 1) 0) = true
 ·rw [if_pos hc] at h hx hge ⊢
  have hm := realL_ge (s ++ u) (d + 1 + runL digB ((s ++ u).drop (d + 1)))
  have h1 := runL_pos digB (s ++ u) (d + 1) hc.1 hc.2.2
  have hds : d + 1 < s.length := by omega
  have hc' : d + 1 < s.length ∧ (s.getD d 0).toNat = 46 ∧ digB (s.getD (d + 1) 0) = true := by
   have := hc.2
   rw [getD_app (by omega), getD_app hds] at this
   exact ⟨hds, this⟩
  rw [if_pos hc']
  rw [drop_app (by omega)] at h hx hm h1 ⊢
  rw [runL_trunc digB (s.drop (d + 1)) u (by rw [List.length_drop]; omega)]
  generalize d + 1 + runL digB (s.drop (d + 1) ++ u) = m at h hx hm ⊢
  unfold realL at h hx hm ⊢
  by_cases he : m < (s ++ u).length ∧ ((s ++ u).getD m 0).toNat = 101
  ·rw [if_pos he] at h hx hm ⊢
   dsimp only at h hx hm ⊢
   unfold expL at h hx hm ⊢
   by_cases hk : expAt (s ++ u) m < (s ++ u).length ∧ digB ((s ++ u).getD (expAt (s ++ u) m) 0) = true
   ·have e1 : expK (s ++ u) m (expAt (s ++ u) m) = (expAt (s ++ u) m + runL digB ((s ++ u).drop (expAt (s ++ u) m)), decide (expAt (s ++ u) m + runL digB ((s ++ u).drop (expAt (s ++ u) m)) < (s ++ u).length)) := by
     unfold expK
     rw [if_pos hk.1, if_pos hk.2]
    have hp := runL_pos digB (s ++ u) _ hk.1 hk.2
    have hkm : m + 1 ≤ expAt (s ++ u) m := by unfold expAt; split <;> omega
    rw [e1] at h hx hm ⊢
    dsimp only at h hx hm ⊢
    have hks : expAt (s ++ u) m < s.length := by omega
    have ea : expAt s m = expAt (s ++ u) m := by
     unfold expAt
     rw [getD_app (by omega)]
    have hs : m < s.length ∧ (s.getD m 0).toNat = 101 := by
     have := he.2
     rw [getD_app (by omega)] at this
     exact ⟨by omega, this⟩
    rw [if_pos hs, ea]
    dsimp only
    generalize expAt (s ++ u) m = k at h hx hm hk hp hkm hks e1 ⊢
    unfold expK
    have hd := hk.2
    rw [getD_app hks] at hd
    rw [if_pos hks, if_pos hd]
    dsimp only
    rw [drop_app (by omega)] at h ⊢
    rw [runL_trunc digB (s.drop k) u (by rw [List.length_drop]; omega)]
    exact ⟨rfl, rfl⟩
   ·exfalso
    have e1 : (expK (s ++ u) m (expAt (s ++ u) m)).1 = m := by
     unfold expK
     split
     ·rename_i h1
      rw [if_neg (fun h2 => hk ⟨h1, h2⟩)]
     ·rfl
    rw [e1] at hx
    exact hx ⟨he.1, let101 he.2⟩
  ·rw [if_neg he] at h hx hm ⊢
   dsimp only at h
   rw [if_neg (fun h2 => he ⟨lt_app u h2.1, by rw [getD_app h2.1]; exact h2.2⟩)]
   exact ⟨rfl, rfl⟩
 ·rw [if_neg hc]
  rw [if_neg (fun h2 => hc ⟨lt_app u h2.1, by rw [getD_app (by omega), getD_app h2.1]; exact h2.2⟩)]
  exact ⟨rfl, rfl⟩
theorem number_trunc (s u : List UInt8) (he : (numberI (s ++ u)).e = 0) (hl : (numberI (s ++ u)).len ≤ s.length) : core (numberI s) = core (numberI (s ++ u)) := by
 unfold numberI at he hl ⊢
 have hx : ¬ ((numL (s ++ u)).1 < (s ++ u).length ∧ letB ((s ++ u).getD (numL (s ++ u)).1 0) = true) := fun h => by
  unfold numberX at he
  rw [if_pos h] at he
  cases he
 have hl' : (numL (s ++ u)).1 ≤ s.length := by
  unfold numberX at hl
  rw [if_neg hx] at hl
  exact hl
 obtain ⟨h1, h2⟩ := num_trunc s u hl' hx
 unfold numberX
 rw [if_neg hx, if_neg (fun h => hx ⟨by have := h.1; rw [h1] at this; exact lt_app u this, by have := h.2; rw [h1] at this; rw [getD_app (by have := h.1; rw [h1] at this; exact this)]; exact this⟩)]
 simp only [core, tokI, h1, h2, take_app hl']
theorem tick_trunc (s u : List UInt8) (he : (tickI (s ++ u)).e = 0) (hl : (tickI (s ++ u)).len ≤ s.length) : tickI s = tickI (s ++ u) := by
 have h3 : 3 ≤ s.length := by
  unfold tickI at he hl
  split at hl
  ·rename_i h1
   rw [if_pos h1] at he
   cases he
  ·rename_i h1
   rw [if_neg h1] at he
   split at hl
   ·rename_i h2
    rw [if_pos h2] at he
    cases he
   ·exact hl
 unfold tickI
 rw [getD_app (show 1 < s.length by omega), getD_app (show 2 < s.length by omega)]
 have a1 : (1 < (s ++ u).length) = True := eq_true (by rw [List.length_append]; omega)
 have a2 : (2 < (s ++ u).length) = True := eq_true (by rw [List.length_append]; omega)
 have b1 : (1 < s.length) = True := eq_true (by omega)
 have b2 : (2 < s.length) = True := eq_true (by omega)
 have c1 : ((s ++ u).length < 3) = False := eq_false (by rw [List.length_append]; omega)
 have c2 : (s.length < 3) = False := eq_false (by omega)
 simp only [a1, a2, b1, b2, c1, c2]
theorem quote_trunc (s u : List UInt8) (he : (quoteI (s ++ u)).e = 0) (hl : (quoteI (s ++ u)).len ≤ s.length) : core (quoteI s) = core (quoteI (s ++ u)) := by
 have hn : 1 + runL inqB ((s ++ u).drop 1) + 1 ≤ s.length ∧ ¬ 1 + runL inqB ((s ++ u).drop 1) = (s ++ u).length := by
  unfold quoteI quoteN at he hl
  split at hl
  ·rename_i h1
   rw [if_pos h1] at he
   cases he
  ·rename_i h1
   rw [if_neg h1] at he
   split at hl
   ·rename_i h2
    rw [if_pos h2] at he
    cases he
   ·rename_i h2
    rw [if_neg h2] at he
    split at hl
    ·rename_i h3
     rw [if_pos h3] at he
     cases he
    ·exact ⟨hl, h1⟩
 unfold quoteI
 rw [drop_app (show 1 ≤ s.length by omega)] at hn ⊢
 rw [runL_trunc inqB (s.drop 1) u (by rw [List.length_drop]; omega)]
 generalize 1 + runL inqB (s.drop 1 ++ u) = n at hn ⊢
 unfold quoteN
 rw [getD_app (by omega), if_neg hn.2, if_neg (by omega), take_app (by omega)]
theorem endL_trunc : ∀ (a b : List UInt8) (m : Nat), endL (a ++ b) = some m → m + 2 ≤ a.length → endL a = some m
 | [], b, m, _, h => by simp at h
 | c :: r, b, m, h, hl => by
  have h : (if c.toNat = 42 ∧ (r ++ b).head? = some 41 then some 0 else (endL (r ++ b)).map (· + 1)) = some m := h
  unfold endL
  simp only [List.length_cons] at hl
  cases r with
  | nil => simp at hl
  | cons d r =>
   by_cases h1 : c.toNat = 42 ∧ (d :: r).head? = some 41
   ·rw [if_pos (show c.toNat = 42 ∧ (d :: r ++ b).head? = some 41 from h1)] at h
    rw [if_pos h1]
    exact h
   ·rw [if_neg (show ¬ (c.toNat = 42 ∧ (d :: r ++ b).head? = some 41) from h1)] at h
    rw [if_neg h1]
    cases he : endL (d :: r ++ b) with
    | none => rw [he] at h; cases h
    | some k =>
     rw [he] at h
     cases h
     have hl2 : k + 1 + 2 ≤ (d :: r).length + 1 := hl
     rw [endL_trunc (d :: r) b k he (by omega)]
     rfl
theorem note_trunc (s u : List UInt8) (he : (noteI (s ++ u)).e = 0) (hl : (noteI (s ++ u)).len ≤ s.length) : noteI s = noteI (s ++ u) := by
 unfold noteI at he hl ⊢
 cases hn : endL ((s ++ u).drop 2) with
 | none => rw [hn] at he; cases he
 | some n =>
  rw [hn] at hl
  have hl' : n + 4 ≤ s.length := hl
  rw [drop_app (by omega)] at hn
  rw [endL_trunc (s.drop 2) u n hn (by rw [List.length_drop]; omega)]
theorem sign_trunc (s u : List UInt8) (he : (signI (s ++ u)).e = 0) (hl : (signI (s ++ u)).len ≤ s.length) : core (signI s) = core (signI (s ++ u)) := by
 obtain ⟨a, b, c⟩ := signL_spec (s ++ u) (min 3 (s ++ u).length)
 unfold signI at he hl ⊢
 generalize signL (s ++ u) (min 3 (s ++ u).length) = n at he hl a b c ⊢
 have h0 : n ≠ 0 := fun h => by
  unfold signN at he
  rw [if_pos h] at he
  cases he
 have hn : n ≤ s.length := by
  unfold signN at hl
  rw [if_neg h0] at hl
  exact hl
 have e : signL s (min 3 s.length) = n := by
  refine signL_unique _ _ _ (by omega) ?_ ?_
  ·exact b.imp id fun h => by rw [take_app hn] at h; exact h
  ·intro k h1 h2 hm
   refine c k h1 (by rw [List.length_append]; omega) ?_
   rw [take_app (by omega)]
   exact hm
 rw [e]
 unfold signN
 rw [if_neg h0, if_neg h0]
 simp only [core, tokI, take_app hn]
theorem class_cons (c : UInt8) (r : List UInt8) : classL (c :: r) = if c.toNat = 40 ∧ r.head? = some 42 then 5 else if c.toNat = 39 then 3 else if c.toNat = 34 then 4 else if digB c = true then 2 else if letB c = true then 1 else if blkB c = true then 6 else 0 := rfl
theorem class_trunc (s u : List UInt8) (h0 : s ≠ []) (he : (itemL (classL (s ++ u)) (s ++ u)).e = 0) (hb : classL (s ++ u) ≠ 6) (hl : (itemL (classL (s ++ u)) (s ++ u)).len ≤ s.length) : classL s = classL (s ++ u) := by
 by_cases h : s = [40]
 ·subst h
  cases u with
  | nil => rfl
  | cons d u =>
   by_cases hd : d = 42
   ·exfalso
    subst hd
    have e5 : classL ([40] ++ 42 :: u) = 5 := rfl
    rw [e5] at he hl
    have he : (noteI ([40] ++ 42 :: u)).e = 0 := he
    have hl : (noteI ([40] ++ 42 :: u)).len ≤ 1 := hl
    unfold noteI at he hl
    cases hn : endL (([40] ++ 42 :: u).drop 2) with
    | none => rw [hn] at he; cases he
    | some n => rw [hn] at hl; simp at hl
   ·show classL [40] = classL (40 :: d :: u)
    have : ¬ (some d = some (42 : UInt8)) := fun h => hd (Option.some.inj h)
    have c1 : ¬ ((40 : UInt8).toNat = 40 ∧ (d :: u).head? = some 42) := fun h => this h.2
    have c2 : ¬ ((40 : UInt8).toNat = 40 ∧ ([] : List UInt8).head? = some 42) := fun h => by cases h.2
    rw [class_cons, class_cons, if_neg c1, if_neg c2]
 ·exact (class_app s u h0 h).symm
theorem item_trunc (s u : List UInt8) (h0 : s ≠ []) (he : (itemL (classL (s ++ u)) (s ++ u)).e = 0) (hb : classL (s ++ u) ≠ 6) (hl : (itemL (classL (s ++ u)) (s ++ u)).len ≤ s.length) :
  classL s = classL (s ++ u) ∧ core (itemL (classL s) s) = core (itemL (classL (s ++ u)) (s ++ u)) := by
 have hc := class_trunc s u h0 he hb hl
 refine ⟨hc, ?_⟩
 rw [hc]
 generalize classL (s ++ u) = c at he hb hl
 clear hc
 unfold itemL at he hl ⊢
 by_cases c1 : c = 1
 ·rw [if_pos c1] at he hl ⊢
  rw [if_pos c1]
  exact letter_trunc s u he hl
 ·rw [if_neg c1] at he hl ⊢
  rw [if_neg c1]
  by_cases c2 : c = 2
  ·rw [if_pos c2] at he hl ⊢
   rw [if_pos c2]
   exact number_trunc s u he hl
  ·rw [if_neg c2] at he hl ⊢
   rw [if_neg c2]
   by_cases c3 : c = 3
   ·rw [if_pos c3] at he hl ⊢
    rw [if_pos c3]
    rw [tick_trunc s u he hl]
   ·rw [if_neg c3] at he hl ⊢
    rw [if_neg c3]
    by_cases c4 : c = 4
    ·rw [if_pos c4] at he hl ⊢
     rw [if_pos c4]
     exact quote_trunc s u he hl
    ·rw [if_neg c4] at he hl ⊢
     rw [if_neg c4]
     by_cases c5 : c = 5
     ·rw [if_pos c5] at he hl ⊢
      rw [if_pos c5]
      rw [note_trunc s u he hl]
     ·rw [if_neg c5] at he hl ⊢
      rw [if_neg c5]
      exact sign_trunc s u he hl
theorem item_sure (t : List UInt8) (h0 : t ≠ []) (he : (itemL (classL t) t).e = 0) (hb : classL t ≠ 6) (hl : (itemL (classL t) t).len + 2 ≤ t.length) : (itemL (classL t) t).sure = true := by
 have h1 := (item_len t h0 he hb).1
 generalize classL t = c at he hb hl h1
 unfold itemL at he hl h1 ⊢
 by_cases c1 : c = 1
 ·rw [if_pos c1] at he hl h1 ⊢
  unfold letterI letterN at he hl h1 ⊢
  split at hl
  ·rename_i hw
   rw [if_pos hw]
   exact decide_eq_true (show runL alnB t < t.length from by have : runL alnB t + 2 ≤ t.length := hl; omega)
  ·rename_i hw
   rw [if_neg hw] at he ⊢
   split at hl
   ·rename_i h16
    rw [if_pos h16]
    rfl
   ·rename_i h16
    rw [if_neg h16]
    exact decide_eq_true (show runL alnB t < t.length from by have : runL alnB t + 2 ≤ t.length := hl; omega)
 ·rw [if_neg c1] at he hl h1 ⊢
  by_cases c2 : c = 2
  ·rw [if_pos c2] at he hl h1 ⊢
   unfold numberI at he hl h1 ⊢
   rw [numberX_sure]
   have hx : ¬ ((numL t).1 < t.length ∧ letB (t.getD (numL t).1 0) = true) := fun h => by
    unfold numberX at he
    rw [if_pos h] at he
    cases he
   have hl : (numL t).1 + 2 ≤ t.length := by
    unfold numberX at hl
    rw [if_neg hx] at hl
    exact hl
   clear he h1
   unfold numL numN at hx hl ⊢
   split
   ·rename_i hc
    rw [if_pos hc] at hx hl
    generalize runL digB t + 1 + runL digB (t.drop (runL digB t + 1)) = m at hx hl ⊢
    unfold realL at hx hl ⊢
    split
    ·rename_i hm
     rw [if_pos hm] at hx hl
     dsimp only at hx hl ⊢
     have hk : expAt t m ≤ m + 2 := by unfold expAt; split <;> omega
     unfold expL expK at hx hl ⊢
     split
     ·rename_i hk2
      rw [if_pos hk2] at hx hl
      split
      ·rename_i hd
       rw [if_pos hd] at hx hl
       exact decide_eq_true (by dsimp only at hl; omega)
      ·rfl
     ·rename_i hk2
      rw [if_neg hk2] at hx
      exact absurd ⟨hm.1, let101 hm.2⟩ hx
    ·rename_i hm
     rw [if_neg hm] at hl
     exact decide_eq_true (by dsimp only at hl; omega)
   ·rename_i hc
    rw [if_neg hc] at hl
    have hl : runL digB t + 2 ≤ t.length := hl
    unfold intL
    dsimp only
    rw [decide_eq_true (by omega), decide_eq_false (show ¬ runL digB t + 1 = t.length by omega), Bool.and_false]
    rfl
  ·rw [if_neg c2] at he hl h1 ⊢
   by_cases c3 : c = 3
   ·rw [if_pos c3] at he hl h1 ⊢
    unfold tickI at he ⊢
    split
    ·rfl
    ·rename_i h1
     rw [if_neg h1] at he
     split
     ·rename_i h2
      rw [if_pos h2] at he
      cases he
     ·rfl
   ·rw [if_neg c3] at he hl h1 ⊢
    by_cases c4 : c = 4
    ·rw [if_pos c4] at he hl h1 ⊢
     unfold quoteI quoteN at he ⊢
     split
     ·rename_i h1
      rw [if_pos h1] at he
      cases he
     ·split
      ·rfl
      ·split
       ·rfl
       ·rfl
    ·rw [if_neg c4] at he hl h1 ⊢
     by_cases c5 : c = 5
     ·rw [if_pos c5] at he hl h1 ⊢
      unfold noteI at he ⊢
      cases hn : endL (t.drop 2) with
      | none => rw [hn] at he; cases he
      | some n => rfl
     ·rw [if_neg c5] at he hl h1 ⊢
      unfold signI signN at he hl h1 ⊢
      split
      ·rename_i hz
       rw [if_pos hz] at he
       cases he
      ·rename_i hz
       rw [if_neg hz] at hl h1
       have hl : signL t (min 3 t.length) + 2 ≤ t.length := hl
       show (!openL t _) = true
       rw [Bool.not_eq_true']
       unfold openL
       rw [List.any_eq_false]
       intro x hx hb
       rw [Bool.and_eq_true, decide_eq_true_eq] at hb
       have h3 : x.length ≤ 3 := by
        rcases List.mem_append.1 hx with h | h
        ·exact (signs_short x h).2
        ·rw [List.mem_singleton.1 h]
         decide
       omega
theorem item_near (s u v : List UInt8) (h0 : s ≠ []) (he : (itemL (classL (s ++ u)) (s ++ u)).e = 0) (hb : classL (s ++ u) ≠ 6) (hl : (itemL (classL (s ++ u)) (s ++ u)).len + 2 ≤ s.length) :
  classL (s ++ v) = classL (s ++ u) ∧ core (itemL (classL (s ++ v)) (s ++ v)) = core (itemL (classL (s ++ u)) (s ++ u)) := by
 obtain ⟨h1, h2⟩ := item_trunc s u h0 he hb (by omega)
 have e1 : (itemL (classL s) s).e = 0 := by
  have := congrArg (fun x => x.2.2.2.2) h2
  exact this.trans he
 have e2 : (itemL (classL s) s).len + 2 ≤ s.length := by
  have : (itemL (classL s) s).len = _ := congrArg (fun x => x.2.2.2.1) h2
  rw [this]
  exact hl
 have hs := item_sure s h0 e1 (by rw [h1]; exact hb) e2
 have h3 := item_stable s v h0 hs
 have h4 := class_stable s v h0 hs
 exact ⟨h4.trans h1, by rw [h3]; exact h2⟩
def sepB (c : UInt8) : Bool := blkB c || decide (c.toNat = 44) || decide (c.toNat = 59)
theorem byte_all (p : UInt8 → Prop) [DecidablePred p] (h : ∀ i : Fin 256, p (UInt8.ofNat i.val)) (c : UInt8) : p c := by
 have := h ⟨c.toNat, c.toNat_lt⟩
 rw [UInt8.ofNat_toNat] at this
 exact this
theorem sep_facts : ∀ c : UInt8, sepB c = true → alnB c = false ∧ digB c = false ∧ letB c = false ∧ c.toNat ≠ 46 ∧ c.toNat ≠ 101 ∧ c ≠ 42 :=
 byte_all _ (by decide +kernel)
theorem sep_signs : ∀ x ∈ signsL, ∀ i, i < x.length → 1 ≤ i → sepB (x.getD i 0) = false := by decide +kernel
theorem runL_sep (p : UInt8 → Bool) (t : List UInt8) (c : UInt8) (r : List UInt8) (hp : p c = false) : runL p (t ++ c :: r) = runL p t := by
 have hle := runL_le p t
 by_cases hn : runL p t < t.length
 ·exact runL_app p _ t hn
 ·rw [runL_all p _ t (by omega), show runL p (c :: r) = 0 by rw [runL, if_neg (by rw [hp]; decide)]]
  omega
theorem num_sep (t : List UInt8) (c : UInt8) (r : List UInt8) (hs : sepB c = true) (hn : (numL t).1 = t.length) : (numL (t ++ c :: r)).1 = t.length ∧ (numL (t ++ c :: r)).2.1 = (numL t).2.1 := by
 obtain ⟨s1, s2, s3, s4, s5, s6⟩ := sep_facts c hs
 unfold numL at hn ⊢
 rw [runL_sep digB t c r s2]
 have hle := runL_le digB t
 generalize runL digB t = d at hn hle ⊢
 unfold numN at hn ⊢
 by_cases hc : d + 1 < t.length ∧ (t.getD d 0).toNat = 46 ∧ digB (t.getD (d + 1) 0) = true
 ·have hc' : d + 1 < (t ++ c :: r).length ∧ ((t ++ c :: r).getD d 0).toNat = 46 ∧ digB ((t ++ c :: r).getD (d + 1) 0) = true := by
   rw [getD_app (by omega), getD_app hc.1]
   exact ⟨lt_app _ hc.1, hc.2⟩
  rw [if_pos hc] at hn ⊢
  rw [if_pos hc', drop_app (by omega), runL_sep digB _ c r s2]
  have hml : d + 1 + runL digB (t.drop (d + 1)) ≤ t.length := by
   have := runL_le digB (t.drop (d + 1))
   rw [List.length_drop] at this
   omega
  generalize d + 1 + runL digB (t.drop (d + 1)) = m at hn hml ⊢
  unfold realL at hn ⊢
  by_cases he : m < t.length ∧ (t.getD m 0).toNat = 101
  ·have he' : m < (t ++ c :: r).length ∧ ((t ++ c :: r).getD m 0).toNat = 101 := by
    rw [getD_app he.1]
    exact ⟨lt_app _ he.1, he.2⟩
   rw [if_pos he] at hn ⊢
   rw [if_pos he']
   dsimp only at hn ⊢
   unfold expL at hn ⊢
   have hk : expAt t m < t.length ∧ digB (t.getD (expAt t m) 0) = true := by
    unfold expK at hn
    by_cases h1 : expAt t m < t.length
    ·rw [if_pos h1] at hn
     by_cases h2 : digB (t.getD (expAt t m) 0) = true
     ·exact ⟨h1, h2⟩
     ·rw [if_neg h2] at hn
      have : m = t.length := hn
      omega
    ·rw [if_neg h1] at hn
     have : m = t.length := hn
     omega
   have hkm : m + 1 ≤ expAt t m := by unfold expAt; split <;> omega
   have ea : expAt (t ++ c :: r) m = expAt t m := by
    unfold expAt
    rw [getD_app (by omega)]
   rw [ea]
   unfold expK at hn ⊢
   rw [if_pos hk.1, if_pos hk.2] at hn
   rw [if_pos (lt_app _ hk.1), getD_app hk.1, if_pos hk.2, drop_app (by omega), runL_sep digB _ c r s2]
   exact ⟨hn, rfl⟩
  ·rw [if_neg he] at hn ⊢
   have hn : m = t.length := hn
   subst hn
   rw [if_neg (fun h => s5 (by have := h.2; rw [getD_end] at this; exact this))]
   exact ⟨rfl, rfl⟩
 ·rw [if_neg hc] at hn ⊢
  have hn : d = t.length := hn
  subst hn
  rw [if_neg (fun h => s4 (by have := h.2.1; rw [getD_end] at this; exact this))]
  exact ⟨rfl, rfl⟩
theorem item_sep (t : List UInt8) (c : UInt8) (r : List UInt8) (hs : sepB c = true) (h0 : t ≠ []) (he : (itemL (classL t) t).e = 0) (hb : classL t ≠ 6) (hl : (itemL (classL t) t).len = t.length) :
  classL (t ++ c :: r) = classL t ∧ core (itemL (classL (t ++ c :: r)) (t ++ c :: r)) = core (itemL (classL t) t) := by
 obtain ⟨s1, s2, s3, s4, s5, s6⟩ := sep_facts c hs
 have hc : classL (t ++ c :: r) = classL t := by
  by_cases h : t = [40]
  ·subst h
   have : ¬ (some c = some (42 : UInt8)) := fun h => s6 (Option.some.inj h)
   have c1 : ¬ ((40 : UInt8).toNat = 40 ∧ (c :: r).head? = some 42) := fun h => this h.2
   have c2 : ¬ ((40 : UInt8).toNat = 40 ∧ ([] : List UInt8).head? = some 42) := fun h => by cases h.2
   show classL (40 :: c :: r) = classL [40]
   rw [class_cons, class_cons, if_neg c1, if_neg c2]
  ·exact class_app t _ h0 h
 refine ⟨hc, ?_⟩
 rw [hc]
 generalize classL t = k at he hb hl
 clear hc
 unfold itemL at he hl ⊢
 by_cases c1 : k = 1
 ·rw [if_pos c1] at he hl ⊢
  rw [if_pos c1]
  unfold letterI letterN at he hl ⊢
  rw [runL_sep alnB t c r s1, take_app (runL_le alnB t)]
  split
  ·simp only [core, tokI, take_app (runL_le alnB t)]
  ·split
   ·rfl
   ·simp only [core, tokI, take_app (runL_le alnB t)]
 ·rw [if_neg c1] at he hl ⊢
  rw [if_neg c1]
  by_cases c2 : k = 2
  ·rw [if_pos c2] at he hl ⊢
   rw [if_pos c2]
   unfold numberI at he hl ⊢
   have hx : ¬ ((numL t).1 < t.length ∧ letB (t.getD (numL t).1 0) = true) := fun h => by
    unfold numberX at he
    rw [if_pos h] at he
    cases he
   have hn : (numL t).1 = t.length := by
    unfold numberX at hl
    rw [if_neg hx] at hl
    exact hl
   obtain ⟨h1, h2⟩ := num_sep t c r hs hn
   unfold numberX
   rw [if_neg hx, h1, getD_end, if_neg (fun h => by rw [s3] at h; cases h.2)]
   simp only [core, tokI, h2, hn]
   rw [take_app (Nat.le_refl _)]
  ·rw [if_neg c2] at he hl ⊢
   rw [if_neg c2]
   by_cases c3 : k = 3
   ·rw [if_pos c3] at he hl ⊢
    rw [if_pos c3]
    have : (tickI t).sure = true := by
     unfold tickI at he ⊢
     split
     ·rfl
     ·rename_i h1
      rw [if_neg h1] at he
      split
      ·rename_i h2
       rw [if_pos h2] at he
       cases he
      ·rfl
    rw [tick_stable t _ this]
   ·rw [if_neg c3] at he hl ⊢
    rw [if_neg c3]
    by_cases c4 : k = 4
    ·rw [if_pos c4] at he hl ⊢
     rw [if_pos c4]
     have : (quoteI t).sure = true := by
      unfold quoteI quoteN at he ⊢
      split
      ·rename_i h1
       rw [if_pos h1] at he
       cases he
      ·split
       ·rfl
       ·split
        ·rfl
        ·rfl
     rw [quote_stable t _ h0 this]
    ·rw [if_neg c4] at he hl ⊢
     rw [if_neg c4]
     by_cases c5 : k = 5
     ·rw [if_pos c5] at he hl ⊢
      rw [if_pos c5]
      have : (noteI t).sure = true := by
       unfold noteI at he ⊢
       cases hn : endL (t.drop 2) with
       | none => rw [hn] at he; cases he
       | some n => rfl
      rw [note_stable t _ this]
     ·rw [if_neg c5] at he hl ⊢
      rw [if_neg c5]
      obtain ⟨a, b, d⟩ := signL_spec t (min 3 t.length)
      unfold signI at he hl ⊢
      generalize signL t (min 3 t.length) = n at he hl a b d ⊢
      have hz : n ≠ 0 := fun h => by
       unfold signN at he
       rw [if_pos h] at he
       cases he
      have hn : n = t.length := by
       unfold signN at hl
       rw [if_neg hz] at hl
       exact hl
      have e : signL (t ++ c :: r) (min 3 (t ++ c :: r).length) = n := by
       refine signL_unique _ _ _ (by rw [List.length_append]; omega) ?_ ?_
       ·exact b.imp id fun h => by rw [take_app (by omega)]; exact h
       ·intro i h1 h2 hm
        have := sep_signs _ hm n (by rw [List.length_take]; rw [List.length_append] at h2 ⊢; simp only [List.length_cons] at h2 ⊢; omega) (by omega)
        rw [List.getD_eq_getElem?_getD, List.getElem?_take_of_lt h1, ← List.getD_eq_getElem?_getD, hn, getD_end, hs] at this
        cases this
      rw [e]
      unfold signN
      rw [if_neg hz, if_neg hz]
      simp only [core, tokI, take_app (Nat.le_of_eq hn)]
theorem expK_stop (t : List UInt8) (m k : Nat) (hm : digB (t.getD m 0) = false) : ((expK t m k).1 < t.length → digB (t.getD (expK t m k).1 0) = false) := by
 intro h
 unfold expK at h ⊢
 split at h
 ·rename_i h1
  rw [if_pos h1]
  split at h
  ·rename_i h2
   rw [if_pos h2]
   exact runL_stop digB t k (Nat.le_of_lt h1) h
  ·rename_i h2
   rw [if_neg h2]
   exact hm
 ·rename_i h1
  rw [if_neg h1]
  exact hm
where
 runL_stop (p : UInt8 → Bool) (t : List UInt8) (k : Nat) (hk : k ≤ t.length) (h : k + runL p (t.drop k) < t.length) : p (t.getD (k + runL p (t.drop k)) 0) = false := by
  have key : ∀ s : List UInt8, runL p s < s.length → p (s.getD (runL p s) 0) = false := by
   intro s
   induction s with
   | nil => intro h; simp at h
   | cons c r ih =>
    intro h
    by_cases hc : p c = true
    ·have e : runL p (c :: r) = runL p r + 1 := by rw [runL, if_pos hc]
     rw [e] at h ⊢
     simpa using ih (by simpa using h)
    ·have e : runL p (c :: r) = 0 := by rw [runL, if_neg hc]
     rw [e]
     simpa using hc
  have := key (t.drop k) (by rw [List.length_drop]; omega)
  rw [List.getD_eq_getElem?_getD, List.getElem?_drop, ← List.getD_eq_getElem?_getD] at this
  exact this
theorem runL_stop (p : UInt8 → Bool) (t : List UInt8) (k : Nat) (hk : k ≤ t.length) (h : k + runL p (t.drop k) < t.length) : p (t.getD (k + runL p (t.drop k)) 0) = false := expK_stop.runL_stop p t k hk h
end Go.Proofs.YtniihjhlkpjnoaaDoor.Given