-- Out of this text a program of mine (wip/slim.py) took what this claim does not use.
/- Plain: a separator behind a text changes nothing of its first item; what a token's own bytes are; reading without errors as a relation. -/
import Derived.Test.YtniihjhlkpjnoaaDoorLexR
set_option linter.unusedVariables false
set_option linter.unusedSimpArgs false
namespace Go.Proofs.YtniihjhlkpjnoaaDoor.Given
theorem number_sure1 (t : List UInt8) (he : (numberI t).e = 0) (hl : (numberI t).len < t.length) (hs : (numberI t).sure = false) :
  ¬ (runL digB t + 1 < t.length ∧ (t.getD (runL digB t) 0).toNat = 46 ∧ digB (t.getD (runL digB t + 1) 0) = true) ∧ runL digB t + 1 = t.length ∧ (t.getD (runL digB t) 0).toNat = 46 := by
 unfold numberI at he hl hs
 rw [numberX_sure] at hs
 have hx : ¬ ((numL t).1 < t.length ∧ letB (t.getD (numL t).1 0) = true) := fun h => by
  unfold numberX at he
  rw [if_pos h] at he
  cases he
 have hn : (numL t).1 < t.length := by
  unfold numberX at hl
  rw [if_neg hx] at hl
  exact hl
 clear he hl
 unfold numL numN at hx hn hs
 split at hs
 ·rename_i hc
  exfalso
  rw [if_pos hc] at hx hn
  generalize runL digB t + 1 + runL digB (t.drop (runL digB t + 1)) = m at hx hn hs
  unfold realL at hx hn hs
  split at hs
  ·rename_i hm
   rw [if_pos hm] at hx hn
   dsimp only at hx hn hs
   unfold expL expK at hx hn hs
   split at hs
   ·rename_i hk2
    rw [if_pos hk2] at hx hn
    split at hs
    ·rename_i hd
     rw [if_pos hd] at hx hn
     exact of_decide_eq_false hs hn
    ·cases hs
   ·rename_i hk2
    rw [if_neg hk2] at hx
    exact absurd ⟨hm.1, let101 hm.2⟩ hx
  ·rename_i hm
   rw [if_neg hm] at hn
   exact of_decide_eq_false hs hn
 ·rename_i hc
  rw [if_neg hc] at hn
  have hn : runL digB t < t.length := hn
  unfold intL at hs
  dsimp only at hs
  rw [decide_eq_true hn, Bool.true_and, Bool.not_eq_false', Bool.and_eq_true, decide_eq_true_eq, decide_eq_true_eq] at hs
  exact ⟨hc, hs.2, hs.1⟩
theorem number_sep1 (t : List UInt8) (c : UInt8) (r : List UInt8) (hs : sepB c = true) (he : (numberI t).e = 0) (hl : (numberI t).len < t.length) : core (numberI (t ++ c :: r)) = core (numberI t) := by
 obtain ⟨s1, s2, s3, s4, s5, s6⟩ := sep_facts c hs
 cases hsu : (numberI t).sure with
 | true => rw [number_stable t _ hsu]
 | false =>
  obtain ⟨h1, h2, h3⟩ := number_sure1 t he hl hsu
  have h4 : runL digB t < t.length := by omega
  have hl46 : letB (t.getD (runL digB t) 0) = false := by
   have : t.getD (runL digB t) 0 = 46 := UInt8.toNat_inj.1 h3
   rw [this]
   decide
  have e1 : numL t = intL t (runL digB t) := by
   unfold numL numN
   rw [if_neg h1]
  have e2 : numL (t ++ c :: r) = intL (t ++ c :: r) (runL digB t) := by
   unfold numL numN
   rw [runL_app digB _ t h4, if_neg]
   rintro ⟨g1, g2, g3⟩
   rw [h2, getD_end, s2] at g3
   cases g3
  unfold numberI
  rw [e1, e2]
  unfold numberX intL
  dsimp only
  rw [getD_app h4, hl46, if_neg (fun h => by cases h.2), if_neg (fun h => by cases h.2)]
  simp only [core, tokI, take_app (Nat.le_of_lt h4)]
theorem tick_sure (t : List UInt8) (he : (tickI t).e = 0) : (tickI t).sure = true := by
 unfold tickI at he ⊢
 split
 ·rfl
 ·rename_i h1
  rw [if_neg h1] at he
  split
  ·rename_i h2
   rw [if_pos h2] at he
   cases he
  ·rfl
theorem quote_sure (t : List UInt8) (he : (quoteI t).e = 0) : (quoteI t).sure = true := by
 unfold quoteI quoteN at he ⊢
 split
 ·rename_i h1
  rw [if_pos h1] at he
  cases he
 ·split
  ·rfl
  ·split
   ·rfl
   ·rfl
theorem note_sure (t : List UInt8) (he : (noteI t).e = 0) : (noteI t).sure = true := by
 unfold noteI at he ⊢
 cases hn : endL (t.drop 2) with
 | none => rw [hn] at he; cases he
 | some n => rfl
theorem sign_sep1 (t : List UInt8) (c : UInt8) (r : List UInt8) (hs : sepB c = true) (he : (signI t).e = 0) (hl : (signI t).len < t.length) : core (signI (t ++ c :: r)) = core (signI t) := by
 obtain ⟨a, b, d⟩ := signL_spec t (min 3 t.length)
 unfold signI at he hl ⊢
 generalize signL t (min 3 t.length) = n at he hl a b d ⊢
 have hz : n ≠ 0 := fun h => by
  unfold signN at he
  rw [if_pos h] at he
  cases he
 have hn : n < t.length := by
  unfold signN at hl
  rw [if_neg hz] at hl
  exact hl
 have e : signL (t ++ c :: r) (min 3 (t ++ c :: r).length) = n := by
  refine signL_unique _ _ _ (by rw [List.length_append]; omega) ?_ ?_
  ·exact b.imp id fun h => by rw [take_app (by omega)]; exact h
  ·intro i h1 h2 hm
   by_cases hi : i ≤ t.length
   ·rw [take_app hi] at hm
    exact d i h1 (by omega) hm
   ·have := sep_signs _ hm t.length (by rw [List.length_take]; rw [List.length_append] at h2 ⊢; simp only [List.length_cons] at h2 ⊢; omega) (by omega)
    rw [List.getD_eq_getElem?_getD, List.getElem?_take_of_lt (by omega), ← List.getD_eq_getElem?_getD, getD_end, hs] at this
    cases this
 rw [e]
 unfold signN
 rw [if_neg hz, if_neg hz]
 simp only [core, tokI, take_app (Nat.le_of_lt hn)]
theorem item_sep' (t : List UInt8) (c : UInt8) (r : List UInt8) (hs : sepB c = true) (h0 : t ≠ []) (he : (itemL (classL t) t).e = 0) (hb : classL t ≠ 6) :
  classL (t ++ c :: r) = classL t ∧ core (itemL (classL (t ++ c :: r)) (t ++ c :: r)) = core (itemL (classL t) t) := by
 have hle := (item_len t h0 he hb).2
 by_cases hl : (itemL (classL t) t).len = t.length
 ·exact item_sep t c r hs h0 he hb hl
 have hl : (itemL (classL t) t).len < t.length := by omega
 obtain ⟨s1, s2, s3, s4, s5, s6⟩ := sep_facts c hs
 have hc : classL (t ++ c :: r) = classL t := by
  by_cases h : t = [40]
  ·subst h
   have : ¬ (some c = some (42 : UInt8)) := fun h => s6 (Option.some.inj h)
   have c1 : ¬ ((40 : UInt8).toNat = 40 ∧ (c :: r).head? = some 42) := fun h => this h.2
   have c2 : ¬ ((40 : UInt8).toNat = 40 ∧ ([] : List UInt8).head? = some 42) := fun h => by cases h.2
   show classL (40 :: c :: r) = classL [40]
   rw [class_cons, class_cons, if_neg c1, if_neg c2]
  ·exact class_app t _ h0 h
 refine ⟨hc, ?_⟩
 rw [hc]
 generalize classL t = k at he hb hl
 clear hc hle
 unfold itemL at he hl ⊢
 by_cases c1 : k = 1
 ·rw [if_pos c1] at he hl ⊢
  rw [if_pos c1]
  have : (letterI t).sure = true := by
   unfold letterI letterN at he hl ⊢
   split
   ·rename_i h
    rw [if_pos h] at hl
    exact decide_eq_true hl
   ·rename_i h
    rw [if_neg h] at hl he
    split
    ·rfl
    ·rename_i h2
     rw [if_neg h2] at hl
     exact decide_eq_true hl
  rw [letter_stable t _ this]
 ·rw [if_neg c1] at he hl ⊢
  rw [if_neg c1]
  by_cases c2 : k = 2
  ·rw [if_pos c2] at he hl ⊢
   rw [if_pos c2]
   exact number_sep1 t c r hs he hl
  ·rw [if_neg c2] at he hl ⊢
   rw [if_neg c2]
   by_cases c3 : k = 3
   ·rw [if_pos c3] at he hl ⊢
    rw [if_pos c3]
    rw [tick_stable t _ (tick_sure t he)]
   ·rw [if_neg c3] at he hl ⊢
    rw [if_neg c3]
    by_cases c4 : k = 4
    ·rw [if_pos c4] at he hl ⊢
     rw [if_pos c4]
     rw [quote_stable t _ h0 (quote_sure t he)]
    ·rw [if_neg c4] at he hl ⊢
     rw [if_neg c4]
     by_cases c5 : k = 5
     ·rw [if_pos c5] at he hl ⊢
      rw [if_pos c5]
      rw [note_stable t _ (note_sure t he)]
     ·rw [if_neg c5] at he hl ⊢
      rw [if_neg c5]
      exact sign_sep1 t c r hs he hl
abbrev Core := Int × List UInt8 × Int × Nat × Int
def itm (t : List UInt8) : Core := core (itemL (classL t) t)
def cLen (x : Core) : Nat := x.2.2.2.1
def cE (x : Core) : Int := x.2.2.2.2
def tk (p : Nat × Itm) : Nat × Core := (p.1, core p.2)
inductive Rd : List UInt8 → Nat → Int → List (Nat × Core) → Prop
 | nil (a : Nat) (m : Int) : Rd [] a m []
 | blank (c : UInt8) (r : List UInt8) (a : Nat) (m : Int) (xs : List (Nat × Core)) (hb : classL (c :: r) = 6) (h : Rd r (a + 1) m xs) : Rd (c :: r) a m xs
 | item (t : List UInt8) (a : Nat) (m : Int) (xs : List (Nat × Core)) (h0 : t ≠ []) (hb : classL t ≠ 6) (ho : overB false t m = false) (he : cE (itm t) = 0)
   (h : Rd (t.drop (cLen (itm t))) (a + cLen (itm t)) (if (itm t).1 = 0 then m else m + 1) xs) : Rd t a m ((a, itm t) :: xs)
theorem rd_of : ∀ (k : Nat) (t : List UInt8) (a : Nat) (m : Int) (ys : List (Nat × Itm)), t.length < k → itemsL false k t a m = (ys, none) → Rd t a m (ys.map tk)
 | 0, t, _, _, _, h, _ => by omega
 | k + 1, [], a, m, ys, _, h => by
  have : ys = [] := (congrArg Prod.fst h).symm
  subst this
  exact .nil a m
 | k + 1, c :: r, a, m, ys, hk, h => by
  rw [items_cons] at h
  split at h
  ·rename_i hb
   exact .blank c r a m _ hb (rd_of k r (a + 1) m ys (by simpa using hk) h)
  ·rename_i hb
   split at h
   ·cases congrArg Prod.snd h
   ·rename_i ho
    split at h
    ·rename_i hm
     cases hm.1
    ·split at h
     ·cases congrArg Prod.snd h
     ·rename_i he
      have he : (itemL (classL (c :: r)) (c :: r)).e = 0 := by simpa using he
      obtain ⟨g1, g2⟩ := item_len (c :: r) (by simp) he hb
      have h1 := congrArg Prod.fst h
      have h2 := congrArg Prod.snd h
      dsimp only at h1 h2
      subst h1
      refine .item (c :: r) a m _ (by simp) hb (by simpa using ho) he ?_
      refine rd_of k _ _ _ _ ?_ (Prod.ext rfl h2)
      rw [List.length_drop]
      show (c :: r).length - (itemL (classL (c :: r)) (c :: r)).len < k
      omega
end Go.Proofs.YtniihjhlkpjnoaaDoor.Given