-- Out of this text a program of mine (wip/slim.py) took what this claim does not use.
/- Plain: an item that is not sure is another one behind some continuation of at most two bytes. -/
import Derived.Test.YtniihjhlkpjnoaaDoorJ4
section
set_option linter.unusedVariables false
set_option linter.unusedSimpArgs false
namespace Go.Proofs.YtniihjhlkpjnoaaDoor.Given
theorem class_app (t u : List UInt8) (h0 : t ≠ []) (h : t ≠ [40]) : classL (t ++ u) = classL t := by
 cases t with
 | nil => exact absurd rfl h0
 | cons c r =>
  cases r with
  | cons d r => rfl
  | nil =>
   have hc : ¬ c.toNat = 40 := fun hc => h (by rw [UInt8.toNat_inj.1 (show c.toNat = (40 : UInt8).toNat from hc)])
   show (if c.toNat = 40 ∧ ([] ++ u).head? = some 42 then (5 : Int) else _) = if c.toNat = 40 ∧ (none : Option UInt8) = some 42 then (5 : Int) else _
   have c1 : ¬ (c.toNat = 40 ∧ ([] ++ u).head? = some 42) := fun h => hc h.1
   have c2 : ¬ (c.toNat = 40 ∧ (none : Option UInt8) = some 42) := fun h => hc h.1
   rw [if_neg c1, if_neg c2]
theorem runL_all (p : UInt8 → Bool) (u : List UInt8) : ∀ t, runL p t = t.length → runL p (t ++ u) = t.length + runL p u
 | [], _ => by simp
 | c :: r, h => by
  unfold runL at h
  by_cases hc : p c = true
  ·rw [if_pos hc] at h
   show (if p c = true then runL p (r ++ u) + 1 else 0) = _
   rw [if_pos hc, runL_all p u r (by simpa using h)]
   simp
   omega
  ·rw [if_neg hc] at h
   simp at h
theorem getD_end (t : List UInt8) (a : UInt8) (u : List UInt8) : (t ++ a :: u).getD t.length 0 = a := by
 rw [List.getD_eq_getElem?_getD, List.getElem?_append_right (Nat.le_refl _)]
 simp
theorem numberX_len (t : List UInt8) (x : Nat × Int × Bool) : ((numberX t x).len = x.1 ∧ (numberX t x).e = 0) ∨ ((numberX t x).len = 0 ∧ (numberX t x).e = 7) := by
 unfold numberX
 split
 ·exact .inr ⟨rfl, rfl⟩
 ·exact .inl ⟨rfl, rfl⟩
theorem expK_len (t : List UInt8) (n k : Nat) (hn : n ≤ t.length) : (expK t n k).1 ≤ t.length := by
 unfold expK
 split
 ·split
  ·have := runL_le digB (t.drop k)
   rw [List.length_drop] at this
   show k + _ ≤ _
   omega
  ·exact hn
 ·exact hn
theorem num_le (t : List UInt8) : (numL t).1 ≤ t.length := by
 have hle := runL_le digB t
 unfold numL numN
 split
 ·have hle2 := runL_le digB (t.drop (runL digB t + 1))
  rw [List.length_drop] at hle2
  unfold realL
  split
  ·exact expK_len t _ _ (by omega)
  ·show runL digB t + 1 + _ ≤ _
   omega
 ·exact hle
end Go.Proofs.YtniihjhlkpjnoaaDoor.Given
end
section
-- Out of this text a program of mine (wip/slim.py) took what this claim does not use.
/- Plain: a text that is read in two pieces. -/
set_option linter.unusedVariables false
set_option linter.unusedSimpArgs false
namespace Go.Proofs.YtniihjhlkpjnoaaDoor.Given
def overB (more : Bool) (t : List UInt8) (many : Int) : Bool := !(decide (classL t = 5) || (more && decide (t = [40]))) && decide (131072 ≤ many)
theorem items_cons (more : Bool) (k : Nat) (c : UInt8) (r : List UInt8) (at' : Nat) (many : Int) : itemsL more (k + 1) (c :: r) at' many =
  if classL (c :: r) = 6 then itemsL more k r (at' + 1) many
  else if overB more (c :: r) many = true then ([], some (2, at'))
  else if more = true ∧ (itemL (classL (c :: r)) (c :: r)).sure = false then ([(at', itemL (classL (c :: r)) (c :: r))], none)
  else if ¬ (itemL (classL (c :: r)) (c :: r)).e = 0 then ([], some ((itemL (classL (c :: r)) (c :: r)).e, at'))
  else ((at', itemL (classL (c :: r)) (c :: r)) :: (itemsL more k ((c :: r).drop (itemL (classL (c :: r)) (c :: r)).len) (at' + (itemL (classL (c :: r)) (c :: r)).len) (if (itemL (classL (c :: r)) (c :: r)).kind = 0 then many else many + 1)).1,
   (itemsL more k ((c :: r).drop (itemL (classL (c :: r)) (c :: r)).len) (at' + (itemL (classL (c :: r)) (c :: r)).len) (if (itemL (classL (c :: r)) (c :: r)).kind = 0 then many else many + 1)).2) := by
 have e : (decide (c.toNat = 40) && decide (r = [])) = decide (c :: r = [40]) := by
  by_cases h : c :: r = [40]
  ·rw [decide_eq_true h]
   cases h
   rfl
  ·rw [decide_eq_false h]
   by_cases hc : c.toNat = 40
   ·rw [decide_eq_true hc, decide_eq_false (fun hr => h (by rw [hr, UInt8.toNat_inj.1 (show c.toNat = (40 : UInt8).toNat from hc)]))]
    rfl
   ·rw [decide_eq_false hc]
    rfl
 unfold overB
 rw [← e]
 show (if classL (c :: r) = 6 then itemsL more k r (at' + 1) many else _) = _
 rw [Bool.and_assoc]
def feedL : Nat → List UInt8 → Nat → Int → List (Nat × Itm) × Option (Int × Nat) × Nat × Int
 | 0, _, _, many => ([], none, 0, many)
 | _ + 1, [], _, many => ([], none, 0, many)
 | k + 1, c :: r, at', many =>
  if classL (c :: r) = 6 then ((feedL k r (at' + 1) many).1, (feedL k r (at' + 1) many).2.1, (feedL k r (at' + 1) many).2.2.1 + 1, (feedL k r (at' + 1) many).2.2.2)
  else if overB true (c :: r) many = true then ([], some (2, at'), 0, many)
  else if (itemL (classL (c :: r)) (c :: r)).sure = false then ([], none, 0, many)
  else if ¬ (itemL (classL (c :: r)) (c :: r)).e = 0 then ([], some ((itemL (classL (c :: r)) (c :: r)).e, at'), 0, many)
  else
   let y := feedL k ((c :: r).drop (itemL (classL (c :: r)) (c :: r)).len) (at' + (itemL (classL (c :: r)) (c :: r)).len) (if (itemL (classL (c :: r)) (c :: r)).kind = 0 then many else many + 1)
   ((at', itemL (classL (c :: r)) (c :: r)) :: y.1, y.2.1, (itemL (classL (c :: r)) (c :: r)).len + y.2.2.1, y.2.2.2)
theorem item_len (t : List UInt8) (h0 : t ≠ []) (he : (itemL (classL t) t).e = 0) (hb : classL t ≠ 6) : 1 ≤ (itemL (classL t) t).len ∧ (itemL (classL t) t).len ≤ t.length := by
 have hl : 1 ≤ t.length := List.length_pos_iff.2 h0
 unfold itemL at he ⊢
 by_cases c1 : classL t = 1
 ·rw [if_pos c1] at he ⊢
  have h1 : 1 ≤ runL alnB t := by
   cases t with
   | nil => exact absurd rfl h0
   | cons c r =>
    have hd : letB c = true := by
     rw [classL] at c1
     by_cases hd : letB c = true
     ·exact hd
     ·exfalso
      rw [if_neg hd] at c1
      repeat' split at c1
      all_goals simp_all
    unfold runL alnB
    rw [if_pos (by rw [hd]; rfl)]
    omega
  have h2 := runL_le alnB t
  unfold letterI letterN at he ⊢
  split
  ·exact ⟨h1, h2⟩
  ·rename_i hw
   rw [if_neg hw] at he
   split
   ·rename_i h16
    rw [if_pos h16] at he
    cases he
   ·exact ⟨h1, h2⟩
 ·rw [if_neg c1] at he ⊢
  by_cases c2 : classL t = 2
  ·rw [if_pos c2] at he ⊢
   have h1 : 1 ≤ runL digB t := by
    cases t with
    | nil => exact absurd rfl h0
    | cons c r =>
     have hd : digB c = true := by
      rw [classL] at c2
      by_cases hd : digB c = true
      ·exact hd
      ·exfalso
       rw [if_neg hd] at c2
       repeat' split at c2
       all_goals simp_all
     unfold runL
     rw [if_pos hd]
     omega
   have h2 : runL digB t ≤ (numL t).1 := by
    unfold numL numN
    split
    ·unfold realL
     split
     ·show _ ≤ (expL t _).1
      unfold expL expK
      split
      ·split
       ·show _ ≤ expAt t _ + _
        unfold expAt
        split <;> omega
       ·show _ ≤ runL digB t + 1 + _
        omega
      ·show _ ≤ runL digB t + 1 + _
       omega
     ·show _ ≤ runL digB t + 1 + _
      omega
    ·exact Nat.le_refl _
   have h3 := num_le t
   unfold numberI at he ⊢
   rcases numberX_len t (numL t) with ⟨a, b⟩ | ⟨a, b⟩
   ·omega
   ·rw [b] at he
    cases he
  ·rw [if_neg c2] at he ⊢
   by_cases c3 : classL t = 3
   ·rw [if_pos c3] at he ⊢
    unfold tickI at he ⊢
    split
    ·rename_i h1
     rw [if_pos h1] at he
     cases he
    ·rename_i h1
     rw [if_neg h1] at he
     split
     ·rename_i h2
      rw [if_pos h2] at he
      cases he
     ·show 1 ≤ 3 ∧ 3 ≤ t.length
      omega
   ·rw [if_neg c3] at he ⊢
    by_cases c4 : classL t = 4
    ·rw [if_pos c4] at he ⊢
     have hle := runL_le inqB (t.drop 1)
     rw [List.length_drop] at hle
     unfold quoteI quoteN at he ⊢
     split
     ·rename_i h1
      rw [if_pos h1] at he
      cases he
     ·rename_i h1
      rw [if_neg h1] at he
      split
      ·rename_i h2
       rw [if_pos h2] at he
       cases he
      ·rename_i h2
       rw [if_neg h2] at he
       split
       ·rename_i h3
        rw [if_pos h3] at he
        cases he
       ·show 1 ≤ 1 + _ + 1 ∧ 1 + _ + 1 ≤ _
        omega
    ·rw [if_neg c4] at he ⊢
     by_cases c5 : classL t = 5
     ·rw [if_pos c5] at he ⊢
      unfold noteI at he ⊢
      cases hn : endL (t.drop 2) with
      | none => rw [hn] at he; cases he
      | some n =>
       have h2 : 2 ≤ t.length := by
        rcases Nat.lt_or_ge t.length 2 with h2 | h2
        ·rw [List.drop_of_length_le (by omega)] at hn
         cases hn
        ·exact h2
       have := (endL_app [] _ n hn).2
       rw [List.length_drop] at this
       show 1 ≤ n + 4 ∧ n + 4 ≤ t.length
       omega
     ·rw [if_neg c5] at he ⊢
      obtain ⟨a, b, c⟩ := signL_spec t (min 3 t.length)
      unfold signI signN at he ⊢
      split
      ·rename_i h1
       rw [if_pos h1] at he
       cases he
      ·rename_i h1
       show 1 ≤ signL t _ ∧ signL t _ ≤ _
       omega
theorem items_fuel (more : Bool) : ∀ (k j : Nat) (t : List UInt8) (at' : Nat) (many : Int), t.length < k → t.length < j → itemsL more k t at' many = itemsL more j t at' many
 | 0, j, t, at', many, h, _ => by omega
 | k + 1, 0, t, at', many, _, h => by omega
 | k + 1, j + 1, [], at', many, _, _ => rfl
 | k + 1, j + 1, c :: r, at', many, h1, h2 => by
  rw [items_cons, items_cons]
  simp only [List.length_cons] at h1 h2
  by_cases hb : classL (c :: r) = 6
  ·rw [if_pos hb, if_pos hb]
   exact items_fuel more k j r _ _ (by omega) (by omega)
  ·rw [if_neg hb, if_neg hb]
   by_cases he : (itemL (classL (c :: r)) (c :: r)).e = 0
   ·have hlen := item_len (c :: r) (by simp) he hb
    have hd : ((c :: r).drop (itemL (classL (c :: r)) (c :: r)).len).length < k ∧ ((c :: r).drop (itemL (classL (c :: r)) (c :: r)).len).length < j := by
     rw [List.length_drop, List.length_cons]
     simp only [List.length_cons] at hlen
     omega
    rw [items_fuel more k j _ _ _ hd.1 hd.2]
   ·rw [if_pos he, if_pos he]
end Go.Proofs.YtniihjhlkpjnoaaDoor.Given
end
