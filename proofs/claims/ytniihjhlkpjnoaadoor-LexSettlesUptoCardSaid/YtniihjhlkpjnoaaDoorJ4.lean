-- Out of this text a program of mine (wip/slim.py) took what this claim does not use.
/- Plain: an item that is not sure is another one behind some continuation of at most two bytes. -/
import Derived.Test.YtniihjhlkpjnoaaDoorJ3
import Derived.Test.YtniihjhlkpjnoaaDoorPTx1
import Derived.RegionTactic
import Derived.BigRegion
import Derived.ChangeAlike
import Derived.Outline
import Derived.IntWalk
section
set_option linter.unusedVariables false
set_option linter.unusedSimpArgs false
namespace Go.Proofs.YtniihjhlkpjnoaaDoor.Given
theorem class_app (t u : List UInt8) (h0 : t ≠ []) (h : t ≠ [40]) : classL (t ++ u) = classL t := by
 cases t with
 | nil => exact absurd rfl h0
 | cons c r =>
  cases r with
  | cons d r => rfl
  | nil =>
   have hc : ¬ c.toNat = 40 := fun hc => h (by rw [UInt8.toNat_inj.1 (show c.toNat = (40 : UInt8).toNat from hc)])
   show (if c.toNat = 40 ∧ ([] ++ u).head? = some 42 then (5 : Int) else _) = if c.toNat = 40 ∧ (none : Option UInt8) = some 42 then (5 : Int) else _
   have c1 : ¬ (c.toNat = 40 ∧ ([] ++ u).head? = some 42) := fun h => hc h.1
   have c2 : ¬ (c.toNat = 40 ∧ (none : Option UInt8) = some 42) := fun h => hc h.1
   rw [if_neg c1, if_neg c2]
theorem runL_all (p : UInt8 → Bool) (u : List UInt8) : ∀ t, runL p t = t.length → runL p (t ++ u) = t.length + runL p u
 | [], _ => by simp
 | c :: r, h => by
  unfold runL at h
  by_cases hc : p c = true
  ·rw [if_pos hc] at h
   show (if p c = true then runL p (r ++ u) + 1 else 0) = _
   rw [if_pos hc, runL_all p u r (by simpa using h)]
   simp
   omega
  ·rw [if_neg hc] at h
   simp at h
theorem getD_end (t : List UInt8) (a : UInt8) (u : List UInt8) : (t ++ a :: u).getD t.length 0 = a := by
 rw [List.getD_eq_getElem?_getD, List.getElem?_append_right (Nat.le_refl _)]
 simp
theorem numberX_len (t : List UInt8) (x : Nat × Int × Bool) : ((numberX t x).len = x.1 ∧ (numberX t x).e = 0) ∨ ((numberX t x).len = 0 ∧ (numberX t x).e = 7) := by
 unfold numberX
 split
 ·exact .inr ⟨rfl, rfl⟩
 ·exact .inl ⟨rfl, rfl⟩
theorem expK_len (t : List UInt8) (n k : Nat) (hn : n ≤ t.length) : (expK t n k).1 ≤ t.length := by
 unfold expK
 split
 ·split
  ·have := runL_le digB (t.drop k)
   rw [List.length_drop] at this
   show k + _ ≤ _
   omega
  ·exact hn
 ·exact hn
theorem num_le (t : List UInt8) : (numL t).1 ≤ t.length := by
 have hle := runL_le digB t
 unfold numL numN
 split
 ·have hle2 := runL_le digB (t.drop (runL digB t + 1))
  rw [List.length_drop] at hle2
  unfold realL
  split
  ·exact expK_len t _ _ (by omega)
  ·show runL digB t + 1 + _ ≤ _
   omega
 ·exact hle
end Go.Proofs.YtniihjhlkpjnoaaDoor.Given
end
section
/- Plain: a text that is read in two pieces. -/
set_option linter.unusedVariables false
set_option linter.unusedSimpArgs false
namespace Go.Proofs.YtniihjhlkpjnoaaDoor.Given
def overB (more : Bool) (t : List UInt8) (many : Int) : Bool := !(decide (classL t = 5) || (more && decide (t = [40]))) && decide (131072 ≤ many)
theorem items_cons (more : Bool) (k : Nat) (c : UInt8) (r : List UInt8) (at' : Nat) (many : Int) : itemsL more (k + 1) (c :: r) at' many =
  if classL (c :: r) = 6 then itemsL more k r (at' + 1) many
  else if overB more (c :: r) many = true then ([], some (2, at'))
  else if more = true ∧ (itemL (classL (c :: r)) (c :: r)).sure = false then ([(at', itemL (classL (c :: r)) (c :: r))], none)
  else if ¬ (itemL (classL (c :: r)) (c :: r)).e = 0 then ([], some ((itemL (classL (c :: r)) (c :: r)).e, at'))
  else ((at', itemL (classL (c :: r)) (c :: r)) :: (itemsL more k ((c :: r).drop (itemL (classL (c :: r)) (c :: r)).len) (at' + (itemL (classL (c :: r)) (c :: r)).len) (if (itemL (classL (c :: r)) (c :: r)).kind = 0 then many else many + 1)).1,
   (itemsL more k ((c :: r).drop (itemL (classL (c :: r)) (c :: r)).len) (at' + (itemL (classL (c :: r)) (c :: r)).len) (if (itemL (classL (c :: r)) (c :: r)).kind = 0 then many else many + 1)).2) := by
 have e : (decide (c.toNat = 40) && decide (r = [])) = decide (c :: r = [40]) := by
  by_cases h : c :: r = [40]
  ·rw [decide_eq_true h]
   cases h
   rfl
  ·rw [decide_eq_false h]
   by_cases hc : c.toNat = 40
   ·rw [decide_eq_true hc, decide_eq_false (fun hr => h (by rw [hr, UInt8.toNat_inj.1 (show c.toNat = (40 : UInt8).toNat from hc)]))]
    rfl
   ·rw [decide_eq_false hc]
    rfl
 unfold overB
 rw [← e]
 show (if classL (c :: r) = 6 then itemsL more k r (at' + 1) many else _) = _
 rw [Bool.and_assoc]
def feedL : Nat → List UInt8 → Nat → Int → List (Nat × Itm) × Option (Int × Nat) × Nat × Int
 | 0, _, _, many => ([], none, 0, many)
 | _ + 1, [], _, many => ([], none, 0, many)
 | k + 1, c :: r, at', many =>
  if classL (c :: r) = 6 then ((feedL k r (at' + 1) many).1, (feedL k r (at' + 1) many).2.1, (feedL k r (at' + 1) many).2.2.1 + 1, (feedL k r (at' + 1) many).2.2.2)
  else if overB true (c :: r) many = true then ([], some (2, at'), 0, many)
  else if (itemL (classL (c :: r)) (c :: r)).sure = false then ([], none, 0, many)
  else if ¬ (itemL (classL (c :: r)) (c :: r)).e = 0 then ([], some ((itemL (classL (c :: r)) (c :: r)).e, at'), 0, many)
  else
   let y := feedL k ((c :: r).drop (itemL (classL (c :: r)) (c :: r)).len) (at' + (itemL (classL (c :: r)) (c :: r)).len) (if (itemL (classL (c :: r)) (c :: r)).kind = 0 then many else many + 1)
   ((at', itemL (classL (c :: r)) (c :: r)) :: y.1, y.2.1, (itemL (classL (c :: r)) (c :: r)).len + y.2.2.1, y.2.2.2)
theorem item_len (t : List UInt8) (h0 : t ≠ []) (he : (itemL (classL t) t).e = 0) (hb : classL t ≠ 6) : 1 ≤ (itemL (classL t) t).len ∧ (itemL (classL t) t).len ≤ t.length := by
 have hl : 1 ≤ t.length := List.length_pos_iff.2 h0
 unfold itemL at he ⊢
 by_cases c1 : classL t = 1
 ·rw [if_pos c1] at he ⊢
  have h1 : 1 ≤ runL alnB t := by
   cases t with
   | nil => exact absurd rfl h0
   | cons c r =>
    have hd : letB c = true := by
     rw [classL] at c1
     by_cases hd : letB c = true
     ·exact hd
     ·exfalso
      rw [if_neg hd] at c1
      repeat' split at c1
      all_goals simp_all
    unfold runL alnB
    rw [if_pos (by rw [hd]; rfl)]
    omega
  have h2 := runL_le alnB t
  unfold letterI letterN at he ⊢
  split
  ·exact ⟨h1, h2⟩
  ·rename_i hw
   rw [if_neg hw] at he
   split
   ·rename_i h16
    rw [if_pos h16] at he
    cases he
   ·exact ⟨h1, h2⟩
 ·rw [if_neg c1] at he ⊢
  by_cases c2 : classL t = 2
  ·rw [if_pos c2] at he ⊢
   have h1 : 1 ≤ runL digB t := by
    cases t with
    | nil => exact absurd rfl h0
    | cons c r =>
     have hd : digB c = true := by
      rw [classL] at c2
      by_cases hd : digB c = true
      ·exact hd
      ·exfalso
       rw [if_neg hd] at c2
       repeat' split at c2
       all_goals simp_all
     unfold runL
     rw [if_pos hd]
     omega
   have h2 : runL digB t ≤ (numL t).1 := by
    unfold numL numN
    split
    ·unfold realL
     split
     ·show _ ≤ (expL t _).1
      unfold expL expK
      split
      ·split
       ·show _ ≤ expAt t _ + _
        unfold expAt
        split <;> omega
       ·show _ ≤ runL digB t + 1 + _
        omega
      ·show _ ≤ runL digB t + 1 + _
       omega
     ·show _ ≤ runL digB t + 1 + _
      omega
    ·exact Nat.le_refl _
   have h3 := num_le t
   unfold numberI at he ⊢
   rcases numberX_len t (numL t) with ⟨a, b⟩ | ⟨a, b⟩
   ·omega
   ·rw [b] at he
    cases he
  ·rw [if_neg c2] at he ⊢
   by_cases c3 : classL t = 3
   ·rw [if_pos c3] at he ⊢
    unfold tickI at he ⊢
    split
    ·rename_i h1
     rw [if_pos h1] at he
     cases he
    ·rename_i h1
     rw [if_neg h1] at he
     split
     ·rename_i h2
      rw [if_pos h2] at he
      cases he
     ·show 1 ≤ 3 ∧ 3 ≤ t.length
      omega
   ·rw [if_neg c3] at he ⊢
    by_cases c4 : classL t = 4
    ·rw [if_pos c4] at he ⊢
     have hle := runL_le inqB (t.drop 1)
     rw [List.length_drop] at hle
     unfold quoteI quoteN at he ⊢
     split
     ·rename_i h1
      rw [if_pos h1] at he
      cases he
     ·rename_i h1
      rw [if_neg h1] at he
      split
      ·rename_i h2
       rw [if_pos h2] at he
       cases he
      ·rename_i h2
       rw [if_neg h2] at he
       split
       ·rename_i h3
        rw [if_pos h3] at he
        cases he
       ·show 1 ≤ 1 + _ + 1 ∧ 1 + _ + 1 ≤ _
        omega
    ·rw [if_neg c4] at he ⊢
     by_cases c5 : classL t = 5
     ·rw [if_pos c5] at he ⊢
      unfold noteI at he ⊢
      cases hn : endL (t.drop 2) with
      | none => rw [hn] at he; cases he
      | some n =>
       have h2 : 2 ≤ t.length := by
        rcases Nat.lt_or_ge t.length 2 with h2 | h2
        ·rw [List.drop_of_length_le (by omega)] at hn
         cases hn
        ·exact h2
       have := (endL_app [] _ n hn).2
       rw [List.length_drop] at this
       show 1 ≤ n + 4 ∧ n + 4 ≤ t.length
       omega
     ·rw [if_neg c5] at he ⊢
      obtain ⟨a, b, c⟩ := signL_spec t (min 3 t.length)
      unfold signI signN at he ⊢
      split
      ·rename_i h1
       rw [if_pos h1] at he
       cases he
      ·rename_i h1
       show 1 ≤ signL t _ ∧ signL t _ ≤ _
       omega
theorem over_app (more : Bool) (t u : List UInt8) (many : Int) (h0 : t ≠ []) (h : t ≠ [40]) : overB more (t ++ u) many = overB true t many := by
 unfold overB
 rw [class_app t u h0 h, decide_eq_false h, decide_eq_false (show t ++ u ≠ [40] from fun e => by
  cases t with
  | nil => exact h0 rfl
  | cons c r =>
   have h2 : r ++ u = [] := (List.cons.inj e).2
   have h3 : r = [] := (List.append_eq_nil_iff.1 h2).1
   subst h3
   exact h (by rw [(List.cons.inj e).1])), Bool.and_false, Bool.and_false]
theorem sure_not40 (t : List UInt8) (h : (itemL (classL t) t).sure = true) : t ≠ [40] := fun e => by
 subst e
 revert h
 decide
theorem over_not40 (t : List UInt8) (many : Int) (h : overB true t many = true) : t ≠ [40] := fun e => by
 subst e
 unfold overB at h
 simp at h
theorem items_fuel (more : Bool) : ∀ (k j : Nat) (t : List UInt8) (at' : Nat) (many : Int), t.length < k → t.length < j → itemsL more k t at' many = itemsL more j t at' many
 | 0, j, t, at', many, h, _ => by omega
 | k + 1, 0, t, at', many, _, h => by omega
 | k + 1, j + 1, [], at', many, _, _ => rfl
 | k + 1, j + 1, c :: r, at', many, h1, h2 => by
  rw [items_cons, items_cons]
  simp only [List.length_cons] at h1 h2
  by_cases hb : classL (c :: r) = 6
  ·rw [if_pos hb, if_pos hb]
   exact items_fuel more k j r _ _ (by omega) (by omega)
  ·rw [if_neg hb, if_neg hb]
   by_cases he : (itemL (classL (c :: r)) (c :: r)).e = 0
   ·have hlen := item_len (c :: r) (by simp) he hb
    have hd : ((c :: r).drop (itemL (classL (c :: r)) (c :: r)).len).length < k ∧ ((c :: r).drop (itemL (classL (c :: r)) (c :: r)).len).length < j := by
     rw [List.length_drop, List.length_cons]
     simp only [List.length_cons] at hlen
     omega
    rw [items_fuel more k j _ _ _ hd.1 hd.2]
   ·rw [if_pos he, if_pos he]
theorem feed_app (more : Bool) (u : List UInt8) : ∀ (k : Nat) (t : List UInt8) (at' : Nat) (many : Int), t.length < k → ∀ j, (t ++ u).length < j →
  (∀ e, (feedL k t at' many).2.1 = some e → itemsL more j (t ++ u) at' many = ((feedL k t at' many).1, some e)) ∧
  ((feedL k t at' many).2.1 = none → (feedL k t at' many).2.2.1 ≤ t.length ∧ ∀ i, (t.drop (feedL k t at' many).2.2.1 ++ u).length < i →
   itemsL more j (t ++ u) at' many = ((feedL k t at' many).1 ++ (itemsL more i (t.drop (feedL k t at' many).2.2.1 ++ u) (at' + (feedL k t at' many).2.2.1) (feedL k t at' many).2.2.2).1, (itemsL more i (t.drop (feedL k t at' many).2.2.1 ++ u) (at' + (feedL k t at' many).2.2.1) (feedL k t at' many).2.2.2).2))
 | 0, t, at', many, h, _, _ => by omega
 | k + 1, [], at', many, _, j, hj => ⟨fun e he => by simp [feedL] at he, fun _ => ⟨Nat.le_refl _, fun i hi => by
   simp only [feedL, List.nil_append, List.drop_nil, Nat.add_zero] at hi ⊢
   rw [items_fuel more j i u at' many (by simpa using hj) (by simpa using hi)]⟩⟩
 | k + 1, c :: r, at', many, hk, 0, hj => by omega
 | k + 1, c :: r, at', many, hk, j + 1, hj => by
  simp only [List.length_cons] at hk
  have hj' : (r ++ u).length < j := by simpa using hj
  rw [feedL]
  by_cases hb : classL (c :: r) = 6
  ·rw [if_pos hb]
   have h40 : c :: r ≠ [40] := fun e => by rw [e] at hb; revert hb; decide
   have hb2 : classL (c :: (r ++ u)) = 6 := by
    rw [← hb]
    exact class_app (c :: r) u (by simp) h40
   obtain ⟨h1, h2⟩ := feed_app more u k r (at' + 1) many (by omega) j hj'
   have key : itemsL more (j + 1) (c :: r ++ u) at' many = itemsL more j (r ++ u) (at' + 1) many := by
    show itemsL more (j + 1) (c :: (r ++ u)) at' many = _
    rw [items_cons, if_pos hb2]
   rw [key]
   refine ⟨h1, fun hn => ?_⟩
   obtain ⟨h3, h4⟩ := h2 hn
   refine ⟨by show _ + 1 ≤ r.length + 1; omega, fun i hi => ?_⟩
   have := h4 i (by simpa using hi)
   rw [show (c :: r).drop ((feedL k r (at' + 1) many).2.2.1 + 1) = r.drop (feedL k r (at' + 1) many).2.2.1 from rfl, show at' + ((feedL k r (at' + 1) many).2.2.1 + 1) = at' + 1 + (feedL k r (at' + 1) many).2.2.1 by omega]
   exact this
  ·rw [if_neg hb]
   by_cases ho : overB true (c :: r) many = true
   ·rw [if_pos ho]
    have h40 := over_not40 _ _ ho
    have hc2 := class_app (c :: r) u (by simp) h40
    refine ⟨fun e he => ?_, fun hn => by cases hn⟩
    cases he
    show itemsL more (j + 1) (c :: (r ++ u)) at' many = _
    rw [items_cons, if_neg (show ¬ classL (c :: (r ++ u)) = 6 from fun e => hb (by rw [← hc2]; exact e)), if_pos (show overB more (c :: (r ++ u)) many = true from by rw [← ho]; exact over_app more (c :: r) u many (by simp) h40)]
   ·rw [if_neg ho]
    by_cases hs : (itemL (classL (c :: r)) (c :: r)).sure = false
    ·rw [if_pos hs]
     refine ⟨fun e he => by simp at he, fun _ => ⟨Nat.zero_le _, fun i hi => ?_⟩⟩
     show itemsL more (j + 1) (c :: r ++ u) at' many = _
     rw [items_fuel more (j + 1) i (c :: r ++ u) at' many hj (by simpa using hi)]
     rfl
    ·rw [if_neg hs]
     rw [Bool.not_eq_false] at hs
     have h40 := sure_not40 _ hs
     have hc2 := class_app (c :: r) u (by simp) h40
     have hi2 : itemL (classL (c :: (r ++ u))) (c :: (r ++ u)) = itemL (classL (c :: r)) (c :: r) := item_stable (c :: r) u (by simp) hs
     have ho2 : overB more (c :: (r ++ u)) many = overB true (c :: r) many := over_app more (c :: r) u many (by simp) h40
     have hb2 : ¬ classL (c :: (r ++ u)) = 6 := fun e => hb (by rw [← hc2]; exact e)
     have hs2 : ¬ (more = true ∧ (itemL (classL (c :: r)) (c :: r)).sure = false) := fun h => by rw [hs] at h; exact absurd h.2 (by decide)
     by_cases he : (itemL (classL (c :: r)) (c :: r)).e = 0
     ·rw [if_neg (fun h => h he)]
      have hlen := item_len (c :: r) (by simp) he hb
      have hlen' : (itemL (classL (c :: r)) (c :: r)).len ≤ r.length + 1 := hlen.2
      have hd : (c :: (r ++ u)).drop (itemL (classL (c :: r)) (c :: r)).len = (c :: r).drop (itemL (classL (c :: r)) (c :: r)).len ++ u := drop_app hlen.2
      have hdl : ((c :: r).drop (itemL (classL (c :: r)) (c :: r)).len).length = r.length + 1 - (itemL (classL (c :: r)) (c :: r)).len := by rw [List.length_drop]; rfl
      rw [List.length_append] at hj'
      obtain ⟨h1, h2⟩ := feed_app more u k ((c :: r).drop (itemL (classL (c :: r)) (c :: r)).len) (at' + (itemL (classL (c :: r)) (c :: r)).len) (if (itemL (classL (c :: r)) (c :: r)).kind = 0 then many else many + 1) (by omega) j (by rw [List.length_append]; omega)
      dsimp only
      generalize feedL k ((c :: r).drop (itemL (classL (c :: r)) (c :: r)).len) (at' + (itemL (classL (c :: r)) (c :: r)).len) (if (itemL (classL (c :: r)) (c :: r)).kind = 0 then many else many + 1) = y at h1 h2 ⊢
      show (∀ e, y.2.1 = some e → itemsL more (j + 1) (c :: (r ++ u)) at' many = _) ∧ (y.2.1 = none → _ ∧ ∀ i, _ → itemsL more (j + 1) (c :: (r ++ u)) at' many = _)
      rw [items_cons, if_neg hb2, ho2, if_neg ho, hi2, if_neg hs2, if_neg (fun h => h he), hd]
      refine ⟨fun e h3 => by rw [h1 e h3], fun h3 => ?_⟩
      obtain ⟨h4, h5⟩ := h2 h3
      refine ⟨by show _ ≤ r.length + 1; omega, fun i hi => ?_⟩
      rw [show (c :: r).drop ((itemL (classL (c :: r)) (c :: r)).len + y.2.2.1) = ((c :: r).drop (itemL (classL (c :: r)) (c :: r)).len).drop y.2.2.1 from by rw [List.drop_drop]] at hi ⊢
      rw [h5 i hi, Nat.add_assoc]
      rfl
     ·rw [if_pos he]
      refine ⟨fun e h3 => ?_, fun hn => by cases hn⟩
      cases h3
      show itemsL more (j + 1) (c :: (r ++ u)) at' many = _
      rw [items_cons, if_neg hb2, ho2, if_neg ho, hi2, if_neg hs2, if_pos he]
end Go.Proofs.YtniihjhlkpjnoaaDoor.Given
end
section
/- Package lex: texts as lists of bytes; the contracts of run, for what such a function says. -/
set_option linter.unusedVariables false
set_option linter.unusedSimpArgs false
namespace Go.Proofs.YtniihjhlkpjnoaaDoor.Given
open Go.RowKit Go.Proofs.YtniihjhlkpjnoaaDoor.PT Go.Proofs.YtniihjhlkpjnoaaDoorW.PrintWords Go.Proofs.YtniihjhlkpjnoaaDoorW.PrintLast Go.Proofs.YtniihjhlkpjnoaaDoorW.PrintMore
def ba (l : List UInt8) : ByteArray := ⟨l.toArray⟩
theorem ba_size (t : List UInt8) : (ba t).size = t.length := by simp [ba, ByteArray.size]
theorem ba_list (t : List UInt8) : (ba t).data.toList = t := by simp [ba]
theorem ba_of (s : ByteArray) : ba s.data.toList = s := by simp [ba]
theorem ba_extract (t : List UInt8) (i j : Nat) : (ba t).extract i j = ba ((t.take j).drop i) := by
 have h : ((ba t).extract i j).data.toList = ((t.take j).drop i) := by
  simp [ba, List.extract_eq_take_drop, List.drop_take]
 rw [← ba_of ((ba t).extract i j), h]
theorem ba_at (t : List UInt8) (i : Nat) (h : i < (ba t).size) : (((ba t)[i]'h).toNat : Int) = ((t.getD i 0).toNat : Int) := by
 have h2 : i < t.length := by rw [ba_size] at h; exact h
 rw [List.getD_eq_getElem?_getD, List.getElem?_eq_getElem h2]
 simp [ba, ByteArray.getElem_eq_getElem_data]
theorem w64 {a : Int} {n : Nat} (h : a = n) (hn : n ≤ 9223372036854775807) : wrap64 a = n := by rw [IntWalk.wrap64_in _ (by omega)]; exact h
theorem bcell {B : Nat} {W w1 : World} (hb : Below B W w1) {b o : Nat} (h : b < B) : w1.cell? ⟨b, o, none⟩ = W.cell? ⟨b, o, none⟩ := hb.cell (p := ⟨b, o, none⟩) h
theorem bfrozen {B : Nat} {W w1 : World} (hb : Below B W w1) {b o : Nat} (h : b < B) : w1.frozen? ⟨b, o, none⟩ = W.frozen? ⟨b, o, none⟩ := hb.frozen (p := ⟨b, o, none⟩) h
theorem letter_byte (c : UInt8) (w : World) : Calls Tryd.prog 71 #[.int .u8 c.toNat] w fun e w' => e = .returned (.bool (letB c)) ∧ Drawn0 w w' := by
 refine lex_letter.calls _ _ w ?_
 unfold lex_letter.f letB
 by_cases h1 : 97 ≤ c.toNat
 ·rw [if_pos (by omega)]
  by_cases h2 : c.toNat ≤ 122
  ·rw [if_pos (by omega), decide_eq_true h1, decide_eq_true h2]
   rfl
  ·rw [if_neg (by omega), if_pos (by omega), decide_eq_false h2, decide_eq_false (by omega), decide_eq_false (show ¬ c.toNat ≤ 90 by omega)]
   simp
 ·rw [if_neg (by omega), decide_eq_false h1]
  by_cases h3 : 65 ≤ c.toNat
  ·rw [if_pos (by omega), decide_eq_true h3]
   congr 1
   by_cases h4 : c.toNat ≤ 90
   ·rw [decide_eq_true h4, decide_eq_true (by omega)]
    rfl
   ·rw [decide_eq_false h4, decide_eq_false (by omega)]
    rfl
  ·rw [if_neg (by omega), decide_eq_false h3]
   rfl
theorem digit_byte (c : UInt8) (w : World) : Calls Tryd.prog 80 #[.int .u8 c.toNat] w fun e w' => e = .returned (.bool (digB c)) ∧ Drawn0 w w' := by
 refine lex_digit.calls _ _ w ?_
 unfold lex_digit.f digB
 by_cases h1 : 48 ≤ c.toNat
 ·rw [if_pos (by omega), decide_eq_true h1]
  congr 1
  by_cases h4 : c.toNat ≤ 57
  ·rw [decide_eq_true h4, decide_eq_true (by omega)]
   rfl
  ·rw [decide_eq_false h4, decide_eq_false (by omega)]
   rfl
 ·rw [if_neg (by omega), decide_eq_false h1]
  rfl
theorem plain_byte (c : UInt8) (w : World) : Calls Tryd.prog 86 #[.int .u8 c.toNat] w fun e w' => e = .returned (.bool (plnB c)) ∧ Drawn0 w w' := by
 refine lex_plain.calls _ _ w ?_
 unfold lex_plain.f plnB
 by_cases h1 : 32 ≤ c.toNat
 ·rw [if_pos (by omega), decide_eq_true h1]
  congr 1
  by_cases h4 : c.toNat ≤ 126
  ·rw [decide_eq_true h4, decide_eq_true (by omega)]
   rfl
  ·rw [decide_eq_false h4, decide_eq_false (by omega)]
   rfl
 ·rw [if_neg (by omega), decide_eq_false h1]
  rfl
set_option maxRecDepth 100000 in
set_option maxHeartbeats 1000000 in
theorem run_calls (g : Nat) (eg : ∀ args W, (callFunc g args).run Tryd.prog W = .ok (.enter g args) W) (p : UInt8 → Bool) (hg : ∀ (c : UInt8) (W : World), Calls Tryd.prog g #[.int .u8 c.toNat] W fun e W' => e = .returned (.bool (p c)) ∧ Drawn0 W W') (t : List UInt8) (ht : t.length ≤ 1099511627776) (w : World) :
  Calls Tryd.prog 78 #[.string (ba t), .func (.func g) #[] #[]] w fun e w' => e = .returned (.int .i64 (runL p t : Nat)) ∧ Drawn0 w w' := by
 have hsz := ba_size t
 have HG := Aside0.mk hg
 clear hg
 go_enter Tryd.func78, Tryd.ntmps78
 go_wp2
 go_loopw [5] (fun i W => ∃ k : Nat, k ≤ (ba t).size ∧ i = .int .i64 k ∧ Aside0 (Drawn0 w W) ∧ Aside0 (runL p t = k + runL p (t.drop k))) (fun i _ => (ba t).size - (intOf i).toNat)
 case atStart => exact ⟨0, Nat.zero_le _, rfl, ⟨Drawn0.refl _⟩, ⟨by simp⟩⟩
 case round =>
  obtain ⟨k, hk, rfl, hd, hrun⟩ := hrel
  by_cases hlt : k < (ba t).size
  ·have hx := ba_at t k
   have hdrop : t.drop k = t.getD k 0 :: t.drop (k + 1) := by
    have h2 : k < t.length := by omega
    rw [List.drop_eq_getElem_cons h2, List.getD_eq_getElem?_getD, List.getElem?_eq_getElem h2]
    rfl
   have n1 : decide (k < (ba t).size) = true := decide_eq_true hlt
   have n2 : decide ((k : Int) < ((ba t).size : Int)) = true := decide_eq_true (by omega)
   have n3 : (k < (ba t).size) = True := eq_true hlt
   have n4 : ¬ ((ba t).size : Int) ≤ (k : Int) := by omega
   have hb5 : -9223372036854775808 ≤ (k : Int) + 1 ∧ (k : Int) + 1 ≤ 9223372036854775807 := by omega
   generalize t.getD k 0 = c at hx hdrop
   have hgc := HG.out c
   cases hp : p c with
   | true =>
    rw [hp] at hgc
    have HGC := Aside0.mk hgc
    have hrun2 := Aside0.mk (show runL p t = (k + 1) + runL p (t.drop (k + 1)) by
     rw [hrun.out, hdrop]
     show k + (if p c = true then runL p (t.drop (k + 1)) + 1 else 0) = _
     rw [if_pos hp]
     omega)
    have kw : IntKind.i64.wrap ((k : Int) + 1) = (k : Int) + 1 := IntWalk.i64_in _ hb5
    clear hrun hdrop hgc hb5
    go_wp2_with (first | ((with_reducible refine (HGC.out _).mono ?_); rintro e w1 ⟨rfl, hd1⟩; have HD1 := Aside0.mk hd1; clear hd1))
    exact ⟨⟨k + 1, hlt, by first | rfl | simp, ⟨by obtain ⟨⟨a, ha⟩⟩ := HD1.out; rw [ha]; exact hd.out.step a⟩, hrun2⟩, by simp [intOf]; omega⟩
   | false =>
    rw [hp] at hgc
    have HGC := Aside0.mk hgc
    have hrun2 := Aside0.mk (show runL p t = k by
     rw [hrun.out, hdrop]
     show k + (if p c = true then runL p (t.drop (k + 1)) + 1 else 0) = _
     rw [if_neg (by rw [hp]; decide)]
     omega)
    clear hrun hdrop hgc hb5
    go_wp2_with (first | ((with_reducible refine (HGC.out _).mono ?_); rintro e w1 ⟨rfl, hd1⟩; have HD1 := Aside0.mk hd1; clear hd1))
    go_ret
    exact ⟨by rw [hrun2.out]; rfl, by obtain ⟨⟨a, ha⟩⟩ := HD1.out; rw [ha]; exact hd.out.step a⟩
  ·have n1 : decide (k < (ba t).size) = false := decide_eq_false hlt
   have n2 : decide ((k : Int) < ((ba t).size : Int)) = false := decide_eq_false (by omega)
   have hrun2 := Aside0.mk (show runL p t = k by
    rw [hrun.out, List.drop_of_length_le (by omega)]
    rfl)
   clear hrun
   go_wp2
   go_ret
   exact ⟨by rw [hrun2.out]; rfl, hd.out⟩
end Go.Proofs.YtniihjhlkpjnoaaDoor.Given
end
section
-- Out of this text a program of mine (wip/slim.py) took what this claim does not use.
/- Package lex: the contracts of the functions that read one item. -/
set_option linter.unusedVariables false
set_option linter.unusedSimpArgs false
namespace Go.Proofs.YtniihjhlkpjnoaaDoor.Given
open Go.RowKit Go.Proofs.YtniihjhlkpjnoaaDoor.PT Go.Proofs.YtniihjhlkpjnoaaDoorW.PrintWords Go.Proofs.YtniihjhlkpjnoaaDoorW.PrintLast Go.Proofs.YtniihjhlkpjnoaaDoorW.PrintMore
def itemV (x : Itm) (a b : Int) : Value := .agg #[.int .i64 x.kind, .string (ba x.text), .int .i64 x.n, .int .i64 a, .int .i64 b, .int .i64 x.e, .bool x.sure]
theorem token_calls (kind : Int) (t : List UInt8) (n : Nat) (hn : n ≤ t.length) (sure : Bool) (w : World) : Calls Tryd.prog 82 #[.int .i64 kind, .string (ba t), .int .i64 n, .bool sure] w fun e w' => e = .returned (.agg #[.int .i64 kind, .string (ba (t.take n)), .int .i64 0, .int .i64 0, .int .i64 n, .int .i64 0, .bool sure]) ∧ Below w.heap.size w w' :=
 lex_token.calls kind (ba t) n sure kind (ba (t.take n)) 0 0 n 0 sure w (by
  unfold lex_token.f
  rw [if_pos (by omega), if_pos (by rw [ba_size]; omega), ba_extract]
  rfl)
theorem wrong_calls (e0 : Int) (sure : Bool) (w : World) : Calls Tryd.prog 83 #[.int .i64 e0, .bool sure] w fun e w' => e = .returned (.agg #[.int .i64 0, .string ⟨#[]⟩, .int .i64 0, .int .i64 0, .int .i64 0, .int .i64 e0, .bool sure]) ∧ Below w.heap.size w w' :=
 lex_wrong.calls e0 sure 0 ⟨#[]⟩ 0 0 0 e0 sure w rfl
def wI (w : World) : World := w.alloc (.cells #[.int .i64 0, .string ⟨#[]⟩, .int .i64 0, .int .i64 0, .int .i64 0, .int .i64 0, .bool false] 70)
theorem wI_size (w : World) : (wI w).heap.size = w.heap.size + 1 := by simp [wI]
theorem wI_below (w : World) : Below w.heap.size w (wI w) := (Below.refl _ _).alloc (Nat.le_refl _) _
structure Is7 (w W : World) : Prop where
 below : Below w.heap.size w W
 size : w.heap.size < W.heap.size
 c0 : W.cell? ⟨w.heap.size, 0, none⟩ = some (.int .i64 0)
 c1 : W.cell? ⟨w.heap.size, 1, none⟩ = some (.string ⟨#[]⟩)
 c2 : W.cell? ⟨w.heap.size, 2, none⟩ = some (.int .i64 0)
 c3 : W.cell? ⟨w.heap.size, 3, none⟩ = some (.int .i64 0)
 c4 : W.cell? ⟨w.heap.size, 4, none⟩ = some (.int .i64 0)
 c5 : W.cell? ⟨w.heap.size, 5, none⟩ = some (.int .i64 0)
 c6 : W.cell? ⟨w.heap.size, 6, none⟩ = some (.bool false)
 f0 : W.frozen? ⟨w.heap.size, 0, none⟩ = false
 f1 : W.frozen? ⟨w.heap.size, 1, none⟩ = false
 f2 : W.frozen? ⟨w.heap.size, 2, none⟩ = false
 f3 : W.frozen? ⟨w.heap.size, 3, none⟩ = false
 f4 : W.frozen? ⟨w.heap.size, 4, none⟩ = false
 f5 : W.frozen? ⟨w.heap.size, 5, none⟩ = false
 f6 : W.frozen? ⟨w.heap.size, 6, none⟩ = false
theorem Is7.of {w W : World} (hb : Below (w.heap.size + 1) (wI w) W) : Is7 w W := by
 have hz := hb.size
 rw [wI_size] at hz
 refine ⟨(wI_below w).trans (hb.mono (by omega)), hz, ?_, ?_, ?_, ?_, ?_, ?_, ?_, ?_, ?_, ?_, ?_, ?_, ?_, ?_⟩
 all_goals first | refine (bcell hb (Nat.lt_succ_self _)).trans ?_ | refine (bfrozen hb (Nat.lt_succ_self _)).trans ?_
 all_goals simp [wI, go_sem]
theorem Is7.start (w : World) : Is7 w (wI w) := .of (Below.refl _ _)
theorem Is7.keep {w W W' : World} (h : Is7 w W) (hb : Below W.heap.size W W') : Is7 w W' :=
 ⟨h.below.trans (hb.mono h.below.size), Nat.lt_of_lt_of_le h.size hb.size, (bcell hb h.size).trans h.c0, (bcell hb h.size).trans h.c1, (bcell hb h.size).trans h.c2, (bcell hb h.size).trans h.c3, (bcell hb h.size).trans h.c4, (bcell hb h.size).trans h.c5, (bcell hb h.size).trans h.c6,
  (bfrozen hb h.size).trans h.f0, (bfrozen hb h.size).trans h.f1, (bfrozen hb h.size).trans h.f2, (bfrozen hb h.size).trans h.f3, (bfrozen hb h.size).trans h.f4, (bfrozen hb h.size).trans h.f5, (bfrozen hb h.size).trans h.f6⟩
def set7 (W : World) (g : Nat) (v0 v1 v2 v3 v4 v5 v6 : Value) : World :=
 ((((((W.setCell ⟨g, 0, none⟩ v0).setCell ⟨g, 1, none⟩ v1).setCell ⟨g, 2, none⟩ v2).setCell ⟨g, 3, none⟩ v3).setCell ⟨g, 4, none⟩ v4).setCell ⟨g, 5, none⟩ v5).setCell ⟨g, 6, none⟩ v6
theorem Is7.set {w W : World} (h : Is7 w W) (v0 v1 v2 v3 v4 v5 v6 : Value) : Below w.heap.size w (set7 W w.heap.size v0 v1 v2 v3 v4 v5 v6) :=
 ((((((h.below.setCell (p := ⟨w.heap.size, 0, none⟩) (Nat.le_refl _) _).setCell (p := ⟨w.heap.size, 1, none⟩) (Nat.le_refl _) _).setCell (p := ⟨w.heap.size, 2, none⟩) (Nat.le_refl _) _).setCell (p := ⟨w.heap.size, 3, none⟩) (Nat.le_refl _) _).setCell (p := ⟨w.heap.size, 4, none⟩) (Nat.le_refl _) _).setCell (p := ⟨w.heap.size, 5, none⟩) (Nat.le_refl _) _).setCell (p := ⟨w.heap.size, 6, none⟩) (Nat.le_refl _) _
theorem Is7.results {w W : World} (h : Is7 w W) {fn : Func} {s : Tmp} (hr : fn.results = #[.cell s 70]) (tmps : Array Value) (ht : tmps.getD s undef = .pointer (some ⟨w.heap.size, 0, none⟩)) (v0 v1 v2 v3 v4 v5 v6 : Value) :
  (Go.results fn tmps).run Tryd.prog (set7 W w.heap.size v0 v1 v2 v3 v4 v5 v6) = .ok (.agg #[v0, v1, v2, v3, v4, v5, v6]) (set7 W w.heap.size v0 v1 v2 v3 v4 v5 v6) := by
 have hu := Tryd.underlying70
 have hut := Tryd.underlying42
 obtain ⟨_, _, c0, c1, c2, c3, c4, c5, c6, _⟩ := h
 have e2 : tmps[s]?.getD undef = .pointer (some ⟨w.heap.size, 0, none⟩) := by simpa [Array.getD_eq_getD_getElem?] using ht
 simp [Go.results, hr, go_sem, set7, e2, c0, c1, c2, c3, c4, c5, c6, hu, hut]
theorem str_mid (t : List UInt8) (i j : Nat) (hi : i ≤ j) (hj : j ≤ t.length) (W : World) : (Instr.slice 9 (.string (ba t)) (some (.int .i64 i)) (some (.int .i64 j)) none).run Tryd.prog W = .ok (.string (ba ((t.take j).drop i))) W := by
 have hsz := ba_size t
 have h9 := Tryd.underlying9
 have e := ba_extract t i j
 have h1 : (i : Int) ≤ (j : Int) := by omega
 have h2 : (j : Int) ≤ (t.length : Int) := by omega
 simp [go_sem, Instr.slice, h9, hsz, e, hi, hj, h1, h2]
theorem str_low (t : List UInt8) (i : Nat) (hi : i ≤ t.length) (W : World) : (Instr.slice 9 (.string (ba t)) (some (.int .i64 i)) none none).run Tryd.prog W = .ok (.string (ba (t.drop i))) W := by
 have hsz := ba_size t
 have h9 := Tryd.underlying9
 have e : (ba t).extract i t.length = ba (t.drop i) := by rw [ba_extract, List.take_length]
 have h1 : (i : Int) ≤ (t.length : Int) := by omega
 simp [go_sem, Instr.slice, h9, hsz, e, hi, h1]
theorem str_high (t : List UInt8) (j : Nat) (hj : j ≤ t.length) (W : World) : (Instr.slice 9 (.string (ba t)) none (some (.int .i64 j)) none).run Tryd.prog W = .ok (.string (ba (t.take j))) W := by
 have hsz := ba_size t
 have h9 := Tryd.underlying9
 have e : (ba t).extract 0 j = ba (t.take j) := by rw [ba_extract, List.drop_zero]
 have h1 : (j : Int) ≤ (t.length : Int) := by omega
 simp [go_sem, Instr.slice, h9, hsz, e, hj, h1]
end Go.Proofs.YtniihjhlkpjnoaaDoor.Given
end
