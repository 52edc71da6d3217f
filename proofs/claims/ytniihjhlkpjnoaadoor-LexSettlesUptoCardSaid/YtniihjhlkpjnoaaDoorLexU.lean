/- Plain: reading from another place; feeding in two pieces. -/
import Derived.Test.YtniihjhlkpjnoaaDoorJ7
set_option linter.unusedVariables false
set_option linter.unusedSimpArgs false
namespace Go.Proofs.YtniihjhlkpjnoaaDoor.Given
def shiftI (b : Nat) (p : Nat × Itm) : Nat × Itm := (p.1 + b, p.2)
def shiftE (b : Nat) (p : Int × Nat) : Int × Nat := (p.1, p.2 + b)
theorem items_shift (more : Bool) (b : Nat) : ∀ (k : Nat) (t : List UInt8) (a : Nat) (m : Int), itemsL more k t (a + b) m = ((itemsL more k t a m).1.map (shiftI b), (itemsL more k t a m).2.map (shiftE b))
 | 0, t, a, m => rfl
 | k + 1, [], a, m => rfl
 | k + 1, c :: r, a, m => by
  rw [items_cons, items_cons]
  by_cases hb : classL (c :: r) = 6
  ·rw [if_pos hb, if_pos hb, show a + b + 1 = a + 1 + b by omega]
   exact items_shift more b k r (a + 1) m
  ·rw [if_neg hb, if_neg hb]
   by_cases ho : overB more (c :: r) m = true
   ·rw [if_pos ho, if_pos ho]
    rfl
   ·rw [if_neg ho, if_neg ho]
    by_cases hs : more = true ∧ (itemL (classL (c :: r)) (c :: r)).sure = false
    ·rw [if_pos hs, if_pos hs]
     rfl
    ·rw [if_neg hs, if_neg hs]
     by_cases he : (itemL (classL (c :: r)) (c :: r)).e = 0
     ·have hne : ¬ ¬ (itemL (classL (c :: r)) (c :: r)).e = 0 := fun h => h he
      rw [if_neg hne, if_neg hne, show a + b + (itemL (classL (c :: r)) (c :: r)).len = a + (itemL (classL (c :: r)) (c :: r)).len + b by omega, items_shift more b k]
      rfl
     ·rw [if_pos he, if_pos he]
      rfl
theorem feed_cons (k : Nat) (c : UInt8) (r : List UInt8) (at' : Nat) (many : Int) : feedL (k + 1) (c :: r) at' many =
  if classL (c :: r) = 6 then ((feedL k r (at' + 1) many).1, (feedL k r (at' + 1) many).2.1, (feedL k r (at' + 1) many).2.2.1 + 1, (feedL k r (at' + 1) many).2.2.2)
  else if overB true (c :: r) many = true then ([], some (2, at'), 0, many)
  else if (itemL (classL (c :: r)) (c :: r)).sure = false then ([], none, 0, many)
  else if ¬ (itemL (classL (c :: r)) (c :: r)).e = 0 then ([], some ((itemL (classL (c :: r)) (c :: r)).e, at'), 0, many)
  else ((at', itemL (classL (c :: r)) (c :: r)) :: (feedL k ((c :: r).drop (itemL (classL (c :: r)) (c :: r)).len) (at' + (itemL (classL (c :: r)) (c :: r)).len) (if (itemL (classL (c :: r)) (c :: r)).kind = 0 then many else many + 1)).1,
   (feedL k ((c :: r).drop (itemL (classL (c :: r)) (c :: r)).len) (at' + (itemL (classL (c :: r)) (c :: r)).len) (if (itemL (classL (c :: r)) (c :: r)).kind = 0 then many else many + 1)).2.1,
   (itemL (classL (c :: r)) (c :: r)).len + (feedL k ((c :: r).drop (itemL (classL (c :: r)) (c :: r)).len) (at' + (itemL (classL (c :: r)) (c :: r)).len) (if (itemL (classL (c :: r)) (c :: r)).kind = 0 then many else many + 1)).2.2.1,
   (feedL k ((c :: r).drop (itemL (classL (c :: r)) (c :: r)).len) (at' + (itemL (classL (c :: r)) (c :: r)).len) (if (itemL (classL (c :: r)) (c :: r)).kind = 0 then many else many + 1)).2.2.2) := by
 rw [feedL]
theorem feed_shift (b : Nat) : ∀ (k : Nat) (t : List UInt8) (a : Nat) (m : Int), feedL k t (a + b) m = ((feedL k t a m).1.map (shiftI b), (feedL k t a m).2.1.map (shiftE b), (feedL k t a m).2.2.1, (feedL k t a m).2.2.2)
 | 0, t, a, m => rfl
 | k + 1, [], a, m => rfl
 | k + 1, c :: r, a, m => by
  rw [feed_cons, feed_cons]
  by_cases hb : classL (c :: r) = 6
  ·rw [if_pos hb, if_pos hb, show a + b + 1 = a + 1 + b by omega, feed_shift b k r (a + 1) m]
  ·rw [if_neg hb, if_neg hb]
   by_cases ho : overB true (c :: r) m = true
   ·rw [if_pos ho, if_pos ho]
    rfl
   ·rw [if_neg ho, if_neg ho]
    by_cases hs : (itemL (classL (c :: r)) (c :: r)).sure = false
    ·rw [if_pos hs, if_pos hs]
     rfl
    ·rw [if_neg hs, if_neg hs]
     by_cases he : (itemL (classL (c :: r)) (c :: r)).e = 0
     ·have hne : ¬ ¬ (itemL (classL (c :: r)) (c :: r)).e = 0 := fun h => h he
      rw [if_neg hne, if_neg hne, show a + b + (itemL (classL (c :: r)) (c :: r)).len = a + (itemL (classL (c :: r)) (c :: r)).len + b by omega, feed_shift b k]
      rfl
     ·rw [if_pos he, if_pos he]
      rfl
theorem feed_fuel : ∀ (k j : Nat) (t : List UInt8) (at' : Nat) (many : Int), t.length < k → t.length < j → feedL k t at' many = feedL j t at' many
 | 0, j, t, at', many, h, _ => by omega
 | k + 1, 0, t, at', many, _, h => by omega
 | k + 1, j + 1, [], at', many, _, _ => rfl
 | k + 1, j + 1, c :: r, at', many, h1, h2 => by
  rw [feed_cons, feed_cons]
  simp only [List.length_cons] at h1 h2
  by_cases hb : classL (c :: r) = 6
  ·rw [if_pos hb, if_pos hb, feed_fuel k j r _ _ (by omega) (by omega)]
  ·rw [if_neg hb, if_neg hb]
   by_cases he : (itemL (classL (c :: r)) (c :: r)).e = 0
   ·have hlen := item_len (c :: r) (by simp) he hb
    have hd : ((c :: r).drop (itemL (classL (c :: r)) (c :: r)).len).length < k ∧ ((c :: r).drop (itemL (classL (c :: r)) (c :: r)).len).length < j := by
     rw [List.length_drop, List.length_cons]
     simp only [List.length_cons] at hlen
     omega
    rw [feed_fuel k j _ _ _ hd.1 hd.2]
   ·rw [if_pos he, if_pos he]
theorem feed_feed (u : List UInt8) : ∀ (k : Nat) (t : List UInt8) (at' : Nat) (many : Int), t.length < k → ∀ j, (t ++ u).length < j →
  (∀ e, (feedL k t at' many).2.1 = some e → (feedL j (t ++ u) at' many).1 = (feedL k t at' many).1 ∧ (feedL j (t ++ u) at' many).2.1 = some e) ∧
  ((feedL k t at' many).2.1 = none → ∀ i, (t.drop (feedL k t at' many).2.2.1 ++ u).length < i →
   feedL j (t ++ u) at' many = ((feedL k t at' many).1 ++ (feedL i (t.drop (feedL k t at' many).2.2.1 ++ u) (at' + (feedL k t at' many).2.2.1) (feedL k t at' many).2.2.2).1,
    (feedL i (t.drop (feedL k t at' many).2.2.1 ++ u) (at' + (feedL k t at' many).2.2.1) (feedL k t at' many).2.2.2).2.1,
    (feedL k t at' many).2.2.1 + (feedL i (t.drop (feedL k t at' many).2.2.1 ++ u) (at' + (feedL k t at' many).2.2.1) (feedL k t at' many).2.2.2).2.2.1,
    (feedL i (t.drop (feedL k t at' many).2.2.1 ++ u) (at' + (feedL k t at' many).2.2.1) (feedL k t at' many).2.2.2).2.2.2))
 | 0, t, at', many, h, _, _ => by omega
 | k + 1, [], at', many, _, j, hj => ⟨fun e he => by simp [feedL] at he, fun _ i hi => by
   simp only [feedL, List.nil_append, List.drop_nil, Nat.add_zero, Nat.zero_add] at hi ⊢
   rw [feed_fuel j i u at' many (by simpa using hj) (by simpa using hi)]⟩
 | k + 1, c :: r, at', many, hk, 0, hj => by omega
 | k + 1, c :: r, at', many, hk, j + 1, hj => by
  simp only [List.length_cons] at hk
  have hj' : (r ++ u).length < j := by simpa using hj
  rw [feed_cons]
  by_cases hb : classL (c :: r) = 6
  ·rw [if_pos hb]
   have h40 : c :: r ≠ [40] := fun e => by rw [e] at hb; revert hb; decide
   have hb2 : classL (c :: (r ++ u)) = 6 := by
    rw [← hb]
    exact class_app (c :: r) u (by simp) h40
   obtain ⟨h1, h2⟩ := feed_feed u k r (at' + 1) many (by omega) j hj'
   have key : feedL (j + 1) (c :: r ++ u) at' many = ((feedL j (r ++ u) (at' + 1) many).1, (feedL j (r ++ u) (at' + 1) many).2.1, (feedL j (r ++ u) (at' + 1) many).2.2.1 + 1, (feedL j (r ++ u) (at' + 1) many).2.2.2) := by
    show feedL (j + 1) (c :: (r ++ u)) at' many = _
    rw [feed_cons, if_pos hb2]
   rw [key]
   refine ⟨fun e he => h1 e he, fun hn i hi => ?_⟩
   have := h2 hn i (by simpa using hi)
   dsimp only
   rw [List.drop_succ_cons, show at' + ((feedL k r (at' + 1) many).2.2.1 + 1) = at' + 1 + (feedL k r (at' + 1) many).2.2.1 by omega, this]
   dsimp only
   rw [show (feedL k r (at' + 1) many).2.2.1 + 1 + (feedL i (r.drop (feedL k r (at' + 1) many).2.2.1 ++ u) (at' + 1 + (feedL k r (at' + 1) many).2.2.1) (feedL k r (at' + 1) many).2.2.2).2.2.1 = (feedL k r (at' + 1) many).2.2.1 + (feedL i (r.drop (feedL k r (at' + 1) many).2.2.1 ++ u) (at' + 1 + (feedL k r (at' + 1) many).2.2.1) (feedL k r (at' + 1) many).2.2.2).2.2.1 + 1 by omega]
  ·rw [if_neg hb]
   by_cases ho : overB true (c :: r) many = true
   ·rw [if_pos ho]
    have h40 := over_not40 _ _ ho
    have hc2 := class_app (c :: r) u (by simp) h40
    refine ⟨fun e he => ?_, fun hn => by cases hn⟩
    cases he
    have key : feedL (j + 1) (c :: r ++ u) at' many = ([], some (2, at'), 0, many) := by
     show feedL (j + 1) (c :: (r ++ u)) at' many = _
     rw [feed_cons, if_neg (show ¬ classL (c :: (r ++ u)) = 6 from fun e => hb (by rw [← hc2]; exact e)), if_pos (show overB true (c :: (r ++ u)) many = true from (over_app true (c :: r) u many (by simp) h40).trans ho)]
    rw [key]
    exact ⟨rfl, rfl⟩
   ·rw [if_neg ho]
    by_cases hs : (itemL (classL (c :: r)) (c :: r)).sure = false
    ·rw [if_pos hs]
     refine ⟨fun e he => (by simp at he), fun _ i hi => ?_⟩
     dsimp only
     rw [List.drop_zero, Nat.add_zero, List.nil_append, Nat.zero_add, feed_fuel (j + 1) i (c :: r ++ u) at' many hj (by simpa using hi)]
     rfl
    ·rw [if_neg hs]
     rw [Bool.not_eq_false] at hs
     have h40 := sure_not40 _ hs
     have hc2 := class_app (c :: r) u (by simp) h40
     have hi2 : itemL (classL (c :: (r ++ u))) (c :: (r ++ u)) = itemL (classL (c :: r)) (c :: r) := item_stable (c :: r) u (by simp) hs
     have ho2 : overB true (c :: (r ++ u)) many = overB true (c :: r) many := over_app true (c :: r) u many (by simp) h40
     have hb2 : ¬ classL (c :: (r ++ u)) = 6 := fun e => hb (by rw [← hc2]; exact e)
     have hs2 : ¬ (itemL (classL (c :: r)) (c :: r)).sure = false := fun h => by rw [hs] at h; exact absurd h (by decide)
     by_cases he : (itemL (classL (c :: r)) (c :: r)).e = 0
     ·have hne : ¬ ¬ (itemL (classL (c :: r)) (c :: r)).e = 0 := fun h => h he
      rw [if_neg hne]
      have hlen := item_len (c :: r) (by simp) he hb
      have hlen' : (itemL (classL (c :: r)) (c :: r)).len ≤ r.length + 1 := hlen.2
      have hd : (c :: (r ++ u)).drop (itemL (classL (c :: r)) (c :: r)).len = (c :: r).drop (itemL (classL (c :: r)) (c :: r)).len ++ u := drop_app hlen.2
      have hdl : ((c :: r).drop (itemL (classL (c :: r)) (c :: r)).len).length = r.length + 1 - (itemL (classL (c :: r)) (c :: r)).len := by rw [List.length_drop]; rfl
      rw [List.length_append] at hj'
      obtain ⟨h1, h2⟩ := feed_feed u k ((c :: r).drop (itemL (classL (c :: r)) (c :: r)).len) (at' + (itemL (classL (c :: r)) (c :: r)).len) (if (itemL (classL (c :: r)) (c :: r)).kind = 0 then many else many + 1) (by omega) j (by rw [List.length_append]; omega)
      have key : feedL (j + 1) (c :: r ++ u) at' many = ((at', itemL (classL (c :: r)) (c :: r)) :: (feedL j ((c :: r).drop (itemL (classL (c :: r)) (c :: r)).len ++ u) (at' + (itemL (classL (c :: r)) (c :: r)).len) (if (itemL (classL (c :: r)) (c :: r)).kind = 0 then many else many + 1)).1,
        (feedL j ((c :: r).drop (itemL (classL (c :: r)) (c :: r)).len ++ u) (at' + (itemL (classL (c :: r)) (c :: r)).len) (if (itemL (classL (c :: r)) (c :: r)).kind = 0 then many else many + 1)).2.1,
        (itemL (classL (c :: r)) (c :: r)).len + (feedL j ((c :: r).drop (itemL (classL (c :: r)) (c :: r)).len ++ u) (at' + (itemL (classL (c :: r)) (c :: r)).len) (if (itemL (classL (c :: r)) (c :: r)).kind = 0 then many else many + 1)).2.2.1,
        (feedL j ((c :: r).drop (itemL (classL (c :: r)) (c :: r)).len ++ u) (at' + (itemL (classL (c :: r)) (c :: r)).len) (if (itemL (classL (c :: r)) (c :: r)).kind = 0 then many else many + 1)).2.2.2) := by
       show feedL (j + 1) (c :: (r ++ u)) at' many = _
       rw [feed_cons, if_neg hb2, ho2, if_neg ho, hi2, if_neg hs2, if_neg hne, hd]
      rw [key]
      generalize (if (itemL (classL (c :: r)) (c :: r)).kind = 0 then many else many + 1) = m2 at h1 h2 ⊢
      generalize itemL (classL (c :: r)) (c :: r) = x at h1 h2 ⊢
      refine ⟨fun e h3 => ?_, fun h3 i hi => ?_⟩
      ·obtain ⟨a1, a2⟩ := h1 e h3
       exact ⟨by show _ :: _ = _ :: _; rw [a1], a2⟩
      ·dsimp only at hi ⊢
       rw [show (c :: r).drop (x.len + (feedL k ((c :: r).drop x.len) (at' + x.len) m2).2.2.1) = ((c :: r).drop x.len).drop (feedL k ((c :: r).drop x.len) (at' + x.len) m2).2.2.1 from by rw [List.drop_drop]] at hi ⊢
       rw [h2 h3 i hi]
       dsimp only
       rw [← Nat.add_assoc, ← Nat.add_assoc]
       rfl
     ·rw [if_pos he]
      refine ⟨fun e h3 => ?_, fun hn => by cases hn⟩
      cases h3
      have key : feedL (j + 1) (c :: r ++ u) at' many = ([], some ((itemL (classL (c :: r)) (c :: r)).e, at'), 0, many) := by
       show feedL (j + 1) (c :: (r ++ u)) at' many = _
       rw [feed_cons, if_neg hb2, ho2, if_neg ho, hi2, if_neg hs2, if_pos he]
      rw [key]
      exact ⟨rfl, rfl⟩
end Go.Proofs.YtniihjhlkpjnoaaDoor.Given