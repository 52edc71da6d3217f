/- Plain: a scanner that a text has been fed to; one more piece; the end. -/
import Derived.Test.YtniihjhlkpjnoaaDoorLexU
set_option linter.unusedVariables false
set_option linter.unusedSimpArgs false
namespace Go.Proofs.YtniihjhlkpjnoaaDoor.Given
def feedA (s : List UInt8) : List (Nat × Itm) × Option (Int × Nat) × Nat × Int := feedL (s.length + 1) s 0 0
theorem toks_map (b : Nat) (xs : List (Nat × Itm)) : toksL (xs.map (shiftI b)) = (toksL xs).map (shiftI b) := by
 unfold toksL
 rw [List.filter_map]
 rfl
theorem toks_app (xs ys : List (Nat × Itm)) : toksL (xs ++ ys) = toksL xs ++ toksL ys := List.filter_append ..
theorem feedA_facts (s : List UInt8) (hs : s.length ≤ 4000) : (feedA s).2.2.1 ≤ s.length ∧ (feedA s).2.2.2 = ((toksL (feedA s).1).length : Int) ∧ (toksL (feedA s).1).length ≤ 4001 ∧
  ((feedA s).2.1 = none → fedB (feedA s).2.2.1 (s.drop (feedA s).2.2.1) (feedA s).2.2.2 = true) := by
 obtain ⟨h1, h2, h3, h4, h5, h6⟩ := feed_items (s.length + 1) s 0 0 (by omega)
 have hle := items_le true (s.length + 1) s 0 0
 have hcl : (feedL (s.length + 1) s 0 0).1.length ≤ s.length + 1 := by
  cases hn : (feedL (s.length + 1) s 0 0).2.1 with
  | none =>
   rw [(h5 hn).1, List.length_append] at hle
   omega
  | some e =>
   rw [h6 e hn] at hle
   exact hle
 have htl := toks_le (feedL (s.length + 1) s 0 0).1
 have hm : (feedA s).2.2.2 = ((toksL (feedA s).1).length : Int) := by
  show (feedL (s.length + 1) s 0 0).2.2.2 = _
  rw [h4, Int.zero_add]
  rfl
 refine ⟨h1, hm, by show (toksL (feedL (s.length + 1) s 0 0).1).length ≤ 4001; omega, fun hn => ?_⟩
 have hb : badN ((feedA s).2.2.1 : Int) (feedA s).2.2.2 = false := by
  unfold badN
  rw [hm]
  have : (feedA s).2.2.1 ≤ 4000 := Nat.le_trans h1 hs
  have : (toksL (feedA s).1).length ≤ 4001 := by show (toksL (feedL (s.length + 1) s 0 0).1).length ≤ 4001; omega
  rw [decide_eq_false (by omega), decide_eq_false (by omega), decide_eq_false (by omega), decide_eq_false (by omega)]
  rfl
 unfold fedB
 rw [hb, if_neg (by decide)]
 by_cases hd : s.drop (feedA s).2.2.1 = []
 ·rw [if_pos (.inl hd)]
 ·rw [if_neg (by
   rintro (h | h)
   ·exact hd h
   ·rw [List.length_drop] at h; omega)]
  obtain ⟨a, b⟩ := (h5 hn).2 hd
  show (!decide (classL (s.drop (feedL (s.length + 1) s 0 0).2.2.1) = 6) && !(itemL (classL (s.drop (feedL (s.length + 1) s 0 0).2.2.1)) (s.drop (feedL (s.length + 1) s 0 0).2.2.1)).sure) = true
  rw [b, decide_eq_false a]
  rfl
theorem feed_step (s p : List UInt8) (hs : (s ++ p).length ≤ 4000) (hn : (feedA s).2.1 = none) :
  ((feedA (s ++ p)).2.1 = none → ∃ new, feedR (feedA s).2.2.1 (s.drop (feedA s).2.2.1) (feedA s).2.2.2 p = (new, (((feedA (s ++ p)).2.2.1 : Int), (s ++ p).drop (feedA (s ++ p)).2.2.1, (feedA (s ++ p)).2.2.2), 0, 0) ∧ toksL (feedA (s ++ p)).1 = toksL (feedA s).1 ++ new.map (shiftI (feedA s).2.2.1)) ∧
  (∀ e, (feedA (s ++ p)).2.1 = some e → feedR (feedA s).2.2.1 (s.drop (feedA s).2.2.1) (feedA s).2.2.2 p = ([], (0, [], 0), e.1, (e.2 : Int))) := by
 have hsl : s.length ≤ 4000 := by rw [List.length_append] at hs; omega
 obtain ⟨h1, h2, h3, h4⟩ := feedA_facts s hsl
 have hfb := h4 hn
 obtain ⟨g1, g2, g3, g4⟩ := feedA_facts (s ++ p) hs
 have key := (feed_feed p (s.length + 1) s 0 0 (by omega) ((s ++ p).length + 1) (by omega)).2 hn ((s.drop (feedA s).2.2.1 ++ p).length + 1) (by show (s.drop (feedA s).2.2.1 ++ p).length < _; omega)
 have key : feedA (s ++ p) = ((feedA s).1 ++ (feedL ((s.drop (feedA s).2.2.1 ++ p).length + 1) (s.drop (feedA s).2.2.1 ++ p) (0 + (feedA s).2.2.1) (feedA s).2.2.2).1,
   (feedL ((s.drop (feedA s).2.2.1 ++ p).length + 1) (s.drop (feedA s).2.2.1 ++ p) (0 + (feedA s).2.2.1) (feedA s).2.2.2).2.1,
   (feedA s).2.2.1 + (feedL ((s.drop (feedA s).2.2.1 ++ p).length + 1) (s.drop (feedA s).2.2.1 ++ p) (0 + (feedA s).2.2.1) (feedA s).2.2.2).2.2.1,
   (feedL ((s.drop (feedA s).2.2.1 ++ p).length + 1) (s.drop (feedA s).2.2.1 ++ p) (0 + (feedA s).2.2.1) (feedA s).2.2.2).2.2.2) := key
 rw [feed_shift] at key
 have hdr : s.drop (feedA s).2.2.1 ++ p = (s ++ p).drop (feedA s).2.2.1 := (drop_app h1).symm
 unfold feedR
 rw [hfb, if_neg (by decide), if_neg (by rw [List.length_drop]; rw [List.length_append] at hs; omega)]
 rw [hdr] at key ⊢
 generalize hG : feedL (((s ++ p).drop (feedA s).2.2.1).length + 1) ((s ++ p).drop (feedA s).2.2.1) 0 (feedA s).2.2.2 = G at key ⊢
 have e1 := congrArg (fun x => x.1) key
 have e2 := congrArg (fun x => x.2.1) key
 have e3 := congrArg (fun x => x.2.2.1) key
 have e4 := congrArg (fun x => x.2.2.2) key
 dsimp only at e1 e2 e3 e4
 refine ⟨fun hn2 => ?_, fun e he => ?_⟩
 ·have hg : G.2.1 = none := by
   rw [e2] at hn2
   cases hq : G.2.1 with
   | none => rfl
   | some q => rw [hq] at hn2; cases hn2
  rw [hg]
  have ht : toksL (feedA (s ++ p)).1 = toksL (feedA s).1 ++ (toksL G.1).map (shiftI (feedA s).2.2.1) := by rw [e1, toks_app, toks_map]
  refine ⟨toksL G.1, ?_, ht⟩
  dsimp only
  rw [e3, List.drop_drop, g2, ht, h2, List.length_append, List.length_map]
  push_cast
  rfl
 ·rw [e2] at he
  cases hq : G.2.1 with
  | none => rw [hq] at he; cases he
  | some q =>
   rw [hq] at he
   have : shiftE (feedA s).2.2.1 q = e := Option.some.inj he
   subst this
   dsimp only [shiftE]
   push_cast
   rfl
theorem fin_end (s : List UInt8) (hs : s.length ≤ 4000) (hn : (feedA s).2.1 = none) :
  ((lexR s).2.1 = 0 → ∃ new, finR (feedA s).2.2.1 (s.drop (feedA s).2.2.1) (feedA s).2.2.2 = (new, 0, 0) ∧ (lexR s).1 = toksL (feedA s).1 ++ new.map (shiftI (feedA s).2.2.1)) ∧
  ((lexR s).2.1 ≠ 0 → finR (feedA s).2.2.1 (s.drop (feedA s).2.2.1) (feedA s).2.2.2 = ([], (lexR s).2.1, ((lexR s).2.2 : Int))) := by
 obtain ⟨h1, h2, h3, h4⟩ := feedA_facts s hs
 have hfb := h4 hn
 have key := ((feed_app false [] (s.length + 1) s 0 0 (by omega) (s.length + 1) (by simp)).2 hn).2 ((s.drop (feedA s).2.2.1).length + 1) (by show (s.drop (feedA s).2.2.1 ++ []).length < _; simp)
 have key : itemsL false (s.length + 1) s 0 0 = ((feedA s).1 ++ (itemsL false ((s.drop (feedA s).2.2.1).length + 1) (s.drop (feedA s).2.2.1) (0 + (feedA s).2.2.1) (feedA s).2.2.2).1, (itemsL false ((s.drop (feedA s).2.2.1).length + 1) (s.drop (feedA s).2.2.1) (0 + (feedA s).2.2.1) (feedA s).2.2.2).2) := by
  rw [List.append_nil, List.append_nil] at key
  exact key
 rw [items_shift] at key
 have herr := items_err false (s.length + 1) s 0 0
 unfold finR lexR
 rw [hfb, if_neg (show ¬ true = false by decide), if_neg (show ¬ 1048576 < ((feedA s).2.2.1 : Int) + ((s.drop (feedA s).2.2.1).length : Nat) by rw [List.length_drop]; omega), if_neg (show ¬ 1048576 < s.length by omega), key]
 rw [key] at herr
 generalize itemsL false ((s.drop (feedA s).2.2.1).length + 1) (s.drop (feedA s).2.2.1) 0 (feedA s).2.2.2 = G at herr ⊢
 dsimp only at herr ⊢
 cases hq : G.2 with
 | none =>
  refine ⟨fun _ => ⟨toksL G.1, rfl, ?_⟩, fun h => absurd rfl h⟩
  show toksL _ = _
  rw [toks_app, toks_map]
 | some q =>
  rw [hq] at herr
  have := herr (shiftE (feedA s).2.2.1 q) rfl
  refine ⟨fun h => absurd h this, fun _ => ?_⟩
  show ([], q.1, (q.2 : Int) + _) = ([], q.1, ((q.2 + (feedA s).2.2.1 : Nat) : Int))
  push_cast
  rfl
theorem feed_err (s : List UInt8) (hs : s.length ≤ 4000) (e : Int × Nat) (he : (feedA s).2.1 = some e) : lexR s = ([], e.1, e.2) := by
 have key := (feed_app false [] (s.length + 1) s 0 0 (by omega) (s.length + 1) (by simp)).1 e he
 rw [List.append_nil] at key
 unfold lexR
 rw [if_neg (by omega), key]
end Go.Proofs.YtniihjhlkpjnoaaDoor.Given