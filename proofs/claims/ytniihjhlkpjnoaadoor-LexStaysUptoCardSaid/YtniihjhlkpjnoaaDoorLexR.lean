-- Out of this text a program of mine (wip/slim.py) took what this claim does not use.
/- Plain: what Lex, Feed, Finish, Spans and Veil answer. -/
import Derived.Test.YtniihjhlkpjnoaaDoorLexT
set_option linter.unusedVariables false
set_option linter.unusedSimpArgs false
namespace Go.Proofs.YtniihjhlkpjnoaaDoor.Given
def isTok (p : Nat × Itm) : Bool := !decide (p.2.kind = 0)
def toksL (xs : List (Nat × Itm)) : List (Nat × Itm) := xs.filter isTok
theorem toks_snoc (xs : List (Nat × Itm)) (x : Nat × Itm) : toksL (xs ++ [x]) = if x.2.kind = 0 then toksL xs else toksL xs ++ [x] := by
 unfold toksL
 rw [List.filter_append]
 by_cases h : x.2.kind = 0
 ·rw [if_pos h]
  simp [isTok, h]
 ·rw [if_neg h]
  simp [isTok, h]
theorem toks_le (xs : List (Nat × Itm)) : (toksL xs).length ≤ xs.length := List.length_filter_le ..
theorem items_le (more : Bool) : ∀ (k : Nat) (t : List UInt8) (a : Nat) (m : Int), (itemsL more k t a m).1.length ≤ k
 | 0, _, _, _ => Nat.le_refl _
 | k + 1, [], _, _ => by simp [itemsL]
 | k + 1, c :: r, a, m => by
  rw [items_cons]
  split
  ·exact Nat.le_succ_of_le (items_le more k r _ _)
  ·split
   ·simp
   ·split
    ·simp
    ·split
     ·simp
     ·simp only [List.length_cons]
      have := items_le more k ((c :: r).drop (itemL (classL (c :: r)) (c :: r)).len) (a + (itemL (classL (c :: r)) (c :: r)).len) (if (itemL (classL (c :: r)) (c :: r)).kind = 0 then m else m + 1)
      omega
theorem items_err (more : Bool) : ∀ (k : Nat) (t : List UInt8) (a : Nat) (m : Int) (p : Int × Nat), (itemsL more k t a m).2 = some p → p.1 ≠ 0
 | 0, _, _, _, _, h => by cases h
 | k + 1, [], _, _, _, h => by cases h
 | k + 1, c :: r, a, m, p, h => by
  rw [items_cons] at h
  split at h
  ·exact items_err more k r _ _ p h
  ·split at h
   ·cases h
    exact (by decide : (2 : Int) ≠ 0)
   ·split at h
    ·cases h
    ·split at h
     ·rename_i he
      cases h
      exact he
     ·exact items_err more k _ _ _ p h
theorem items_mem (more : Bool) : ∀ (k : Nat) (t : List UInt8) (a : Nat) (m : Int), ∀ x ∈ (itemsL more k t a m).1,
  a ≤ x.1 ∧ x.1 < a + t.length ∧ x.1 + x.2.len ≤ a + t.length ∧ classL (t.drop (x.1 - a)) ≠ 6 ∧ x.2 = itemL (classL (t.drop (x.1 - a))) (t.drop (x.1 - a)) ∧ ((x.2.e = 0 ∧ 1 ≤ x.2.len) ∨ (more = true ∧ x.2.sure = false))
 | 0, _, _, _, x, h => by cases h
 | k + 1, [], _, _, x, h => by cases h
 | k + 1, c :: r, a, m, x, h => by
  rw [items_cons] at h
  split at h
  ·obtain ⟨h1, h2, h3, h4, h5, h6⟩ := items_mem more k r (a + 1) m x h
   have e : x.1 - a = (x.1 - (a + 1)) + 1 := by omega
   rw [e, List.drop_succ_cons, List.length_cons]
   exact ⟨by omega, by omega, by omega, h4, h5, h6⟩
  ·rename_i hb
   split at h
   ·cases h
   ·split at h
    ·rename_i hs
     obtain rfl := List.mem_singleton.1 h
     refine ⟨Nat.le_refl _, by simp, ?_, by rw [Nat.sub_self]; exact hb, by rw [Nat.sub_self]; rfl, .inr hs⟩
     exact Nat.add_le_add_left (item_le _ (by simp) hb) a
    ·split at h
     ·cases h
     ·rename_i he
      have he : (itemL (classL (c :: r)) (c :: r)).e = 0 := by simpa using he
      obtain ⟨g1, g2⟩ := item_len (c :: r) (by simp) he hb
      rcases List.mem_cons.1 h with rfl | h
      ·refine ⟨Nat.le_refl _, by simp, Nat.add_le_add_left g2 a, by rw [Nat.sub_self]; exact hb, by rw [Nat.sub_self]; rfl, .inl ⟨he, g1⟩⟩
      ·obtain ⟨h1, h2, h3, h4, h5, h6⟩ := items_mem more k _ _ _ x h
       rw [List.length_drop] at h2 h3
       rw [List.drop_drop] at h4 h5
       have e : (itemL (classL (c :: r)) (c :: r)).len + (x.1 - (a + (itemL (classL (c :: r)) (c :: r)).len)) = x.1 - a := by omega
       rw [e] at h4 h5
       exact ⟨by omega, by omega, by omega, h4, h5, h6⟩
where
 item_le (t : List UInt8) (h0 : t ≠ []) (hb : classL t ≠ 6) : (itemL (classL t) t).len ≤ t.length := by
  by_cases he : (itemL (classL t) t).e = 0
  ·exact (item_len t h0 he hb).2
  ·have : (itemL (classL t) t).len = 0 := err_len t he
   omega
 err_len (t : List UInt8) (he : ¬ (itemL (classL t) t).e = 0) : (itemL (classL t) t).len = 0 := by
  generalize classL t = c at he
  unfold itemL at he ⊢
  split
  ·rename_i c1
   rw [if_pos c1] at he
   unfold letterI letterN at he ⊢
   split
   ·rename_i h
    rw [if_pos h] at he
    exact absurd rfl he
   ·rename_i h
    rw [if_neg h] at he
    split
    ·rfl
    ·rename_i h2
     rw [if_neg h2] at he
     exact absurd rfl he
  ·rename_i c1
   rw [if_neg c1] at he
   split
   ·rename_i c2
    rw [if_pos c2] at he
    rcases numberX_len t (numL t) with h | h
    ·exact absurd h.2 he
    ·exact h.1
   ·rename_i c2
    rw [if_neg c2] at he
    split
    ·rename_i c3
     rw [if_pos c3] at he
     unfold tickI at he ⊢
     split
     ·rfl
     ·rename_i h
      rw [if_neg h] at he
      split
      ·rfl
      ·rename_i h2
       rw [if_neg h2] at he
       exact absurd rfl he
    ·rename_i c3
     rw [if_neg c3] at he
     split
     ·rename_i c4
      rw [if_pos c4] at he
      unfold quoteI quoteN at he ⊢
      split
      ·rfl
      ·rename_i h
       rw [if_neg h] at he
       split
       ·rfl
       ·rename_i h2
        rw [if_neg h2] at he
        split
        ·rfl
        ·rename_i h3
         rw [if_neg h3] at he
         exact absurd rfl he
     ·rename_i c4
      rw [if_neg c4] at he
      split
      ·rename_i c5
       rw [if_pos c5] at he
       unfold noteI at he ⊢
       cases hn : endL (t.drop 2) with
       | none => rfl
       | some n => rw [hn] at he; exact absurd rfl he
      ·rename_i c5
       rw [if_neg c5] at he
       unfold signI signN at he ⊢
       split
       ·rfl
       ·rename_i h
        rw [if_neg h] at he
        exact absurd rfl he
theorem items_at (more : Bool) : ∀ (k : Nat) (t : List UInt8) (a : Nat) (m : Int) (p : Int × Nat), (itemsL more k t a m).2 = some p → a ≤ p.2 ∧ p.2 < a + t.length
 | 0, _, _, _, _, h => by cases h
 | k + 1, [], _, _, _, h => by cases h
 | k + 1, c :: r, a, m, p, h => by
  rw [items_cons] at h
  split at h
  ·have := items_at more k r (a + 1) m p h
   simp only [List.length_cons]
   omega
  ·rename_i hb
   split at h
   ·cases h
    simp
   ·split at h
    ·cases h
    ·split at h
     ·cases h
      simp
     ·rename_i he
      have he : (itemL (classL (c :: r)) (c :: r)).e = 0 := by simpa using he
      obtain ⟨g1, g2⟩ := item_len (c :: r) (by simp) he hb
      have := items_at more k _ _ _ p h
      rw [List.length_drop] at this
      simp only [List.length_cons] at this g2 ⊢
      omega
theorem items_order (more : Bool) : ∀ (k : Nat) (t : List UInt8) (a : Nat) (m : Int), (itemsL more k t a m).1.Pairwise fun x y => x.1 + x.2.len ≤ y.1
 | 0, _, _, _ => List.Pairwise.nil
 | k + 1, [], _, _ => List.Pairwise.nil
 | k + 1, c :: r, a, m => by
  rw [items_cons]
  split
  ·exact items_order more k r _ _
  ·split
   ·exact List.Pairwise.nil
   ·split
    ·exact List.pairwise_singleton ..
    ·split
     ·exact List.Pairwise.nil
     ·exact List.pairwise_cons.2 ⟨fun y hy => (items_mem more k _ _ _ y hy).1, items_order more k _ _ _⟩
def lexR (t : List UInt8) : List (Nat × Itm) × Int × Nat :=
 if 1048576 < t.length then ([], 2, 0) else match (itemsL false (t.length + 1) t 0 0).2 with | none => (toksL (itemsL false (t.length + 1) t 0 0).1, 0, 0) | some p => ([], p.1, p.2)
def badN (d m : Int) : Bool := decide (d < 0) || (decide (1048576 < d) || (decide (m < 0) || decide (131072 < m)))
def fedB (d : Int) (r : List UInt8) (m : Int) : Bool :=
 if badN d m = true then false else if r = [] ∨ 1048576 < r.length then true else !decide (classL r = 6) && !(itemL (classL r) r).sure
theorem fed_bounds {d : Int} {r : List UInt8} {m : Int} (h : fedB d r m = true) : 0 ≤ d ∧ d ≤ 1048576 ∧ 0 ≤ m ∧ m ≤ 131072 := by
 unfold fedB at h
 split at h
 ·cases h
 ·rename_i hb
  unfold badN at hb
  simp at hb
  omega
def finR (d : Int) (r : List UInt8) (m : Int) : List (Nat × Itm) × Int × Int :=
 if fedB d r m = false then ([], 1, 0) else if 1048576 < d + r.length then ([], 2, 0)
 else match (itemsL false (r.length + 1) r 0 m).2 with | none => (toksL (itemsL false (r.length + 1) r 0 m).1, 0, 0) | some p => ([], p.1, p.2 + d)
def feedR (d : Int) (r : List UInt8) (m : Int) (u : List UInt8) : List (Nat × Itm) × (Int × List UInt8 × Int) × Int × Int :=
 if fedB d r m = false then ([], (0, [], 0), 1, 0) else if 1048576 < d + r.length + u.length then ([], (0, [], 0), 2, 0)
 else match (feedL ((r ++ u).length + 1) (r ++ u) 0 m).2.1 with
  | none => (toksL (feedL ((r ++ u).length + 1) (r ++ u) 0 m).1, (d + (feedL ((r ++ u).length + 1) (r ++ u) 0 m).2.2.1, (r ++ u).drop (feedL ((r ++ u).length + 1) (r ++ u) 0 m).2.2.1, m + (toksL (feedL ((r ++ u).length + 1) (r ++ u) 0 m).1).length), 0, 0)
  | some p => ([], (0, [], 0), p.1, p.2 + d)
def lastL (t : List UInt8) (a : Nat) : List (Nat × Itm) := if t = [] then [] else [(a, itemL (classL t) t)]
theorem feed_items : ∀ (k : Nat) (t : List UInt8) (a : Nat) (m : Int), t.length < k →
  (feedL k t a m).2.2.1 ≤ t.length ∧ (∀ x ∈ (feedL k t a m).1, x.2.sure = true) ∧ (itemsL true k t a m).2 = (feedL k t a m).2.1 ∧ (feedL k t a m).2.2.2 = m + (toksL (feedL k t a m).1).length ∧
  ((feedL k t a m).2.1 = none → (itemsL true k t a m).1 = (feedL k t a m).1 ++ lastL (t.drop (feedL k t a m).2.2.1) (a + (feedL k t a m).2.2.1) ∧
   (t.drop (feedL k t a m).2.2.1 ≠ [] → classL (t.drop (feedL k t a m).2.2.1) ≠ 6 ∧ (itemL (classL (t.drop (feedL k t a m).2.2.1)) (t.drop (feedL k t a m).2.2.1)).sure = false)) ∧
  (∀ e, (feedL k t a m).2.1 = some e → (itemsL true k t a m).1 = (feedL k t a m).1)
 | 0, t, _, _, h => by omega
 | k + 1, [], a, m, _ => ⟨Nat.le_refl _, (fun x hx => by cases hx), rfl, by simp [feedL, toksL], fun _ => ⟨rfl, fun h => absurd rfl h⟩, fun e he => by cases he⟩
 | k + 1, c :: r, a, m, h => by
  simp only [List.length_cons] at h
  rw [items_cons, feedL]
  by_cases hb : classL (c :: r) = 6
  ·rw [if_pos hb, if_pos hb]
   obtain ⟨h1, h2, h3, h4, h5, h6⟩ := feed_items k r (a + 1) m (by omega)
   refine ⟨by simp only [List.length_cons]; omega, h2, h3, h4, fun hn => ?_, h6⟩
   have := h5 hn
   dsimp only
   rw [List.drop_succ_cons, show a + ((feedL k r (a + 1) m).2.2.1 + 1) = a + 1 + (feedL k r (a + 1) m).2.2.1 by omega]
   exact this
  ·rw [if_neg hb, if_neg hb]
   by_cases ho : overB true (c :: r) m = true
   ·rw [if_pos ho, if_pos ho]
    exact ⟨Nat.zero_le _, (fun x hx => by cases hx), rfl, by simp [toksL], (fun hn => by cases hn), fun e he => rfl⟩
   ·rw [if_neg ho, if_neg ho]
    by_cases hs : (itemL (classL (c :: r)) (c :: r)).sure = false
    ·rw [if_pos hs, if_pos (show true = true ∧ (itemL (classL (c :: r)) (c :: r)).sure = false from ⟨rfl, hs⟩)]
     refine ⟨Nat.zero_le _, (fun x hx => by cases hx), rfl, by simp [toksL], fun hn => ⟨?_, fun _ => ⟨hb, hs⟩⟩, fun e he => by cases he⟩
     rfl
    ·rw [if_neg hs, if_neg (show ¬ (true = true ∧ (itemL (classL (c :: r)) (c :: r)).sure = false) from fun h => hs h.2)]
     by_cases he : (itemL (classL (c :: r)) (c :: r)).e = 0
     ·have hne : ¬ ¬ (itemL (classL (c :: r)) (c :: r)).e = 0 := fun h => h he
      rw [if_neg hne, if_neg hne]
      clear hne
      obtain ⟨g1, g2⟩ := item_len (c :: r) (by simp) he hb
      generalize itemL (classL (c :: r)) (c :: r) = x at hs he g1 g2 ⊢
      have g2' : x.len ≤ r.length + 1 := g2
      have hd : ((c :: r).drop x.len).length = r.length + 1 - x.len := by rw [List.length_drop]; rfl
      obtain ⟨h1, h2, h3, h4, h5, h6⟩ := feed_items k ((c :: r).drop x.len) (a + x.len) (if x.kind = 0 then m else m + 1) (by omega)
      dsimp only
      refine ⟨by simp only [List.length_cons]; omega, ?_, h3, ?_, fun hn => ?_, fun e he => by rw [h6 e he]⟩
      ·intro y hy
       rcases List.mem_cons.1 hy with rfl | hy
       ·exact by simpa using hs
       ·exact h2 y hy
      ·rw [h4]
       unfold toksL
       rw [List.filter_cons]
       unfold isTok
       by_cases hk : x.kind = 0
       ·rw [if_pos hk, if_neg (by simp [hk])]
       ·rw [if_neg hk, if_pos (by simp [hk]), List.length_cons]
        push_cast
        omega
      ·obtain ⟨h7, h8⟩ := h5 hn
       rw [List.drop_drop] at h7 h8
       rw [← Nat.add_assoc, h7]
       exact ⟨rfl, h8⟩
     ·rw [if_pos he, if_pos he]
      exact ⟨Nat.zero_le _, (fun x hx => by cases hx), rfl, by simp [toksL], (fun hn => by cases hn), fun e he => rfl⟩
def gapS (f t : Nat) : List (Int × Nat × Nat) := if f < t then [(1, f, t)] else []
def spanA (s : List (Int × Nat × Nat) × Nat) (x : Nat × Itm) : List (Int × Nat × Nat) × Nat := (s.1 ++ gapS s.2 x.1 ++ [(if x.2.kind = 0 then 2 else 3, x.1, x.1 + x.2.len)], x.1 + x.2.len)
def spanP (xs : List (Nat × Itm)) : List (Int × Nat × Nat) × Nat := xs.foldl spanA ([], 0)
theorem span_snoc (xs : List (Nat × Itm)) (x : Nat × Itm) : spanP (xs ++ [x]) = spanA (spanP xs) x := by
 unfold spanP
 rw [List.foldl_append]
 rfl
def spansR (t : List UInt8) : List (Int × Nat × Nat) × Int × Nat :=
 if 1048576 < t.length then ([], 2, 0) else match (itemsL false (t.length + 1) t 0 0).2 with
  | none => ((spanP (itemsL false (t.length + 1) t 0 0).1).1 ++ gapS (spanP (itemsL false (t.length + 1) t 0 0).1).2 t.length, 0, 0)
  | some p => ([], p.1, p.2)
def veilB (c : UInt8) : UInt8 := if c = 10 then 10 else 32
def veilA (t : List UInt8) (s : List UInt8 × Nat) (x : Nat × Itm) : List UInt8 × Nat :=
 if x.2.kind = 0 then (s.1 ++ (t.drop s.2).take (x.1 - s.2) ++ ((t.drop x.1).take x.2.len).map veilB, x.1 + x.2.len) else s
def veilP (t : List UInt8) (xs : List (Nat × Itm)) : List UInt8 × Nat := xs.foldl (veilA t) ([], 0)
theorem veil_snoc (t : List UInt8) (xs : List (Nat × Itm)) (x : Nat × Itm) : veilP t (xs ++ [x]) = veilA t (veilP t xs) x := by
 unfold veilP
 rw [List.foldl_append]
 rfl
def veilR (t : List UInt8) : List UInt8 × Int × Nat :=
 if 1048576 < t.length then ([], 2, 0) else match (itemsL false (t.length + 1) t 0 0).2 with
  | none => ((veilP t (itemsL false (t.length + 1) t 0 0).1).1 ++ t.drop (veilP t (itemsL false (t.length + 1) t 0 0).1).2, 0, 0)
  | some p => ([], p.1, p.2)
theorem veil_end (t : List UInt8) (xs : List (Nat × Itm)) : ∀ (s : List UInt8 × Nat) (n : Nat), s.2 ≤ n → (∀ x ∈ xs, x.1 + x.2.len ≤ n) → (xs.foldl (veilA t) s).2 ≤ n := by
 induction xs with
 | nil => exact fun s n h _ => h
 | cons x xs ih =>
  intro s n h hx
  refine ih _ n ?_ fun y hy => hx y (List.mem_cons_of_mem _ hy)
  unfold veilA
  split
  ·exact hx x List.mem_cons_self
  ·exact h
end Go.Proofs.YtniihjhlkpjnoaaDoor.Given