-- Out of this text a program of mine (wip/slim.py) took what this claim does not use.
/- Plain: what Lex, Feed, Finish, Spans and Veil answer. -/
import Derived.Test.YtniihjhlkpjnoaaDoorLexT
import Derived.OrdersHeld
import Derived.OrdersIn
import Derived.TacticsIn
import Derived.Scope
section
set_option linter.unusedVariables false
set_option linter.unusedSimpArgs false
namespace Go.Proofs.YtniihjhlkpjnoaaDoor.Given
def isTok (p : Nat × Itm) : Bool := !decide (p.2.kind = 0)
def toksL (xs : List (Nat × Itm)) : List (Nat × Itm) := xs.filter isTok
theorem toks_snoc (xs : List (Nat × Itm)) (x : Nat × Itm) : toksL (xs ++ [x]) = if x.2.kind = 0 then toksL xs else toksL xs ++ [x] := by
 unfold toksL
 rw [List.filter_append]
 by_cases h : x.2.kind = 0
 ·rw [if_pos h]
  simp [isTok, h]
 ·rw [if_neg h]
  simp [isTok, h]
theorem toks_le (xs : List (Nat × Itm)) : (toksL xs).length ≤ xs.length := List.length_filter_le ..
theorem items_le (more : Bool) : ∀ (k : Nat) (t : List UInt8) (a : Nat) (m : Int), (itemsL more k t a m).1.length ≤ k
 | 0, _, _, _ => Nat.le_refl _
 | k + 1, [], _, _ => by simp [itemsL]
 | k + 1, c :: r, a, m => by
  rw [items_cons]
  split
  ·exact Nat.le_succ_of_le (items_le more k r _ _)
  ·split
   ·simp
   ·split
    ·simp
    ·split
     ·simp
     ·simp only [List.length_cons]
      have := items_le more k ((c :: r).drop (itemL (classL (c :: r)) (c :: r)).len) (a + (itemL (classL (c :: r)) (c :: r)).len) (if (itemL (classL (c :: r)) (c :: r)).kind = 0 then m else m + 1)
      omega
theorem items_err (more : Bool) : ∀ (k : Nat) (t : List UInt8) (a : Nat) (m : Int) (p : Int × Nat), (itemsL more k t a m).2 = some p → p.1 ≠ 0
 | 0, _, _, _, _, h => by cases h
 | k + 1, [], _, _, _, h => by cases h
 | k + 1, c :: r, a, m, p, h => by
  rw [items_cons] at h
  split at h
  ·exact items_err more k r _ _ p h
  ·split at h
   ·cases h
    exact (by decide : (2 : Int) ≠ 0)
   ·split at h
    ·cases h
    ·split at h
     ·rename_i he
      cases h
      exact he
     ·exact items_err more k _ _ _ p h
theorem items_mem (more : Bool) : ∀ (k : Nat) (t : List UInt8) (a : Nat) (m : Int), ∀ x ∈ (itemsL more k t a m).1,
  a ≤ x.1 ∧ x.1 < a + t.length ∧ x.1 + x.2.len ≤ a + t.length ∧ classL (t.drop (x.1 - a)) ≠ 6 ∧ x.2 = itemL (classL (t.drop (x.1 - a))) (t.drop (x.1 - a)) ∧ ((x.2.e = 0 ∧ 1 ≤ x.2.len) ∨ (more = true ∧ x.2.sure = false))
 | 0, _, _, _, x, h => by cases h
 | k + 1, [], _, _, x, h => by cases h
 | k + 1, c :: r, a, m, x, h => by
  rw [items_cons] at h
  split at h
  ·obtain ⟨h1, h2, h3, h4, h5, h6⟩ := items_mem more k r (a + 1) m x h
   have e : x.1 - a = (x.1 - (a + 1)) + 1 := by omega
   rw [e, List.drop_succ_cons, List.length_cons]
   exact ⟨by omega, by omega, by omega, h4, h5, h6⟩
  ·rename_i hb
   split at h
   ·cases h
   ·split at h
    ·rename_i hs
     obtain rfl := List.mem_singleton.1 h
     refine ⟨Nat.le_refl _, by simp, ?_, by rw [Nat.sub_self]; exact hb, by rw [Nat.sub_self]; rfl, .inr hs⟩
     exact Nat.add_le_add_left (item_le _ (by simp) hb) a
    ·split at h
     ·cases h
     ·rename_i he
      have he : (itemL (classL (c :: r)) (c :: r)).e = 0 := by simpa using he
      obtain ⟨g1, g2⟩ := item_len (c :: r) (by simp) he hb
      rcases List.mem_cons.1 h with rfl | h
      ·refine ⟨Nat.le_refl _, by simp, Nat.add_le_add_left g2 a, by rw [Nat.sub_self]; exact hb, by rw [Nat.sub_self]; rfl, .inl ⟨he, g1⟩⟩
      ·obtain ⟨h1, h2, h3, h4, h5, h6⟩ := items_mem more k _ _ _ x h
       rw [List.length_drop] at h2 h3
       rw [List.drop_drop] at h4 h5
       have e : (itemL (classL (c :: r)) (c :: r)).len + (x.1 - (a + (itemL (classL (c :: r)) (c :: r)).len)) = x.1 - a := by omega
       rw [e] at h4 h5
       exact ⟨by omega, by omega, by omega, h4, h5, h6⟩
where
 item_le (t : List UInt8) (h0 : t ≠ []) (hb : classL t ≠ 6) : (itemL (classL t) t).len ≤ t.length := by
  by_cases he : (itemL (classL t) t).e = 0
  ·exact (item_len t h0 he hb).2
  ·have : (itemL (classL t) t).len = 0 := err_len t he
   omega
 err_len (t : List UInt8) (he : ¬ (itemL (classL t) t).e = 0) : (itemL (classL t) t).len = 0 := by
  generalize classL t = c at he
  unfold itemL at he ⊢
  split
  ·rename_i c1
   rw [if_pos c1] at he
   unfold letterI letterN at he ⊢
   split
   ·rename_i h
    rw [if_pos h] at he
    exact absurd rfl he
   ·rename_i h
    rw [if_neg h] at he
    split
    ·rfl
    ·rename_i h2
     rw [if_neg h2] at he
     exact absurd rfl he
  ·rename_i c1
   rw [if_neg c1] at he
   split
   ·rename_i c2
    rw [if_pos c2] at he
    rcases numberX_len t (numL t) with h | h
    ·exact absurd h.2 he
    ·exact h.1
   ·rename_i c2
    rw [if_neg c2] at he
    split
    ·rename_i c3
     rw [if_pos c3] at he
     unfold tickI at he ⊢
     split
     ·rfl
     ·rename_i h
      rw [if_neg h] at he
      split
      ·rfl
      ·rename_i h2
       rw [if_neg h2] at he
       exact absurd rfl he
    ·rename_i c3
     rw [if_neg c3] at he
     split
     ·rename_i c4
      rw [if_pos c4] at he
      unfold quoteI quoteN at he ⊢
      split
      ·rfl
      ·rename_i h
       rw [if_neg h] at he
       split
       ·rfl
       ·rename_i h2
        rw [if_neg h2] at he
        split
        ·rfl
        ·rename_i h3
         rw [if_neg h3] at he
         exact absurd rfl he
     ·rename_i c4
      rw [if_neg c4] at he
      split
      ·rename_i c5
       rw [if_pos c5] at he
       unfold noteI at he ⊢
       cases hn : endL (t.drop 2) with
       | none => rfl
       | some n => rw [hn] at he; exact absurd rfl he
      ·rename_i c5
       rw [if_neg c5] at he
       unfold signI signN at he ⊢
       split
       ·rfl
       ·rename_i h
        rw [if_neg h] at he
        exact absurd rfl he
theorem items_at (more : Bool) : ∀ (k : Nat) (t : List UInt8) (a : Nat) (m : Int) (p : Int × Nat), (itemsL more k t a m).2 = some p → a ≤ p.2 ∧ p.2 < a + t.length
 | 0, _, _, _, _, h => by cases h
 | k + 1, [], _, _, _, h => by cases h
 | k + 1, c :: r, a, m, p, h => by
  rw [items_cons] at h
  split at h
  ·have := items_at more k r (a + 1) m p h
   simp only [List.length_cons]
   omega
  ·rename_i hb
   split at h
   ·cases h
    simp
   ·split at h
    ·cases h
    ·split at h
     ·cases h
      simp
     ·rename_i he
      have he : (itemL (classL (c :: r)) (c :: r)).e = 0 := by simpa using he
      obtain ⟨g1, g2⟩ := item_len (c :: r) (by simp) he hb
      have := items_at more k _ _ _ p h
      rw [List.length_drop] at this
      simp only [List.length_cons] at this g2 ⊢
      omega
theorem items_order (more : Bool) : ∀ (k : Nat) (t : List UInt8) (a : Nat) (m : Int), (itemsL more k t a m).1.Pairwise fun x y => x.1 + x.2.len ≤ y.1
 | 0, _, _, _ => List.Pairwise.nil
 | k + 1, [], _, _ => List.Pairwise.nil
 | k + 1, c :: r, a, m => by
  rw [items_cons]
  split
  ·exact items_order more k r _ _
  ·split
   ·exact List.Pairwise.nil
   ·split
    ·exact List.pairwise_singleton ..
    ·split
     ·exact List.Pairwise.nil
     ·exact List.pairwise_cons.2 ⟨fun y hy => (items_mem more k _ _ _ y hy).1, items_order more k _ _ _⟩
def lexR (t : List UInt8) : List (Nat × Itm) × Int × Nat :=
 if 1048576 < t.length then ([], 2, 0) else match (itemsL false (t.length + 1) t 0 0).2 with | none => (toksL (itemsL false (t.length + 1) t 0 0).1, 0, 0) | some p => ([], p.1, p.2)
def badN (d m : Int) : Bool := decide (d < 0) || (decide (1048576 < d) || (decide (m < 0) || decide (131072 < m)))
def fedB (d : Int) (r : List UInt8) (m : Int) : Bool :=
 if badN d m = true then false else if r = [] ∨ 1048576 < r.length then true else !decide (classL r = 6) && !(itemL (classL r) r).sure
theorem fed_bounds {d : Int} {r : List UInt8} {m : Int} (h : fedB d r m = true) : 0 ≤ d ∧ d ≤ 1048576 ∧ 0 ≤ m ∧ m ≤ 131072 := by
 unfold fedB at h
 split at h
 ·cases h
 ·rename_i hb
  unfold badN at hb
  simp at hb
  omega
def finR (d : Int) (r : List UInt8) (m : Int) : List (Nat × Itm) × Int × Int :=
 if fedB d r m = false then ([], 1, 0) else if 1048576 < d + r.length then ([], 2, 0)
 else match (itemsL false (r.length + 1) r 0 m).2 with | none => (toksL (itemsL false (r.length + 1) r 0 m).1, 0, 0) | some p => ([], p.1, p.2 + d)
def feedR (d : Int) (r : List UInt8) (m : Int) (u : List UInt8) : List (Nat × Itm) × (Int × List UInt8 × Int) × Int × Int :=
 if fedB d r m = false then ([], (0, [], 0), 1, 0) else if 1048576 < d + r.length + u.length then ([], (0, [], 0), 2, 0)
 else match (feedL ((r ++ u).length + 1) (r ++ u) 0 m).2.1 with
  | none => (toksL (feedL ((r ++ u).length + 1) (r ++ u) 0 m).1, (d + (feedL ((r ++ u).length + 1) (r ++ u) 0 m).2.2.1, (r ++ u).drop (feedL ((r ++ u).length + 1) (r ++ u) 0 m).2.2.1, m + (toksL (feedL ((r ++ u).length + 1) (r ++ u) 0 m).1).length), 0, 0)
  | some p => ([], (0, [], 0), p.1, p.2 + d)
def lastL (t : List UInt8) (a : Nat) : List (Nat × Itm) := if t = [] then [] else [(a, itemL (classL t) t)]
theorem feed_items : ∀ (k : Nat) (t : List UInt8) (a : Nat) (m : Int), t.length < k →
  (feedL k t a m).2.2.1 ≤ t.length ∧ (∀ x ∈ (feedL k t a m).1, x.2.sure = true) ∧ (itemsL true k t a m).2 = (feedL k t a m).2.1 ∧ (feedL k t a m).2.2.2 = m + (toksL (feedL k t a m).1).length ∧
  ((feedL k t a m).2.1 = none → (itemsL true k t a m).1 = (feedL k t a m).1 ++ lastL (t.drop (feedL k t a m).2.2.1) (a + (feedL k t a m).2.2.1) ∧
   (t.drop (feedL k t a m).2.2.1 ≠ [] → classL (t.drop (feedL k t a m).2.2.1) ≠ 6 ∧ (itemL (classL (t.drop (feedL k t a m).2.2.1)) (t.drop (feedL k t a m).2.2.1)).sure = false)) ∧
  (∀ e, (feedL k t a m).2.1 = some e → (itemsL true k t a m).1 = (feedL k t a m).1)
 | 0, t, _, _, h => by omega
 | k + 1, [], a, m, _ => ⟨Nat.le_refl _, (fun x hx => by cases hx), rfl, by simp [feedL, toksL], fun _ => ⟨rfl, fun h => absurd rfl h⟩, fun e he => by cases he⟩
 | k + 1, c :: r, a, m, h => by
  simp only [List.length_cons] at h
  rw [items_cons, feedL]
  by_cases hb : classL (c :: r) = 6
  ·rw [if_pos hb, if_pos hb]
   obtain ⟨h1, h2, h3, h4, h5, h6⟩ := feed_items k r (a + 1) m (by omega)
   refine ⟨by simp only [List.length_cons]; omega, h2, h3, h4, fun hn => ?_, h6⟩
   have := h5 hn
   dsimp only
   rw [List.drop_succ_cons, show a + ((feedL k r (a + 1) m).2.2.1 + 1) = a + 1 + (feedL k r (a + 1) m).2.2.1 by omega]
   exact this
  ·rw [if_neg hb, if_neg hb]
   by_cases ho : overB true (c :: r) m = true
   ·rw [if_pos ho, if_pos ho]
    exact ⟨Nat.zero_le _, (fun x hx => by cases hx), rfl, by simp [toksL], (fun hn => by cases hn), fun e he => rfl⟩
   ·rw [if_neg ho, if_neg ho]
    by_cases hs : (itemL (classL (c :: r)) (c :: r)).sure = false
    ·rw [if_pos hs, if_pos (show true = true ∧ (itemL (classL (c :: r)) (c :: r)).sure = false from ⟨rfl, hs⟩)]
     refine ⟨Nat.zero_le _, (fun x hx => by cases hx), rfl, by simp [toksL], fun hn => ⟨?_, fun _ => ⟨hb, hs⟩⟩, fun e he => by cases he⟩
     rfl
    ·rw [if_neg hs, if_neg (show ¬ (true = true ∧ (itemL (classL (c :: r)) (c :: r)).sure = false) from fun h => hs h.2)]
     by_cases he : (itemL (classL (c :: r)) (c :: r)).e = 0
     ·have hne : ¬ ¬ (itemL (classL (c :: r)) (c :: r)).e = 0 := fun h => h he
      rw [if_neg hne, if_neg hne]
      clear hne
      obtain ⟨g1, g2⟩ := item_len (c :: r) (by simp) he hb
      generalize itemL (classL (c :: r)) (c :: r) = x at hs he g1 g2 ⊢
      have g2' : x.len ≤ r.length + 1 := g2
      have hd : ((c :: r).drop x.len).length = r.length + 1 - x.len := by rw [List.length_drop]; rfl
      obtain ⟨h1, h2, h3, h4, h5, h6⟩ := feed_items k ((c :: r).drop x.len) (a + x.len) (if x.kind = 0 then m else m + 1) (by omega)
      dsimp only
      refine ⟨by simp only [List.length_cons]; omega, ?_, h3, ?_, fun hn => ?_, fun e he => by rw [h6 e he]⟩
      ·intro y hy
       rcases List.mem_cons.1 hy with rfl | hy
       ·exact by simpa using hs
       ·exact h2 y hy
      ·rw [h4]
       unfold toksL
       rw [List.filter_cons]
       unfold isTok
       by_cases hk : x.kind = 0
       ·rw [if_pos hk, if_neg (by simp [hk])]
       ·rw [if_neg hk, if_pos (by simp [hk]), List.length_cons]
        push_cast
        omega
      ·obtain ⟨h7, h8⟩ := h5 hn
       rw [List.drop_drop] at h7 h8
       rw [← Nat.add_assoc, h7]
       exact ⟨rfl, h8⟩
     ·rw [if_pos he, if_pos he]
      exact ⟨Nat.zero_le _, (fun x hx => by cases hx), rfl, by simp [toksL], (fun hn => by cases hn), fun e he => rfl⟩
def gapS (f t : Nat) : List (Int × Nat × Nat) := if f < t then [(1, f, t)] else []
def spanA (s : List (Int × Nat × Nat) × Nat) (x : Nat × Itm) : List (Int × Nat × Nat) × Nat := (s.1 ++ gapS s.2 x.1 ++ [(if x.2.kind = 0 then 2 else 3, x.1, x.1 + x.2.len)], x.1 + x.2.len)
def spanP (xs : List (Nat × Itm)) : List (Int × Nat × Nat) × Nat := xs.foldl spanA ([], 0)
theorem span_snoc (xs : List (Nat × Itm)) (x : Nat × Itm) : spanP (xs ++ [x]) = spanA (spanP xs) x := by
 unfold spanP
 rw [List.foldl_append]
 rfl
def spansR (t : List UInt8) : List (Int × Nat × Nat) × Int × Nat :=
 if 1048576 < t.length then ([], 2, 0) else match (itemsL false (t.length + 1) t 0 0).2 with
  | none => ((spanP (itemsL false (t.length + 1) t 0 0).1).1 ++ gapS (spanP (itemsL false (t.length + 1) t 0 0).1).2 t.length, 0, 0)
  | some p => ([], p.1, p.2)
def veilB (c : UInt8) : UInt8 := if c = 10 then 10 else 32
def veilA (t : List UInt8) (s : List UInt8 × Nat) (x : Nat × Itm) : List UInt8 × Nat :=
 if x.2.kind = 0 then (s.1 ++ (t.drop s.2).take (x.1 - s.2) ++ ((t.drop x.1).take x.2.len).map veilB, x.1 + x.2.len) else s
def veilP (t : List UInt8) (xs : List (Nat × Itm)) : List UInt8 × Nat := xs.foldl (veilA t) ([], 0)
theorem veil_snoc (t : List UInt8) (xs : List (Nat × Itm)) (x : Nat × Itm) : veilP t (xs ++ [x]) = veilA t (veilP t xs) x := by
 unfold veilP
 rw [List.foldl_append]
 rfl
def veilR (t : List UInt8) : List UInt8 × Int × Nat :=
 if 1048576 < t.length then ([], 2, 0) else match (itemsL false (t.length + 1) t 0 0).2 with
  | none => ((veilP t (itemsL false (t.length + 1) t 0 0).1).1 ++ t.drop (veilP t (itemsL false (t.length + 1) t 0 0).1).2, 0, 0)
  | some p => ([], p.1, p.2)
theorem veil_end (t : List UInt8) (xs : List (Nat × Itm)) : ∀ (s : List UInt8 × Nat) (n : Nat), s.2 ≤ n → (∀ x ∈ xs, x.1 + x.2.len ≤ n) → (xs.foldl (veilA t) s).2 ≤ n := by
 induction xs with
 | nil => exact fun s n h _ => h
 | cons x xs ih =>
  intro s n h hx
  refine ih _ n ?_ fun y hy => hx y (List.mem_cons_of_mem _ hy)
  unfold veilA
  split
  ·exact hx x List.mem_cons_self
  ·exact h
end Go.Proofs.YtniihjhlkpjnoaaDoor.Given
end
section
/- A region that draws its order, inside a fence and inside a round of a range over a function: an operation that yields its value in every world that meets a condition may be taken first. -/
set_option linter.unusedVariables false
set_option linter.unusedSimpArgs false
namespace Go.Proofs.YtniihjhlkpjnoaaDoor.Given
open Go
section
variable {F : Fence} {n : Nat} {P : Program} {ops : Array Oper} {Q : Exit → Act → World → Prop} {md : Region.Mode} {S : World → Prop} {fin : Nat}
def YIn (P : Program) (ops : Array Oper) (S : World → Prop) (o : Oper) (v : Value) (a : Act) : Prop := YieldsIf P ops S o v a ∧ ∀ w, o.about P w a.eval = none
def noDefer (ops : Array Oper) : Bool := ops.all fun o => match o.op with | .defer _ => false | _ => true
theorem noDefer_at (h : noDefer ops = true) {j : Nat} {o : Oper} (hj : ops[j]? = some o) : ∀ c, o.op ≠ .defer c := by
 intro c hc
 unfold noDefer at h
 rw [Array.all_eq_true] at h
 obtain ⟨hlt, rfl⟩ := Array.getElem?_eq_some_iff.1 hj
 have := h j hlt
 rw [hc] at this
 cases this
theorem YIn.op {i : Nat} {o : Oper} {v : Value} {a : Act} (hnd : noDefer ops = true) (hi : ops[i]? = some o) (hy : YIn P ops S o v a) {K : Act → World → Prop} {w : World} (hS : S w) (h : K (a.put o.dst v) w) : wpOpIn F n P ops Q i K a w := by
 unfold wpOpIn
 simp only [hi]
 have hab : ∀ f, o.about P w a.eval = some f → F.fn f := fun f hf => by rw [hy.2 w] at hf; cases hf
 rcases hy.1 with ⟨hw, hv⟩ | ⟨hw, rfl⟩
 ·simp only [hw, if_true, Oper.wpIn, Oper.semAt_eq F.round a.eval o (noDefer_at hnd hi), hv w hS, Oper.uponIn]; exact ⟨hab, h⟩
 ·simp only [hw, Bool.false_eq_true, if_false]; exact ⟨hab, h⟩
theorem wpOpIn_beside {j : Nat} {oi oj : Oper} {v : Value} (hnd : noDefer ops = true) (hj : ops[j]? = some oj) (hap : oi.apart ops oj = true)
  (hsi : ∀ cs b, oi.op ≠ .select cs b) (hsj : ∀ cs b, oj.op ≠ .select cs b)
  (hQ : ∀ c a w, Q (.panic c) (a.put oi.dst v) w → Q (.panic c) a w) {K : Act → World → Prop} {a : Act} {w : World}
  (hy : YIn P ops S oi v a) (h : wpOpIn F n P ops Q j K (a.put oi.dst v) w) :
  wpOpIn F n P ops Q j (fun a' w' => YIn P ops S oi v a' ∧ K (a'.put oi.dst v) w') a w := by
 obtain ⟨h1, h2, h3⟩ := Oper.apart_spec hap
 have keep : ∀ (a : Act), YIn P ops S oi v a → ∀ u, YIn P ops S oi v (a.put oj.dst u) := fun a hy u =>
  ⟨hy.1.of_same (execOp_put oi hsi a oj.dst u h3) (wanted_put oi a oj.dst u h3), fun w => by rw [about_put oi w a oj.dst u h3]; exact hy.2 w⟩
 have keepD : ∀ d, YIn P ops S oi v { a with defers := d :: a.defers } := fun d => hy
 have hnj := noDefer_at hnd hj
 unfold wpOpIn at *
 simp only [hj] at *
 rw [wanted_put oj a oi.dst v h1, about_put oj w a oi.dst v h1] at h
 split
 ·rename_i hw
  simp only [hw, if_true] at h
  unfold Oper.wpIn at *
  rw [about_put oj w a oi.dst v h1] at h
  refine ⟨h.1, ?_⟩
  have h := h.2
  rw [Oper.semAt_eq F.round _ oj hnj, execOp_put oj hsj a oi.dst v h1] at h
  rw [Oper.semAt_eq F.round _ oj hnj]
  generalize (execOp a.eval oj).run P w = r at *
  cases r with
  | ok x w' =>
   cases x <;> simp only [Oper.uponIn] at h ⊢
   case value u => exact ⟨keep a hy u, by rw [← Act.put_comm a v u h2]; exact h⟩
   case skip => exact ⟨keep a hy _, by rw [← Act.put_comm a v undef h2]; exact h⟩
   case defer d =>
    refine ⟨keep _ (keepD d) _, ?_⟩
    rw [← Act.put_comm _ v undef h2, ← Act.put_defers]
    exact h
   case enter f args =>
    refine ⟨h.1, CallsIn.mono h.2 fun e w'' he => ?_⟩
    cases e with
    | returned u => exact ⟨keep a hy u, by rw [← Act.put_comm a v u h2]; exact he⟩
    | panicked c => exact hQ _ _ _ he
    | outgrown => exact he
   case row row args => exact ⟨h.1, RowsIn.mono h.2 fun u w'' he => ⟨keep a hy u, by rw [← Act.put_comm a v u h2]; exact he⟩⟩
   case round l f tmps assign body =>
    refine ⟨h.1, RoundIn.mono h.2 fun e w'' he => ?_⟩
    cases e with
    | returned u => exact ⟨keep a hy u, by rw [← Act.put_comm a v u h2]; exact he⟩
    | panicked c => exact hQ _ _ _ he
    | outgrown => exact he
  | halt x w' =>
   cases x <;> simp only [Oper.uponIn] at h ⊢
   case panic u => exact hQ _ _ _ h
 ·rename_i hw
  simp only [hw] at h
  exact ⟨h.1, keep a hy _, by rw [← Act.put_comm a v undef h2]; exact h.2⟩
def afterB (md : Region.Mode) (ops : Array Oper) (fin i : Nat) : Bool := match ops[fin]? with | some o => o.after.any (fun e => Region.binds md e && e.on == i) | none => true
def wpAnyHIn (F : Fence) (n : Nat) (P : Program) (md : Region.Mode) (ops : Array Oper) (Q : Exit → Act → World → Prop) (S : World → Prop) (fin : Nat) : Nat → Array Bool → Act → World → Prop
 | 0, listed, a, w => Region.ready md ops listed = [] ∧ Q .normal a w
 | fuel + 1, listed, a, w =>
  (Region.ready md ops listed = [] → Q .normal a w) ∧
  ∀ i ∈ Region.ready md ops listed, wpOpIn F n P ops Q i (fun a' w' => (i ≠ fin → S w') ∧ wpAnyHIn F n P md ops Q S fin fuel (listed.setIfInBounds i true) a' w') a w
theorem wpAnyIn_of_heldIn : ∀ (fuel : Nat) (listed : Array Bool) (a : Act) (w : World), wpAnyHIn F n P md ops Q S fin fuel listed a w → wpAnyIn F n P md ops Q fuel listed a w
 | 0, _, _, _, h => h
 | fuel + 1, _, _, _, h => ⟨h.1, fun i hi => wpOpIn_mono (fun a' w' h' => wpAnyIn_of_heldIn fuel _ a' w' h'.2) (h.2 i hi)⟩
theorem wpAnyHIn_first {i : Nat} {oi : Oper} {v : Value} (hfin : afterB md ops fin i = true) (hnd : noDefer ops = true) (hi : ops[i]? = some oi) (hsel : ∀ (j : Nat) (o : Oper) cs b, ops[j]? = some o → o.op ≠ .select cs b)
  (hQ : ∀ c a w, Q (.panic c) (a.put oi.dst v) w → Q (.panic c) a w) :
  ∀ (fuel : Nat) (listed : Array Bool) (a : Act) (w : World),
   (∀ j oj, ops[j]? = some oj → j ≠ i → listed.getD j true = false → (∀ e ∈ oj.after, Region.binds md e = true → e.on ≠ i) → oi.apart ops oj = true) →
   i ∈ Region.ready md ops listed → YIn P ops S oi v a → S w →
   wpAnyHIn F n P md ops Q S fin fuel (listed.setIfInBounds i true) (a.put oi.dst v) w → wpAnyHIn F n P md ops Q S fin (fuel + 1) listed a w := by
 intro fuel
 induction fuel with
 | zero =>
  intro listed a w _ hr hy hS H
  refine ⟨fun h => (by rw [h] at hr; cases hr), fun j hj => ?_⟩
  by_cases hji : j = i
  ·subst hji; exact hy.op hnd hi hS ⟨fun _ => hS, H⟩
  ·have := ready_mono hj hji
   rw [H.1] at this
   cases this
 | succ fuel ih =>
  intro listed a w hfree hr hy hS H
  refine ⟨fun h => (by rw [h] at hr; cases hr), fun j hj => ?_⟩
  by_cases hji : j = i
  ·subst hji; exact hy.op hnd hi hS ⟨fun _ => hS, H⟩
  ·have h1 := H.2 j (ready_mono hj hji)
   obtain ⟨hjun, oj, hoj, hall⟩ := mem_ready.1 hj
   have hnot : ∀ e ∈ oj.after, Region.binds md e = true → e.on ≠ i := fun e he hb heq => by
    have h1 := hall e he hb
    have h0 := (mem_ready.1 hr).1
    rw [heq] at h1
    rcases Nat.lt_or_ge i listed.size with h' | h'
    ·simp [h'] at h0 h1; rw [h0] at h1; cases h1
    ·simp [Array.getElem?_eq_none h'] at h1
   have hjf : j ≠ fin := fun e => by
    subst e
    unfold afterB at hfin
    rw [hoj] at hfin
    simp only [Array.any_eq_true, Bool.and_eq_true, beq_iff_eq] at hfin
    obtain ⟨q, hq, hb, he⟩ := hfin
    exact hnot _ (Array.getElem_mem hq) hb he
   have h2 := wpOpIn_beside hnd hoj (hfree j oj hoj hji hjun hnot) (fun cs b => hsel i oi cs b hi) (fun cs b => hsel j oj cs b hoj) hQ hy h1
   have hfree' : ∀ k ok, ops[k]? = some ok → k ≠ i → (listed.setIfInBounds j true).getD k true = false →
     (∀ e ∈ ok.after, Region.binds md e = true → e.on ≠ i) → oi.apart ops ok = true := fun k ok hk hki hun hno => by
    refine hfree k ok hk hki ?_ hno
    by_cases hjk : j = k
    ·subst hjk; exact hjun
    ·rw [getD_set_ne true hjk] at hun; exact hun
   refine wpOpIn_mono (fun a' w' h3 => ⟨fun _ => h3.2.1 hjf, ih (listed.setIfInBounds j true) a' w' hfree' (ready_mono hr (Ne.symm hji)) h3.1 (h3.2.1 hjf) ?_⟩) h2
   rw [Array.setIfInBounds_comm _ _ hji]
   exact h3.2.2
theorem wpAnyHIn_take {i : Nat} {oi : Oper} {v : Value} {fuel : Nat} {listed : Array Bool} {a : Act} {w : World} (hfin : afterB md ops fin i = true) (hnd : noDefer ops = true) (hi : ops[i]? = some oi)
  (hs : Region.noSelect ops = true) (hf : Region.free md ops listed i = true) (hr : (Region.ready md ops listed).contains i = true)
  (hQ : ∀ c a w, Q (.panic c) (a.put oi.dst v) w → Q (.panic c) a w) (hb : ∀ w, oi.about P w a.eval = none) (hy : YieldsIf P ops S oi v a) (hS : S w)
  (h : wpAnyHIn F n P md ops Q S fin fuel (listed.setIfInBounds i true) (a.put oi.dst v) w) : wpAnyHIn F n P md ops Q S fin (fuel + 1) listed a w :=
 wpAnyHIn_first hfin hnd hi (Region.noSelect_spec hs) hQ fuel listed a w (Region.free_spec hi hf) (by simpa using hr) ⟨hy, hb⟩ hS h
theorem wpAnyHIn_all {rs : List Nat} {fuel : Nat} {listed : Array Bool} {a : Act} {w : World} (hr : Region.ready md ops listed = rs) (hne : rs ≠ [])
  (h : ∀ i ∈ rs, wpOpIn F n P ops Q i (fun a' w' => (i ≠ fin → S w') ∧ wpAnyHIn F n P md ops Q S fin fuel (listed.setIfInBounds i true) a' w') a w) : wpAnyHIn F n P md ops Q S fin (fuel + 1) listed a w :=
 ⟨fun h0 => absurd (hr ▸ h0) hne, hr ▸ h⟩
theorem wpAnyHIn_done {listed : Array Bool} {a : Act} {w : World} (hr : Region.ready md ops listed = []) (h : Q .normal a w) : ∀ fuel, wpAnyHIn F n P md ops Q S fin fuel listed a w
 | 0 => ⟨hr, h⟩
 | _ + 1 => ⟨fun _ => h, by rw [hr]; simp⟩
theorem wpIn_region_held (fin : Nat) {id : Nat} {a : Act} {w : World} (hm : P.follows .mixedOrders = true)
  (h : wpAnyHIn F n P .any ops Q S fin ops.size (Array.replicate ops.size false) a { w with drawn := w.drawn + 1 }) : (Code.region id ops true).wpIn F n P Q a w :=
 wpIn_region_any hm (wpAnyIn_of_heldIn _ _ _ _ h)
theorem wpOpIn_of {i : Nat} {o : Oper} {a : Act} {w : World} {K : Act → World → Prop} (ho : ops[i]? = some o) (hw : Region.wanted o (yielded ops a.tmps) = true) (h : o.wpIn F n P a w K Q) : wpOpIn F n P ops Q i K a w := by
 unfold wpOpIn
 simp only [ho, hw, if_true]
 exact h
end
section
variable {F : Fence} {n : Nat} {P : Program} {ops : Array Oper} {Q : Exit → Act → World → Prop}
theorem wpOpIn_skip {i : Nat} {o : Oper} {a : Act} {w : World} {K : Act → World → Prop} (ho : ops[i]? = some o) (hw : Region.wanted o (yielded ops a.tmps) = false) (hab : ∀ f, F.fn f) (h : K (a.put o.dst undef) w) : wpOpIn F n P ops Q i K a w := by
 unfold wpOpIn
 simp only [ho, hw, Bool.false_eq_true, if_false]
 exact ⟨fun f _ => hab f, h⟩
end
theorem wpAnyHIn_one {F : Fence} {n : Nat} {P : Program} {md : Region.Mode} {ops : Array Oper} {Q : Exit → Act → World → Prop} {S : World → Prop} {fin i : Nat} {fuel : Nat} {listed : Array Bool} {a : Act} {w : World} (hr : Region.ready md ops listed = [i])
  (h : wpOpIn F n P ops Q i (fun a' w' => (i ≠ fin → S w') ∧ wpAnyHIn F n P md ops Q S fin fuel (listed.setIfInBounds i true) a' w') a w) : wpAnyHIn F n P md ops Q S fin (fuel + 1) listed a w :=
 wpAnyHIn_all hr (by simp) fun j hj => by
  have hj : j = i := List.mem_singleton.1 hj
  subst hj
  exact h
/-! ### a scope inside a fence, left by no goto -/
section
variable {F : Fence} {n : Nat} {P : Program} {b : Frame} {a : Act} {k : List Item} {cs : List Frame} {w : World} {Q : Exit → Act → World → Prop}
theorem stepR_scope {c : Code} : step P (lone (b.atR a (.code (.scope c) :: k)) cs w) = .next (lone (b.atR a (.code c :: .inScope c :: k)) cs w) :=
 step_lone_go (by simp [stepG, stepG.exec, Frame.atR])
theorem stepR_inScope {c : Code} : step P (lone (b.atR a (.inScope c :: k)) cs w) = .next (lone (b.atR a k) cs w) :=
 step_lone_go (by simp [stepG, stepG.exec, Frame.atR])
theorem wpIn_scope_straight {c : Code} (h : c.wpIn F n P (Exit.noGoto Q) a w) : (Code.scope c).wpIn F n P Q a w := by
 intro b k cs hro hb hr
 have h0 : (lone (b.atR a (.code (.scope c) :: k)) cs w).fenced P F := fenced_calm hb hr rfl
 obtain ⟨e, a₁, w₁, hq, harr⟩ := h b (.inScope c :: k) cs hro hb hr
 cases e with
 | normal => exact ⟨.normal, a₁, w₁, hq, .head h0 stepR_scope (StepsIn.trans harr (.one (fenced_calm hb hr rfl) stepR_inScope))⟩
 | exit id =>
  have hx : exitTo id (.inScope c :: k) = exitTo id k := by simp [exitTo]
  exact ⟨.exit id, a₁, w₁, hq, fun k' hk => .head h0 stepR_scope (harr.1 k' (by rw [hx]; exact hk)),
   fun hr' hk => let ⟨k₁, h1, h2⟩ := harr.2 hr' (by rw [hx]; exact hk); ⟨k₁, h1, .head h0 stepR_scope h2⟩⟩
 | goto l => exact hq.elim
 | ret => exact ⟨_, a₁, w₁, hq, .of_steps (.one h0 stepR_scope) harr⟩
 | panic ch => exact ⟨_, a₁, w₁, hq, .of_steps (.one h0 stepR_scope) harr⟩
 | outgrown => exact ⟨_, a₁, w₁, hq, .of_steps (.one h0 stepR_scope) harr⟩
end
end Go.Proofs.YtniihjhlkpjnoaaDoor.Given
end
