-- Out of this text a program of mine (wip/slim.py) took what this claim does not use.
/- Plain: tokens read alone, two that stand side by side, printed ones, veiled ones, and those ahead of a change. -/
import Derived.Test.YtniihjhlkpjnoaaDoorLexW
section
set_option linter.unusedVariables false
set_option linter.unusedSimpArgs false
namespace Go.Proofs.YtniihjhlkpjnoaaDoor.Given
theorem itm_len {t : List UInt8} (h0 : t ≠ []) (hb : classL t ≠ 6) (he : cE (itm t) = 0) : 1 ≤ cLen (itm t) ∧ cLen (itm t) ≤ t.length := item_len t h0 he hb
theorem rd_mem {t : List UInt8} {a : Nat} {m : Int} {xs : List (Nat × Core)} (h : Rd t a m xs) : ∀ p ∈ xs, a ≤ p.1 ∧ p.1 + cLen p.2 ≤ a + t.length ∧ 1 ≤ cLen p.2 ∧ t.drop (p.1 - a) ≠ [] ∧ classL (t.drop (p.1 - a)) ≠ 6 ∧ itm (t.drop (p.1 - a)) = p.2 ∧ cE p.2 = 0 := by
 induction h with
 | nil a m => exact fun p hp => by cases hp
 | blank c r a m xs hb h ih =>
  intro p hp
  obtain ⟨h1, h2, h3, h4, h5, h6, h7⟩ := ih p hp
  have e : p.1 - a = (p.1 - (a + 1)) + 1 := by omega
  rw [e, List.drop_succ_cons, List.length_cons]
  exact ⟨by omega, by omega, h3, h4, h5, h6, h7⟩
 | item t a m xs h0 hb ho he h ih =>
  obtain ⟨g1, g2⟩ := itm_len h0 hb he
  intro p hp
  rcases List.mem_cons.1 hp with rfl | hp
  ·have e : a - a = 0 := by omega
   refine ⟨by omega, ?_, g1, ?_⟩
   ·show a + cLen (itm t) ≤ _
    omega
   ·show t.drop (a - a) ≠ [] ∧ _
    rw [e, List.drop_zero]
    exact ⟨h0, hb, rfl, he⟩
  ·obtain ⟨h1, h2, h3, h4, h5, h6, h7⟩ := ih p hp
   rw [List.length_drop] at h2
   have e : p.1 - a = cLen (itm t) + (p.1 - (a + cLen (itm t))) := by omega
   rw [List.drop_drop] at h4 h5 h6
   rw [e]
   exact ⟨by omega, by omega, h3, h4, h5, h6, h7⟩
theorem itm_cut (u : List UInt8) (h0 : u ≠ []) (hb : classL u ≠ 6) (he : cE (itm u) = 0) (n : Nat) (hn : cLen (itm u) ≤ n) : u.take n ≠ [] ∧ classL (u.take n) = classL u ∧ itm (u.take n) = itm u := by
 obtain ⟨g1, g2⟩ := itm_len h0 hb he
 have hne : u.take n ≠ [] := fun h => by
  have := congrArg List.length h
  rw [List.length_take, List.length_nil] at this
  omega
 have e : u.take n ++ u.drop n = u := List.take_append_drop n u
 have hl : (u.take n).length = min n u.length := List.length_take
 have := item_trunc (u.take n) (u.drop n) hne (by rw [e]; exact he) (by rw [e]; exact hb) (by
  rw [e, hl]
  show cLen (itm u) ≤ _
  omega)
 rw [e] at this
 exact ⟨hne, this.1, this.2⟩
theorem over_low (t : List UInt8) (m : Int) (h : m < 131072) : overB false t m = false := by
 unfold overB
 rw [decide_eq_false (show ¬ (131072 : Int) ≤ m by omega), Bool.and_false]
theorem alone (u : List UInt8) (h0 : u ≠ []) (hb : classL u ≠ 6) (he : cE (itm u) = 0) (a : Nat) (m : Int) (hm : m < 131072) : Rd (u.take (cLen (itm u))) a m [(a, itm u)] := by
 obtain ⟨c1, c2, c3⟩ := itm_cut u h0 hb he _ (Nat.le_refl _)
 have key := Rd.item (u.take (cLen (itm u))) a m [] c1 (by rw [c2]; exact hb) (over_low _ _ hm) (by rw [c3]; exact he)
 rw [c3] at key
 refine key ?_
 rw [List.drop_eq_nil_of_le (by rw [List.length_take]; omega)]
 exact .nil _ _
theorem pair (u : List UInt8) (h0 : u ≠ []) (hb : classL u ≠ 6) (he : cE (itm u) = 0) (h0' : u.drop (cLen (itm u)) ≠ []) (hb' : classL (u.drop (cLen (itm u))) ≠ 6) (he' : cE (itm (u.drop (cLen (itm u)))) = 0) :
  Rd (u.take (cLen (itm u) + cLen (itm (u.drop (cLen (itm u)))))) 0 0 [(0, itm u), (cLen (itm u), itm (u.drop (cLen (itm u))))] := by
 obtain ⟨c1, c2, c3⟩ := itm_cut u h0 hb he (cLen (itm u) + cLen (itm (u.drop (cLen (itm u))))) (by omega)
 have key := Rd.item (u.take (cLen (itm u) + cLen (itm (u.drop (cLen (itm u)))))) 0 0 [(cLen (itm u), itm (u.drop (cLen (itm u))))] c1 (by rw [c2]; exact hb) (over_low _ _ (by decide)) (by rw [c3]; exact he)
 rw [c3] at key
 refine key ?_
 rw [List.drop_take, Nat.zero_add, show cLen (itm u) + cLen (itm (u.drop (cLen (itm u)))) - cLen (itm u) = cLen (itm (u.drop (cLen (itm u)))) by omega]
 exact alone _ h0' hb' he' _ _ (by split <;> decide)
def OneTok (b : List UInt8) : Prop := b ≠ [] ∧ classL b ≠ 6 ∧ cE (itm b) = 0 ∧ cLen (itm b) = b.length ∧ (itm b).1 ≠ 0
def joinB : List (List UInt8) → List UInt8
 | [] => []
 | [b] => b
 | b :: c :: r => b ++ 32 :: joinB (c :: r)
theorem itm_sep (t : List UInt8) (c : UInt8) (r : List UInt8) (hs : sepB c = true) (h0 : t ≠ []) (hb : classL t ≠ 6) (he : cE (itm t) = 0) : classL (t ++ c :: r) = classL t ∧ itm (t ++ c :: r) = itm t := item_sep' t c r hs h0 he hb
theorem printed : ∀ (l : List (List UInt8)) (a : Nat) (m : Int), (∀ b ∈ l, OneTok b) → m + l.length ≤ 131072 → ∃ zs, Rd (joinB l) a m zs ∧ zs.map (·.2) = l.map itm
 | [], a, m, _, _ => ⟨[], .nil a m, rfl⟩
 | [b], a, m, h, hm => by
  obtain ⟨h0, hb, he, hl, hk⟩ := h b List.mem_cons_self
  have := alone b h0 hb he a m (by simp at hm; omega)
  rw [hl, List.take_length] at this
  exact ⟨_, this, rfl⟩
 | b :: c :: r, a, m, h, hm => by
  obtain ⟨h0, hb, he, hl, hk⟩ := h b List.mem_cons_self
  simp only [List.length_cons] at hm
  obtain ⟨zs, h1, h2⟩ := printed (c :: r) (a + b.length + 1) (m + 1) (fun x hx => h x (List.mem_cons_of_mem _ hx)) (by simp only [List.length_cons]; omega)
  obtain ⟨s1, s2⟩ := itm_sep b 32 (joinB (c :: r)) (by decide) h0 hb he
  have hne : b ++ 32 :: joinB (c :: r) ≠ [] := by simp
  have key := Rd.item (b ++ 32 :: joinB (c :: r)) a m zs hne (by rw [s1]; exact hb) (over_low _ _ (by omega)) (by rw [s2]; exact he)
  rw [s2, hl, if_neg hk, List.drop_left] at key
  exact ⟨_, key (.blank 32 _ _ _ _ rfl h1), by rw [List.map_cons, h2]; rfl⟩
def vl : List UInt8 → Nat → List (Nat × Core) → List UInt8
 | t, _, [] => t
 | t, a, (p, x) :: xs => t.take (p - a) ++ (if x.1 = 0 then ((t.drop (p - a)).take (cLen x)).map veilB else (t.drop (p - a)).take (cLen x)) ++ vl (t.drop (p - a + cLen x)) (p + cLen x) xs
def HeadA (t u : List UInt8) : Prop := (t = [] ∧ u = []) ∨ (∃ c r, u = c :: r ∧ sepB c = true) ∨ ∃ c r s, t = c :: r ∧ u = c :: s
def HeadB (t u : List UInt8) : Prop := (t = [] ∧ u = []) ∨ (∃ c r, u = c :: r ∧ sepB c = true) ∨ ∃ c r s, t = c :: r ∧ u = c :: s ∧ HeadA r s
theorem behind (b t u : List UInt8) (h : HeadB t u) (h0 : b ≠ []) (hb : classL (b ++ t) ≠ 6) (he : cE (itm (b ++ t)) = 0) (hl : cLen (itm (b ++ t)) ≤ b.length) : classL (b ++ u) = classL (b ++ t) ∧ itm (b ++ u) = itm (b ++ t) := by
 have sep : ∀ (s t : List UInt8) (c : UInt8) (r : List UInt8), s ≠ [] → classL (s ++ t) ≠ 6 → cE (itm (s ++ t)) = 0 → cLen (itm (s ++ t)) ≤ s.length → sepB c = true → classL (s ++ c :: r) = classL (s ++ t) ∧ itm (s ++ c :: r) = itm (s ++ t) := by
  intro s t c r h0 hb he hl hs
  have g := item_trunc s t h0 he hb hl
  have g2 : itm s = itm (s ++ t) := g.2
  obtain ⟨q1, q2⟩ := itm_sep s c r hs h0 (by rw [g.1]; exact hb) (by rw [g2]; exact he)
  exact ⟨q1.trans g.1, q2.trans g2⟩
 rcases h with ⟨rfl, rfl⟩ | ⟨c, r, rfl, hs⟩ | ⟨c, r, s, rfl, rfl, h⟩
 ·exact ⟨rfl, rfl⟩
 ·exact sep b t c r h0 hb he hl hs
 ·rcases h with ⟨rfl, rfl⟩ | ⟨d, r', rfl, hs⟩ | ⟨d, r', s', rfl, rfl⟩
  ·exact ⟨rfl, rfl⟩
  ·have e : ∀ v, b ++ c :: v = (b ++ [c]) ++ v := fun v => by simp
   rw [e r] at hb he hl ⊢
   rw [e (d :: r')]
   exact sep _ _ _ _ (by simp) hb he (by rw [List.length_append]; omega) hs
  ·have e : ∀ v, b ++ c :: d :: v = (b ++ [c, d]) ++ v := fun v => by simp
   rw [e r'] at hb he hl ⊢
   rw [e s']
   exact item_near _ _ _ (by simp) he hb (by rw [List.length_append]; exact Nat.add_le_add_right hl 2)
theorem rd_near {s : List UInt8} {a : Nat} {m : Int} {xs : List (Nat × Core)} (h : Rd s a m xs) : ∀ (p u v : List UInt8) (ys : List (Nat × Core)), s = p ++ u → Rd (p ++ v) a m ys →
  ∃ cs xs' ys', xs = cs ++ xs' ∧ ys = cs ++ ys' ∧ ∀ x ∈ xs', a + p.length < x.1 + cLen x.2 + 2 := by
 induction h with
 | nil a m =>
  intro p u v ys hs h2
  have : p = [] := (List.append_eq_nil_iff.1 hs.symm).1
  subst this
  exact ⟨[], [], ys, rfl, rfl, fun x hx => by cases hx⟩
 | blank c r a m xs hb h ih =>
  intro p u v ys hs h2
  cases p with
  | nil =>
   refine ⟨[], xs, ys, rfl, rfl, fun x hx => ?_⟩
   have := (rd_mem h x hx).1
   simp
   omega
  | cons d p =>
   obtain ⟨rfl, hs2⟩ := List.cons.inj (show c :: r = d :: (p ++ u) from hs)
   have hblk : ∀ s, classL (c :: s) = 6 := by
    intro s
    have : blkB c = true := by
     rw [class_cons] at hb
     repeat' split at hb
     all_goals first | (exact absurd hb (by decide)) | assumption
    have key : ∀ c, blkB c = true → c.toNat ≠ 40 ∧ c.toNat ≠ 39 ∧ c.toNat ≠ 34 ∧ digB c = false ∧ letB c = false := byte_all _ (by decide +kernel)
    obtain ⟨k1, k2, k3, k4, k5⟩ := key c this
    rw [class_cons, if_neg (fun h => k1 h.1), if_neg k2, if_neg k3, if_neg (by rw [k4]; decide), if_neg (by rw [k5]; decide), if_pos this]
   rw [List.cons_append] at h2
   generalize hz : c :: (p ++ v) = z at h2
   cases h2 with
   | nil => cases hz
   | blank c' r' _ _ _ hb' h2 =>
    obtain ⟨rfl, rfl⟩ := List.cons.inj hz
    obtain ⟨cs, xs', ys', e1, e2, e3⟩ := ih p u v ys hs2 h2
    exact ⟨cs, xs', ys', e1, e2, fun x hx => by have := e3 x hx; rw [List.length_cons]; omega⟩
   | item t _ _ _ h0 hb' _ _ _ =>
    subst hz
    exact absurd (hblk _) hb'
 | item t a m xs h0 hb ho he h ih =>
  intro p u v ys hs h2
  obtain ⟨g1, g2⟩ := itm_len h0 hb he
  by_cases hp : cLen (itm t) + 2 ≤ p.length
  ·have hpne : p ≠ [] := fun h => by rw [h] at hp; simp at hp
   subst hs
   obtain ⟨c1, c2⟩ := item_near p u v hpne he hb hp
   have c2 : itm (p ++ v) = itm (p ++ u) := c2
   have hdr : ∀ w, (p ++ w).drop (cLen (itm (p ++ u))) = p.drop (cLen (itm (p ++ u))) ++ w := fun w => List.drop_append_of_le_length (by omega)
   generalize hz : p ++ v = z at h2
   cases h2 with
   | nil => exact absurd (List.append_eq_nil_iff.1 hz).1 hpne
   | blank c' r' _ _ _ hb' h2 =>
    rw [← hz, c1] at hb'
    exact absurd hb' hb
   | item t' _ _ ys2 h0' hb' _ _ h2 =>
    subst hz
    rw [c2, hdr] at h2
    obtain ⟨cs, xs', ys', e1, e2, e3⟩ := ih (p.drop (cLen (itm (p ++ u)))) u v ys2 (hdr u) h2
    refine ⟨(a, itm (p ++ u)) :: cs, xs', ys', by rw [e1]; rfl, by rw [e2, c2]; rfl, fun x hx => ?_⟩
    have := e3 x hx
    rw [List.length_drop] at this
    omega
  ·refine ⟨[], _, ys, rfl, rfl, fun x hx => ?_⟩
   rcases List.mem_cons.1 hx with rfl | hx
   ·show a + p.length < a + cLen (itm t) + 2
    omega
   ·have := (rd_mem h x hx).1
    omega
end Go.Proofs.YtniihjhlkpjnoaaDoor.Given
end
section
-- Out of this text a program of mine (wip/slim.py) took what this claim does not use.
/- Plain: what Lex, Spans and Veil answer, told by one reading of the text. -/
set_option linter.unusedVariables false
set_option linter.unusedSimpArgs false
namespace Go.Proofs.YtniihjhlkpjnoaaDoor.Given
def Chain : List (Nat × Core) → Nat → Nat → Prop
 | [], f, n => f ≤ n
 | x :: xs, f, n => f ≤ x.1 ∧ 1 ≤ cLen x.2 ∧ Chain xs (x.1 + cLen x.2) n
theorem chain_mono : ∀ (xs : List (Nat × Core)) (f g n : Nat), f ≤ g → Chain xs g n → Chain xs f n
 | [], f, g, n, h, hc => Nat.le_trans h hc
 | x :: xs, f, g, n, h, hc => ⟨Nat.le_trans h hc.1, hc.2⟩
theorem rd_chain {t : List UInt8} {a : Nat} {m : Int} {xs : List (Nat × Core)} (h : Rd t a m xs) : Chain xs a (a + t.length) := by
 induction h with
 | nil a m => exact Nat.le_refl _
 | blank c r a m xs hb h ih =>
  rw [List.length_cons, show a + (r.length + 1) = a + 1 + r.length by omega]
  exact chain_mono _ _ _ _ (by omega) ih
 | item t a m xs h0 hb ho he h ih =>
  obtain ⟨g1, g2⟩ := itm_len h0 hb he
  rw [List.length_drop, show a + cLen (itm t) + (t.length - cLen (itm t)) = a + t.length by omega] at ih
  exact ⟨Nat.le_refl _, g1, ih⟩
def spansF : List (Nat × Itm) → Nat → Nat → List (Int × Nat × Nat)
 | [], f, n => gapS f n
 | x :: xs, f, n => gapS f x.1 ++ (if x.2.kind = 0 then 2 else 3, x.1, x.1 + x.2.len) :: spansF xs (x.1 + x.2.len) n
theorem spans_f : ∀ (xs : List (Nat × Itm)) (s : List (Int × Nat × Nat) × Nat) (n : Nat), (xs.foldl spanA s).1 ++ gapS (xs.foldl spanA s).2 n = s.1 ++ spansF xs s.2 n
 | [], s, n => rfl
 | x :: xs, s, n => by
  rw [List.foldl_cons, spans_f xs, spanA, spansF]
  simp
theorem take_split (t : List UInt8) (f a b : Nat) (h1 : f ≤ a) (h2 : a ≤ b) : (t.drop f).take (b - f) = (t.drop f).take (a - f) ++ (t.drop a).take (b - a) := by
 have e : b - f = (a - f) + (b - a) := by omega
 rw [e, List.take_add, List.drop_drop, show f + (a - f) = a by omega]
theorem veil_f (t : List UInt8) : ∀ (xs : List (Nat × Itm)) (s : List UInt8 × Nat) (a n : Nat), s.2 ≤ a → Chain (xs.map tk) a n →
  (xs.foldl (veilA t) s).1 ++ t.drop (xs.foldl (veilA t) s).2 = s.1 ++ (t.drop s.2).take (a - s.2) ++ vl (t.drop a) a (xs.map tk)
 | [], s, a, n, h, hc => by
  show s.1 ++ t.drop s.2 = _ ++ t.drop a
  rw [List.append_assoc, show t.drop a = (t.drop s.2).drop (a - s.2) by rw [List.drop_drop]; congr 1; omega, List.take_append_drop]
 | (p, x) :: xs, s, a, n, h, hc => by
  obtain ⟨c1, c2, c3⟩ := hc
  have c1 : a ≤ p := c1
  have c3 : Chain (xs.map tk) (p + x.len) n := c3
  rw [List.foldl_cons, List.map_cons]
  show _ = s.1 ++ (t.drop s.2).take (a - s.2) ++ vl (t.drop a) a ((p, core x) :: xs.map tk)
  rw [vl, List.drop_drop, List.drop_drop, show a + (p - a) = p by omega, show a + (p - a + cLen (core x)) = p + x.len by show a + (p - a + x.len) = _; omega]
  show _ = s.1 ++ (t.drop s.2).take (a - s.2) ++ ((t.drop a).take (p - a) ++ (if x.kind = 0 then ((t.drop p).take x.len).map veilB else (t.drop p).take x.len) ++ vl (t.drop (p + x.len)) (p + x.len) (xs.map tk))
  by_cases hk : x.kind = 0
  ·rw [show veilA t s (p, x) = (s.1 ++ (t.drop s.2).take (p - s.2) ++ ((t.drop p).take x.len).map veilB, p + x.len) from if_pos hk, if_pos hk]
   rw [veil_f t xs _ (p + x.len) n (Nat.le_refl _) c3]
   rw [Nat.sub_self, List.take_zero, take_split t s.2 a p h c1]
   simp
  ·rw [show veilA t s (p, x) = s from if_neg hk, if_neg hk]
   rw [veil_f t xs s (p + x.len) n (by omega) c3, take_split t s.2 a (p + x.len) h (by omega), take_split t a p (p + x.len) c1 (by omega), show p + x.len - p = x.len by omega]
   simp
theorem read_cases (t : List UInt8) : (∃ e p, e ≠ 0 ∧ lexR t = ([], e, p) ∧ spansR t = ([], e, p) ∧ veilR t = ([], e, p)) ∨
  (t.length ≤ 1048576 ∧ ∃ xs : List (Nat × Itm), Rd t 0 0 (xs.map tk) ∧ xs.length ≤ t.length + 1 ∧ lexR t = (toksL xs, 0, 0) ∧ spansR t = (spansF xs 0 t.length, 0, 0) ∧ veilR t = (vl t 0 (xs.map tk), 0, 0)) := by
 unfold lexR spansR veilR
 by_cases hl : 1048576 < t.length
 ·rw [if_pos hl, if_pos hl, if_pos hl]
  exact .inl ⟨2, 0, by decide, rfl, rfl, rfl⟩
 ·rw [if_neg hl, if_neg hl, if_neg hl]
  have herr := items_err false (t.length + 1) t 0 0
  have hle := items_le false (t.length + 1) t 0 0
  cases hn : (itemsL false (t.length + 1) t 0 0).2 with
  | some p => exact .inl ⟨p.1, p.2, herr p hn, rfl, rfl, rfl⟩
  | none =>
   have hr : Rd t 0 0 ((itemsL false (t.length + 1) t 0 0).1.map tk) := rd_of _ _ _ _ _ (by omega) (Prod.ext rfl hn)
   refine .inr ⟨by omega, (itemsL false (t.length + 1) t 0 0).1, hr, hle, rfl, ?_, ?_⟩
   ·have := spans_f (itemsL false (t.length + 1) t 0 0).1 ([], 0) t.length
    rw [List.nil_append] at this
    exact Prod.ext this rfl
   ·have hc := rd_chain hr
    have := veil_f t (itemsL false (t.length + 1) t 0 0).1 ([], 0) 0 _ (Nat.le_refl _) hc
    exact Prod.ext (this.trans (by simp)) rfl
theorem tk_toks (xs : List (Nat × Itm)) : (xs.map tk).filter (fun p => !decide (p.2.1 = 0)) = (toksL xs).map tk := by
 unfold toksL
 rw [List.filter_map]
 rfl
end Go.Proofs.YtniihjhlkpjnoaaDoor.Given
end
