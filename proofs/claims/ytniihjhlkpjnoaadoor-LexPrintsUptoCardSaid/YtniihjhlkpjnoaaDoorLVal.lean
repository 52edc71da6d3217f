/- Plain: what Valid and Touch answer, told by the items of texts. -/
import Derived.Test.YtniihjhlkpjnoaaDoorPVx6
import Derived.Test.YtniihjhlkpjnoaaDoorLy
import Derived.Test.YtniihjhlkpjnoaaDoorJ14
set_option linter.unusedVariables false
set_option linter.unusedSimpArgs false
namespace Go.Proofs.YtniihjhlkpjnoaaDoor.Given
open Go.RowKit Go.Proofs.YtniihjhlkpjnoaaDoorW.PrintWords Go.Proofs.YtniihjhlkpjnoaaDoorW.PrintLast Go.Proofs.YtniihjhlkpjnoaaDoorW.PrintMore
theorem w64b {a : Int} (h1 : -1000000000 ≤ a) (h2 : a ≤ 1000000000) : wrap64 a = a := IntWalk.wrap64_in _ (by omega)
theorem rd40_at {l : List PV.S40} {i : Nat} {x : PV.S40} {r : List PV.S40} (h : l.drop i = x :: r) : PV.rd_T40 l (i : Int) = x ∧ i < l.length ∧ l.drop (i + 1) = r := by
 have hi : i < l.length := by
  rcases Nat.lt_or_ge i l.length with h1 | h1
  ·exact h1
  ·rw [List.drop_of_length_le h1] at h
   cases h
 rw [List.drop_eq_getElem_cons hi] at h
 obtain ⟨h1, h2⟩ := List.cons.inj h
 refine ⟨?_, hi, h2⟩
 unfold PV.rd_T40
 rw [Int.toNat_natCast, List.getD_eq_getElem?_getD, List.getElem?_eq_getElem hi]
 exact h1
theorem rd42_at {l : List PV.S42} {i : Nat} {x : PV.S42} {r : List PV.S42} (h : l.drop i = x :: r) : PV.rd_T42 l (i : Int) = x ∧ i < l.length ∧ l.drop (i + 1) = r := by
 have hi : i < l.length := by
  rcases Nat.lt_or_ge i l.length with h1 | h1
  ·exact h1
  ·rw [List.drop_of_length_le h1] at h
   cases h
 rw [List.drop_eq_getElem_cons hi] at h
 obtain ⟨h1, h2⟩ := List.cons.inj h
 refine ⟨?_, hi, h2⟩
 unfold PV.rd_T42
 rw [Int.toNat_natCast, List.getD_eq_getElem?_getD, List.getElem?_eq_getElem hi]
 exact h1
def sCor (y : PV.S42) : Int × List UInt8 × Int := (y.f0, byl y.f1, y.f2)
def cCor (x : Core) : Int × List UInt8 × Int := (x.1, x.2.1, x.2.2.1)
theorem alike_iff (a b : PV.S42) : alikeB a b = true ↔ sCor a = sCor b := by
 unfold alikeB sCor
 rw [Bool.and_eq_true, Bool.and_eq_true, beq_iff_eq, beq_iff_eq, beq_iff_eq, ByteArray.toList_eq, ByteArray.toList_eq, Prod.mk.injEq, Prod.mk.injEq]
 rfl
theorem alikeL_iff : ∀ a b : List PV.S42, alikeL a b = true ↔ a.map sCor = b.map sCor
 | [], [] => by simp [alikeL]
 | [], _ :: _ => by simp [alikeL]
 | _ :: _, [] => by simp [alikeL]
 | x :: r, y :: s => by rw [alikeL, Bool.and_eq_true, alike_iff, alikeL_iff r s, List.map_cons, List.map_cons, List.cons.injEq]
theorem sCor_tok (d : Nat) (p : Nat × Itm) : sCor (tokS d p) = cCor (core p.2) := by
 show (p.2.kind, byl (ba p.2.text), p.2.n) = _
 rw [show byl (ba p.2.text) = p.2.text from ba_list _]
 rfl
theorem own_bytes {x : Core} {b : List UInt8} (h : OwnB x b) (y : PV.S42) (hy : sCor y = cCor x) : bytesL y.f0 (byl y.f1) y.f2 = (b, true) := by
 have h1 : y.f0 = x.1 := congrArg Prod.fst hy
 have h2 : byl y.f1 = x.2.1 := congrArg (fun z => z.2.1) hy
 have h3 : y.f2 = x.2.2.1 := congrArg (fun z => z.2.2) hy
 unfold bytesL
 rcases h with ⟨k, e, n⟩ | ⟨k, e, n1, n2, e2⟩ | ⟨k, k2, e, n⟩
 ·rw [if_pos (by rw [h1, k]), h2, e]
 ·rw [if_neg (by rw [h1, k]; decide), if_pos (by rw [h1, k]), h3, e2, decide_eq_true n1, decide_eq_true n2]
  rfl
 ·rw [if_neg (by rw [h1]; exact k), if_neg (by rw [h1]; exact k2), h2, e]
def validB (y : PV.S42) : Bool := (bytesL y.f0 (byl y.f1) y.f2).2 && decide ((tokB y).length ≤ 1048576) && (decide ((lexR (tokB y)).2.1 = 0) && alikeL ((lexR (tokB y)).1.map (tokS 0)) [y])
theorem valid_f (y : PV.S42) (hs : y.f1.size ≤ 4611686018427387904) : PV.lex_Valid.f y.f0 y.f1 y.f2 y.f3 y.f4 = some (validB y) := by
 unfold PV.lex_Valid.f lex_bytes.f
 rw [if_pos hs, Option.bind_some]
 have e : byl (ba (bytesL y.f0 y.f1.data.toList y.f2).1) = tokB y := ba_list _
 have hsz : (ba (bytesL y.f0 y.f1.data.toList y.f2).1).size = (tokB y).length := ba_size _
 unfold validB
 show (if (bytesL y.f0 (byl y.f1) y.f2).2 = true then _ else _) = _
 by_cases h1 : (bytesL y.f0 (byl y.f1) y.f2).2 = true
 ·rw [if_pos h1, h1, Bool.true_and]
  by_cases h2 : (tokB y).length ≤ 1048576
  ·rw [if_pos (by rw [hsz]; omega), decide_eq_true h2, Bool.true_and]
   unfold lex_like.f
   rw [Option.bind_some, e]
  ·rw [if_neg (by rw [hsz]; omega), decide_eq_false h2, Bool.false_and]
 ·rw [if_neg h1, Bool.eq_false_iff.2 h1, Bool.false_and, Bool.false_and]
theorem like_rd {s : List UInt8} {xs : List (Nat × Core)} (h : Rd s 0 0 xs) (hl : s.length ≤ 1048576) (hk : ∀ p ∈ xs, p.2.1 ≠ 0) (l : List PV.S42) (hc : l.map sCor = xs.map (fun p => cCor p.2)) :
  (decide ((lexR s).2.1 = 0) && alikeL ((lexR s).1.map (tokS 0)) l) = true := by
 obtain ⟨ys, h1, h2, h3⟩ := lexR_of_rd h hl
 have ht : toksL ys = ys := by
  unfold toksL
  rw [List.filter_eq_self]
  intro y hy
  have := hk (tk y) (by rw [← h2]; exact List.mem_map_of_mem hy)
  have : y.2.kind ≠ 0 := this
  simp [isTok, this]
 rw [h3]
 show (decide ((0 : Int) = 0) && alikeL ((toksL ys).map (tokS 0)) l) = true
 rw [decide_eq_true rfl, Bool.true_and, alikeL_iff, ht, hc, ← h2, List.map_map, List.map_map]
 exact List.map_congr_left fun p _ => sCor_tok 0 p
theorem bytes_of (b : List UInt8) (h : OneTok b) (y : PV.S42) (hy : sCor y = cCor (itm b)) : bytesL y.f0 (byl y.f1) y.f2 = (b, true) := by
 obtain ⟨h0, hb, he, hl, hk⟩ := h
 have := item_text b h0 hb he hk
 rw [hl, List.take_length] at this
 exact own_bytes this y hy
theorem tokB_of (b : List UInt8) (h : OneTok b) (y : PV.S42) (hy : sCor y = cCor (itm b)) : tokB y = b := congrArg Prod.fst (bytes_of b h y hy)
theorem valid_of (b : List UInt8) (h : OneTok b) (hlen : b.length ≤ 1048576) (y : PV.S42) (hy : sCor y = cCor (itm b)) : validB y = true := by
 have hbs := bytes_of b h y hy
 have htb := tokB_of b h y hy
 obtain ⟨h0, hb, he, hl, hk⟩ := h
 have hr := alone b h0 hb he 0 0 (by decide)
 rw [hl, List.take_length] at hr
 unfold validB
 rw [hbs, htb, decide_eq_true hlen, Bool.true_and, Bool.true_and]
 exact like_rd hr hlen (fun p hp => by rw [List.mem_singleton.1 hp]; exact hk) [y] (by rw [List.map_cons, List.map_cons, hy]; rfl)
theorem of_like (s : List UInt8) (y : PV.S42) (hs : s = tokB y) (h : (decide ((lexR s).2.1 = 0) && alikeL ((lexR s).1.map (tokS 0)) [y]) = true) : OneTok s ∧ s.length ≤ 1048576 ∧ sCor y = cCor (itm s) := by
 rw [Bool.and_eq_true, decide_eq_true_eq, alikeL_iff] at h
 obtain ⟨h1, h2⟩ := h
 obtain ⟨g1, g2, g3, g4⟩ := rd_of_lexR s h1
 rw [g4] at h2
 generalize (itemsL false (s.length + 1) s 0 0).1 = ys at g3 h2
 have h2 : ((toksL ys).map (tokS 0)).map sCor = [sCor y] := h2
 have hq : ∃ q, toksL ys = [q] := by
  have := congrArg List.length h2
  rw [List.length_map, List.length_map] at this
  exact List.length_eq_one_iff.1 this
 obtain ⟨q, hq⟩ := hq
 have hqm : q ∈ ys ∧ isTok q = true := List.mem_filter.1 (by show q ∈ toksL ys; rw [hq]; exact List.mem_singleton_self q)
 have hqk : (core q.2).1 ≠ 0 := by
  have := hqm.2
  unfold isTok at this
  show q.2.kind ≠ 0
  simpa using this
 rw [hq] at h2
 have hy : cCor (core q.2) = sCor y := by
  have := (List.cons.inj h2).1
  rw [sCor_tok] at this
  exact this
 obtain ⟨m1, m2, m3, m4, m5, m6, m7⟩ := rd_mem g3 (tk q) (List.mem_map_of_mem hqm.1)
 have m2 : q.1 + cLen (core q.2) ≤ 0 + s.length := m2
 have m3 : 1 ≤ cLen (core q.2) := m3
 have m6 : itm (s.drop (q.1 - 0)) = core q.2 := m6
 have m5 : classL (s.drop (q.1 - 0)) ≠ 6 := m5
 have m4 : s.drop (q.1 - 0) ≠ [] := m4
 have m7 : cE (core q.2) = 0 := m7
 rw [Nat.sub_zero] at m4 m5 m6
 have ho := item_text (s.drop q.1) m4 m5 (by rw [m6]; exact m7) (by rw [m6]; exact hqk)
 rw [m6] at ho
 have hb := congrArg Prod.fst (own_bytes ho y hy.symm)
 have hb : tokB y = (s.drop q.1).take (cLen (core q.2)) := hb
 rw [← hs] at hb
 have hlen := congrArg List.length hb
 rw [List.length_take, List.length_drop] at hlen
 have hp : q.1 = 0 := by omega
 rw [hp, List.drop_zero] at m4 m5 m6
 refine ⟨⟨m4, m5, by rw [m6]; exact m7, by rw [m6]; omega, by rw [m6]; exact hqk⟩, g1, by rw [m6]; exact hy.symm⟩
theorem of_valid (y : PV.S42) (h : validB y = true) : OneTok (tokB y) ∧ (tokB y).length ≤ 1048576 ∧ sCor y = cCor (itm (tokB y)) := by
 unfold validB at h
 rw [Bool.and_eq_true] at h
 exact of_like _ y rfl h.2
def touchB (a b : PV.S42) : Bool × Int :=
 if (validB a && validB b) = true then (decide ((lexR (tokB a ++ tokB b)).2.1 = 0) && alikeL ((lexR (tokB a ++ tokB b)).1.map (tokS 0)) [a, b], 0) else (false, 7)
theorem touch_f (k : Nat) (a b : PV.S42) (ha : a.f1.size ≤ 4194304) (hb : b.f1.size ≤ 4194304) : PV.lex_Touch.f (k + 1) a.f0 a.f1 a.f2 a.f3 a.f4 b.f0 b.f1 b.f2 b.f3 b.f4 = some (touchB a b) := by
 unfold PV.lex_Touch.f
 rw [valid_f a (by omega), Option.bind_some]
 have hj : ∀ x : Bool, PV.lex_Touch.j0 (k + 1) x a.f0 a.f1 a.f2 a.f3 a.f4 b.f0 b.f1 b.f2 b.f3 b.f4 = some (if x = true then (false, 7) else (decide ((lexR (tokB a ++ tokB b)).2.1 = 0) && alikeL ((lexR (tokB a ++ tokB b)).1.map (tokS 0)) [a, b], 0)) := by
  intro x
  rw [PV.lex_Touch.j0]
  cases x with
  | true => rw [if_pos rfl, if_pos rfl]
  | false =>
   have la := tokB_len a
   have lb := tokB_len b
   rw [if_neg (by decide), if_neg (by decide)]
   unfold lex_bytes.f
   rw [if_pos (by omega), Option.bind_some, if_pos (by omega), Option.bind_some]
   show (if (ba (tokB a)).size + (ba (tokB b)).size ≤ 9223372036854775807 then _ else _) = _
   rw [ba_size, ba_size, if_pos (by omega)]
   unfold lex_like.f
   rw [Option.bind_some]
   show some (decide ((lexR (byl (ba (tokB a) ++ ba (tokB b)))).2.1 = 0) && alikeL ((lexR (byl (ba (tokB a) ++ ba (tokB b)))).1.map (tokS 0)) [a, b], (0 : Int)) = _
   rw [ba_plus, show byl (ba (tokB a ++ tokB b)) = tokB a ++ tokB b from ba_list _]
 unfold touchB
 by_cases h1 : validB a = true
 ·rw [if_pos h1, valid_f b (by omega), Option.bind_some, hj, h1, Bool.true_and]
  cases validB b <;> rfl
 ·rw [if_neg h1, hj, Bool.eq_false_iff.2 h1, Bool.false_and]
  rfl
theorem touch_of (a b : PV.S42) (ha : validB a = true) (hb : validB b = true) (hr : Rd (tokB a ++ tokB b) 0 0 [(0, itm (tokB a)), ((tokB a).length, itm (tokB b))]) (hl : (tokB a ++ tokB b).length ≤ 1048576) : touchB a b = (true, 0) := by
 obtain ⟨⟨_, _, _, _, ka⟩, _, ca⟩ := of_valid a ha
 obtain ⟨⟨_, _, _, _, kb⟩, _, cb⟩ := of_valid b hb
 unfold touchB
 rw [ha, hb, if_pos (show (true && true) = true from rfl), like_rd hr hl (fun p hp => by
  rcases List.mem_cons.1 hp with rfl | hp
  ·exact ka
  ·rw [List.mem_singleton.1 hp]; exact kb) [a, b] (by rw [List.map_cons, List.map_cons, List.map_nil, ca, cb]; rfl)]
theorem tok_valid {t : List UInt8} {zs : List (Nat × Core)} (hr : Rd t 0 0 zs) (hl : t.length ≤ 1048576) (x : Nat × Itm) (hm : tk x ∈ zs) (hk : x.2.kind ≠ 0) :
  validB (tokS 0 x) = true ∧ (tokS 0 x).f1.size ≤ 1048576 ∧ tokB (tokS 0 x) = (t.drop x.1).take x.2.len := by
 obtain ⟨o1, o2⟩ := rd_one hr (tk x) hm hk
 have hb : sCor (tokS 0 x) = cCor (itm ((t.drop ((tk x).1 - 0)).take (cLen (tk x).2))) := by rw [o2, sCor_tok]; rfl
 refine ⟨valid_of _ o1 (by rw [List.length_take, List.length_drop]; omega) _ hb, ?_, tokB_of _ o1 _ hb⟩
 have ht := item_text _ o1.1 o1.2.1 o1.2.2.1 o1.2.2.2.2
 rw [o2] at ht
 have hsize : (tokS 0 x).f1.size = x.2.text.length := ba_size _
 rw [hsize]
 have hcl2 : (((t.drop ((tk x).1 - 0)).take (cLen (tk x).2)).take (cLen (tk x).2)).length ≤ 1048576 := by rw [List.length_take, List.length_take, List.length_drop]; omega
 rcases ht with ⟨_, e, _⟩ | ⟨_, e, _⟩ | ⟨_, _, e, _⟩
 ·rw [e] at hcl2
  simp only [List.length_append] at hcl2
  have hcl2 : _ + x.2.text.length + _ ≤ 1048576 := hcl2
  omega
 ·have : x.2.text = [] := e
  rw [this]
  decide
 ·rw [e] at hcl2
  have hcl2 : x.2.text.length ≤ 1048576 := hcl2
  omega
end Go.Proofs.YtniihjhlkpjnoaaDoor.Given