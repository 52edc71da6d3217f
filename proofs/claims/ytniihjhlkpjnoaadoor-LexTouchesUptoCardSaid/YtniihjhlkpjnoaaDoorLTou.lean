/- LexTouches: the plain law. -/
import Derived.Test.YtniihjhlkpjnoaaDoorPVx17
import Derived.Test.YtniihjhlkpjnoaaDoorLVal
import Derived.Test.YtniihjhlkpjnoaaDoorLSan
set_option linter.unusedVariables false
set_option linter.unusedSimpArgs false
namespace Go.Proofs.YtniihjhlkpjnoaaDoor.Given
open Go.RowKit Go.Proofs.YtniihjhlkpjnoaaDoorW.PrintWords Go.Proofs.YtniihjhlkpjnoaaDoorW.PrintLast Go.Proofs.YtniihjhlkpjnoaaDoorW.PrintMore
theorem touch_sep (a : PV.S42) (ha : validB a = true) (c : UInt8) (hs : sepB c = true) (hc : OneTok [c]) (hi : itm [c] = (7, [c], 0, 1, 0)) (hl : (tokB a).length + 1 ≤ 1048576) : touchB a ⟨7, ⟨#[c]⟩, 0, 0, 0⟩ = (true, 0) := by
 obtain ⟨⟨h0, hb, he, hn, hk⟩, _, ca⟩ := of_valid a ha
 have hy : sCor ⟨7, ⟨#[c]⟩, 0, 0, 0⟩ = cCor (itm [c]) := by rw [hi]; rfl
 have hv := valid_of [c] hc (show (1 : Nat) ≤ 1048576 by omega) ⟨7, ⟨#[c]⟩, 0, 0, 0⟩ hy
 have ht := tokB_of [c] hc ⟨7, ⟨#[c]⟩, 0, 0, 0⟩ hy
 obtain ⟨s1, s2⟩ := itm_sep (tokB a) c [] hs h0 hb he
 have hd : (tokB a ++ [c]).drop (tokB a).length = [c] := List.drop_left
 have hp := pair (tokB a ++ [c]) (by simp) (by rw [s1]; exact hb) (by rw [s2]; exact he) (by rw [s2, hn, hd]; simp) (by rw [s2, hn, hd]; exact hc.2.1) (by rw [s2, hn, hd]; exact hc.2.2.1)
 rw [s2, hn, hd, hc.2.2.2.1, List.take_of_length_le (by simp)] at hp
 refine touch_of a _ ha hv ?_ ?_
 ·rw [ht]
  exact hp
 ·rw [ht, List.length_append]
  exact hl
theorem touch_long (a b : PV.S42) (ha : validB a = true) (hb : validB b = true) (la : 1 ≤ a.f0 ∧ a.f0 ≤ 4) (lb : 1 ≤ b.f0 ∧ b.f0 ≤ 4) : touchB a b = (false, 0) := by
 obtain ⟨⟨a0, a1, a2, a3, a4⟩, _, ca⟩ := of_valid a ha
 obtain ⟨⟨b0, b1, b2, b3, b4⟩, _, cb⟩ := of_valid b hb
 unfold touchB
 rw [ha, hb, if_pos (show (true && true) = true from rfl)]
 cases hx : (decide ((lexR (tokB a ++ tokB b)).2.1 = 0) && alikeL ((lexR (tokB a ++ tokB b)).1.map (tokS 0)) [a, b]) with
 | false => rfl
 | true =>
  exfalso
  rw [Bool.and_eq_true, decide_eq_true_eq, alikeL_iff] at hx
  obtain ⟨h1, h2⟩ := hx
  obtain ⟨g1, g2, g3, g4⟩ := rd_of_lexR _ h1
  rw [g4] at h2
  have hab : (tokB a ++ tokB b).length = (tokB a).length + (tokB b).length := List.length_append
  generalize hs : tokB a ++ tokB b = s at *
  generalize (itemsL false (s.length + 1) s 0 0).1 = ys at g3 h2
  have h2 : ((toksL ys).map (tokS 0)).map sCor = [sCor a, sCor b] := h2
  have hq : ∃ p q, toksL ys = [p, q] := by
   have := congrArg List.length h2
   rw [List.length_map, List.length_map] at this
   match hz : toksL ys, this with
   | [p, q], _ => exact ⟨p, q, rfl⟩
  obtain ⟨p, q, hq⟩ := hq
  rw [hq] at h2
  have hpm : p ∈ ys := (List.mem_filter.1 (show p ∈ toksL ys by rw [hq]; simp)).1
  have hqm : q ∈ ys := (List.mem_filter.1 (show q ∈ toksL ys by rw [hq]; simp)).1
  have hord : p.1 + cLen (core p.2) ≤ q.1 := by
   have h3 : ((toksL ys).map tk).Pairwise fun x y => x.1 + cLen x.2 ≤ y.1 := by
    rw [← tk_toks]
    exact (rd_order g3).filter _
   rw [hq] at h3
   exact (List.pairwise_cons.1 h3).1 (tk q) (by simp)
  have cp : sCor a = cCor (core p.2) := by
   have := (List.cons.inj h2).1
   rw [sCor_tok] at this
   exact this.symm
  have cq : sCor b = cCor (core q.2) := by
   have := (List.cons.inj (List.cons.inj h2).2).1
   rw [sCor_tok] at this
   exact this.symm
  have ka : a.f0 = (core p.2).1 := congrArg Prod.fst cp
  have kb : b.f0 = (core q.2).1 := congrArg Prod.fst cq
  obtain ⟨m1, m2, m3, m4, m5, m6, m7⟩ := rd_mem g3 (tk p) (List.mem_map_of_mem hpm)
  obtain ⟨n1, n2, n3, n4, n5, n6, n7⟩ := rd_mem g3 (tk q) (List.mem_map_of_mem hqm)
  have oa := item_text _ m4 m5 (by rw [m6]; exact m7) (by rw [m6]; show (core p.2).1 ≠ 0; omega)
  have ob := item_text _ n4 n5 (by rw [n6]; exact n7) (by rw [n6]; show (core q.2).1 ≠ 0; omega)
  rw [m6] at oa
  rw [n6] at ob
  have ea : tokB a = (s.drop ((tk p).1 - 0)).take (cLen (tk p).2) := congrArg Prod.fst (own_bytes oa a cp)
  have eb : tokB b = (s.drop ((tk q).1 - 0)).take (cLen (tk q).2) := congrArg Prod.fst (own_bytes ob b cq)
  have lna := congrArg List.length ea
  have lnb := congrArg List.length eb
  rw [List.length_take, List.length_drop] at lna lnb
  have hord : (tk p).1 + cLen (tk p).2 ≤ (tk q).1 := hord
  have hp0 : (tk p).1 = 0 := by omega
  rw [hp0, Nat.sub_zero, List.drop_zero] at m4 m5 m6
  cases hb' : tokB b with
  | nil => exact b0 hb'
  | cons c r =>
   rw [hb'] at hs
   have e1 := long_stop (tokB a) c r a0 (by rw [hs]; exact m5) (by rw [hs, m6]; exact m7) (by rw [hs, m6]; omega) (by rw [hs, m6]; exact ⟨by rw [show (tk p).2.1 = a.f0 from ka.symm]; exact la.1, by rw [show (tk p).2.1 = a.f0 from ka.symm]; exact la.2⟩)
   have kb2 : (itm (tokB b)).1 = b.f0 := (congrArg Prod.fst cb).symm
   rw [hb'] at b2 kb2
   have e2 := long_first c r b2 (by rw [kb2]; exact lb)
   rw [e1] at e2
   cases e2
theorem long_f (a : PV.S42) : ∃ x, PV.mjolnerlaw04_long.f a.f0 a.f1 a.f2 a.f3 a.f4 = some x ∧ (x = true → 1 ≤ a.f0 ∧ a.f0 ≤ 4) := by
 unfold PV.mjolnerlaw04_long.f
 by_cases h1 : a.f0 = 1
 ·rw [if_pos h1]
  exact ⟨_, rfl, fun _ => by omega⟩
 rw [if_neg h1]
 by_cases h2 : a.f0 = 2
 ·rw [if_pos h2]
  exact ⟨_, rfl, fun _ => by omega⟩
 rw [if_neg h2]
 by_cases h3 : a.f0 = 3
 ·rw [if_pos h3]
  exact ⟨_, rfl, fun _ => by omega⟩
 rw [if_neg h3]
 exact ⟨_, rfl, fun h => by rw [beq_iff_eq] at h; omega⟩
theorem touches_law (k : Nat) (hk : 100 ≤ k) (x0 : Int) (x1 : ByteArray) (x2 x3 x4 y0 : Int) (y1 : ByteArray) (y2 y3 y4 : Int) (hx : x1.size ≤ 1048570) (hy : y1.size ≤ 1048570) :
  PV.mjolnerlaw04_LexTouches.f k x0 x1 x2 x3 x4 y0 y1 y2 y3 y4 = some true := by
 obtain ⟨K, rfl⟩ : ∃ K, k = K + 1 := ⟨k - 1, by omega⟩
 let a : PV.S42 := ⟨x0, x1, x2, x3, x4⟩
 let b : PV.S42 := ⟨y0, y1, y2, y3, y4⟩
 have va : PV.lex_Valid.f x0 x1 x2 x3 x4 = some (validB a) := valid_f a (show x1.size ≤ _ by omega)
 have vb : PV.lex_Valid.f y0 y1 y2 y3 y4 = some (validB b) := valid_f b (show y1.size ≤ _ by omega)
 have t1 : PV.lex_Touch.f (K + 1) x0 x1 x2 x3 x4 7 ⟨#[44]⟩ 0 0 0 = some (touchB a ⟨7, ⟨#[44]⟩, 0, 0, 0⟩) := touch_f K a ⟨7, ⟨#[44]⟩, 0, 0, 0⟩ (show x1.size ≤ _ by omega) (show (1 : Nat) ≤ _ by omega)
 have t2 : PV.lex_Touch.f (K + 1) x0 x1 x2 x3 x4 7 ⟨#[59]⟩ 0 0 0 = some (touchB a ⟨7, ⟨#[59]⟩, 0, 0, 0⟩) := touch_f K a ⟨7, ⟨#[59]⟩, 0, 0, 0⟩ (show x1.size ≤ _ by omega) (show (1 : Nat) ≤ _ by omega)
 have t3 : PV.lex_Touch.f (K + 1) x0 x1 x2 x3 x4 y0 y1 y2 y3 y4 = some (touchB a b) := touch_f K a b (show x1.size ≤ _ by omega) (show y1.size ≤ _ by omega)
 unfold PV.mjolnerlaw04_LexTouches.f
 rw [sane_any (K + 1) (by omega), Option.bind_some, va, Option.bind_some, t1, t2, t3]
 have hlen := tokB_len a
 have hlen : (tokB a).length + 1 ≤ 1048576 := by have : a.f1.size ≤ 1048570 := hx; omega
 cases hva : validB a with
 | false =>
  rw [if_neg (by decide), Option.bind_some, if_pos rfl]
  have : touchB a b = (false, 7) := by
   unfold touchB
   rw [hva]
   rfl
  rw [this]
  rfl
 | true =>
  rw [touch_sep a hva 44 (by decide) ⟨by decide, by decide, by decide, by decide, by decide⟩ (by decide) hlen, touch_sep a hva 59 (by decide) ⟨by decide, by decide, by decide, by decide, by decide⟩ (by decide) hlen]
  rw [if_pos rfl, Option.bind_some, Option.bind_some, Option.bind_some, if_pos rfl, if_pos rfl, if_pos rfl, if_pos rfl, vb, Option.bind_some, PV.mjolnerlaw04_LexTouches.j0]
  cases hvb : validB b with
  | false =>
   have : touchB a b = (false, 7) := by
    unfold touchB
    rw [hva, hvb]
    rfl
   rw [this]
   rfl
  | true =>
   have h0 : (touchB a b).2 = 0 := by
    unfold touchB
    rw [hva, hvb]
    rfl
   rw [h0, if_neg (by decide), if_pos rfl, if_pos rfl]
   obtain ⟨xa, l1, l2⟩ := long_f a
   obtain ⟨xb, l3, l4⟩ := long_f b
   rw [show PV.mjolnerlaw04_long.f x0 x1 x2 x3 x4 = some xa from l1, show PV.mjolnerlaw04_long.f y0 y1 y2 y3 y4 = some xb from l3, Option.bind_some, Option.bind_some]
   cases xa with
   | false => rw [if_neg (by decide)]
   | true =>
    cases xb with
    | false => rw [if_pos rfl, if_neg (by decide)]
    | true => rw [if_pos rfl, if_pos rfl, touch_long a b hva hvb (l2 rfl) (l4 rfl)]; rfl
theorem lexTouches_ex (x0 : Int) (x1 : ByteArray) (x2 x3 x4 y0 : Int) (y1 : ByteArray) (y2 y3 y4 : Int) (hx : x1.size + 6 ≤ 1048576) (hy : y1.size + 6 ≤ 1048576) : ∃ k, PV.mjolnerlaw04_LexTouches.f k x0 x1 x2 x3 x4 y0 y1 y2 y3 y4 = some true :=
 ⟨100, touches_law 100 (Nat.le_refl _) x0 x1 x2 x3 x4 y0 y1 y2 y3 y4 (by omega) (by omega)⟩
end Go.Proofs.YtniihjhlkpjnoaaDoor.Given