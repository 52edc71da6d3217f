/- LexStays: the plain law. -/
import Derived.Test.YtniihjhlkpjnoaaDoorPVx20
import Derived.Test.YtniihjhlkpjnoaaDoorJ15
set_option linter.unusedVariables false
set_option linter.unusedSimpArgs false
namespace Go.Proofs.YtniihjhlkpjnoaaDoor.Given
open Go.RowKit Go.Proofs.YtniihjhlkpjnoaaDoorW.PrintWords Go.Proofs.YtniihjhlkpjnoaaDoorW.PrintLast Go.Proofs.YtniihjhlkpjnoaaDoorW.PrintMore
theorem rd_lt {l : List PV.S42} {i : Nat} (h : i < l.length) : PV.rd_T42 l (i : Int) = l[i] := (rd42_at (List.drop_eq_getElem_cons h)).1
theorem near_toks {p u v : List UInt8} {xs ys : List (Nat × Itm)} (hx : Rd (p ++ u) 0 0 (xs.map tk)) (hy : Rd (p ++ v) 0 0 (ys.map tk)) :
  ∃ c : Nat, c ≤ (toksL xs).length ∧ c ≤ (toksL ys).length ∧ (∀ i, ∀ (h1 : i < (toksL xs).length), ∀ (h2 : i < (toksL ys).length), i < c → tk (toksL xs)[i] = tk (toksL ys)[i]) ∧
   ∀ i, ∀ (h : i < (toksL xs).length), (toksL xs)[i].1 + (toksL xs)[i].2.len + 2 ≤ p.length → i < c := by
 obtain ⟨cs, xs', ys', e1, e2, e3⟩ := rd_near hx p u v (ys.map tk) rfl hy
 have f1 : (toksL xs).map tk = cs.filter (fun p => !decide (p.2.1 = 0)) ++ xs'.filter (fun p => !decide (p.2.1 = 0)) := by rw [← tk_toks, e1, List.filter_append]
 have f2 : (toksL ys).map tk = cs.filter (fun p => !decide (p.2.1 = 0)) ++ ys'.filter (fun p => !decide (p.2.1 = 0)) := by rw [← tk_toks, e2, List.filter_append]
 generalize cs.filter (fun p => !decide (p.2.1 = 0)) = c at f1 f2
 have n1 := congrArg List.length f1
 have n2 := congrArg List.length f2
 rw [List.length_map, List.length_append] at n1 n2
 refine ⟨c.length, by omega, by omega, fun i h1 h2 hi => ?_, fun i h hq => ?_⟩
 ·have a1 : ((toksL xs).map tk)[i]? = some (tk (toksL xs)[i]) := by rw [List.getElem?_map, List.getElem?_eq_getElem h1]; rfl
  have a2 : ((toksL ys).map tk)[i]? = some (tk (toksL ys)[i]) := by rw [List.getElem?_map, List.getElem?_eq_getElem h2]; rfl
  rw [f1, List.getElem?_append_left hi] at a1
  rw [f2, List.getElem?_append_left hi] at a2
  rw [a1] at a2
  exact Option.some.inj a2
 ·rcases Nat.lt_or_ge i c.length with g | g
  ·exact g
  ·exfalso
   have a1 : ((toksL xs).map tk)[i]? = some (tk (toksL xs)[i]) := by rw [List.getElem?_map, List.getElem?_eq_getElem h]; rfl
   rw [f1, List.getElem?_append_right g] at a1
   have hm : tk (toksL xs)[i] ∈ xs' := (List.mem_filter.1 (List.mem_of_getElem? a1)).1
   have := e3 _ hm
   have e : (tk (toksL xs)[i]).1 + cLen (tk (toksL xs)[i]).2 = (toksL xs)[i].1 + (toksL xs)[i].2.len := rfl
   omega
theorem tokS_tk {p q : Nat × Itm} (h : tk p = tk q) : tokS 0 p = tokS 0 q := by
 obtain ⟨p, x⟩ := p
 obtain ⟨q, y⟩ := q
 have h1 : p = q := congrArg Prod.fst h
 have h2 : core x = core y := congrArg Prod.snd h
 have e1 : x.kind = y.kind := congrArg (fun z => z.1) h2
 have e2 : x.text = y.text := congrArg (fun z => z.2.1) h2
 have e3 : x.n = y.n := congrArg (fun z => z.2.2.1) h2
 have e4 : x.len = y.len := congrArg (fun z => z.2.2.2.1) h2
 unfold tokS
 rw [h1, e1, e2, e3, e4]
theorem stays_heads (old : List PV.S42) (ho : old.length ≤ 10000000) (H at' a1 : Int) (p : ByteArray) (hat : 0 ≤ at') (hat2 : at' ≤ 1048576) (hh : ∀ i : Nat, i < old.length → (PV.rd_T42 old (i : Int)).f4 ≤ at' - 2 → (i : Int) < H) : ∀ (rem K i : Nat), old.length - i ≤ rem → rem + 1 ≤ K →
  PV.mjolnerlaw04_LexStays.l1 K true H old (i : Int) at' a1 p = some true := by
 intro rem
 induction rem with
 | zero =>
  intro K i h1 h2
  obtain ⟨K, rfl⟩ : ∃ K', K = K' + 1 := ⟨K - 1, by omega⟩
  rw [PV.mjolnerlaw04_LexStays.l1, if_neg (by omega)]
 | succ rem ih =>
  intro K i h1 h2
  obtain ⟨K, rfl⟩ : ∃ K', K = K' + 1 := ⟨K - 1, by omega⟩
  rw [PV.mjolnerlaw04_LexStays.l1]
  by_cases hi : (i : Int) < (old.length : Int)
  ·rw [if_pos hi, if_pos (Int.natCast_nonneg _), w64b (a := at' - 2) (by omega) (by omega), w64b (a := (i : Int) + 1) (by omega) (by omega)]
   have hnext := ih K (i + 1) (by omega) (by omega)
   by_cases hq : (PV.rd_T42 old (i : Int)).f4 ≤ at' - 2
   ·have := hh i (by omega) hq
    rw [if_pos hq, if_neg (by omega)]
    exact hnext
   ·rw [if_neg hq]
    exact hnext
  ·rw [if_neg hi]
theorem stays_tails (s t : ByteArray) (hs : s.size ≤ 1048576) (ht : t.size ≤ 1048576) (old l : List PV.S42) (ho : old.length ≤ 10000000) (hl : l.length ≤ 10000000) (hb : ∀ x ∈ old, 0 ≤ x.f3 ∧ x.f3 ≤ 2000000 ∧ 0 ≤ x.f4 ∧ x.f4 ≤ 2000000) (H T : Nat) (hc : Counts (wrap64 ((t.size : Int) - (s.size : Int))) old l H T)
  (at' a1 : Int) (p : ByteArray) (hat : 0 ≤ at') (hat2 : at' ≤ 1048576) (hh : ∀ i : Nat, i < old.length → (PV.rd_T42 old (i : Int)).f4 ≤ at' - 2 → i < H) : ∀ (rem K i : Nat), T - i ≤ rem → i ≤ T → rem + 10000002 ≤ K →
  PV.mjolnerlaw04_LexStays.l0 K s true l (H : Int) (T : Int) old t (i : Int) at' a1 p = some true := by
 intro rem
 have hend : ∀ (K i : Nat), T ≤ i → 10000002 ≤ K → PV.mjolnerlaw04_LexStays.l0 K s true l (H : Int) (T : Int) old t (i : Int) at' a1 p = some true := by
  intro K i h1 hK
  obtain ⟨K, rfl⟩ : ∃ K', K = K' + 1 := ⟨K - 1, by omega⟩
  rw [PV.mjolnerlaw04_LexStays.l0, if_neg (by omega)]
  exact stays_heads old ho H at' a1 p hat hat2 (fun i h1 h2 => by have := hh i h1 h2; omega) old.length K 0 (by omega) (by omega)
 induction rem with
 | zero => exact fun K i h1 h2 hK => hend K i (by omega) (by omega)
 | succ rem ih =>
  intro K i h1 h2 hK
  by_cases hi : i < T
  ·obtain ⟨K, rfl⟩ : ∃ K', K = K' + 1 := ⟨K - 1, by omega⟩
   have c1 := hc.inOld
   have c2 := hc.inNew
   have e1 : wrap64 (wrap64 ((old.length : Int) - 1) - (i : Int)) = ((old.length - 1 - i : Nat) : Int) := by rw [w64b (a := (old.length : Int) - 1) (by omega) (by omega), w64b (by omega) (by omega)]; omega
   have e2 : wrap64 (wrap64 ((l.length : Int) - 1) - (i : Int)) = ((l.length - 1 - i : Nat) : Int) := by rw [w64b (a := (l.length : Int) - 1) (by omega) (by omega), w64b (by omega) (by omega)]; omega
   rw [PV.mjolnerlaw04_LexStays.l0, if_pos (by omega), e1, e2, if_pos (Int.natCast_nonneg _), if_pos (show ((old.length - 1 - i : Nat) : Int) < (old.length : Int) by omega), if_pos (Int.natCast_nonneg _), if_pos (show ((l.length - 1 - i : Nat) : Int) < (l.length : Int) by omega)]
   have hm := hc.tail i hi
   have hio : old.length - 1 - i < old.length := by omega
   have hbx := hb _ (List.getElem_mem hio)
   rw [← rd_lt hio] at hbx
   generalize PV.rd_T42 old ((old.length - 1 - i : Nat) : Int) = a at hm hbx ⊢
   generalize PV.rd_T42 l ((l.length - 1 - i : Nat) : Int) = b at hm ⊢
   obtain ⟨m0, m1, m2, m3, m4⟩ := hm
   rw [w64b (a := (t.size : Int) - (s.size : Int)) (by omega) (by omega)] at m3 m4 ⊢
   rw [w64b (by omega) (by omega)] at m3 m4
   unfold PV.mjolnerref04_Alike.f
   rw [if_pos m0, if_pos (by rw [m1]), m2, beq_self_eq_true, Option.bind_some, if_pos rfl, ← m3, ← m4, w64b (a := a.f3 + ((t.size : Int) - (s.size : Int)) - a.f3) (by omega) (by omega), w64b (a := a.f4 + ((t.size : Int) - (s.size : Int)) - a.f4) (by omega) (by omega), if_pos (by omega), if_pos (by omega), w64b (a := (i : Int) + 1) (by omega) (by omega)]
   exact ih K (i + 1) (by omega) (by omega) (by omega)
  ·exact hend K i (by omega) (by omega)
theorem refApply_f (s : ByteArray) (a d : Int) (p : ByteArray) (hs : s.size ≤ 1048576) (hp : p.size ≤ 1048576) (hpr : properE a d = true) (had : a + d ≤ (s.size : Int)) :
  PV.mjolnerref03_Apply.f s a d p = some (s.extract 0 a.toNat ++ p ++ s.extract (a + d).toNat s.size, 0) := by
 unfold properE at hpr
 rw [Bool.and_eq_true, Bool.and_eq_true, Bool.and_eq_true, decide_eq_true_eq, decide_eq_true_eq, decide_eq_true_eq, decide_eq_true_eq] at hpr
 obtain ⟨⟨⟨p1, p2⟩, p3⟩, p4⟩ := hpr
 have hex : ∀ i j, (s.extract i j).size ≤ 1048576 := by
  intro i j
  rw [ByteArray.size_extract]
  omega
 unfold PV.mjolnerref03_Apply.f PV.mjolnerref03_Proper.f
 have h1 := hex 0 a.toNat
 have h2 := hex (a + d).toNat s.size
 have happ : (s.extract 0 a.toNat ++ p).size = (s.extract 0 a.toNat).size + p.size := ByteArray.size_append
 rw [if_pos (show a ≥ 0 from p1), if_pos p2, if_pos (show d ≥ 0 from p3), Option.bind_some, if_pos (by simpa using p4), w64b (a := a + d) (by omega) (by omega), if_neg (by omega), if_pos p1, if_pos (by omega), if_pos (by omega), if_pos (by omega), if_pos had, if_pos (by omega)]
theorem stays_law (k : Nat) (hk : 40000000 ≤ k) (a0 : ByteArray) (b0 b1 : Int) (b2 : ByteArray) (h0 : a0.size ≤ 1048576) (h2 : b2.size ≤ 1048576) : PV.mjolnerlaw04_LexStays.f k a0 b0 b1 b2 = some true := by
 obtain ⟨K, rfl⟩ : ∃ K, k = K + 1 := ⟨k - 1, by omega⟩
 have hlex : ∀ s : ByteArray, lex_Lex.f s = some ((lexR (byl s)).1.map (tokS 0), (lexR (byl s)).2.1, ((lexR (byl s)).2.2 : Int)) := fun _ => rfl
 have hap : ∃ r, PV.mjolnerref03_Apply.f a0 b0 b1 b2 = some r := by
  unfold PV.mjolnerref03_Apply.f PV.mjolnerref03_Proper.f
  by_cases p1 : b0 ≥ 0
  ·rw [if_pos p1]
   by_cases p2 : b0 ≤ 1048576
   ·rw [if_pos p2]
    by_cases p3 : b1 ≥ 0
    ·rw [if_pos p3, Option.bind_some]
     by_cases p4 : b1 ≤ 1048576
     ·rw [if_pos (by simpa using p4), w64b (a := b0 + b1) (by omega) (by omega)]
      by_cases p5 : b0 + b1 > (a0.size : Int)
      ·rw [if_pos p5]
       exact ⟨_, rfl⟩
      ·have hex : ∀ i j, (a0.extract i j).size ≤ 1048576 := by
        intro i j
        rw [ByteArray.size_extract]
        omega
       have g1 := hex 0 b0.toNat
       have g2 := hex (b0 + b1).toNat a0.size
       have happ : (a0.extract 0 b0.toNat ++ b2).size = (a0.extract 0 b0.toNat).size + b2.size := ByteArray.size_append
       rw [if_neg p5, if_pos (by omega), if_pos (by omega), if_pos (by omega), if_pos (by omega), if_pos (by omega), if_pos (by omega)]
       exact ⟨_, rfl⟩
     ·rw [if_neg (by simpa using p4)]
      exact ⟨_, rfl⟩
    ·rw [if_neg p3, Option.bind_some, if_neg (by decide)]
     exact ⟨_, rfl⟩
   ·rw [if_neg p2, Option.bind_some, if_neg (by decide)]
    exact ⟨_, rfl⟩
  ·rw [if_neg p1, Option.bind_some, if_neg (by decide)]
   exact ⟨_, rfl⟩
 unfold PV.mjolnerlaw04_LexStays.f
 rw [sane_any (K + 1) (by omega), Option.bind_some]
 rcases again_f a0 b0 b1 b2 h0 h2 with ⟨e, i, he, h⟩ | ⟨H, T, g1, g2, g3, g4, g5, hc⟩
 ·obtain ⟨r, hr⟩ := hap
  rw [h, Option.bind_some, hlex, Option.bind_some, hr, Option.bind_some]
  dsimp only
  rw [if_neg he]
  rfl
 ·rw [g5, Option.bind_some, hlex, Option.bind_some, refApply_f a0 b0 b1 b2 h0 h2 g2 g3, Option.bind_some]
  have g2' := g2
  unfold properE at g2
  rw [Bool.and_eq_true, Bool.and_eq_true, Bool.and_eq_true, decide_eq_true_eq, decide_eq_true_eq, decide_eq_true_eq, decide_eq_true_eq] at g2
  obtain ⟨⟨⟨p1, p2⟩, p3⟩, p4⟩ := g2
  have hb1 : byl (a0.extract 0 b0.toNat ++ b2 ++ a0.extract (b0 + b1).toNat a0.size) = (byl a0).take b0.toNat ++ (byl b2 ++ byl (a0.extract (b0 + b1).toNat a0.size)) := by
   have hex : byl (a0.extract 0 b0.toNat) = (byl a0).take b0.toNat := by
    show (a0.extract 0 b0.toNat).data.toList = a0.data.toList.take b0.toNat
    rw [ByteArray.data_extract, Array.toList_extract]
    simp
   have happ : ∀ a b : ByteArray, byl (a ++ b) = byl a ++ byl b := fun a b => by simp [byl]
   rw [happ, happ, hex, List.append_assoc]
  have hb0 : byl a0 = (byl a0).take b0.toNat ++ (byl a0).drop b0.toNat := (List.take_append_drop _ _).symm
  generalize a0.extract 0 b0.toNat ++ b2 ++ a0.extract (b0 + b1).toNat a0.size = t at *
  dsimp only
  rw [if_pos rfl, hlex, Option.bind_some]
  dsimp only
  rw [if_pos g1, if_pos rfl, if_pos g4]
  have hz0 := byl_length a0
  have hzt := byl_length t
  rcases read_cases (byl a0) with ⟨e, p, he, q1, _, _⟩ | ⟨hl, xs, hr, hx, q1, _, _⟩
  ·rw [q1] at g1
   exact absurd g1 he
  rcases read_cases (byl t) with ⟨e, p, he, r1, _, _⟩ | ⟨hl', ys, hr', hx', r1, _, _⟩
  ·rw [r1] at g4
   exact absurd g4 he
  rw [q1] at hc ⊢
  rw [r1] at hc ⊢
  dsimp only at hc ⊢
  have tx := toks_le xs
  have ty := toks_le ys
  have c1 := hc.inOld
  have c2 := hc.inNew
  have hlo : ((toksL xs).map (tokS 0)).length ≤ 10000000 := by rw [List.length_map]; omega
  have hll : ((toksL ys).map (tokS 0)).length ≤ 10000000 := by rw [List.length_map]; omega
  have htake : ((toksL xs).map (tokS 0)).take H = ((toksL ys).map (tokS 0)).take H := by
   apply List.ext_getElem?
   intro i
   by_cases hi : i < H
   ·have i1 : i < ((toksL xs).map (tokS 0)).length := by omega
    have i2 : i < ((toksL ys).map (tokS 0)).length := by omega
    have := hc.same i hi
    rw [rd_lt i1, rd_lt i2] at this
    rw [List.getElem?_take_of_lt hi, List.getElem?_take_of_lt hi, List.getElem?_eq_getElem i1, List.getElem?_eq_getElem i2, this]
   ·rw [List.getElem?_eq_none (by rw [List.length_take]; omega), List.getElem?_eq_none (by rw [List.length_take]; omega)]
  rw [exact_same' _ hll _ (by omega), Option.bind_some, if_pos rfl, if_neg (by omega), if_neg (by omega), w64b (a := (H : Int) + (T : Int)) (by omega) (by omega), if_neg (by omega), if_neg (by omega), if_pos (by omega), if_pos (by omega), if_pos (by omega), Int.toNat_natCast, htake, exact_same' _ (by rw [List.length_take]; omega) _ (by rw [List.length_take]; omega), Option.bind_some, PV.mjolnerlaw04_LexStays.j0, if_neg (by decide)]
  rw [hb0] at hr
  rw [hb1] at hr'
  obtain ⟨c, n1, n2, n3, n4⟩ := near_toks hr hr'
  have hpl : ((byl a0).take b0.toNat).length = b0.toNat := by rw [List.length_take]; omega
  refine stays_tails a0 t h0 (by omega) _ _ hlo hll ?_ H T hc b0 b1 b2 p1 p2 ?_ T K 0 (by omega) (Nat.zero_le _) (by omega)
  ·intro x hxm
   obtain ⟨z, hz, rfl⟩ := List.mem_map.1 hxm
   have hz : z ∈ xs := (List.mem_filter.1 (show z ∈ xs.filter isTok from hz)).1
   have hr2 := rd_mem hr (tk z) (List.mem_map_of_mem hz)
   have h5 := hr2.2.1
   rw [List.take_append_drop, hz0] at h5
   have h5 : z.1 + z.2.len ≤ 0 + a0.size := h5
   show 0 ≤ ((z.1 + 0 : Nat) : Int) ∧ ((z.1 + 0 : Nat) : Int) ≤ 2000000 ∧ 0 ≤ ((z.1 + z.2.len + 0 : Nat) : Int) ∧ ((z.1 + z.2.len + 0 : Nat) : Int) ≤ 2000000
   omega
  ·intro i hi hq
   have hi' : i < (toksL xs).length := by rw [List.length_map] at hi; exact hi
   rw [rd_lt hi, List.getElem_map] at hq
   have hq : (((toksL xs)[i].1 + (toksL xs)[i].2.len + 0 : Nat) : Int) ≤ b0 - 2 := hq
   have hic := n4 i hi' (by rw [hpl]; omega)
   rcases Nat.lt_or_ge i H with g | g
   ·exact g
   ·exfalso
    have i1 : H < ((toksL xs).map (tokS 0)).length := by omega
    have i2 : H < ((toksL ys).map (tokS 0)).length := by rw [List.length_map]; omega
    refine hc.stop i1 i2 ?_
    rw [rd_lt i1, rd_lt i2, List.getElem_map, List.getElem_map]
    exact tokS_tk (n3 H (by rw [List.length_map] at i1; exact i1) (by rw [List.length_map] at i2; exact i2) (by omega))
theorem lexStays_ex (a0 : ByteArray) (b0 b1 : Int) (b2 : ByteArray) (h0 : a0.size ≤ 1048576) (h2 : b2.size ≤ 1048576) : ∃ k, PV.mjolnerlaw04_LexStays.f k a0 b0 b1 b2 = some true := ⟨40000000, stays_law 40000000 (Nat.le_refl _) a0 b0 b1 b2 h0 h2⟩
end Go.Proofs.YtniihjhlkpjnoaaDoor.Given