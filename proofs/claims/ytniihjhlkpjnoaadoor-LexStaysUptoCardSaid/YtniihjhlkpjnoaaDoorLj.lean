/- Package lex: the iterator of items gives the items of a text. -/
import Derived.Test.YtniihjhlkpjnoaaDoorJ8
import Derived.Test.YtniihjhlkpjnoaaDoorHeld
import Derived.Sort.CutIn
import Derived.WalkSmall
set_option linter.unusedVariables false
set_option linter.unusedSimpArgs false
namespace Go.Proofs.YtniihjhlkpjnoaaDoor.Given
open Go.RowKit Go.Shelf Go.Proofs.YtniihjhlkpjnoaaDoor.PT Go.Proofs.YtniihjhlkpjnoaaDoorW.PrintWords Go.Proofs.YtniihjhlkpjnoaaDoorW.PrintLast Go.Proofs.YtniihjhlkpjnoaaDoorW.PrintMore
attribute [local go_sem] Oper.semAt_some
theorem item_bad (c : Int) (t : List UInt8) (he : ¬ (itemL c t).e = 0) : (itemL c t).len = 0 := by
 unfold itemL at he ⊢
 by_cases c1 : c = 1
 ·rw [if_pos c1] at he ⊢
  unfold letterI letterN at he ⊢
  split at he
  ·exact absurd rfl he
  ·rename_i hw
   rw [if_neg hw]
   split at he
   ·rename_i h; rw [if_pos h]; rfl
   ·exact absurd rfl he
 ·rw [if_neg c1] at he ⊢
  by_cases c2 : c = 2
  ·rw [if_pos c2] at he ⊢
   rcases numberX_len t (numL t) with h | h
   ·exact absurd h.2 he
   ·exact h.1
  ·rw [if_neg c2] at he ⊢
   by_cases c3 : c = 3
   ·rw [if_pos c3] at he ⊢
    unfold tickI at he ⊢
    split at he
    ·rename_i h; rw [if_pos h]; rfl
    ·rename_i h
     rw [if_neg h]
     split at he
     ·rename_i h2; rw [if_pos h2]; rfl
     ·exact absurd rfl he
   ·rw [if_neg c3] at he ⊢
    by_cases c4 : c = 4
    ·rw [if_pos c4] at he ⊢
     unfold quoteI quoteN at he ⊢
     split at he
     ·rename_i h; rw [if_pos h]; rfl
     ·rename_i h
      rw [if_neg h]
      split at he
      ·rename_i h2; rw [if_pos h2]; rfl
      ·rename_i h2
       rw [if_neg h2]
       split at he
       ·rename_i h3; rw [if_pos h3]; rfl
       ·exact absurd rfl he
    ·rw [if_neg c4] at he ⊢
     by_cases c5 : c = 5
     ·rw [if_pos c5] at he ⊢
      unfold noteI at he ⊢
      split at he
      ·rfl
      ·exact absurd rfl he
     ·rw [if_neg c5] at he ⊢
      unfold signI signN at he ⊢
      split at he
      ·rename_i h; rw [if_pos h]; rfl
      ·exact absurd rfl he
structure ItSt (n bs bo bm : Nat) (t : List UInt8) (more : Bool) (m : Int) (G : Nat → Prop) (W : World) : Prop where
 s : W.cell? ⟨bs, 0, none⟩ = some (.string (ba t))
 o : W.cell? ⟨bo, 0, none⟩ = some (.bool more)
 c : W.cell? ⟨bm, 0, none⟩ = some (.int .i64 m)
 f : W.frozen? ⟨bm, 0, none⟩ = false
 r : Readers n W
 gs : G bs
 go : G bo
 gm : G bm
 gr : ∀ i, n ≤ i → i < n + 6 → G i
 ls : bs < n
 lo : bo < n
 lm : bm < n
 ns : bs ≠ bm
 no : bo ≠ bm
 lt : n + 6 ≤ W.heap.size
 gl : ∀ i, G i → i < W.heap.size
theorem ItSt.kept {n bs bo bm : Nat} {t : List UInt8} {more : Bool} {m : Int} {G : Nat → Prop} {W W' : World} (h : ItSt n bs bo bm t more m G W) (hk : Kept G W W') : ItSt n bs bo bm t more m G W' :=
 ⟨(World.cell?_of_block (a := ⟨bs, 0, none⟩) (hk.block _ h.gs)).trans h.s, (World.cell?_of_block (a := ⟨bo, 0, none⟩) (hk.block _ h.go)).trans h.o, (World.cell?_of_block (a := ⟨bm, 0, none⟩) (hk.block _ h.gm)).trans h.c, (World.frozen?_of_block (a := ⟨bm, 0, none⟩) (hk.block _ h.gm)).trans h.f,
  h.r.keep fun i h1 h2 => hk.block _ (h.gr i h1 h2), h.gs, h.go, h.gm, h.gr, h.ls, h.lo, h.lm, h.ns, h.no, Nat.le_trans h.lt hk.size, fun i hi => Nat.lt_of_lt_of_le (h.gl i hi) hk.size⟩
theorem ItSt.below {n bs bo bm : Nat} {t : List UInt8} {more : Bool} {m : Int} {G : Nat → Prop} {W W' : World} (h : ItSt n bs bo bm t more m G W) (hb : Below W.heap.size W W') : ItSt n bs bo bm t more m G W' :=
 h.kept ⟨hb.size, fun i hi => hb.block i (h.gl i hi)⟩
def failV (e : Int) (a : Int) : Value := .iface 74 (.agg #[.int .i64 e, .int .i64 a])
def failC (p : Int × Nat) : List PanicEntry := [{ v := failV p.1 p.2, recovered := false }]
def encI (p : Nat × Itm) : Value := itemV p.2 p.1 ((p.1 + p.2.len : Nat) : Int)
structure ItRel (t : List UInt8) (more : Bool) (m0 : Int) (brk : Nat × Itm → Option Nat) (xs : List (Nat × Itm)) (st : Option (Int × Nat)) (a : Nat) (pre : List (Nat × Itm)) (m : Int) : Prop where
 xs : pre ++ (itemsL more (t.length + 1 - a) (t.drop a) a m).1 = xs
 st : (itemsL more (t.length + 1 - a) (t.drop a) a m).2 = st
 brk : ∀ y, y ∈ pre → brk y = none
 lo : 0 ≤ m
 hi : m ≤ m0 + a
structure It7 (w : World) (b : Nat) (W : World) (v0 v1 v2 v3 v4 v5 v6 : Value) : Prop where
 below : Below w.heap.size w W
 lo : w.heap.size ≤ b
 hi : b < W.heap.size
 c0 : W.cell? ⟨b, 0, none⟩ = some v0
 c1 : W.cell? ⟨b, 1, none⟩ = some v1
 c2 : W.cell? ⟨b, 2, none⟩ = some v2
 c3 : W.cell? ⟨b, 3, none⟩ = some v3
 c4 : W.cell? ⟨b, 4, none⟩ = some v4
 c5 : W.cell? ⟨b, 5, none⟩ = some v5
 c6 : W.cell? ⟨b, 6, none⟩ = some v6
 f0 : W.frozen? ⟨b, 0, none⟩ = false
 f1 : W.frozen? ⟨b, 1, none⟩ = false
 f2 : W.frozen? ⟨b, 2, none⟩ = false
 f3 : W.frozen? ⟨b, 3, none⟩ = false
 f4 : W.frozen? ⟨b, 4, none⟩ = false
 f5 : W.frozen? ⟨b, 5, none⟩ = false
 f6 : W.frozen? ⟨b, 6, none⟩ = false
theorem It7.of {w wz W : World} (h : Is7 wz W) (hw : Below w.heap.size w wz) (v0 v1 v2 v3 v4 v5 v6 : Value) : It7 w wz.heap.size (set7 W wz.heap.size v0 v1 v2 v3 v4 v5 v6) v0 v1 v2 v3 v4 v5 v6 := by
 have hbl := (h.set v0 v1 v2 v3 v4 v5 v6)
 obtain ⟨hb, hs, c0, c1, c2, c3, c4, c5, c6, f0, f1, f2, f3, f4, f5, f6⟩ := h
 have hsz : (set7 W wz.heap.size v0 v1 v2 v3 v4 v5 v6).heap.size = W.heap.size := by simp [set7, World.setCell]
 refine ⟨hw.trans (hbl.mono hw.size), hw.size, by omega, ?_, ?_, ?_, ?_, ?_, ?_, ?_, ?_, ?_, ?_, ?_, ?_, ?_, ?_⟩
 all_goals simp [set7, go_sem, c0, c1, c2, c3, c4, c5, c6, f0, f1, f2, f3, f4, f5, f6]
theorem It7.put {w W : World} {b : Nat} {v0 v1 v2 v3 v4 v5 v6 : Value} (h : It7 w b W v0 v1 v2 v3 v4 v5 v6) (u3 u4 : Value) : It7 w b ((W.setCell ⟨b, 3, none⟩ u3).setCell ⟨b, 4, none⟩ u4) v0 v1 v2 u3 u4 v5 v6 := by
 obtain ⟨hb, lo, hs, c0, c1, c2, c3, c4, c5, c6, f0, f1, f2, f3, f4, f5, f6⟩ := h
 refine ⟨(hb.setCell (p := ⟨b, 3, none⟩) lo u3).setCell (p := ⟨b, 4, none⟩) lo u4, lo, by simpa [World.setCell] using hs, ?_, ?_, ?_, ?_, ?_, ?_, ?_, ?_, ?_, ?_, ?_, ?_, ?_, ?_⟩
 all_goals simp [go_sem, c0, c1, c2, c3, c4, c5, c6, f0, f1, f2, f3, f4, f5, f6]
structure Cel7 (b : Nat) (W : World) (v0 v1 v2 v3 v4 v5 v6 : Value) : Prop where
 lt : b < W.heap.size
 c0 : W.cell? ⟨b, 0, none⟩ = some v0
 c1 : W.cell? ⟨b, 1, none⟩ = some v1
 c2 : W.cell? ⟨b, 2, none⟩ = some v2
 c3 : W.cell? ⟨b, 3, none⟩ = some v3
 c4 : W.cell? ⟨b, 4, none⟩ = some v4
 c5 : W.cell? ⟨b, 5, none⟩ = some v5
 c6 : W.cell? ⟨b, 6, none⟩ = some v6
theorem It7.cel {w W : World} {b : Nat} {v0 v1 v2 v3 v4 v5 v6 : Value} (h : It7 w b W v0 v1 v2 v3 v4 v5 v6) : Cel7 b W v0 v1 v2 v3 v4 v5 v6 := ⟨h.hi, h.c0, h.c1, h.c2, h.c3, h.c4, h.c5, h.c6⟩
theorem Cel7.kept {W W' : World} {b : Nat} {v0 v1 v2 v3 v4 v5 v6 : Value} (h : Cel7 b W v0 v1 v2 v3 v4 v5 v6) (hs : W.heap.size ≤ W'.heap.size) (hk : W'.heap[b]? = W.heap[b]?) : Cel7 b W' v0 v1 v2 v3 v4 v5 v6 := by
 have hc : ∀ i, W'.cell? ⟨b, i, none⟩ = W.cell? ⟨b, i, none⟩ := fun i => World.cell?_of_block (a := ⟨b, i, none⟩) hk
 exact ⟨Nat.lt_of_lt_of_le h.lt hs, (hc 0).trans h.c0, (hc 1).trans h.c1, (hc 2).trans h.c2, (hc 3).trans h.c3, (hc 4).trans h.c4, (hc 5).trans h.c5, (hc 6).trans h.c6⟩
theorem ItSt.raise {n bs bo bm : Nat} {t : List UInt8} {more : Bool} {m : Int} {G : Nat → Prop} {W : World} (h : ItSt n bs bo bm t more m G W) (m' : Int) : ItSt n bs bo bm t more m' G (W.setCell ⟨bm, 0, none⟩ (.int .i64 m')) := by
 obtain ⟨s, o, c, f, r, gs, go, gm, gr, ls, lo, lm, ns, no, lt, gl⟩ := h
 have hb : ∀ i, i ≠ bm → (W.setCell ⟨bm, 0, none⟩ (.int .i64 m')).heap[i]? = W.heap[i]? := fun i hi => Below.heap_setCell W ⟨bm, 0, none⟩ _ i hi
 have hz : (W.setCell ⟨bm, 0, none⟩ (.int .i64 m')).heap.size = W.heap.size := by simp [World.setCell]
 refine ⟨(World.cell?_of_block (a := ⟨bs, 0, none⟩) (hb bs ns)).trans s, (World.cell?_of_block (a := ⟨bo, 0, none⟩) (hb bo no)).trans o, ?_, ?_, r.keep fun i h1 h2 => hb i (by omega), gs, go, gm, gr, ls, lo, lm, ns, no, by omega, fun i hi => by have := gl i hi; omega⟩
 ·simp [go_sem, c]
 ·simp [go_sem, f]
set_option maxRecDepth 100000 in
set_option maxHeartbeats 4000000 in
theorem items_in (N : Nat) (hN : 1 ≤ N) (bs bo bm : Nat) (t : List UInt8) (ht : t.length ≤ 4000000000) (more : Bool) (m0 : Int) (hm0 : 0 ≤ m0) (hm1 : m0 ≤ 1099511627776) (hns : bs ≠ bm) (hno : bo ≠ bm) (brk : Nat × Itm → Option Nat)
  (hbrk : ∀ y, y ∈ (itemsL more (t.length + 1) t 0 m0).1 → brk y ≠ none → more = true ∧ y.2.sure = false) :
  GivesSeq Fence.wide N Tryd.prog 55 #[.pointer (some ⟨bs, 0, none⟩), .pointer (some ⟨bo, 0, none⟩), .pointer (some ⟨bm, 0, none⟩)] encI brk (itemsL more (t.length + 1) t 0 m0).1 ((itemsL more (t.length + 1) t 0 m0).2.map failC)
   (fun W => W.cell? ⟨bs, 0, none⟩ = some (.string (ba t)) ∧ W.cell? ⟨bo, 0, none⟩ = some (.bool more) ∧ W.cell? ⟨bm, 0, none⟩ = some (.int .i64 m0) ∧ W.frozen? ⟨bm, 0, none⟩ = false) LaidG (fun i => i = bs ∨ i = bo ∨ i = bm) := by
 intro l J W hC hJ0 hK hS hY
 generalize hxs : (itemsL more (t.length + 1) t 0 m0).1 = xs at hbrk hY ⊢
 generalize hst : (itemsL more (t.length + 1) t 0 m0).2 = st
 obtain ⟨c0, c1, c2, c3⟩ := hC
 have hbm := World.block_lt_of_cell? W _ c2
 have hbs := World.block_lt_of_cell? W _ c0
 have hbo := World.block_lt_of_cell? W _ c1
 simp only [] at hbm hbs hbo
 have HK := Aside0.mk hK
 have HS := Aside0.mk hS
 have HY := Aside0.mk hY
 have HB := Aside0.mk hbrk
 have HM := Aside0.mk (And.intro hm0 hm1)
 have hb0 : Below W.heap.size W ((wB W).alloc (.map (readE W.heap.size) 6)) := by
  unfold wB
  exact ((((((Below.refl _ _).alloc (Nat.le_refl _) _).alloc (by simp) _).alloc (by simp; omega) _).alloc (by simp; omega) _).alloc (by simp; omega) _).alloc (by simp; omega) _
 have hs0 : ((wB W).alloc (.map (readE W.heap.size) 6)).heap.size = W.heap.size + 6 := by have := wB_size W; simp only [World.size_alloc]; omega
 have HSTART : Aside0 (∃ G, ItSt W.heap.size bs bo bm t more m0 G ((wB W).alloc (.map (readE W.heap.size) 6)) ∧ J [] G ((wB W).alloc (.map (readE W.heap.size) 6)) ∧ ItRel t more m0 brk xs st 0 [] m0) := ⟨by
  refine ⟨fun i => (i = bs ∨ i = bo ∨ i = bm) ∨ (W.heap.size ≤ i ∧ i < W.heap.size + 6), ⟨(bcell hb0 hbs).trans c0, (bcell hb0 hbo).trans c1, (bcell hb0 hbm).trans c2, (bfrozen hb0 hbm).trans c3, Readers.of W, .inl (.inl rfl), .inl (.inr (.inl rfl)), .inl (.inr (.inr rfl)), fun i h1 h2 => .inr ⟨h1, h2⟩, hbs, hbo, hbm, hns, hno, by omega, ?_⟩, ?_, ?_⟩
  ·rintro i ((rfl | rfl | rfl) | h)
   all_goals omega
  ·exact hS _ _ _ _ _ hJ0 (.of_below _ hb0) fun i hi => hi.imp id fun h => ⟨h.1, by omega⟩
  ·exact ⟨by simpa using hxs, by simpa using hst, fun y hy => (by cases hy), hm0, by omega⟩⟩
 have HG0 := Aside0.mk (hK _ _ _ hJ0)
 generalize hx1 : (wB W).alloc (.map (readE W.heap.size) 6) = W1 at HSTART
 have HX1 := Aside0.mk hx1
 generalize hgn : W.heap.size = n0 at HSTART
 have HGN := Aside0.mk hgn
 clear hJ0 hK hS hY hbrk c0 c1 c2 c3 hbm hbs hbo hb0 hs0 hx1 hgn hm0 hm1 hxs hst hns hno
 have hsz := ba_size t
 have hu := Tryd.underlying70
 have hut := Tryd.underlying42
 have hF54 : Fence.wide.fn 54 := trivial
 have hF53 : Fence.wide.fn 53 := trivial
 refine callsIn_of_wp Tryd.func55 rfl trivial ?_ rfl
 simp only [Tryd.ntmps55, List.size_toArray, List.length_cons, List.length_nil, Nat.reduceAdd, Nat.reduceSub, Array.replicate_succ, Array.replicate_zero, List.push_toArray, List.append_toArray, List.nil_append, List.cons_append]
 refine wpIn_scope_straight ?_
 gi_wp2_with (gi_at_call 54; refine (callsIn_wide.2 (begins_calls _ HG0.out)).mono ?_; rintro e w1 ⟨rfl, rfl⟩; rw [HX1.out, HGN.out])
 refine wpIn_label ?_
 gi_wp2
 gi_loopw [6] (fun p wr => ∃ (a : Nat) (pre : List (Nat × Itm)) (m : Int) (G : Nat → Prop), p = .int .i64 a ∧ a ≤ t.length ∧ Aside0 (ItSt n0 bs bo bm t more m G wr) ∧ Aside0 (J pre G wr) ∧ Aside0 (ItRel t more m0 brk xs st a pre m))
  (fun p _ => t.length - (intOf p).toNat)
 case atStart => obtain ⟨G, h1, h2, h3⟩ := HSTART.out; exact ⟨0, [], m0, G, rfl, Nat.zero_le _, ⟨h1⟩, ⟨h2⟩, ⟨h3⟩⟩
 case round =>
  clear HSTART HX1 HGN HG0
  obtain ⟨a, pre, m, G, rfl, ha, hI, hJ, hR⟩ := hrel
  have c0 := hI.out.s
  by_cases hlt : a < t.length
  ·have hul : (t.drop a).length = t.length - a := List.length_drop ..
   have hdr : ∀ i, (t.drop a).drop i = t.drop (a + i) := fun i => by first | rw [List.drop_drop] | (rw [List.drop_drop]; congr 1; omega)
   obtain ⟨c, r, hcr⟩ : ∃ c r, t.drop a = c :: r := by
    cases hq : t.drop a with
    | nil => rw [hq] at hul; simp at hul; omega
    | cons c r => exact ⟨c, r, rfl⟩
   have hR2 := hR.out
   obtain ⟨k, hk⟩ : ∃ k, t.length + 1 - a = k + 1 := ⟨t.length - a, by omega⟩
   have hitems := items_cons more k c r a m
   rw [← hk] at hitems
   have hu0 : t.drop a ≠ [] := by rw [hcr]; simp
   rw [← hcr] at hitems
   have hsl := fun W => str_low t a (Nat.le_of_lt hlt) W
   generalize hU : t.drop a = u at hul hu0 hsl hitems hcr hdr
   have HC := Aside0.mk (fun W => class_calls u hu0 W)
   have n1 : decide (a < t.length) = true := decide_eq_true hlt
   have n2 : decide ((a : Int) < (t.length : Int)) = true := decide_eq_true (by omega)
   by_cases h6 : classL u = 6
   ·have HX : Aside0 (∀ W, ItSt n0 bs bo bm t more m G W → J pre G W → ItRel t more m0 brk xs st (a + 1) pre m) := ⟨fun W _ _ => by
     rw [if_pos h6] at hitems
     have e : t.drop (a + 1) = r := by rw [← hdr 1, hcr]; rfl
     have e2 : t.length + 1 - (a + 1) = k := by omega
     have h1 := hR2.xs
     have h2 := hR2.st
     rw [hU, hitems] at h1 h2
     refine ⟨?_, ?_, hR2.brk, hR2.lo, by have := hR2.hi; omega⟩
     ·rw [e, e2]; exact h1
     ·rw [e, e2]; exact h2⟩
    rw [h6] at HC
    have kw : IntKind.i64.wrap ((a : Int) + 1) = (a : Int) + 1 := IntWalk.i64_in _ (by omega)
    clear hitems hR2 hdr hcr hU hul hk
    gi_wp2_with (gi_at_call 53; refine (callsIn_wide.2 (HC.out _)).mono ?_; rintro e w1 ⟨rfl, hd1⟩; have HD1 := Aside0.mk hd1; clear hd1)
    have hI3 := hI.out.below HD1.out.below
    have hJ3 := HS.out _ _ _ _ _ hJ.out (Chg.of_below G HD1.out.below) fun i h => .inl h
    exact ⟨⟨a + 1, pre, m, G, by first | rfl | simp, hlt, ⟨hI3⟩, ⟨hJ3⟩, ⟨HX.out _ hI3 hJ3⟩⟩, by simp [intOf]; omega⟩
   ·rw [if_neg h6] at hitems
    generalize hcl : classL u = cl at HC h6 hitems
    have HCL := Aside0.mk hcl
    clear hcl
    have HSL := Aside0.mk hsl
    have HIT := Aside0.mk hitems
    have HDR := Aside0.mk hdr
    have HCR := Aside0.mk hcr
    have HU := Aside0.mk hU
    have HUL := Aside0.mk hul
    have HKK := Aside0.mk hk
    have HR2 := Aside0.mk hR2
    clear hitems hdr hcr hU hul hk hR2
    have m1 : decide (cl = 6) = false := decide_eq_false h6
    have m2 : (cl == 6) = false := beq_eq_false_iff_ne.2 h6
    gi_upto_region 6 with (gi_at_call 53; refine (callsIn_wide.2 (HC.out _)).mono ?_; rintro e w1 ⟨rfl, hd1⟩; have HD1 := Aside0.mk hd1; clear hd1)
    have hu6 : classL u ≠ 6 := by rw [HCL.out]; exact h6
    obtain ⟨g, cap, i0, hfind, eg, hread⟩ := read_calls u hu0 (by have := HUL.out; omega) hu6 n0
    rw [HCL.out] at hfind hread
    have hFg : Fence.wide.fn g := trivial
    have HL := Aside0.mk (fun (W' : World) (hW' : Readers n0 W') => look_up (mty := 104) Tryd.underlying104 Tryd.underlying101 hW'.hm cl i0 _ hfind)
    have HRD := Aside0.mk hread
    have hI1 := hI.out.below HD1.out.below
    have hJ1 := HS.out _ _ _ _ _ hJ.out (Chg.of_below G HD1.out.below) fun i h => .inl h
    generalize hxx : itemL cl u = x at HIT HRD
    have HXX := Aside0.mk hxx
    have HI1 := Aside0.mk hI1
    have HJ1 := Aside0.mk hJ1
    clear hu6 hfind hread hI1 hJ1 hxx c0 n1 n2 m1 m2 HC
    gi_cut [8] from 11 (fun p W => ∃ b, p = .pointer (some ⟨b, 0, none⟩) ∧ Aside0 (It7 w1 b W (.int .i64 x.kind) (.string (ba x.text)) (.int .i64 x.n) (.int .i64 0) (.int .i64 x.len) (.int .i64 x.e) (.bool x.sure)))
    case first =>
     rename_i J2 K2 hJ2 hK2
     refine wpIn_region_held 8 (S := fun W' => ItSt n0 bs bo bm t more m G W' ∧ LaidG W') (by kernel_rfl) ?_
     change wpAnyHIn _ _ _ _ _ _ _ _ _ _ _ w1.drew
     have hb1 : Below w1.heap.size w1 w1.drew := Drawn0.below ⟨⟨1, rfl⟩⟩
     have HS1 : (fun W' => ItSt n0 bs bo bm t more m G W' ∧ LaidG W') w1.drew := ⟨HI1.out.below hb1, HK.out _ _ _ (HS.out _ _ _ _ _ HJ1.out (Chg.of_below G hb1) fun i h => .inl h)⟩
     have hS1 := Aside0.mk HS1
     clear HS1
     refine wpAnyHIn_take (i := 0) (v := .map (some (n0 + 5))) (by kernel_rfl) (by kernel_rfl) rfl (by kernel_rfl) (by kernel_rfl) (by kernel_rfl) (fun _ _ _ h => h) (fun _ => by rfl) (.inl ⟨by rfl, fun w' hw' => by go_simp⟩) hS1.out ?_
     refine wpAnyHIn_take (i := 1) (v := .int .i64 cl) (by kernel_rfl) (by kernel_rfl) rfl (by kernel_rfl) (by kernel_rfl) (by kernel_rfl) (fun _ _ _ h => h) (fun _ => by rfl) (.inl ⟨by rfl, fun w' hw' => by go_simp⟩) hS1.out ?_
     refine wpAnyHIn_take (i := 2) (v := .func (.func g) #[] cap) (by kernel_rfl) (by kernel_rfl) rfl (by kernel_rfl) (by kernel_rfl) (by kernel_rfl) (fun _ _ _ h => h) (fun _ => by rfl) (.inl ⟨by rfl, fun w' hw' => by have hlo := HL.out w' hw'.1.r; go_simp⟩) hS1.out ?_
     refine wpAnyHIn_take (i := 3) (v := .string (ba t)) (by kernel_rfl) (by kernel_rfl) rfl (by kernel_rfl) (by kernel_rfl) (by kernel_rfl) (fun _ _ _ h => h) (fun _ => by rfl) (.inl ⟨by rfl, fun w' hw' => by have c0 := hw'.1.s; go_simp⟩) hS1.out ?_
     refine wpAnyHIn_take (i := 4) (v := .int .i64 a) (by kernel_rfl) (by kernel_rfl) rfl (by kernel_rfl) (by kernel_rfl) (by kernel_rfl) (fun _ _ _ h => h) (fun _ => by rfl) (.inl ⟨by rfl, fun w' hw' => by go_simp⟩) hS1.out ?_
     refine wpAnyHIn_take (i := 5) (v := .string (ba u)) (by kernel_rfl) (by kernel_rfl) rfl (by kernel_rfl) (by kernel_rfl) (by kernel_rfl) (fun _ _ _ h => h) (fun _ => by rfl) (.inl ⟨by rfl, fun w' hw' => by go_simp⟩) hS1.out ?_
     refine wpAnyHIn_all (rs := [6, 7]) (by kernel_rfl) (by simp) ?_
     intro i hi'
     have hi2 : i = 6 ∨ i = 7 := by simpa using hi'
     rcases hi2 with rfl | rfl
     ·refine wpOpIn_of rfl (by rfl) ?_
      go_simp
      refine (callsIn_wide.2 (HRD.out _ hS1.out.1.r hS1.out.2)).mono ?_
      rintro e w2 ⟨rfl, hb2⟩
      have HS2 : Aside0 (ItSt n0 bs bo bm t more m G w2 ∧ LaidG w2) := ⟨hS1.out.1.below hb2, hS1.out.2.keep _ hb2⟩
      have HB2 := Aside0.mk ((Drawn0.below (w := w1) ⟨⟨1, rfl⟩⟩ : Below w1.heap.size w1 w1.drew).trans hb2)
      refine ⟨HS2.out, ?_⟩
      refine wpAnyHIn_all (rs := [7]) (by kernel_rfl) (by simp) ?_
      intro i hi3
      obtain rfl : i = 7 := by simpa using hi3
      refine wpOpIn_of rfl (by rfl) ?_
      go_simp
      have h7 := Is7.start w2
      have hbw := wI_below w2
      show (ItSt n0 bs bo bm t more m G (wI w2) ∧ LaidG (wI w2)) ∧ wpAnyHIn _ _ _ _ _ _ _ _ _ _ _ (wI w2)
      generalize wI w2 = W2 at h7 hbw ⊢
      refine ⟨⟨HS2.out.1.below hbw, HS2.out.2.keep _ hbw⟩, ?_⟩
      have H7 := Aside0.mk h7
      obtain ⟨_, _, c0, c1, c2, c3, c4, c5, c6, f0, f1, f2, f3, f4, f5, f6⟩ := h7
      clear hbw
      refine wpAnyHIn_all (rs := [8]) (by kernel_rfl) (by simp) ?_
      intro i hi3
      obtain rfl : i = 8 := by simpa using hi3
      refine wpOpIn_of rfl (by rfl) ?_
      unfold itemV
      go_simp
      refine wpAnyHIn_done (by kernel_rfl) (hK2 _ _ (Met.intro (hJ2 _ _ ?_))) _
      repeat apply Exists.intro
      exact ⟨⟨_, rfl, ⟨It7.of H7.out HB2.out _ _ _ _ _ _ _⟩⟩, rfl⟩
     ·refine wpOpIn_of rfl (by rfl) ?_
      go_simp
      have h7 := Is7.start w1.drew
      have hbw := wI_below w1.drew
      show (ItSt n0 bs bo bm t more m G (wI w1.drew) ∧ LaidG (wI w1.drew)) ∧ wpAnyHIn _ _ _ _ _ _ _ _ _ _ _ (wI w1.drew)
      have hsd : w1.drew.heap.size = w1.heap.size := rfl
      have HSD := Aside0.mk hsd
      have HBD := Aside0.mk (Drawn0.below (w := w1) ⟨⟨1, rfl⟩⟩ : Below w1.heap.size w1 w1.drew)
      clear hsd
      generalize wI w1.drew = W2 at h7 hbw ⊢
      generalize w1.drew = wd at hS1 h7 hbw HSD HBD ⊢
      have HS2 : Aside0 (ItSt n0 bs bo bm t more m G W2 ∧ LaidG W2) := ⟨hS1.out.1.below hbw, hS1.out.2.keep _ hbw⟩
      refine ⟨HS2.out, ?_⟩
      refine wpAnyHIn_all (rs := [6]) (by kernel_rfl) (by simp) ?_
      intro i hi3
      obtain rfl : i = 6 := by simpa using hi3
      refine wpOpIn_of rfl (by rfl) ?_
      go_simp
      refine (callsIn_wide.2 (HRD.out _ HS2.out.1.r HS2.out.2)).mono ?_
      rintro e w2 ⟨rfl, hb2⟩
      refine ⟨⟨HS2.out.1.below hb2, HS2.out.2.keep _ hb2⟩, ?_⟩
      have h72 := h7.keep hb2
      have H7 := Aside0.mk h72
      obtain ⟨_, _, c0, c1, c2, c3, c4, c5, c6, f0, f1, f2, f3, f4, f5, f6⟩ := h72
      clear hbw h7 hb2
      rw [HSD.out] at c0 c1 c2 c3 c4 c5 c6 f0 f1 f2 f3 f4 f5 f6
      refine wpAnyHIn_all (rs := [8]) (by kernel_rfl) (by simp) ?_
      intro i hi3
      obtain rfl : i = 8 := by simpa using hi3
      refine wpOpIn_of rfl (by rfl) ?_
      unfold itemV
      go_simp
      refine wpAnyHIn_done (by kernel_rfl) (hK2 _ _ (Met.intro (hJ2 _ _ ?_))) _
      have h9 := It7.of H7.out HBD.out (.int .i64 x.kind) (.string (ba x.text)) (.int .i64 x.n) (.int .i64 0) (.int .i64 x.len) (.int .i64 x.e) (.bool x.sure)
      rw [HSD.out] at h9
      repeat apply Exists.intro
      exact ⟨⟨_, rfl, ⟨h9⟩⟩, rfl⟩
    case rest =>
     obtain ⟨b, rfl, h7⟩ := hcut
     have hxl : x.len ≤ u.length := by
      by_cases he : x.e = 0
      ·have := item_len u hu0 (by rw [HCL.out, HXX.out]; exact he) (by rw [HCL.out]; exact h6)
       rw [HCL.out, HXX.out] at this
       exact this.2
      ·have := item_bad cl u (by rw [HXX.out]; exact he)
       rw [HXX.out] at this
       omega
     have hxr : a + x.len ≤ t.length := by have := HUL.out; omega
     have kw : IntKind.i64.wrap ((a : Int) + (x.len : Int)) = ((a + x.len : Nat) : Int) := kwI (by omega) (by omega)
     obtain ⟨_, _, _, c0, c1, c2, c3, c4, c5, c6, f0, f1, f2, f3, f4, f5, f6⟩ := h7.out
     have m2 : (cl == 5) = decide (cl = 5) := by
      by_cases h : cl = 5
      ·rw [decide_eq_true h, h]; rfl
      ·rw [decide_eq_false h]; exact beq_eq_false_iff_ne.2 h
     gi_upto_region 8 with (fail)
     have h8 := Aside0.mk (h7.out.put (.int .i64 a) (.int .i64 ((a : Int) + (x.len : Int))))
     clear c0 c1 c2 c3 c4 c5 c6 f0 f1 f2 f3 f4 f5 f6 h7
     generalize ((wc.setCell ⟨b, 3, none⟩ (.int .i64 a)).setCell ⟨b, 4, none⟩ (.int .i64 ((a : Int) + (x.len : Int)))) = wd at h8 ⊢
     obtain ⟨b1, lo1, hi1, c0, c1, c2, c3, c4, c5, c6, f0, f1, f2, f3, f4, f5, f6⟩ := h8.out
     have HIC := Aside0.mk (HI1.out.below b1)
     have d0 := HIC.out.s
     have d1 := HIC.out.o
     have d2 := HIC.out.c
     have d3 := HIC.out.f
     have hbb : b ≠ bm := by have := HI1.out.lt; have := HI1.out.lm; omega
     clear b1 lo1 hi1
     have hsl2 := fun W => HSL.out W
     gi_cut [9] from 11 (fun p W => p = .bool (decide (cl = 5) || (more && decide (u = [40]))) ∧ W = wd)
     case first =>
      rename_i J2 K2 hJ2 hK2
      by_cases h5 : cl = 5
      ·subst h5
       gi_wp2
       refine Met.intro (hJ2 _ _ ?_)
       repeat apply Exists.intro
       exact ⟨⟨by simp, rfl⟩, rfl⟩
      ·have m3 : decide (cl = 5) = false := decide_eq_false h5
       have m4 : (cl == 5) = false := beq_eq_false_iff_ne.2 h5
       have HM3 := Aside0.mk m3
       cases hmo : more with
       | false =>
        rw [hmo] at d1
        gi_wp2
        refine Met.intro (hJ2 _ _ ?_)
        repeat apply Exists.intro
        exact ⟨⟨by rw [HM3.out, hmo]; rfl, rfl⟩, rfl⟩
       | true =>
        rw [hmo] at d1
        have HP := Aside0.mk (show ((ba u).toList == [40]) = decide (u = [40]) by
         rw [ba_toList]
         by_cases h : u = [40]
         ·rw [decide_eq_true h, h]; rfl
         ·rw [decide_eq_false h]; exact beq_eq_false_iff_ne.2 h)
        gi_wp2
        refine Met.intro (hJ2 _ _ ?_)
        repeat apply Exists.intro
        exact ⟨⟨by rw [HM3.out, HP.out, hmo]; rfl, rfl⟩, rfl⟩
     case rest =>
      obtain ⟨rfl, hwd⟩ := hcut
      subst hwd
      have HOV := Aside0.mk (show overB more u m = (!(decide (cl = 5) || (more && decide (u = [40]))) && decide (131072 ≤ m)) by unfold overB; rw [HCL.out])
      generalize (decide (cl = 5) || (more && decide (u = [40]))) = cm at HOV ⊢
      have hJ8 : J pre (fun i => G i ∨ i = b) wc := HS.out _ _ _ _ _ HJ1.out (Chg.of_below G h8.out.below) fun i hi => hi.imp id fun e => by rw [e]; exact ⟨h8.out.lo, h8.out.hi⟩
      have HJ8 := Aside0.mk hJ8
      have HI8 := Aside0.mk h8.out
      clear hJ8 m2 hsl2 h8
      gi_step
      gi_step
      gi_cut [] from 11 (fun W => W = wc ∧ Aside0 (¬ overB more u m = true ∧ ¬ (more = true ∧ x.sure = false) ∧ x.e = 0))
      case first =>
       rename_i J2 K2 hJ2 hK2
       gi_upto_region 9 with (fail)
       gi_cut [51] from 11 (fun p W => p = .bool (overB more u m) ∧ W = wc)
       case first =>
        rename_i J3 K3 hJ3 hK3
        cases cm with
        | true =>
         gi_wp2
         refine Met.intro (hJ3 _ _ ?_)
         repeat apply Exists.intro
         exact ⟨⟨by rw [HOV.out]; rfl, rfl⟩, rfl⟩
        | false =>
         gi_wp2
         refine Met.intro (hJ3 _ _ ?_)
         repeat apply Exists.intro
         exact ⟨⟨by rw [HOV.out]; first | rfl | simp, rfl⟩, rfl⟩
       case rest =>
        obtain ⟨rfl, hwd2⟩ := hcut
        subst hwd2
        have henc : encI (a, x) = .agg #[.int .i64 x.kind, .string (ba x.text), .int .i64 x.n, .int .i64 a, .int .i64 ((a : Int) + (x.len : Int)), .int .i64 x.e, .bool x.sure] := by
         unfold encI itemV
         rw [show (((a, x).1 + (a, x).2.len : Nat) : Int) = (a : Int) + (x.len : Int) from Int.natCast_add ..]
        by_cases hov : overB more u m = true
        ·have HE : Aside0 (seqEnds (st.map failC) brk xs J (.panicked [{ v := failV 2 a, recovered := false }]) wc) := ⟨by
          obtain ⟨h1, h2, h3, _, _⟩ := HR2.out
          have hit := HIT.out
          rw [if_pos hov] at hit
          rw [HU.out, hit] at h1 h2
          subst h2
          rw [List.append_nil] at h1
          subst h1
          exact ⟨rfl, h3, _, HJ8.out⟩⟩
         rw [hov]
         clear hov henc
         gi_wp2
         exact ⟨rfl, HE.out⟩
        ·have hov2 : overB more u m = false := Bool.eq_false_iff.2 hov
         rw [hov2]
         have HOF := Aside0.mk hov
         clear hov hov2
         gi_upto_region 11 with (fail)
         gi_cut [61] from 11 (fun p W => p = .bool (more && !x.sure) ∧ W = wc)
         case first =>
          rename_i J4 K4 hJ4 hK4
          cases hmo : more with
          | true =>
           rw [hmo] at d1
           gi_wp2
           refine Met.intro (hJ4 _ _ ?_)
           repeat apply Exists.intro
           exact ⟨⟨by rw [hmo]; first | rfl | simp, rfl⟩, rfl⟩
          | false =>
           rw [hmo] at d1
           gi_wp2
           refine Met.intro (hJ4 _ _ ?_)
           repeat apply Exists.intro
           exact ⟨⟨by rw [hmo]; first | rfl | simp, rfl⟩, rfl⟩
         case rest =>
          obtain ⟨rfl, hwd2⟩ := hcut
          subst hwd2
          by_cases hun : more = true ∧ x.sure = false
          ·have hv : (more && !x.sure) = true := by rw [hun.1, hun.2]; rfl
           rw [hv]
           have hfin : pre ++ [(a, x)] = xs ∧ st = none := by
            obtain ⟨h1, h2, h3, _, _⟩ := HR2.out
            have hit := HIT.out
            rw [if_neg HOF.out, if_pos hun] at hit
            rw [HU.out, hit] at h1 h2
            exact ⟨h1, h2.symm⟩
           have hYY := HY.out pre (a, x) _ wc ⟨[], hfin.1⟩ HR2.out.brk HJ8.out
           rw [henc] at hYY
           obtain ⟨fn, tmps, assign, body, hy, hRR⟩ := hYY
           have HR := Aside0.mk hRR
           have HFIN := Aside0.mk hfin
           clear hun hv hfin hRR henc
           gi_wp2
           refine HR.out.mono ?_
           rintro e W3 ⟨rfl, hJ3, _⟩
           have HE : Aside0 (seqEnds (st.map failC) brk xs J (.returned (.tuple #[])) W3) := ⟨by
            obtain ⟨h1, h2⟩ := HFIN.out
            subst h2
            subst h1
            exact ⟨⟨_, rfl⟩, trivial, _, hJ3⟩⟩
           clear hJ3 hy
           gi_wp2
           exact bodyPost_ret (results_none rfl _ _ _) rfl HE.out
          ·have hv : (more && !x.sure) = false := by
            cases h1 : more <;> cases h2 : x.sure <;> first | rfl | exact absurd ⟨h1, h2⟩ hun
           rw [hv]
           have HUN := Aside0.mk hun
           by_cases he : x.e = 0
           ·have q1 : (x.e == 0) = true := by rw [he]; rfl
            have q2 : (x.e != 0) = false := by rw [he]; rfl
            have q3 : decide (x.e = 0) = true := decide_eq_true he
            have HE := Aside0.mk he
            clear hun hv henc he
            gi_wp2
            refine Met.intro (hJ2 _ _ ?_)
            repeat apply Exists.intro
            exact ⟨⟨rfl, ⟨HOF.out, HUN.out, HE.out⟩⟩, rfl⟩
           ·have q1 : (x.e == 0) = false := beq_eq_false_iff_ne.2 he
            have q2 : (x.e != 0) = true := bne_iff_ne.2 he
            have q3 : decide (x.e = 0) = false := decide_eq_false he
            have HE : Aside0 (seqEnds (st.map failC) brk xs J (.panicked [{ v := failV x.e a, recovered := false }]) wc) := ⟨by
             obtain ⟨h1, h2, h3, _, _⟩ := HR2.out
             have hit := HIT.out
             rw [if_neg HOF.out, if_neg hun, if_pos he] at hit
             rw [HU.out, hit] at h1 h2
             subst h2
             rw [List.append_nil] at h1
             subst h1
             exact ⟨rfl, h3, _, HJ8.out⟩⟩
            clear hun hv henc he
            gi_wp2
            exact ⟨rfl, HE.out⟩
      case rest =>
       obtain ⟨hwd2, hok⟩ := hcut
       subst hwd2
       gi_step
       gi_step
       have hist : ItSt n0 bs bo bm t more m (fun i => G i ∨ i = b) wc := by
        obtain ⟨s, o, c, f, r, gs, go, gm, gr, ls, lo, lm, ns, no, lt, gl⟩ := HIC.out
        exact ⟨s, o, c, f, r, .inl gs, .inl go, .inl gm, fun i h1 h2 => .inl (gr i h1 h2), ls, lo, lm, ns, no, lt, fun i hi => hi.elim (gl i) fun e => by rw [e]; exact HI8.out.hi⟩
       have HIST := Aside0.mk hist
       have HCEL := Aside0.mk HI8.out.cel
       have HMR := Aside0.mk (show 0 ≤ m ∧ m ≤ 1099511627776 + 4000000000 from ⟨HR2.out.lo, by have := HR2.out.hi; have := HM.out.2; omega⟩)
       clear hist
       gi_cut [] from 11 (fun W => Aside0 (ItSt n0 bs bo bm t more (if x.kind = 0 then m else m + 1) (fun i => G i ∨ i = b) W) ∧ Aside0 (J pre (fun i => G i ∨ i = b) W) ∧ Aside0 (Cel7 b W (.int .i64 x.kind) (.string (ba x.text)) (.int .i64 x.n) (.int .i64 a) (.int .i64 ((a : Int) + (x.len : Int))) (.int .i64 x.e) (.bool x.sure)))
       case first =>
        rename_i J2 K2 hJ2 hK2
        by_cases hkz : x.kind = 0
        ·have q1 : (x.kind == 0) = true := by rw [hkz]; rfl
         have q2 : (x.kind != 0) = false := by rw [hkz]; rfl
         have q3 : decide (x.kind = 0) = true := decide_eq_true hkz
         have HKZ := Aside0.mk hkz
         clear hkz
         gi_wp2
         refine Met.intro (hJ2 _ _ ?_)
         repeat apply Exists.intro
         exact ⟨⟨⟨by rw [if_pos HKZ.out]; exact HIST.out⟩, HJ8, HCEL⟩, rfl⟩
        ·have q1 : (x.kind == 0) = false := beq_eq_false_iff_ne.2 hkz
         have q2 : (x.kind != 0) = true := bne_iff_ne.2 hkz
         have q3 : decide (x.kind = 0) = false := decide_eq_false hkz
         have kw2 : IntKind.i64.wrap (m + 1) = m + 1 := IntWalk.i64_in _ (by have := HMR.out; omega)
         have HKZ := Aside0.mk hkz
         clear hkz
         gi_wp2
         refine Met.intro (hJ2 _ _ ?_)
         repeat apply Exists.intro
         refine ⟨⟨⟨by rw [if_neg HKZ.out]; exact HIST.out.raise _⟩, ⟨HS.out _ _ _ _ _ HJ8.out (Chg.setCell wc (p := ⟨bm, 0, none⟩) (.inl HIC.out.gm) _) fun i hi => .inl hi⟩, ⟨?_⟩⟩, rfl⟩
         exact HCEL.out.kept (by simp [World.setCell]) (Below.heap_setCell wc ⟨bm, 0, none⟩ _ b hbb)
       case rest =>
        obtain ⟨hI9, hJ9, hC9⟩ := hcut
        clear c0 c1 c2 c3 c4 c5 c6 f0 f1 f2 f3 f4 f5 f6 d0 d1 d2 d3 HIST HCEL HIC HI8 HJ8
        generalize hG2 : (fun i => G i ∨ i = b) = G2 at hI9 hJ9
        have HGB := Aside0.mk (show G2 b by rw [← hG2]; exact .inr rfl)
        clear hG2
        have c4 := hC9.out.c4
        obtain ⟨_, c0, c1, c2, c3, c4, c5, c6⟩ := hC9.out
        have hlen : 1 ≤ x.len := by
         have := item_len u hu0 (by rw [HCL.out, HXX.out]; exact hok.out.2.2) (by rw [HCL.out]; exact h6)
         rw [HCL.out, HXX.out] at this
         exact this.1
        have hstep : ∃ Y : List (Nat × Itm) × Option (Int × Nat), Y = itemsL more (t.length + 1 - (a + x.len)) (t.drop (a + x.len)) (a + x.len) (if x.kind = 0 then m else m + 1) ∧ pre ++ (a, x) :: Y.1 = xs ∧ Y.2 = st := by
         obtain ⟨h1, h2, h3, _, _⟩ := HR2.out
         have hit := HIT.out
         have hde : u.drop x.len = t.drop (a + x.len) := HDR.out x.len
         rw [if_neg hok.out.1, if_neg hok.out.2.1, if_neg (by rw [hok.out.2.2]; simp), hde, items_fuel more k (t.length + 1 - (a + x.len)) (t.drop (a + x.len)) (a + x.len) _ (by rw [List.length_drop]; have := HKK.out; omega) (by rw [List.length_drop]; omega)] at hit
         rw [HU.out, hit] at h1 h2
         exact ⟨_, rfl, h1, h2⟩
        obtain ⟨Y, hY1, hY2, hY3⟩ := hstep
        have hbx : brk (a, x) = none := by
         cases hb : brk (a, x) with
         | none => rfl
         | some id => exact absurd (HB.out (a, x) (by rw [← hY2]; simp) (by rw [hb]; simp)) hok.out.2.1
        have HREL : Aside0 (ItRel t more m0 brk xs st (a + x.len) (pre ++ [(a, x)]) (if x.kind = 0 then m else m + 1)) := ⟨by
         refine ⟨?_, ?_, ?_, ?_, ?_⟩
         ·rw [← hY1, List.append_assoc]; exact hY2
         ·rw [← hY1]; exact hY3
         ·intro y hy
          rcases List.mem_append.1 hy with h | h
          ·exact HR2.out.brk y h
          ·obtain rfl : y = (a, x) := by simpa using h
           exact hbx
         ·have := HR2.out.lo; split <;> omega
         ·have := HR2.out.hi; split <;> omega⟩
        have henc : encI (a, x) = .agg #[.int .i64 x.kind, .string (ba x.text), .int .i64 x.n, .int .i64 a, .int .i64 ((a : Int) + (x.len : Int)), .int .i64 x.e, .bool x.sure] := by
         unfold encI itemV
         rw [show (((a, x).1 + (a, x).2.len : Nat) : Int) = (a : Int) + (x.len : Int) from Int.natCast_add ..]
        have hYY := HY.out pre (a, x) _ wc ⟨Y.1, hY2⟩ HR2.out.brk hJ9.out
        rw [henc, hbx] at hYY
        obtain ⟨fn, tmps, assign, body, hy, hRR⟩ := hYY
        have HR := Aside0.mk hRR
        have HLEN := Aside0.mk hlen
        clear hY1 hY2 hY3 hbx henc hRR hlen
        gi_wp2
        refine HR.out.mono ?_
        rintro e W3 ⟨rfl, hJ3, hk3⟩
        have hI3 := Aside0.mk (hI9.out.kept hk3)
        have hC3 := hC9.out.kept hk3.size (hk3.block b HGB.out)
        have HJ3 := Aside0.mk hJ3
        have hHC := Aside0.mk hC3
        clear c0 c1 c2 c3 c4 c5 c6 hJ3 hk3 hy hC3
        obtain ⟨_, c0, c1, c2, c3, c4, c5, c6⟩ := hHC.out
        gi_wp2
        have HXR := Aside0.mk hxr
        refine ⟨⟨a + x.len, pre ++ [(a, x)], _, _, ?_, HXR.out, hI3, HJ3, HREL⟩, ?_⟩
        ·exact congrArg (Value.int IntKind.i64) (Int.natCast_add ..).symm
        ·have := HLEN.out
         simp [intOf]
         omega
  ·have n1 : decide (a < t.length) = false := decide_eq_false hlt
   have n2 : decide ((a : Int) < (t.length : Int)) = false := decide_eq_false (by omega)
   have HE : Aside0 (seqEnds (st.map failC) brk xs J (.returned (.tuple #[])) wr) := ⟨by
    obtain ⟨h1, h2, h3, _, _⟩ := hR.out
    have e : a = t.length := by omega
    subst e
    rw [List.drop_length, show t.length + 1 - t.length = 1 by omega] at h1 h2
    have e1 : itemsL more 1 [] t.length m = ([], none) := rfl
    rw [e1] at h1 h2
    subst h2
    rw [List.append_nil] at h1
    subst h1
    exact ⟨⟨_, rfl⟩, trivial, G, hJ.out⟩⟩
   gi_wp2
   exact bodyPost_end (results_none rfl _ _ _) rfl HE.out
end Go.Proofs.YtniihjhlkpjnoaaDoor.Given