/- Package lex: the contract of Finish. -/
import Derived.Test.YtniihjhlkpjnoaaDoorLm
import Derived.Test.YtniihjhlkpjnoaaDoorJ10
set_option linter.unusedVariables false
set_option linter.unusedSimpArgs false
namespace Go.Proofs.YtniihjhlkpjnoaaDoor.Given
open Go.RowKit Go.Shelf Go.Proofs.YtniihjhlkpjnoaaDoor.PT Go.Proofs.YtniihjhlkpjnoaaDoorW.PrintWords Go.Proofs.YtniihjhlkpjnoaaDoorW.PrintLast Go.Proofs.YtniihjhlkpjnoaaDoorW.PrintMore
attribute [local go_sem] Oper.semAt_some
def FinOut (d : Int) (r : List UInt8) (m : Int) (w : World) : Ending → World → Prop := fun e w' =>
 ∃ v, e = .returned (.tuple #[v, .int .i64 (finR d r m).2.1, .int .i64 (finR d r m).2.2]) ∧ w'.ownsRow w.heap.size 42 5 v (finR d r m).1.length ((finR d r m).1.flatMap (tokCs d.toNat)) ∧ Below w.heap.size w w'
def wF (d : Int) (r : List UInt8) (m : Int) (w : World) : World := (((w.alloc (.cells #[.int .i64 d, .string (ba r), .int .i64 m] 29)).alloc (.cells #[.slice none 0 0] 24)).alloc (.cells #[.int .i64 0] 25)).alloc (.cells #[.int .i64 0] 3)
def fixF (d : Int) (r : List UInt8) (m : Int) (w : World) : List (Nat × Obj) := [(w.heap.size, .cells #[.int .i64 d, .string (ba r), .int .i64 m] 29 (0, 0)), (w.heap.size + 1 + 1, .cells #[.int .i64 0] 25 (0, 0)), (w.heap.size + 1 + 1 + 1, .cells #[.int .i64 0] 3 (0, 0))]
theorem wF_size (d : Int) (r : List UInt8) (m : Int) (w : World) : (wF d r m w).heap.size = w.heap.size + 4 := by simp [wF]
theorem wF_below (d : Int) (r : List UInt8) (m : Int) (w : World) : Below w.heap.size w (wF d r m w) := ((((Below.refl _ _).alloc (Nat.le_refl _) _).alloc (by simp) _).alloc (by simp; omega) _).alloc (by simp; omega) _
theorem wF_blocks (d : Int) (r : List UInt8) (m : Int) (w : World) : (wF d r m w).heap[w.heap.size]? = some (.cells #[.int .i64 d, .string (ba r), .int .i64 m] 29 (0, 0)) ∧ Boxed (wF d r m w) (w.heap.size + 1) 24 (.slice none 0 0) ∧ Boxed (wF d r m w) (w.heap.size + 1 + 1) 25 (.int .i64 0) ∧ Boxed (wF d r m w) (w.heap.size + 1 + 1 + 1) 3 (.int .i64 0) := by
 refine ⟨?_, ?_, ?_, ?_⟩
 ·exact (Below.heap_alloc _ _ _ (by simp; omega)).trans ((Below.heap_alloc _ _ _ (by simp; omega)).trans ((Below.heap_alloc _ _ _ (by simp)).trans (World.alloc_heap_new w _)))
 ·have := Boxed.new (w.alloc (.cells #[.int .i64 d, .string (ba r), .int .i64 m] 29)) 24 (.slice none 0 0)
  simp only [World.size_alloc] at this
  exact (this.alloc _).alloc _
 ·have := Boxed.new ((w.alloc (.cells #[.int .i64 d, .string (ba r), .int .i64 m] 29)).alloc (.cells #[.slice none 0 0] 24)) 25 (.int .i64 0)
  simp only [World.size_alloc] at this
  exact this.alloc _
 ·have := Boxed.new (((w.alloc (.cells #[.int .i64 d, .string (ba r), .int .i64 m] 29)).alloc (.cells #[.slice none 0 0] 24)).alloc (.cells #[.int .i64 0] 25)) 3 (.int .i64 0)
  simp only [World.size_alloc] at this
  exact this
theorem scan_cells {W : World} {b : Nat} {d : Int} {r : List UInt8} {m : Int} (h : W.heap[b]? = some (.cells #[.int .i64 d, .string (ba r), .int .i64 m] 29 (0, 0))) :
  W.cell? ⟨b, 0, none⟩ = some (.int .i64 d) ∧ W.cell? ⟨b, 1, none⟩ = some (.string (ba r)) ∧ W.cell? ⟨b, 2, none⟩ = some (.int .i64 m) := by
 refine ⟨?_, ?_, ?_⟩ <;> simp [World.cell?, h]
set_option maxRecDepth 100000 in
set_option maxHeartbeats 2000000 in
theorem fin_leaves (d : Int) (r : List UInt8) (m : Int) (hd : 0 ≤ d ∧ d ≤ 1048576) (hr : r.length ≤ 1048576 ∨ 1048576 < d + r.length) (hrl : r.length ≤ 4611686018427387904) (w W1 : World) (p : Int × Nat) (hpe : p.1 ≠ 0) (hp2 : p.2 ≤ 4611686018427387904) (hlr : finR d r m = ([], p.1, if d + r.length ≤ 1048576 then (p.2 : Int) + d else p.2)) (v : Value)
  (zs : W1.heap[w.heap.size]? = some (.cells #[.int .i64 d, .string (ba r), .int .i64 m] 29 (0, 0))) (z1 : Boxed W1 (w.heap.size + 1) 24 v) (z2 : Boxed W1 (w.heap.size + 1 + 1) 25 (.int .i64 0)) (z3 : Boxed W1 (w.heap.size + 1 + 1 + 1) 3 (.int .i64 0)) (zb : Below w.heap.size w W1) (a0 a1 a5 a6 a7 a8 a9 a10 a11 a12 a13 a14 a15 a16 a17 a18 a19 a20 a21 a22 a23 a24 a25 a26 a27 a28 a29 a30 a31 a32 a33 a34 a35 a36 a37 : Value) :
  LeavesInM Fence.wide 6 Tryd.prog Tryd.f14 #[a0, a1, .pointer (some ⟨w.heap.size + 1, 0, none⟩), .pointer (some ⟨w.heap.size + 1 + 1, 0, none⟩), .pointer (some ⟨w.heap.size + 1 + 1 + 1, 0, none⟩), a5, a6, a7, a8, a9, a10, a11, a12, a13, a14, a15, a16, a17, a18, a19, a20, a21, a22, a23, a24, a25, a26, a27, a28, a29, a30, a31, a32, a33, a34, a35, a36, a37] (FinOut d r m w)
   [{ target := .fn (.func 28) #[], args := #[.pointer (some ⟨w.heap.size + 1 + 1, 0, none⟩), .pointer (some ⟨w.heap.size + 1 + 1 + 1, 0, none⟩)] }, { target := .fn (.func 32) #[.pointer (some ⟨w.heap.size + 1 + 1, 0, none⟩), .pointer (some ⟨w.heap.size + 1, 0, none⟩), .pointer (some ⟨w.heap.size, 0, none⟩), .pointer (some ⟨w.heap.size + 1 + 1 + 1, 0, none⟩)], args := #[] }] (.panicking (failC p)) W1 := by
 refine leaves_caught (by decide) p z2 z3 (by omega) ?_
 intro W2 y2 y3 hc
 have ys := hc.obj zs (by omega)
 have y1 := hc.boxed z1 (by omega)
 have yb : Below w.heap.size w W2 := zb.trans (hc.below (zb.size) (by rintro i (h | h) <;> omega))
 obtain ⟨s0, s1, s2⟩ := scan_cells ys
 refine leaves_fn (by decide) (by simp) (f := 32) (cap := #[.pointer (some ⟨w.heap.size + 1 + 1, 0, none⟩), .pointer (some ⟨w.heap.size + 1, 0, none⟩), .pointer (some ⟨w.heap.size, 0, none⟩), .pointer (some ⟨w.heap.size + 1 + 1 + 1, 0, none⟩)]) (S := fun A B => B = if d + r.length ≤ 1048576 then (A.setCell ⟨w.heap.size + 1, 0, none⟩ (.slice none 0 0)).setCell ⟨w.heap.size + 1 + 1 + 1, 0, none⟩ (.int .i64 (p.2 + d)) else A.setCell ⟨w.heap.size + 1, 0, none⟩ (.slice none 0 0)) (enters_of Tryd.func32 (by kernel_rfl) rfl _ _)
  (fin1_err 5 _ _ _ _ .returning p.1 hpe v d r m p.2 hd ⟨by omega, by omega⟩ hrl W2 y2.cell y1.cell y1.frozen s0 s1 s2 y3.cell y3.frozen (by omega) (by omega)) ?_
 intro W5 hW5
 have key : Boxed W5 (w.heap.size + 1) 24 (.slice none 0 0) ∧ Boxed W5 (w.heap.size + 1 + 1) 25 (.int .i64 p.1) ∧ Boxed W5 (w.heap.size + 1 + 1 + 1) 3 (.int .i64 (if d + r.length ≤ 1048576 then (p.2 : Int) + d else p.2)) ∧ Below w.heap.size w W5 := by
  rw [hW5]
  split
  ·exact ⟨(y1.set _).other (by omega) _, (y2.other (by omega) _).other (by omega) _, (y3.other (by omega) _).set _, (yb.setCell (p := ⟨w.heap.size + 1, 0, none⟩) (by simp) _).setCell (p := ⟨w.heap.size + 1 + 1 + 1, 0, none⟩) (by simp; omega) _⟩
  ·exact ⟨y1.set _, y2.other (by omega) _, y3.other (by omega) _, yb.setCell (p := ⟨w.heap.size + 1, 0, none⟩) (by simp) _⟩
 clear hW5
 obtain ⟨x1, x2, x3, xb⟩ := key
 have d1 := x1.cell
 have d2 := x2.cell
 have d3 := x3.cell
 generalize (if d + r.length ≤ 1048576 then (p.2 : Int) + d else p.2) = at' at hlr d3
 simp [LeavesInM, LeavesIn, settle, results, Tryd.results14, go_sem, d1, d2, d3]
 exact ⟨_, by rw [hlr], by rw [hlr]; exact World.ownsRow_nil _ _ _ _, xb⟩
set_option maxRecDepth 100000 in
set_option maxHeartbeats 2000000 in
theorem fin_no (d : Int) (r : List UInt8) (m : Int) (hfb : fedB d r m = false) (w : World) (hG : LaidG w) : CallsIn Fence.wide 6 Tryd.prog 14 #[scanV d r m] w (FinOut d r m w) := by
 have hFf : Fence.wide.fn 31 := trivial
 have h16 : 1 ≤ 6 := by decide
 have hus := Tryd.underlying29
 have hlr : finR d r m = ([], 1, 0) := by unfold finR; rw [if_pos hfb]
 have HLR := Aside0.mk hlr
 have HF := Aside0.mk (fed_in 5 (by decide) d r m (wF d r m w) (hG.keep _ (wF_below d r m w)))
 rw [hfb] at HF
 obtain ⟨bs, b1, b2, b3⟩ := wF_blocks d r m w
 obtain ⟨s0, s1, s2⟩ := scan_cells bs
 have HSZ := Aside0.mk (wF_size d r m w)
 have HB := Aside0.mk (wF_below d r m w)
 have B1 := Aside0.mk b1
 have B2 := Aside0.mk b2
 have B3 := Aside0.mk b3
 clear hG hlr hfb b1 b2 b3 bs
 unfold wF at s0 s1 s2
 refine callsIn_of_wp_marks Tryd.func14 rfl trivial ?_ rfl
 simp only [scanV, Tryd.ntmps14, List.size_toArray, List.length_cons, List.length_nil, Nat.reduceAdd, Nat.reduceSub, Array.replicate_succ, Array.replicate_zero, List.push_toArray, List.append_toArray, List.nil_append, List.cons_append]
 gi_upto_region 2 with (gi_at_call 31; refine HF.out.mono ?_; rintro e w1 ⟨rfl, hd1⟩; have HD1 := Aside0.mk hd1; clear hd1)
 have hb1 := HD1.out
 rw [HSZ.out] at hb1
 have x1 : Boxed w1 (w.heap.size + 1) _ _ := (hb1.block _ (by omega)).trans B1.out
 have x2 : Boxed w1 (w.heap.size + 1 + 1) _ _ := (hb1.block _ (by omega)).trans B2.out
 have x3 : Boxed w1 (w.heap.size + 1 + 1 + 1) _ _ := (hb1.block _ (by omega)).trans B3.out
 have HB1 := Aside0.mk (HB.out.trans (hb1.mono (by omega)))
 have c1 := x1.cell
 have c2 := x2.cell
 have c3 := x3.cell
 have f1 := x1.frozen
 have f2 := x2.frozen
 have f3 := x3.frozen
 have X1 := Aside0.mk x1
 have X2 := Aside0.mk x2
 have X3 := Aside0.mk x3
 clear hb1 x1 x2 x3 s0 s1 s2
 gi_wp2
 show LeavesInM _ _ _ _ _ _ _ _ _
 have z1 := Boxed.other (W := w1.setCell ⟨w.heap.size + 1, 0, none⟩ (.slice none 0 0)) (X1.out.set (.slice none 0 0)) (by omega : w.heap.size + 1 ≠ w.heap.size + 1 + 1) (.int .i64 1)
 have y1 := (z1.other (by omega : w.heap.size + 1 ≠ w.heap.size + 1 + 1 + 1) (.int .i64 0)).cell
 have y2 := (((X2.out.other (by omega : w.heap.size + 1 + 1 ≠ w.heap.size + 1) (.slice none 0 0)).set (.int .i64 1)).other (by omega : w.heap.size + 1 + 1 ≠ w.heap.size + 1 + 1 + 1) (.int .i64 0)).cell
 have y3 := (((X3.out.other (by omega : w.heap.size + 1 + 1 + 1 ≠ w.heap.size + 1) (.slice none 0 0)).other (by omega : w.heap.size + 1 + 1 + 1 ≠ w.heap.size + 1 + 1) (.int .i64 1)).set (.int .i64 0)).cell
 have yb := ((HB1.out.setCell (p := ⟨w.heap.size + 1, 0, none⟩) (by simp) (.slice none 0 0)).setCell (p := ⟨w.heap.size + 1 + 1, 0, none⟩) (by simp; omega) (.int .i64 1)).setCell (p := ⟨w.heap.size + 1 + 1 + 1, 0, none⟩) (by simp; omega) (.int .i64 0)
 generalize ((w1.setCell ⟨w.heap.size + 1, 0, none⟩ (.slice none 0 0)).setCell ⟨w.heap.size + 1 + 1, 0, none⟩ (.int .i64 1)).setCell ⟨w.heap.size + 1 + 1 + 1, 0, none⟩ (.int .i64 0) = W5 at y1 y2 y3 yb ⊢
 simp [LeavesInM, LeavesIn, settle, results, Tryd.results14, go_sem, y1, y2, y3]
 exact ⟨_, by rw [HLR.out], by rw [HLR.out]; exact World.ownsRow_nil _ _ _ _, yb⟩
set_option maxRecDepth 100000 in
set_option maxHeartbeats 2000000 in
theorem fin_over (d : Int) (r : List UInt8) (m : Int) (hrl : r.length ≤ 4611686018427387904) (hfb : fedB d r m = true) (hov : 1048576 < d + r.length) (w : World) (hG : LaidG w) : CallsIn Fence.wide 6 Tryd.prog 14 #[scanV d r m] w (FinOut d r m w) := by
 have hFf : Fence.wide.fn 31 := trivial
 have h16 : 1 ≤ 6 := by decide
 have hus := Tryd.underlying29
 have hsz := ba_size r
 obtain ⟨g1, g2, g3, g4⟩ := fed_bounds hfb
 have hlr : finR d r m = ([], 2, 0) := by unfold finR; rw [hfb, if_neg (by decide), if_pos hov]
 have kw1 : IntKind.i64.wrap (d + (r.length : Int)) = d + (r.length : Int) := IntWalk.i64_in _ (by omega)
 have k1 : decide (1048576 < d + (r.length : Int)) = true := decide_eq_true hov
 have HLV := Aside0.mk (fun W1 => fin_leaves d r m ⟨g1, g2⟩ (.inr hov) hrl w W1 (2, 0) (by decide) (by decide) (by rw [hlr, if_neg (by omega)]; rfl))
 have HF := Aside0.mk (fed_in 5 (by decide) d r m (wF d r m w) (hG.keep _ (wF_below d r m w)))
 rw [hfb] at HF
 obtain ⟨bs, b1, b2, b3⟩ := wF_blocks d r m w
 obtain ⟨s0, s1, s2⟩ := scan_cells bs
 have HSZ := Aside0.mk (wF_size d r m w)
 have HB := Aside0.mk (wF_below d r m w)
 have BS := Aside0.mk bs
 have B1 := Aside0.mk b1
 have B2 := Aside0.mk b2
 have B3 := Aside0.mk b3
 have HGG := Aside0.mk hG
 clear hG hlr hfb b1 b2 b3 bs
 unfold wF at s0 s1 s2
 clear hov
 refine callsIn_of_wp_marks Tryd.func14 rfl trivial ?_ rfl
 simp only [scanV, Tryd.ntmps14, List.size_toArray, List.length_cons, List.length_nil, Nat.reduceAdd, Nat.reduceSub, Array.replicate_succ, Array.replicate_zero, List.push_toArray, List.append_toArray, List.nil_append, List.cons_append]
 gi_upto_region 3 with (gi_at_call 31; refine HF.out.mono ?_; rintro e w1 ⟨rfl, hd1⟩; have HD1 := Aside0.mk hd1; clear hd1)
 have hb1 := HD1.out
 rw [HSZ.out] at hb1
 have X1 := Aside0.mk (show Boxed w1 (w.heap.size + 1) _ _ from (hb1.block _ (by omega)).trans B1.out)
 have X2 := Aside0.mk (show Boxed w1 (w.heap.size + 1 + 1) _ _ from (hb1.block _ (by omega)).trans B2.out)
 have X3 := Aside0.mk (show Boxed w1 (w.heap.size + 1 + 1 + 1) _ _ from (hb1.block _ (by omega)).trans B3.out)
 have xs := (hb1.block w.heap.size (by omega)).trans BS.out
 have XS := Aside0.mk xs
 have HB1 := Aside0.mk (HB.out.trans (hb1.mono (by omega)))
 have HS1 : Aside0 (w.heap.size + 4 ≤ w1.heap.size) := ⟨by have := hb1.size; rw [HSZ.out] at this; exact this⟩
 clear s0 s1 s2
 obtain ⟨s0, s1, s2⟩ := scan_cells xs
 clear hb1 xs
 gi_wp2
 exact HLV.out w1 _ XS.out X1.out X2.out X3.out HB1.out _ _ _ _ _ _ _ _ _ _ _ _ _ _ _ _ _ _ _ _ _ _ _ _ _ _ _ _ _ _ _ _ _ _ _
set_option maxRecDepth 100000 in
set_option maxHeartbeats 0 in
theorem fin_run (dn : Nat) (r : List UInt8) (m : Int) (hfb : fedB dn r m = true) (hov : ¬ 1048576 < (dn : Int) + r.length) (w : World) (hG : LaidG w) : CallsIn Fence.wide 6 Tryd.prog 14 #[scanV dn r m] w (FinOut dn r m w) := by
 obtain ⟨i0, hi, hz0, hz1, hz2⟩ : ∃ i, Tryd.prog.info? 42 = some i ∧ i.zero = some (.agg #[.int .i64 0, .string ⟨#[]⟩, .int .i64 0, .int .i64 0, .int .i64 0]) ∧ i.size = 5 ∧ i.bytes = 48 := by
  obtain ⟨i, hi, he⟩ := Option.map_eq_some_iff.1 infoT
  simp only [Prod.mk.injEq] at he
  exact ⟨i, hi, he⟩
 have hFi : Fence.wide.fn 33 := trivial
 have hFm : Fence.wide.fn 34 := trivial
 have hu := Tryd.underlying70
 have hut := Tryd.underlying42
 have hFf : Fence.wide.fn 31 := trivial
 have h16 : 1 ≤ 6 := by decide
 have hus := Tryd.underlying29
 have hsz := ba_size r
 obtain ⟨g1, g2, g3, g4⟩ := fed_bounds hfb
 have hrl : r.length ≤ 1048576 := by omega
 have kw1 : IntKind.i64.wrap ((dn : Int) + (r.length : Int)) = (dn : Int) + (r.length : Int) := IntWalk.i64_in _ (by omega)
 have k1 : decide (1048576 < (dn : Int) + (r.length : Int)) = false := decide_eq_false hov
 have hle := items_le false (r.length + 1) r 0 m
 have herr := items_err false (r.length + 1) r 0 m
 have hpos := items_mem false (r.length + 1) r 0 m
 have hseq0 := fun (n0 : Nat) => items_in 5 (by decide) n0 (n0 + 2) (n0 + 1) r (by omega) false m g3 (by omega) (by omega) (by omega) (fun _ => none) (fun y hy h => absurd rfl h)
 have hlr : finR (dn : Int) r m = (match (itemsL false (r.length + 1) r 0 m).2 with | none => (toksL (itemsL false (r.length + 1) r 0 m).1, 0, 0) | some p => ([], p.1, p.2 + (dn : Int))) := by
  unfold finR
  rw [hfb, if_neg (by decide), if_neg hov]
  rfl
 have hLV := fun (p : Int × Nat) (h1 : p.1 ≠ 0) (h2 : p.2 ≤ 4611686018427387904) (h3 : finR (dn : Int) r m = ([], p.1, p.2 + (dn : Int))) (W1 : World) => fin_leaves (dn : Int) r m ⟨g1, g2⟩ (.inl hrl) (by omega) w W1 p h1 h2 (by rw [h3, if_pos (by omega)])
 have hpl := items_at false (r.length + 1) r 0 m
 generalize hxs : (itemsL false (r.length + 1) r 0 m).1 = xs at hseq0 hle hpos hlr
 generalize hst : (itemsL false (r.length + 1) r 0 m).2 = st at hseq0 herr hlr hpl
 clear hxs hst
 have HLR := Aside0.mk hlr
 have HLE := Aside0.mk hle
 have HER := Aside0.mk herr
 have HPO := Aside0.mk hpos
 have HPL := Aside0.mk hpl
 have HSQ := Aside0.mk hseq0
 have HLV := Aside0.mk hLV
 have HRL := Aside0.mk hrl
 clear hle herr hpos hseq0 hLV hpl
 have HF := Aside0.mk (fed_in 5 (by decide) (dn : Int) r m (wF (dn : Int) r m w) (hG.keep _ (wF_below (dn : Int) r m w)))
 rw [hfb] at HF
 obtain ⟨bs, b1, b2, b3⟩ := wF_blocks (dn : Int) r m w
 obtain ⟨s0, s1, s2⟩ := scan_cells bs
 have HSZ := Aside0.mk (wF_size (dn : Int) r m w)
 have HB := Aside0.mk (wF_below (dn : Int) r m w)
 have BS := Aside0.mk bs
 have B1 := Aside0.mk b1
 have B2 := Aside0.mk b2
 have B3 := Aside0.mk b3
 have HGG := Aside0.mk hG
 clear hG hlr hfb b1 b2 b3 bs
 unfold wF at s0 s1 s2
 have HG2 := Aside0.mk (And.intro g1 (And.intro g2 (And.intro g3 g4)))
 clear hov g1 g2 g3 g4 hrl
 refine callsIn_of_wp_marks Tryd.func14 rfl trivial ?_ rfl
 simp only [scanV, Tryd.ntmps14, List.size_toArray, List.length_cons, List.length_nil, Nat.reduceAdd, Nat.reduceSub, Array.replicate_succ, Array.replicate_zero, List.push_toArray, List.append_toArray, List.nil_append, List.cons_append]
 gi_upto_region 3 with (gi_at_call 31; refine HF.out.mono ?_; rintro e w1 ⟨rfl, hd1⟩; have HD1 := Aside0.mk hd1; clear hd1)
 have hb1 := HD1.out
 rw [HSZ.out] at hb1
 have X1 := Aside0.mk (show Boxed w1 (w.heap.size + 1) _ _ from (hb1.block _ (by omega)).trans B1.out)
 have X2 := Aside0.mk (show Boxed w1 (w.heap.size + 1 + 1) _ _ from (hb1.block _ (by omega)).trans B2.out)
 have X3 := Aside0.mk (show Boxed w1 (w.heap.size + 1 + 1 + 1) _ _ from (hb1.block _ (by omega)).trans B3.out)
 have xs := (hb1.block w.heap.size (by omega)).trans BS.out
 have XS := Aside0.mk xs
 have HB1 := Aside0.mk (HB.out.trans (hb1.mono (by omega)))
 have HS1 : Aside0 (w.heap.size + 4 ≤ w1.heap.size) := ⟨by have := hb1.size; rw [HSZ.out] at this; exact this⟩
 clear s0 s1 s2
 obtain ⟨s0, s1, s2⟩ := scan_cells xs
 clear hb1 xs
 gi_wp2_with (gi_at_call 33; refine (callsIn_wide.2 (items_calls r m false _)).mono ?_; rintro e w2 ⟨rfl, rfl⟩)
 change Code.wpIn _ _ _ _ _ _ (wBox r m false w1)
 have hseq := HSQ.out w1.heap.size
 have HTH := Aside0.mk (fun (W : World) (hb : Below (w1.heap.size + 3) (wBox r m false w1) W) => wBox_there r m false w1 hb)
 have HSB := Aside0.mk (wBox_size r m false w1)
 have HA : Aside0 (RowA w (w1.heap.size + 3) (w.heap.size + 4) (w.heap.size + 1) (fixF dn r m w)) := ⟨⟨by omega, by omega, by have := HS1.out; omega, by intro p hp; unfold fixF at hp; simp only [List.mem_cons, List.not_mem_nil, or_false] at hp; rcases hp with rfl | rfl | rfl <;> (dsimp only; omega)⟩⟩
 have HST : Aside0 (RowI w (w1.heap.size + 3) (w.heap.size + 4) (w.heap.size + 1) 24 42 5 (fixF dn r m w) (toksL []).length ((toksL []).flatMap (tokCs dn)) (fun i => i = w1.heap.size ∨ i = w1.heap.size + 2 ∨ i = w1.heap.size + 1) (wBox r m false w1)) := by
  have hb := wBox_below r m false w1
  have hs1 := HS1.out
  refine ⟨⟨HB1.out.trans (hb.mono HB1.out.size), by rw [HSB.out]; omega, ?_, ⟨.slice none 0 0, (hb.block _ (by omega)).trans X1.out, World.ownsRow_nil _ _ _ _, fun g e => by cases e⟩, fun i hi => by omega, fun i hi => by rw [HSB.out]; omega⟩⟩
  intro p hp
  unfold fixF at hp
  simp only [List.mem_cons, List.not_mem_nil, or_false] at hp
  rcases hp with rfl | rfl | rfl
  ·exact (hb.block _ (by dsimp only; omega)).trans XS.out
  ·exact (hb.block _ (by dsimp only; omega)).trans X2.out
  ·exact (hb.block _ (by dsimp only; omega)).trans X3.out
 clear s0 s1 s2
 refine range_seq rfl h16 (gf := 55) (lb := #[.pointer (some ⟨w1.heap.size, 0, none⟩), .pointer (some ⟨w1.heap.size + 2, 0, none⟩), .pointer (some ⟨w1.heap.size + 1, 0, none⟩)]) rfl trivial (enters_of Tryd.func55 (by kernel_rfl) rfl) hseq rfl
  (fun pre G W => RowI w (w1.heap.size + 3) (w.heap.size + 4) (w.heap.size + 1) 24 42 5 (fixF dn r m w) (toksL pre).length ((toksL pre).flatMap (tokCs dn)) G W)
  (fun W hb => by rw [HSB.out] at hb; exact HTH.out W hb) (fun i hi => by rw [HSB.out]; omega) (by exact HST.out) (fun pre G W h => HGG.out.keep W h.below) (fun pre G G' W1 W2 h hc hg => h.step HA.out hc hg)
  (fun x W => { tmps := #[.agg #[.int .i64 (dn : Int), .string (ba r), .int .i64 m], .pointer (some ⟨w.heap.size, 0, none⟩), .pointer (some ⟨w.heap.size + 1, 0, none⟩), .pointer (some ⟨w.heap.size + 1 + 1, 0, none⟩), .pointer (some ⟨w.heap.size + 1 + 1 + 1, 0, none⟩), .pointer (some ⟨W.heap.size, 0, none⟩), .agg #[.int .i64 (dn : Int), .string (ba r), .int .i64 m], .bool true, .bool false, .func (.func 32) #[] #[.pointer (some ⟨w.heap.size + 1 + 1, 0, none⟩), .pointer (some ⟨w.heap.size + 1, 0, none⟩), .pointer (some ⟨w.heap.size, 0, none⟩), .pointer (some ⟨w.heap.size + 1 + 1 + 1, 0, none⟩)], .pointer (some ⟨w.heap.size, 0, none⟩), .int .i64 (dn : Int), .pointer (some ⟨w.heap.size, 1, none⟩), .string (ba r), .int .i64 (r.length : Int), .int .i64 ((dn : Int) + (r.length : Int)), .bool false, undef, undef, .pointer (some ⟨w.heap.size, 1, none⟩), .string (ba r), .pointer (some ⟨w.heap.size, 2, none⟩), .int .i64 m, itemF w1.heap.size, encI x, undef, undef, undef, undef, undef, undef, undef, undef, undef, undef, undef, undef, undef], defers := [] })
  (fun x W => W.alloc (.cells #[.int .i64 x.2.kind, .string (ba x.2.text), .int .i64 x.2.n, .int .i64 x.1, .int .i64 ((x.1 + x.2.len : Nat) : Int), .int .i64 x.2.e, .bool x.2.sure] 70)) (fun x W => (Below.refl _ _).alloc (Nat.le_refl _) _) ?assign ?body ?done ?stop
 case assign =>
  intro l x W K hK
  unfold encI itemV at hK ⊢
  gi_wp2
  exact hK
 case body =>
  rintro l pre x G W W' ⟨tl, hx⟩ hpre hW hl hwl hI
  have hxb : ∀ i, W'.cell? ⟨W.heap.size, i, none⟩ = (W.alloc (.cells #[.int .i64 x.2.kind, .string (ba x.2.text), .int .i64 x.2.n, .int .i64 x.1, .int .i64 ((x.1 + x.2.len : Nat) : Int), .int .i64 x.2.e, .bool x.2.sure] 70)).cell? ⟨W.heap.size, i, none⟩ := fun i => World.cell?_of_block (a := ⟨W.heap.size, i, none⟩) (hW _ (by show W.heap.size ≠ l; omega))
  have c0 := (hxb 0).trans (by simp [go_sem] : _ = some (.int .i64 x.2.kind))
  have c1 := (hxb 1).trans (by simp [go_sem] : _ = some (.string (ba x.2.text)))
  have c2 := (hxb 2).trans (by simp [go_sem] : _ = some (.int .i64 x.2.n))
  have c3 := (hxb 3).trans (by simp [go_sem] : _ = some (.int .i64 x.1))
  have c4 := (hxb 4).trans (by simp [go_sem] : _ = some (.int .i64 ((x.1 : Int) + (x.2.len : Int))))
  have hpl : (toksL pre).length ≤ 1048577 := by
   have h1 := toks_le pre
   have h2 := HLE.out
   have h3 : pre.length ≤ xs.length := by rw [← hx]; simp
   have h4 := HRL.out
   omega
  have hxp := HPO.out x (by rw [← hx]; simp)
  have hsn := toks_snoc pre x
  by_cases hkz : x.2.kind = 0
  ·have HR : Aside0 (RowI w (w1.heap.size + 3) (w.heap.size + 4) (w.heap.size + 1) 24 42 5 (fixF dn r m w) (toksL (pre ++ [x])).length ((toksL (pre ++ [x])).flatMap (tokCs dn)) G W') := ⟨by rw [hsn, if_pos hkz]; exact hI⟩
   have q1 : (x.2.kind == 0) = true := by rw [hkz]; rfl
   have q2 : (x.2.kind != 0) = false := by rw [hkz]; rfl
   have q3 : decide (x.2.kind = 0) = true := decide_eq_true hkz
   clear hxb hsn hkz hx hW hI hxp
   gi_wp2
   exact ⟨rfl, Kept.refl _ _, HR.out⟩
  ·rw [if_neg hkz] at hsn
   have q1 : (x.2.kind == 0) = false := beq_eq_false_iff_ne.2 hkz
   have q2 : (x.2.kind != 0) = true := bne_iff_ne.2 hkz
   have q3 : decide (x.2.kind = 0) = false := decide_eq_false hkz
   have HSN := Aside0.mk hsn
   have HI := Aside0.mk hI
   have HX := Aside0.mk hxp
   obtain ⟨v, hv, hr, hng⟩ := hI.row
   obtain ⟨s0, s1, s2⟩ := scan_cells (hI.same (w.heap.size, _) (by unfold fixF; exact List.mem_cons_self))
   have hxl : W.heap.size < W'.heap.size := by
    have h1 := hW W.heap.size (by omega)
    have h2 := World.block_lt_of_cell? W' _ c0
    exact h2
   have HXL := Aside0.mk hxl
   have HXO := Aside0.mk ((hW W.heap.size (by omega)).trans (World.alloc_heap_new W _))
   have HV := Aside0.mk hv
   have HRR := Aside0.mk hr
   clear hxb hsn hkz hx hW hI hr hxp hxl
   have HTC := Aside0.mk (show tokCs dn x = [.int .i64 x.2.kind, .string (ba x.2.text), .int .i64 x.2.n, .int .i64 ((x.1 + dn : Nat) : Int), .int .i64 ((x.1 + x.2.len + dn : Nat) : Int)] from rfl)
   gi_wp2
   have hbd : Below W'.heap.size W' W'.drew := Drawn0.below ⟨⟨1, rfl⟩⟩
   refine wpIn_region_held 8 (S := fun W2 => W2.cell? ⟨w.heap.size + 1, 0, none⟩ = some v ∧ W2.cell? ⟨W.heap.size, 0, none⟩ = some (.int .i64 x.2.kind) ∧ W2.cell? ⟨W.heap.size, 1, none⟩ = some (.string (ba x.2.text)) ∧ W2.cell? ⟨W.heap.size, 2, none⟩ = some (.int .i64 x.2.n) ∧ W2.cell? ⟨W.heap.size, 3, none⟩ = some (.int .i64 x.1) ∧ W2.cell? ⟨W.heap.size, 4, none⟩ = some (.int .i64 ((x.1 : Int) + (x.2.len : Int))) ∧ W2.cell? ⟨w.heap.size, 0, none⟩ = some (.int .i64 dn)) (by kernel_rfl) ?_
   change wpAnyHIn _ _ _ _ _ _ _ _ _ _ _ W'.drew
   have HS7 : Aside0 ((fun W2 : World => W2.cell? ⟨w.heap.size + 1, 0, none⟩ = some v ∧ W2.cell? ⟨W.heap.size, 0, none⟩ = some (.int .i64 x.2.kind) ∧ W2.cell? ⟨W.heap.size, 1, none⟩ = some (.string (ba x.2.text)) ∧ W2.cell? ⟨W.heap.size, 2, none⟩ = some (.int .i64 x.2.n) ∧ W2.cell? ⟨W.heap.size, 3, none⟩ = some (.int .i64 x.1) ∧ W2.cell? ⟨W.heap.size, 4, none⟩ = some (.int .i64 ((x.1 : Int) + (x.2.len : Int))) ∧ W2.cell? ⟨w.heap.size, 0, none⟩ = some (.int .i64 dn)) W'.drew) := ⟨⟨hv.cell, c0, c1, c2, c3, c4, s0⟩⟩
   have HS0 : Aside0 ((fun W2 : World => W2.cell? ⟨w.heap.size + 1, 0, none⟩ = some v ∧ W2.cell? ⟨W.heap.size, 0, none⟩ = some (.int .i64 x.2.kind) ∧ W2.cell? ⟨W.heap.size, 1, none⟩ = some (.string (ba x.2.text)) ∧ W2.cell? ⟨W.heap.size, 2, none⟩ = some (.int .i64 x.2.n) ∧ W2.cell? ⟨W.heap.size, 3, none⟩ = some (.int .i64 x.1) ∧ W2.cell? ⟨W.heap.size, 4, none⟩ = some (.int .i64 ((x.1 : Int) + (x.2.len : Int))) ∧ W2.cell? ⟨w.heap.size, 0, none⟩ = some (.int .i64 dn)) W') := ⟨⟨hv.cell, c0, c1, c2, c3, c4, s0⟩⟩
   have HS8 : Aside0 (∀ {W2 W3 : World}, W'.heap.size ≤ W2.heap.size → Below W2.heap.size W2 W3 → ((fun W2 : World => W2.cell? ⟨w.heap.size + 1, 0, none⟩ = some v ∧ W2.cell? ⟨W.heap.size, 0, none⟩ = some (.int .i64 x.2.kind) ∧ W2.cell? ⟨W.heap.size, 1, none⟩ = some (.string (ba x.2.text)) ∧ W2.cell? ⟨W.heap.size, 2, none⟩ = some (.int .i64 x.2.n) ∧ W2.cell? ⟨W.heap.size, 3, none⟩ = some (.int .i64 x.1) ∧ W2.cell? ⟨W.heap.size, 4, none⟩ = some (.int .i64 ((x.1 : Int) + (x.2.len : Int))) ∧ W2.cell? ⟨w.heap.size, 0, none⟩ = some (.int .i64 dn)) W2) → ((fun W2 : World => W2.cell? ⟨w.heap.size + 1, 0, none⟩ = some v ∧ W2.cell? ⟨W.heap.size, 0, none⟩ = some (.int .i64 x.2.kind) ∧ W2.cell? ⟨W.heap.size, 1, none⟩ = some (.string (ba x.2.text)) ∧ W2.cell? ⟨W.heap.size, 2, none⟩ = some (.int .i64 x.2.n) ∧ W2.cell? ⟨W.heap.size, 3, none⟩ = some (.int .i64 x.1) ∧ W2.cell? ⟨W.heap.size, 4, none⟩ = some (.int .i64 ((x.1 : Int) + (x.2.len : Int))) ∧ W2.cell? ⟨w.heap.size, 0, none⟩ = some (.int .i64 dn)) W3)) := by
    have hx1 := HXL.out
    have hx2 := HI.out.size
    have hx3 := HS1.out
    exact ⟨fun hs hb h => ⟨(bcell hb (by omega)).trans h.1, (bcell hb (by omega)).trans h.2.1, (bcell hb (by omega)).trans h.2.2.1, (bcell hb (by omega)).trans h.2.2.2.1, (bcell hb (by omega)).trans h.2.2.2.2.1, (bcell hb (by omega)).trans h.2.2.2.2.2.1, (bcell hb (by omega)).trans h.2.2.2.2.2.2⟩⟩
   have HBD := Aside0.mk hbd
   clear hbd c0 c1 c2 c3 c4 s0 s1 s2 hv hng
   generalize W'.drew = W2 at HBD HS7 ⊢
   refine wpAnyHIn_take (i := 0) (v := v) (by kernel_rfl) (by kernel_rfl) rfl (by kernel_rfl) (by kernel_rfl) (by kernel_rfl) (fun _ _ _ h => h) (fun _ => by rfl) (.inl ⟨by kernel_rfl, fun w' hw' => by obtain ⟨e1, e2, e3, e4, e5, e6, e7⟩ := hw'; go_simp⟩) HS7.out ?_
   simp only [Act.put, List.setIfInBounds_toArray, List.set_cons_zero, List.set_cons_succ]
   refine wpAnyHIn_take (i := 1) (v := .pointer (some ⟨W.heap.size, 0, none⟩)) (by kernel_rfl) (by kernel_rfl) rfl (by kernel_rfl) (by kernel_rfl) (by kernel_rfl) (fun _ _ _ h => h) (fun _ => by rfl) (.inl ⟨by kernel_rfl, fun w' hw' => by obtain ⟨e1, e2, e3, e4, e5, e6, e7⟩ := hw'; go_simp⟩) HS7.out ?_
   simp only [Act.put, List.setIfInBounds_toArray, List.set_cons_zero, List.set_cons_succ]
   refine wpAnyHIn_take (i := 2) (v := .agg #[.int .i64 x.2.kind, .string (ba x.2.text), .int .i64 x.2.n, .int .i64 x.1, .int .i64 ((x.1 : Int) + (x.2.len : Int))]) (by kernel_rfl) (by kernel_rfl) rfl (by kernel_rfl) (by kernel_rfl) (by kernel_rfl) (fun _ _ _ h => h) (fun _ => by rfl) (.inl ⟨by kernel_rfl, fun w' hw' => by obtain ⟨e1, e2, e3, e4, e5, e6, e7⟩ := hw'; go_simp⟩) HS7.out ?_
   simp only [Act.put, List.setIfInBounds_toArray, List.set_cons_zero, List.set_cons_succ]
   refine wpAnyHIn_take (i := 3) (v := .pointer (some ⟨w.heap.size, 0, none⟩)) (by kernel_rfl) (by kernel_rfl) rfl (by kernel_rfl) (by kernel_rfl) (by kernel_rfl) (fun _ _ _ h => h) (fun _ => by rfl) (.inl ⟨by kernel_rfl, fun w' hw' => by obtain ⟨e1, e2, e3, e4, e5, e6, e7⟩ := hw'; go_simp⟩) HS7.out ?_
   simp only [Act.put, List.setIfInBounds_toArray, List.set_cons_zero, List.set_cons_succ]
   refine wpAnyHIn_take (i := 4) (v := .int .i64 (dn : Int)) (by kernel_rfl) (by kernel_rfl) rfl (by kernel_rfl) (by kernel_rfl) (by kernel_rfl) (fun _ _ _ h => h) (fun _ => by rfl) (.inl ⟨by kernel_rfl, fun w' hw' => by obtain ⟨e1, e2, e3, e4, e5, e6, e7⟩ := hw'; go_simp⟩) HS7.out ?_
   simp only [Act.put, List.setIfInBounds_toArray, List.set_cons_zero, List.set_cons_succ]
   refine wpAnyHIn_all (rs := [5]) (by kernel_rfl) (by simp) ?_
   intro i hi'
   obtain rfl : i = 5 := by simpa using hi'
   refine wpOpIn_of rfl (by kernel_rfl) ?_
   go_simp
   have HMV : Aside0 (x.1 + x.2.len + dn ≤ 4611686018427387904) := ⟨by have h1 := HX.out.2.2.1; have h2 := HRL.out; have h3 := HG2.out.2.1; omega⟩
   refine (callsIn_wide.2 (moved_calls x dn HMV.out W2)).mono ?_
   rintro e w5 ⟨rfl, hb5⟩
   have HS5 := Aside0.mk (HS8.out HBD.out.size hb5 HS7.out)
   have HB5 := Aside0.mk (HBD.out.trans (hb5.mono HBD.out.size))
   clear hb5
   refine ⟨HS5.out, ?_⟩
   try simp only [Act.put, List.setIfInBounds_toArray, List.set_cons_zero, List.set_cons_succ]
   refine wpAnyHIn_all (rs := [6]) (by kernel_rfl) (by simp) ?_
   intro i hi'
   obtain rfl : i = 6 := by simpa using hi'
   refine wpOpIn_of rfl (by kernel_rfl) ?_
   go_simp
   have hb6 : Below w5.heap.size w5 (w5.alloc (.cells #[.int .i64 x.2.kind, .string (ba x.2.text), .int .i64 x.2.n, .int .i64 ((x.1 + dn : Nat) : Int), .int .i64 ((x.1 + x.2.len + dn : Nat) : Int)] 42)) := (Below.refl _ _).alloc (Nat.le_refl _) _
   have HS6 := Aside0.mk (HS8.out HB5.out.size hb6 HS5.out)
   have HB6 := Aside0.mk (HB5.out.trans (hb6.mono HB5.out.size))
   clear hb6
   refine ⟨HS6.out, ?_⟩
   try simp only [Act.put, List.setIfInBounds_toArray, List.set_cons_zero, List.set_cons_succ]
   refine wpAnyHIn_all (rs := [7]) (by kernel_rfl) (by simp) ?_
   intro i hi'
   obtain rfl : i = 7 := by simpa using hi'
   refine wpOpIn_of rfl (by kernel_rfl) ?_
   have hown6 : (w5.alloc (.cells #[.int .i64 x.2.kind, .string (ba x.2.text), .int .i64 x.2.n, .int .i64 ((x.1 + dn : Nat) : Int), .int .i64 ((x.1 + x.2.len + dn : Nat) : Int)] 42)).ownsRow (w1.heap.size + 3) 42 5 v (toksL pre).length ((toksL pre).flatMap (tokCs dn)) := ownsRow_block HRR.out fun g e => HB6.out.block g (HRR.out.lt g e).2
   refine wpInop_append_at _ _ _ 24 rfl (w1.heap.size + 3) 42 i0 (.agg #[.int .i64 0, .string ⟨#[]⟩, .int .i64 0, .int .i64 0, .int .i64 0]) 5 48 Tryd.underlying24 hi hz0 hz1 hz2 rfl (by decide) _ _ _ rfl hown6 ⟨w5.heap.size, 0, none⟩ 1 1 [.int .i64 x.2.kind, .string (ba x.2.text), .int .i64 x.2.n, .int .i64 ((x.1 + dn : Nat) : Int), .int .i64 ((x.1 + x.2.len + dn : Nat) : Int)] rfl rfl ?c1 ?c2 ?c3 ?c4 ?c5 ?goon
   case c1 =>
    intro j u hj
    have hj5 : j < 5 := (List.getElem?_eq_some_iff.1 hj).1
    rcases (by omega : j = 0 ∨ j = 1 ∨ j = 2 ∨ j = 3 ∨ j = 4) with rfl | rfl | rfl | rfl | rfl <;> (cases hj; simp [go_sem, Addr.add])
   case c2 => simp [Value.oneCell']
   case c3 => unfold maxLen; omega
   case c4 => omega
   case c5 => have h1 := HI.out.size; have h2 := HB5.out.size; simp; omega
   case goon =>
    intro v' w6 hown' hgrow' hat
    obtain ⟨g', cap', hvv⟩ := ownsRow_succ hown'
    subst hvv
    have hpush := HI.out.push HA.out HV.out HRR.out HB6.out hown' hgrow' hat
    have hlt := fun i (e : v.ownBlock = some i) => HRR.out.lt i e
    have h1 := HI.out.size
    have h2 := HS1.out
    have hB6 := HB6.out
    have h3 := hB6.size
    have hkb : ∀ b, b < W'.heap.size → some b ≠ v.ownBlock → w6.heap[b]? = W'.heap[b]? := fun b hb hn => (hgrow'.block b (Nat.lt_of_lt_of_le hb h3) hn).trans (hB6.block b hb)
    have hv6 : Boxed w6 (w.heap.size + 1) 24 v := (hkb _ (by omega) (fun e => by have := (hlt _ e.symm).1; omega)).trans HV.out
    have nrx : some W.heap.size ≠ v.ownBlock := fun e => by
     rcases HRR.out.2 with ⟨h4, _⟩ | ⟨g, cap, cur, h4, _, hgb, _⟩
     ·rw [h4] at e
      cases e
     ·rw [h4] at e
      have hg : W.heap.size = g := Option.some.inj e
      rw [← hg] at hgb
      exact absurd (HXO.out.symm.trans hgb) (by simp)
    have hcl : ∀ b i, b < W'.heap.size → some b ≠ v.ownBlock → w6.cell? ⟨b, i, none⟩ = W'.cell? ⟨b, i, none⟩ := fun b i hb hn => World.cell?_of_block (a := ⟨b, i, none⟩) (hkb b hb hn)
    have HS9 : Aside0 ((fun W2 : World => W2.cell? ⟨w.heap.size + 1, 0, none⟩ = some v ∧ W2.cell? ⟨W.heap.size, 0, none⟩ = some (.int .i64 x.2.kind) ∧ W2.cell? ⟨W.heap.size, 1, none⟩ = some (.string (ba x.2.text)) ∧ W2.cell? ⟨W.heap.size, 2, none⟩ = some (.int .i64 x.2.n) ∧ W2.cell? ⟨W.heap.size, 3, none⟩ = some (.int .i64 x.1) ∧ W2.cell? ⟨W.heap.size, 4, none⟩ = some (.int .i64 ((x.1 : Int) + (x.2.len : Int))) ∧ W2.cell? ⟨w.heap.size, 0, none⟩ = some (.int .i64 dn)) w6) := by
     have hx1 := HXL.out
     have h0 := HS0.out
     have ns : some w.heap.size ≠ v.ownBlock := fun e => by have := (hlt _ e.symm).1; omega
     exact ⟨⟨hv6.cell, (hcl _ _ hx1 nrx).trans h0.2.1, (hcl _ _ hx1 nrx).trans h0.2.2.1, (hcl _ _ hx1 nrx).trans h0.2.2.2.1, (hcl _ _ hx1 nrx).trans h0.2.2.2.2.1, (hcl _ _ hx1 nrx).trans h0.2.2.2.2.2.1, (hcl _ _ (by omega) ns).trans h0.2.2.2.2.2.2⟩⟩
    refine ⟨fun _ => HS9.out, ?_⟩
    have hc6 := hv6.cell
    have hf6 := hv6.frozen
    have HPU := Aside0.mk hpush
    clear hpush hown' hgrow' hat hlt h1 h2 h3 hB6 hkb hcl nrx hv6
    try simp only [Act.put, List.setIfInBounds_toArray, List.set_cons_zero, List.set_cons_succ]
    refine wpAnyHIn_all (rs := [8]) (by kernel_rfl) (by simp) ?_
    intro i hi'
    obtain rfl : i = 8 := by simpa using hi'
    refine wpOpIn_of rfl (by kernel_rfl) ?_
    go_simp
    refine wpAnyHIn_done (by kernel_rfl) ?_ _
    have hlen : (toksL (pre ++ [x])).length = (toksL pre).length + 1 := by rw [HSN.out]; simp
    have hflat : (toksL (pre ++ [x])).flatMap (tokCs dn) = (toksL pre).flatMap (tokCs dn) ++ [.int .i64 x.2.kind, .string (ba x.2.text), .int .i64 x.2.n, .int .i64 ((x.1 + dn : Nat) : Int), .int .i64 ((x.1 + x.2.len + dn : Nat) : Int)] := by rw [HSN.out, List.flatMap_append, List.flatMap_cons, List.flatMap_nil, List.append_nil, HTC.out]
    refine ⟨rfl, HPU.out.2, ?_⟩
    show RowI _ _ _ _ _ _ _ _ (toksL (pre ++ [x])).length ((toksL (pre ++ [x])).flatMap (tokCs dn)) _ _
    rw [hlen, hflat]
    exact HPU.out.1
 case done =>
  rintro D G W hstn hD hI hK
  have hp0 : pend (fun _ : Nat × Itm => (none : Option Nat)) xs = none := pend_none fun _ _ => rfl
  rw [hp0]
  have hK2 := Aside0.mk hK
  have HI := Aside0.mk hI
  obtain ⟨v, hv, hr, _⟩ := hI.row
  obtain ⟨A, cp, rfl⟩ := row_form hr
  have hx2 : Boxed W (w.heap.size + 1 + 1) 25 (.int .i64 0) := hI.same (w.heap.size + 1 + 1, _) (by unfold fixF; simp)
  have hx3 : Boxed W (w.heap.size + 1 + 1 + 1) 3 (.int .i64 0) := hI.same (w.heap.size + 1 + 1 + 1, _) (by unfold fixF; simp)
  have c0 := hv.cell
  have f0 := hv.frozen
  have c2 := hx2.cell
  have f2 := hx2.frozen
  have c3 := hx3.cell
  have f3 := hx3.frozen
  have HR := Aside0.mk hr
  have HV := Aside0.mk hv
  have H2 := Aside0.mk hx2
  have H3 := Aside0.mk hx3
  have hstn' : st = none := by cases st with | none => rfl | some p => cases hstn
  clear hK hI hv hr hx2 hx3
  show Exit.inBlock 0 _ Exit.normal _ _
  gi_wp2
  have hlr : finR dn r m = (toksL xs, 0, 0) := by rw [HLR.out, hstn']
  show LeavesInM _ _ _ _ _ _ _ _ _
  have h1 := HS1.out
  have h2 := HI.out.size
  rw [HSB.out] at hD
  have k1 : Chg (fun i => i = w.heap.size + 1 ∨ i = w.heap.size + 1 + 1 ∨ i = w.heap.size + 1 + 1 + 1) W (W.setCell ⟨w.heap.size + 1, 0, none⟩ (.slice A (toksL xs).length cp)) := Chg.setCell W (.inl rfl) _
  have k2 := k1.trans (Chg.setCell (G := fun i => i = w.heap.size + 1 ∨ i = w.heap.size + 1 + 1 ∨ i = w.heap.size + 1 + 1 + 1) _ (p := ⟨w.heap.size + 1 + 1, 0, none⟩) (.inr (.inl rfl)) (.int .i64 0)) fun i hi => .inl hi
  have k3 := k2.trans (Chg.setCell (G := fun i => i = w.heap.size + 1 ∨ i = w.heap.size + 1 + 1 ∨ i = w.heap.size + 1 + 1 + 1) _ (p := ⟨w.heap.size + 1 + 1 + 1, 0, none⟩) (.inr (.inr rfl)) (.int .i64 0)) fun i hi => .inl hi
  have z1 := ((HV.out.set (.slice A (toksL xs).length cp)).other (by omega : w.heap.size + 1 ≠ w.heap.size + 1 + 1) (.int .i64 0)).other (by omega : w.heap.size + 1 ≠ w.heap.size + 1 + 1 + 1) (.int .i64 0)
  have z2 := ((H2.out.other (by omega : w.heap.size + 1 + 1 ≠ w.heap.size + 1) (.slice A (toksL xs).length cp)).set (.int .i64 0)).other (by omega : w.heap.size + 1 + 1 ≠ w.heap.size + 1 + 1 + 1) (.int .i64 0)
  have z3 := ((H3.out.other (by omega : w.heap.size + 1 + 1 + 1 ≠ w.heap.size + 1) (.slice A (toksL xs).length cp)).other (by omega : w.heap.size + 1 + 1 + 1 ≠ w.heap.size + 1 + 1) (.int .i64 0)).set (.int .i64 0)
  generalize ((W.setCell ⟨w.heap.size + 1, 0, none⟩ (.slice A (toksL xs).length cp)).setCell ⟨w.heap.size + 1 + 1, 0, none⟩ (.int .i64 0)).setCell ⟨w.heap.size + 1 + 1 + 1, 0, none⟩ (.int .i64 0) = W3 at k3 z1 z2 z3 ⊢
  have zb : Below w.heap.size w W3 := HI.out.below.trans (k3.below HI.out.below.size (by omega))
  have zD := k3.obj hK2.out (by omega)
  have zr := k3.row HR.out fun g e => by have := (HR.out.lt g e).1; omega
  refine leaves_mark (by simp) zD ?_
  intro W4 hc4
  have y1 := hc4.boxed z1 (by omega)
  have y2 := hc4.boxed z2 (by omega)
  have y3 := hc4.boxed z3 (by omega)
  have yb : Below w.heap.size w W4 := zb.trans (hc4.below zb.size (by omega))
  have yr := hc4.row zr fun g e h => by
   obtain ⟨_, ⟨q, _⟩ | ⟨g', cap, cur, q, _, hgb, _⟩⟩ := zr
   ·rw [q] at e; cases e
   ·rw [q] at e
    have hg : g' = g := Option.some.inj e
    subst hg
    rw [h] at hgb
    exact absurd (zD.symm.trans hgb) (by simp)
  refine leaves_idle (by decide) _ _ ?_
  refine leaves_fn (by decide) (by simp) (f := 32) (cap := #[.pointer (some ⟨w.heap.size + 1 + 1, 0, none⟩), .pointer (some ⟨w.heap.size + 1, 0, none⟩), .pointer (some ⟨w.heap.size, 0, none⟩), .pointer (some ⟨w.heap.size + 1 + 1 + 1, 0, none⟩)]) (S := fun A B => B = A) (enters_of Tryd.func32 (by kernel_rfl) rfl _ _) (fin1_ok 5 _ _ _ _ .returning W4 y2.cell) ?_
  rintro W5 rfl
  have d1 := y1.cell
  have d2 := y2.cell
  have d3 := y3.cell
  simp [LeavesInM, LeavesIn, settle, results, Tryd.results14, go_sem, d1, d2, d3]
  exact ⟨_, by rw [hlr], by rw [hlr, Int.toNat_natCast]; exact row_base yr (by omega), yb⟩
 case stop =>
  rintro D G W ch hch hD hI hK
  obtain ⟨p, rfl, rfl⟩ : ∃ p, st = some p ∧ ch = failC p := by
   cases st with
   | none => cases hch
   | some p => cases hch; exact ⟨p, rfl, rfl⟩
  have hpe := HER.out p rfl
  have hpl := HPL.out p rfl
  have hrl := HRL.out
  have hlr : finR dn r m = ([], p.1, p.2 + (dn : Int)) := by rw [HLR.out]
  have h1 := HS1.out
  rw [HSB.out] at hD
  show LeavesInM _ _ _ _ _ _ _ _ _
  obtain ⟨v, hv, hr, _⟩ := hI.row
  refine leaves_mark (by simp) hK ?_
  intro W4 hc4
  have hs := hI.size
  exact HLV.out p hpe (by omega) hlr W4 v (hc4.obj (hI.same (w.heap.size, _) (by unfold fixF; simp)) (by omega)) (hc4.boxed hv (by omega)) (hc4.obj (hI.same (w.heap.size + 1 + 1, _) (by unfold fixF; simp)) (by omega)) (hc4.obj (hI.same (w.heap.size + 1 + 1 + 1, _) (by unfold fixF; simp)) (by omega)) (hI.below.trans (hc4.below hI.below.size (by omega))) _ _ _ _ _ _ _ _ _ _ _ _ _ _ _ _ _ _ _ _ _ _ _ _ _ _ _ _ _ _ _ _ _ _ _
theorem fin_calls (d : Int) (r : List UInt8) (m : Int) (hrl : r.length ≤ 4611686018427387904) (w : World) (hG : LaidG w) : Calls Tryd.prog 14 #[scanV d r m] w (FinOut d r m w) := by
 suffices h : CallsIn Fence.wide 6 Tryd.prog 14 #[scanV d r m] w (FinOut d r m w) from callsIn_wide.1 h
 by_cases hfb : fedB d r m = false
 ·exact fin_no d r m hfb w hG
 ·have hfb : fedB d r m = true := by simpa using hfb
  by_cases hov : 1048576 < d + r.length
  ·exact fin_over d r m hrl hfb hov w hG
  ·obtain ⟨dn, rfl⟩ : ∃ dn : Nat, d = dn := ⟨d.toNat, (Int.toNat_of_nonneg (fed_bounds hfb).1).symm⟩
   exact fin_run dn r m hfb hov w hG
end Go.Proofs.YtniihjhlkpjnoaaDoor.Given