-- Out of this text a program of mine (wip/slim.py) took what this claim does not use.
/- Package lex: the contract of Spans. -/
import Derived.Test.YtniihjhlkpjnoaaDoorJ10
set_option linter.unusedVariables false
set_option linter.unusedSimpArgs false
namespace Go.Proofs.YtniihjhlkpjnoaaDoor.Given
open Go.RowKit Go.Shelf Go.Proofs.YtniihjhlkpjnoaaDoor.PT Go.Proofs.YtniihjhlkpjnoaaDoorW.PrintWords Go.Proofs.YtniihjhlkpjnoaaDoorW.PrintLast Go.Proofs.YtniihjhlkpjnoaaDoorW.PrintMore
attribute [local go_sem] Oper.semAt_some run_store_fn
theorem infoSp : (Tryd.prog.info? 40).map (fun i => (i.zero, i.size, i.bytes)) = some (some (.agg #[.int .i64 0, .int .i64 0, .int .i64 0]), 3, 24) := by kernel_rfl
def spanCs (p : Int × Nat × Nat) : List Value := [.int .i64 p.1, .int .i64 (p.2.1 : Int), .int .i64 (p.2.2 : Int)]
theorem span_len (xs : List (Nat × Itm)) : ∀ s : List (Int × Nat × Nat) × Nat, (xs.foldl spanA s).1.length ≤ s.1.length + 2 * xs.length := by
 induction xs with
 | nil => exact fun s => Nat.le_refl _
 | cons x xs ih =>
  intro s
  have h := ih (spanA s x)
  have h2 : (spanA s x).1.length ≤ s.1.length + 2 := by
   unfold spanA gapS
   split <;> simp
  simp only [List.foldl_cons, List.length_cons]
  omega
set_option maxRecDepth 100000 in
set_option maxHeartbeats 0 in
theorem gap_in (N : Nat) {w : World} {n g0 lb : Nat} {fix : List (Nat × Obj)} {k : Nat} {cs : List Value} {G : Nat → Prop} {W : World} (h : RowI w n g0 lb 36 40 3 fix k cs G W) (ha : RowA w n g0 lb fix) {bf : Nat} {f' : Nat} (hfx : (bf, Obj.cells #[.int .i64 (f' : Int)] 3 (0, 0)) ∈ fix) (tt : Nat) (hk : k ≤ 16777216) {v : Value} (hv : Boxed W lb 36 v) (hr : W.ownsRow n 40 3 v k cs) :
  CallsIn Fence.wide N Tryd.prog 36 #[.int .i64 (tt : Int), .pointer (some ⟨bf, 0, none⟩), .pointer (some ⟨lb, 0, none⟩)] W fun e W' => e = .returned (.tuple #[]) ∧ (RowI w n g0 lb 36 40 3 fix (k + (gapS f' tt).length) (cs ++ (gapS f' tt).flatMap spanCs) G W' ∧ Kept G W W' ∧ ∀ i, i < W.heap.size → i ≠ lb → some i ≠ v.ownBlock → W'.heap[i]? = W.heap[i]?) := by
 obtain ⟨i0, hi, hz0, hz1, hz2⟩ : ∃ i, Tryd.prog.info? 40 = some i ∧ i.zero = some (.agg #[.int .i64 0, .int .i64 0, .int .i64 0]) ∧ i.size = 3 ∧ i.bytes = 24 := by
  obtain ⟨i, hi, he⟩ := Option.map_eq_some_iff.1 infoSp
  simp only [Prod.mk.injEq] at he
  exact ⟨i, hi, he⟩
 have hus := Tryd.underlying40
 have hf : Boxed W bf 3 (.int .i64 (f' : Int)) := h.same _ hfx
 have hfl := ha.fx _ hfx
 have cf := hf.cell
 have cl := hv.cell
 have fl := hv.frozen
 have HI := Aside0.mk h
 have HV := Aside0.mk hv
 have HRR := Aside0.mk hr
 have HS := Aside0.mk h.size
 by_cases hlt : f' < tt
 ·have hg : gapS f' tt = [(1, f', tt)] := by unfold gapS; rw [if_pos hlt]
  have HG := Aside0.mk hg
  have k1 : decide (f' < tt) = true := decide_eq_true hlt
  have k2 : decide ((f' : Int) < (tt : Int)) = true := decide_eq_true (by omega)
  clear hlt hg h hv hr hf hfx hfl
  refine callsIn_of_wp Tryd.func36 rfl trivial ?_ rfl
  simp only [Tryd.ntmps36, List.size_toArray, List.length_cons, List.length_nil, Nat.reduceAdd, Nat.reduceSub, Array.replicate_succ, Array.replicate_zero, List.push_toArray, List.append_toArray, List.nil_append, List.cons_append]
  gi_wp2_with (gi_at_builtin; refine wpListIn_append_at _ rfl _ _ 36 rfl n 40 i0 (.agg #[.int .i64 0, .int .i64 0, .int .i64 0]) 3 24 Tryd.underlying36 hi hz0 hz1 hz2 rfl (by decide) _ _ _ rfl (HRR.out.alloc _) ⟨W.heap.size, 0, none⟩ 1 1 [.int .i64 1, .int .i64 (f' : Int), .int .i64 (tt : Int)] rfl rfl ?c1 ?c2 ?c3 ?c4 ?c5 ?goon)
  case c1 =>
   intro j u hj
   have hj3 : j < 3 := (List.getElem?_eq_some_iff.1 hj).1
   rcases (by omega : j = 0 ∨ j = 1 ∨ j = 2) with rfl | rfl | rfl <;> (cases hj; simp [go_sem, Addr.add])
  case c2 => simp [Value.oneCell']
  case c3 => unfold maxLen; omega
  case c4 => omega
  case c5 => have := HS.out; simp; omega
  case goon =>
   intro v' w3 hown' hgrow' hat
   obtain ⟨g', cap', hvv⟩ := ownsRow_succ hown'
   subst hvv
   have hpush := HI.out.push ha HV.out HRR.out ((Below.refl _ _).alloc (Nat.le_refl _) _) hown' hgrow' (by simpa using hat)
   have hne : some lb ≠ v.ownBlock := fun e => by have := (HRR.out.lt _ e.symm).1; have := ha.lb2; have := ha.g0n; omega
   have hv3 := (HV.out.alloc (.cells #[.int .i64 1, .int .i64 (f' : Int), .int .i64 (tt : Int)] 40)).kept hgrow' hne
   have cl3 := hv3.cell
   have fl3 := hv3.frozen
   have HPU := Aside0.mk hpush
   have HOT : Aside0 (∀ i, i < W.heap.size → i ≠ lb → some i ≠ v.ownBlock → (w3.setCell ⟨lb, 0, none⟩ (.slice (some ⟨g', 0, none⟩) (k + 1) cap')).heap[i]? = W.heap[i]?) := ⟨fun i h1 h2 h3 => ((Below.heap_setCell w3 ⟨lb, 0, none⟩ _ i h2).trans (hgrow'.block i (by simp; omega) h3)).trans (Below.heap_alloc W _ i h1)⟩
   clear hpush hown' hgrow' hat hv3 hne
   gi_wp2
   refine bodyPost_end (results_none rfl _ _ _) rfl ⟨rfl, ?_⟩
   rw [HG.out]
   exact ⟨HPU.out.1, HPU.out.2, HOT.out⟩
 ·have hg : gapS f' tt = [] := by unfold gapS; rw [if_neg hlt]
  have HG := Aside0.mk hg
  have k1 : decide (f' < tt) = false := decide_eq_false hlt
  have k2 : decide ((f' : Int) < (tt : Int)) = false := decide_eq_false (by omega)
  clear hlt hg h hv hr hf hfx hfl
  refine callsIn_of_wp Tryd.func36 rfl trivial ?_ rfl
  simp only [Tryd.ntmps36, List.size_toArray, List.length_cons, List.length_nil, Nat.reduceAdd, Nat.reduceSub, Array.replicate_succ, Array.replicate_zero, List.push_toArray, List.append_toArray, List.nil_append, List.cons_append]
  gi_wp2
  refine bodyPost_end (results_none rfl _ _ _) rfl ⟨rfl, ?_⟩
  rw [HG.out]
  exact ⟨by simpa using HI.out, Kept.refl _ _, fun _ _ _ _ => rfl⟩
set_option maxRecDepth 100000 in
theorem sp1_ok (n be bl : Nat) (u : FrameMode) (w : World) (h1 : w.cell? ⟨be, 0, none⟩ = some (.int .i64 0)) :
  CallsDIn Fence.wide n Tryd.prog 35 #[.pointer (some ⟨be, 0, none⟩), .pointer (some ⟨bl, 0, none⟩)] u w fun e u' w' => u' = u ∧ (e = .returned (.tuple #[]) ∧ w' = w) := by
 refine callsDIn_of_wp Tryd.func35 rfl trivial ?_ rfl
 simp only [Tryd.ntmps35, List.size_toArray, List.length_cons, List.length_nil, Nat.reduceAdd, Nat.reduceSub, Array.replicate_succ, Array.replicate_zero, List.push_toArray, List.append_toArray, List.nil_append, List.cons_append]
 gi_wp2
 exact bodyPost_end (results_none rfl _ _ _) rfl ⟨rfl, rfl⟩
set_option maxRecDepth 100000 in
theorem sp1_err (n be bl : Nat) (u : FrameMode) (e0 : Int) (he : e0 ≠ 0) (v : Value) (w : World) (h1 : w.cell? ⟨be, 0, none⟩ = some (.int .i64 e0)) (h2 : w.cell? ⟨bl, 0, none⟩ = some v) (h3 : w.frozen? ⟨bl, 0, none⟩ = false) :
  CallsDIn Fence.wide n Tryd.prog 35 #[.pointer (some ⟨be, 0, none⟩), .pointer (some ⟨bl, 0, none⟩)] u w fun e u' w' => u' = u ∧ (e = .returned (.tuple #[]) ∧ w' = w.setCell ⟨bl, 0, none⟩ (.slice none 0 0)) := by
 have q1 : (e0 == 0) = false := beq_eq_false_iff_ne.2 he
 have q2 : (e0 != 0) = true := bne_iff_ne.2 he
 have q3 : decide (e0 = 0) = false := decide_eq_false he
 refine callsDIn_of_wp Tryd.func35 rfl trivial ?_ rfl
 simp only [Tryd.ntmps35, List.size_toArray, List.length_cons, List.length_nil, Nat.reduceAdd, Nat.reduceSub, Array.replicate_succ, Array.replicate_zero, List.push_toArray, List.append_toArray, List.nil_append, List.cons_append]
 gi_wp2
 exact bodyPost_end (results_none rfl _ _ _) rfl ⟨rfl, rfl⟩
def SpansOut (t : List UInt8) (w : World) : Ending → World → Prop := fun e w' =>
 ∃ v, e = .returned (.tuple #[v, .int .i64 (spansR t).2.1, .int .i64 (spansR t).2.2]) ∧ w'.ownsRow w.heap.size 40 3 v (spansR t).1.length ((spansR t).1.flatMap spanCs) ∧ Below w.heap.size w w'
def gapF (w : World) : Value := .func (.func 36) #[] #[.pointer (some ⟨w.heap.size + 1 + 1 + 1, 0, none⟩), .pointer (some ⟨w.heap.size, 0, none⟩)]
def wS (w : World) : World := ((((w.alloc (.cells #[.slice none 0 0] 36)).alloc (.cells #[.int .i64 0] 25)).alloc (.cells #[.int .i64 0] 3)).alloc (.cells #[.int .i64 0] 3)).alloc (.cells #[gapF w] 77)
def fixS (w : World) (f : Nat) : List (Nat × Obj) := [(w.heap.size + 1, .cells #[.int .i64 0] 25 (0, 0)), (w.heap.size + 1 + 1, .cells #[.int .i64 0] 3 (0, 0)), (w.heap.size + 1 + 1 + 1, .cells #[.int .i64 (f : Int)] 3 (0, 0)), (w.heap.size + 1 + 1 + 1 + 1, .cells #[gapF w] 77 (0, 0))]
theorem wS_size (w : World) : (wS w).heap.size = w.heap.size + 5 := by simp [wS]
theorem wS_below (w : World) : Below w.heap.size w (wS w) := (((((Below.refl _ _).alloc (Nat.le_refl _) _).alloc (by simp) _).alloc (by simp; omega) _).alloc (by simp; omega) _).alloc (by simp; omega) _
theorem wS_blocks (w : World) : Boxed (wS w) w.heap.size 36 (.slice none 0 0) ∧ Boxed (wS w) (w.heap.size + 1) 25 (.int .i64 0) ∧ Boxed (wS w) (w.heap.size + 1 + 1) 3 (.int .i64 0) ∧ Boxed (wS w) (w.heap.size + 1 + 1 + 1) 3 (.int .i64 0) ∧ Boxed (wS w) (w.heap.size + 1 + 1 + 1 + 1) 77 (gapF w) := by
 refine ⟨?_, ?_, ?_, ?_, ?_⟩
 ·exact ((((Boxed.new w 36 (.slice none 0 0)).alloc _).alloc _).alloc _).alloc _
 ·have := Boxed.new (w.alloc (.cells #[.slice none 0 0] 36)) 25 (.int .i64 0)
  simp only [World.size_alloc] at this
  exact ((this.alloc _).alloc _).alloc _
 ·have := Boxed.new ((w.alloc (.cells #[.slice none 0 0] 36)).alloc (.cells #[.int .i64 0] 25)) 3 (.int .i64 0)
  simp only [World.size_alloc] at this
  exact (this.alloc _).alloc _
 ·have := Boxed.new (((w.alloc (.cells #[.slice none 0 0] 36)).alloc (.cells #[.int .i64 0] 25)).alloc (.cells #[.int .i64 0] 3)) 3 (.int .i64 0)
  simp only [World.size_alloc] at this
  exact this.alloc _
 ·have := Boxed.new ((((w.alloc (.cells #[.slice none 0 0] 36)).alloc (.cells #[.int .i64 0] 25)).alloc (.cells #[.int .i64 0] 3)).alloc (.cells #[.int .i64 0] 3)) 77 (gapF w)
  simp only [World.size_alloc] at this
  exact this
set_option maxRecDepth 100000 in
set_option maxHeartbeats 0 in
theorem sp_leaves (t : List UInt8) (w W1 : World) (p : Int × Nat) (hpe : p.1 ≠ 0) (hlr : spansR t = ([], p.1, p.2)) (v : Value) (z0 : Boxed W1 w.heap.size 36 v) (z3 : Boxed W1 (w.heap.size + 1) 25 (.int .i64 0)) (z4 : Boxed W1 (w.heap.size + 1 + 1) 3 (.int .i64 0)) (zb : Below w.heap.size w W1) (a0 a1 a5 a6 a7 a8 a9 a10 a11 a12 a13 a14 a15 a16 a17 a18 a19 a20 a21 a22 a23 a24 a25 a26 a27 a28 a29 a30 a31 a32 a33 a34 a35 a36 a37 a38 a39 a40 a41 : Value) :
  LeavesInM Fence.wide 6 Tryd.prog Tryd.f15 #[a0, a1, .pointer (some ⟨w.heap.size, 0, none⟩), .pointer (some ⟨w.heap.size + 1, 0, none⟩), .pointer (some ⟨w.heap.size + 1 + 1, 0, none⟩), a5, a6, a7, a8, a9, a10, a11, a12, a13, a14, a15, a16, a17, a18, a19, a20, a21, a22, a23, a24, a25, a26, a27, a28, a29, a30, a31, a32, a33, a34, a35, a36, a37, a38, a39, a40, a41] (SpansOut t w)
   [{ target := .fn (.func 28) #[], args := #[.pointer (some ⟨w.heap.size + 1, 0, none⟩), .pointer (some ⟨w.heap.size + 1 + 1, 0, none⟩)] }, { target := .fn (.func 35) #[.pointer (some ⟨w.heap.size + 1, 0, none⟩), .pointer (some ⟨w.heap.size, 0, none⟩)], args := #[] }] (.panicking (failC p)) W1 := by
 refine leaves_caught (by decide) p z3 z4 (by omega) ?_
 intro W2 y3 y4 hc
 have y0 := hc.boxed z0 (by omega)
 have yb : Below w.heap.size w W2 := zb.trans (hc.below (zb.size) (by rintro i (h | h) <;> omega))
 refine leaves_fn (by decide) (by simp) (f := 35) (cap := #[.pointer (some ⟨w.heap.size + 1, 0, none⟩), .pointer (some ⟨w.heap.size, 0, none⟩)]) (S := fun A B => B = A.setCell ⟨w.heap.size, 0, none⟩ (.slice none 0 0)) (enters_of Tryd.func35 (by kernel_rfl) rfl _ _) (sp1_err 5 _ _ .returning p.1 hpe _ W2 y3.cell y0.cell y0.frozen) ?_
 rintro W5 rfl
 have x0 := (y0.set (.slice none 0 0)).cell
 have x3 := (y3.other (by omega : w.heap.size + 1 ≠ w.heap.size) (.slice none 0 0)).cell
 have x4 := (y4.other (by omega : w.heap.size + 1 + 1 ≠ w.heap.size) (.slice none 0 0)).cell
 have xb := yb.setCell (p := ⟨w.heap.size, 0, none⟩) (Nat.le_refl _) (.slice none 0 0)
 generalize W2.setCell ⟨w.heap.size, 0, none⟩ (.slice none 0 0) = W5 at x0 x3 x4 xb ⊢
 simp [LeavesInM, LeavesIn, settle, results, Tryd.results15, go_sem, x0, x3, x4]
 exact ⟨_, by rw [hlr], by rw [hlr]; exact World.ownsRow_nil _ _ _ _, xb⟩
set_option maxRecDepth 100000 in
set_option maxHeartbeats 0 in
theorem sp_over (t : List UInt8) (ht : ¬ t.length ≤ 1048576) (w : World) : CallsIn Fence.wide 6 Tryd.prog 15 #[.string (ba t)] w (SpansOut t w) := by
 have hFw : Fence.wide.fn 29 := trivial
 have h16 : 1 ≤ 6 := by decide
 have hlr : spansR t = ([], 2, 0) := by unfold spansR; rw [if_pos (by omega)]
 have HLR := Aside0.mk hlr
 have HW := Aside0.mk (whole_fails t ht (wS w))
 have HB := Aside0.mk (wS_below w)
 have HBL := Aside0.mk (wS_blocks w)
 clear hlr
 refine callsIn_of_wp_marks Tryd.func15 rfl trivial ?_ rfl
 simp only [Tryd.ntmps15, List.size_toArray, List.length_cons, List.length_nil, Nat.reduceAdd, Nat.reduceSub, Array.replicate_succ, Array.replicate_zero, List.push_toArray, List.append_toArray, List.nil_append, List.cons_append]
 gi_wp2_with (gi_at_call 29; refine (callsIn_wide.2 HW.out).mono ?_; rintro e w1 ⟨rfl, rfl⟩)
 exact sp_leaves t w (wS w) (2, 0) (by decide) HLR.out _ HBL.out.1 HBL.out.2.1 HBL.out.2.2.1 HB.out _ _ _ _ _ _ _ _ _ _ _ _ _ _ _ _ _ _ _ _ _ _ _ _ _ _ _ _ _ _ _ _ _ _ _ _ _ _ _
set_option maxRecDepth 100000 in
set_option maxHeartbeats 0 in
theorem sp_run (t : List UInt8) (ht : t.length ≤ 1048576) (w : World) (hG : LaidG w) : CallsIn Fence.wide 6 Tryd.prog 15 #[.string (ba t)] w (SpansOut t w) := by
 obtain ⟨i0, hi, hz0, hz1, hz2⟩ : ∃ i, Tryd.prog.info? 40 = some i ∧ i.zero = some (.agg #[.int .i64 0, .int .i64 0, .int .i64 0]) ∧ i.size = 3 ∧ i.bytes = 24 := by
  obtain ⟨i, hi, he⟩ := Option.map_eq_some_iff.1 infoSp
  simp only [Prod.mk.injEq] at he
  exact ⟨i, hi, he⟩
 have hFw : Fence.wide.fn 29 := trivial
 have hFg : Fence.wide.fn 36 := trivial
 have h16 : 1 ≤ 6 := by decide
 have hsz := ba_size t
 have hu := Tryd.underlying70
 have hus := Tryd.underlying40
 have hle := items_le false (t.length + 1) t 0 0
 have herr := items_err false (t.length + 1) t 0 0
 have hpos := items_mem false (t.length + 1) t 0 0
 have hseq := items_in 5 (by decide) (wS w).heap.size ((wS w).heap.size + 2) ((wS w).heap.size + 1) t (by omega) false 0 (by decide) (by decide) (by omega) (by omega) (fun _ => none) (fun y hy h => absurd rfl h)
 have hlr : spansR t = (match (itemsL false (t.length + 1) t 0 0).2 with
  | none => ((spanP (itemsL false (t.length + 1) t 0 0).1).1 ++ gapS (spanP (itemsL false (t.length + 1) t 0 0).1).2 t.length, 0, 0)
  | some p => ([], p.1, p.2)) := by
  unfold spansR
  rw [if_neg (by omega)]
  rfl
 generalize hxs : (itemsL false (t.length + 1) t 0 0).1 = xs at hseq hle hpos hlr
 generalize hst : (itemsL false (t.length + 1) t 0 0).2 = st at hseq herr hlr
 clear hxs hst
 have hsX := wS_size w
 have hsB := wBox_size t 0 false (wS w)
 have hTH := fun (W : World) (hb : Below ((wS w).heap.size + 3) (wBox t 0 false (wS w)) W) => wBox_there t 0 false (wS w) hb
 have hbB := wBox_below t 0 false (wS w)
 rw [hsX] at hseq hsB hTH hbB
 have HLR := Aside0.mk hlr
 have HLE := Aside0.mk hle
 have HER := Aside0.mk herr
 have HPO := Aside0.mk hpos
 have HSQ := Aside0.mk hseq
 have HTL := Aside0.mk ht
 have HSB := Aside0.mk hsB
 have HTH := Aside0.mk hTH
 have HG := Aside0.mk hG
 have HA : Aside0 (∀ f, RowA w (w.heap.size + 8) (w.heap.size + 5) w.heap.size (fixS w f)) := ⟨fun f => ⟨by omega, by omega, by omega, by
  intro p hp
  unfold fixS at hp
  simp only [List.mem_cons, List.not_mem_nil, or_false] at hp
  rcases hp with rfl | rfl | rfl | rfl <;> (dsimp only; omega)⟩⟩
 have HST : Aside0 (RowI w (w.heap.size + 8) (w.heap.size + 5) w.heap.size 36 40 3 (fixS w (spanP []).2) (spanP []).1.length ((spanP []).1.flatMap spanCs) (fun i => i = w.heap.size + 5 ∨ i = w.heap.size + 5 + 2 ∨ i = w.heap.size + 5 + 1) (wBox t 0 false (wS w))) := by
  obtain ⟨b0, b1, b2, b3, b4⟩ := wS_blocks w
  refine ⟨⟨(wS_below w).trans (hbB.mono (by omega)), by omega, ?_, ⟨.slice none 0 0, (hbB.block _ (by omega)).trans b0, World.ownsRow_nil _ _ _ _, fun g e => by cases e⟩, fun i hi => by omega, fun i hi => by omega⟩⟩
  intro p hp
  unfold fixS at hp
  simp only [List.mem_cons, List.not_mem_nil, or_false] at hp
  rcases hp with rfl | rfl | rfl | rfl
  ·exact (hbB.block _ (by dsimp only; omega)).trans b1
  ·exact (hbB.block _ (by dsimp only; omega)).trans b2
  ·exact (hbB.block _ (by dsimp only; omega)).trans b3
  ·exact (hbB.block _ (by dsimp only; omega)).trans b4
 clear hlr hle herr hpos hseq hsB hTH hG hsX hbB ht
 refine callsIn_of_wp_marks Tryd.func15 rfl trivial ?_ rfl
 simp only [Tryd.ntmps15, List.size_toArray, List.length_cons, List.length_nil, Nat.reduceAdd, Nat.reduceSub, Array.replicate_succ, Array.replicate_zero, List.push_toArray, List.append_toArray, List.nil_append, List.cons_append]
 gi_wp2_with (gi_at_call 29; refine (callsIn_wide.2 (whole_calls t HTL.out _)).mono ?_; rintro e w1 ⟨rfl, rfl⟩)
 change Code.wpIn _ _ _ _ _ _ (wBox t 0 false (wS w))
 refine range_seq rfl h16 (gf := 55) (lb := #[.pointer (some ⟨w.heap.size + 5, 0, none⟩), .pointer (some ⟨w.heap.size + 5 + 2, 0, none⟩), .pointer (some ⟨w.heap.size + 5 + 1, 0, none⟩)]) rfl trivial (enters_of Tryd.func55 (by kernel_rfl) rfl) HSQ.out rfl
  (fun pre G W => RowI w (w.heap.size + 8) (w.heap.size + 5) w.heap.size 36 40 3 (fixS w (spanP pre).2) (spanP pre).1.length ((spanP pre).1.flatMap spanCs) G W)
  (fun W hb => by rw [HSB.out] at hb; exact HTH.out W hb) (fun i hi => by rw [HSB.out]; omega) (by exact HST.out) (fun pre G W h => HG.out.keep W h.below) (fun pre G G' W1 W2 h hc hg => h.step (HA.out _) hc hg)
  (fun x W => { tmps := #[.string (ba t), undef, .pointer (some ⟨w.heap.size, 0, none⟩), .pointer (some ⟨w.heap.size + 1, 0, none⟩), .pointer (some ⟨w.heap.size + 1 + 1, 0, none⟩), .pointer (some ⟨w.heap.size + 1 + 1 + 1, 0, none⟩), .pointer (some ⟨w.heap.size + 1 + 1 + 1 + 1, 0, none⟩), .pointer (some ⟨W.heap.size, 0, none⟩), undef, .func (.func 35) #[] #[.pointer (some ⟨w.heap.size + 1, 0, none⟩), .pointer (some ⟨w.heap.size, 0, none⟩)], .func (.func 36) #[] #[.pointer (some ⟨w.heap.size + 1 + 1 + 1, 0, none⟩), .pointer (some ⟨w.heap.size, 0, none⟩)], .string (ba t), itemF (w.heap.size + 1 + 1 + 1 + 1 + 1), encI x, undef, undef, undef, undef, undef, undef, undef, undef, undef, undef, undef, undef, undef, undef, undef, undef, undef, undef, undef, undef, undef, undef, undef, undef, undef, undef, undef, undef], defers := [] })
  (fun x W => W.alloc (.cells #[.int .i64 x.2.kind, .string (ba x.2.text), .int .i64 x.2.n, .int .i64 x.1, .int .i64 ((x.1 + x.2.len : Nat) : Int), .int .i64 x.2.e, .bool x.2.sure] 70)) (fun x W => (Below.refl _ _).alloc (Nat.le_refl _) _) ?assign ?body ?done ?stop
 case assign =>
  intro l x W K hK
  unfold encI itemV at hK ⊢
  gi_wp2
  exact hK
 case body =>
  rintro l pre x G W W' ⟨tl, hx⟩ hpre hW hl hwl hI
  have hxb : ∀ i, W'.cell? ⟨W.heap.size, i, none⟩ = (W.alloc (.cells #[.int .i64 x.2.kind, .string (ba x.2.text), .int .i64 x.2.n, .int .i64 x.1, .int .i64 ((x.1 + x.2.len : Nat) : Int), .int .i64 x.2.e, .bool x.2.sure] 70)).cell? ⟨W.heap.size, i, none⟩ := fun i => World.cell?_of_block (a := ⟨W.heap.size, i, none⟩) (hW _ (by show W.heap.size ≠ l; omega))
  have c0 := (hxb 0).trans (by simp [go_sem] : _ = some (.int .i64 x.2.kind))
  have c3 := (hxb 3).trans (by simp [go_sem] : _ = some (.int .i64 x.1))
  have c4 := (hxb 4).trans (by simp [go_sem] : _ = some (.int .i64 ((x.1 : Int) + (x.2.len : Int))))
  have hpl : (spanP pre).1.length ≤ 2097154 := by
   have h1 := span_len pre ([], 0)
   have h2 := HLE.out
   have h3 : pre.length ≤ xs.length := by rw [← hx]; simp
   have h4 := HTL.out
   have h5 : (spanP pre).1.length ≤ 0 + 2 * pre.length := h1
   omega
  have hxl : W.heap.size < W'.heap.size := World.block_lt_of_cell? W' _ c0
  have HXO := Aside0.mk ((hW W.heap.size (by omega)).trans (World.alloc_heap_new W _))
  have HXL := Aside0.mk hxl
  have HWL : Aside0 (w.heap.size + 8 ≤ W.heap.size) := ⟨by rw [HSB.out] at hwl; omega⟩
  have HSN := Aside0.mk (span_snoc pre x)
  have hgf : Boxed W' (w.heap.size + 1 + 1 + 1 + 1) 77 (gapF w) := hI.same (w.heap.size + 1 + 1 + 1 + 1, _) (by unfold fixS; simp)
  have cg := hgf.cell
  obtain ⟨v0, hv0, hr0, _⟩ := hI.row
  have HR0 := Aside0.mk hr0
  have HGP := Aside0.mk (callsIn_wide.1 (gap_in 4 hI (HA.out _) (bf := w.heap.size + 1 + 1 + 1) (f' := (spanP pre).2) (by unfold fixS; simp) x.1 (by omega) hv0 hr0))
  have HI := Aside0.mk hI
  have HPL := Aside0.mk hpl
  clear hxb hx hW hI hgf hpl hxl hv0 hr0
  unfold gapF at cg
  gi_wp2
  refine (callsIn_wide.2 HGP.out).mono ?_
  rintro e w2 ⟨rfl, hI2, hk2, hot⟩
  have nrx : some W.heap.size ≠ v0.ownBlock := fun e => by
   rcases HR0.out.2 with ⟨h4, _⟩ | ⟨g, cap, cur, h4, _, hgb, _⟩
   ·rw [h4] at e
    cases e
   ·rw [h4] at e
    have hg : W.heap.size = g := Option.some.inj e
    rw [← hg] at hgb
    exact absurd (HXO.out.symm.trans hgb) (by simp)
  have hwl : w.heap.size < W.heap.size := by have := HWL.out; omega
  have hxo2 := (hot W.heap.size HXL.out (by omega) nrx).trans HXO.out
  have hcx : ∀ i, w2.cell? ⟨W.heap.size, i, none⟩ = (W.alloc (.cells #[.int .i64 x.2.kind, .string (ba x.2.text), .int .i64 x.2.n, .int .i64 x.1, .int .i64 ((x.1 + x.2.len : Nat) : Int), .int .i64 x.2.e, .bool x.2.sure] 70)).cell? ⟨W.heap.size, i, none⟩ := fun i => World.cell?_of_block (a := ⟨W.heap.size, i, none⟩) (hxo2.trans (World.alloc_heap_new W _).symm)
  have d0 := (hcx 0).trans (by simp [go_sem] : _ = some (.int .i64 x.2.kind))
  have d3 := (hcx 3).trans (by simp [go_sem] : _ = some (.int .i64 x.1))
  have d4 := (hcx 4).trans (by simp [go_sem] : _ = some (.int .i64 ((x.1 : Int) + (x.2.len : Int))))
  obtain ⟨v, hv, hr, hng⟩ := hI2.row
  have cl := hv.cell
  have fl := hv.frozen
  have hfr : Boxed w2 (w.heap.size + 1 + 1 + 1) 3 (.int .i64 ((spanP pre).2 : Int)) := hI2.same (w.heap.size + 1 + 1 + 1, _) (by unfold fixS; simp)
  have cfr := hfr.cell
  have ffr := hfr.frozen
  have HI2 := Aside0.mk hI2
  have HK2 := Aside0.mk hk2
  have HV := Aside0.mk hv
  have HRR := Aside0.mk hr
  have HFR := Aside0.mk hfr
  have HXO2 := Aside0.mk hxo2
  have hkl : (spanP pre).1.length + (gapS (spanP pre).2 x.1).length ≤ 2097155 := by
   have := HPL.out
   have h2 : (gapS (spanP pre).2 x.1).length ≤ 1 := by unfold gapS; split <;> simp
   omega
  have HKL := Aside0.mk hkl
  clear hI2 hk2 hot nrx hcx hv hr hng hfr hxo2 hwl c0 c3 c4 cg
  dsimp only
  by_cases hkz : x.2.kind = 0
  ·have HKZ := Aside0.mk (show (if x.2.kind = 0 then (2 : Int) else 3) = 2 from if_pos hkz)
   have q1 : (x.2.kind == 0) = true := by rw [hkz]; rfl
   have q2 : (x.2.kind != 0) = false := by rw [hkz]; rfl
   have q3 : decide (x.2.kind = 0) = true := decide_eq_true hkz
   clear hkz
   gi_wp2_with (gi_at_builtin; refine wpListIn_append_at _ rfl _ _ 36 rfl (w.heap.size + 8) 40 i0 (.agg #[.int .i64 0, .int .i64 0, .int .i64 0]) 3 24 Tryd.underlying36 hi hz0 hz1 hz2 rfl (by decide) _ _ _ rfl (HRR.out.alloc _) ⟨w2.heap.size, 0, none⟩ 1 1 [.int .i64 2, .int .i64 (x.1 : Int), .int .i64 ((x.1 : Int) + (x.2.len : Int))] rfl rfl ?c1 ?c2 ?c3 ?c4 ?c5 ?goon)
   case c1 =>
    intro j u hj
    have hj3 : j < 3 := (List.getElem?_eq_some_iff.1 hj).1
    rcases (by omega : j = 0 ∨ j = 1 ∨ j = 2) with rfl | rfl | rfl <;> (cases hj; simp [go_sem, Addr.add])
   case c2 => simp [Value.oneCell']
   case c3 => have := HKL.out; unfold maxLen; omega
   case c4 => have := HKL.out; omega
   case c5 => have := HI2.out.size; simp; omega
   case goon =>
    intro v' w3 hown' hgrow' hat
    obtain ⟨g', cap', hvv⟩ := ownsRow_succ hown'
    subst hvv
    have hpush := HI2.out.push (HA.out _) HV.out HRR.out ((Below.refl _ _).alloc (Nat.le_refl _) _) hown' hgrow' (by simpa using hat)
    have hlt := fun i (e : v.ownBlock = some i) => HRR.out.lt i e
    have h1 := HI2.out.size
    have hne : some w.heap.size ≠ v.ownBlock := fun e => by have := (hlt _ e.symm).1; omega
    have hnf : some (w.heap.size + 1 + 1 + 1) ≠ v.ownBlock := fun e => by have := (hlt _ e.symm).1; omega
    have hv3 := (HV.out.alloc (.cells #[.int .i64 2, .int .i64 (x.1 : Int), .int .i64 ((x.1 : Int) + (x.2.len : Int))] 40)).kept hgrow' hne
    have hf3 := (HFR.out.alloc (.cells #[.int .i64 2, .int .i64 (x.1 : Int), .int .i64 ((x.1 : Int) + (x.2.len : Int))] 40)).kept hgrow' hnf
    have nrx : some W.heap.size ≠ v.ownBlock := fun e => by
     rcases HRR.out.2 with ⟨h4, _⟩ | ⟨g, cap, cur, h4, _, hgb, _⟩
     ·rw [h4] at e
      cases e
     ·rw [h4] at e
      have hg : W.heap.size = g := Option.some.inj e
      rw [← hg] at hgb
      exact absurd (HXO2.out.symm.trans hgb) (by simp)
    have hx2 : W.heap.size < w2.heap.size := (Array.getElem?_eq_some_iff.1 HXO2.out).1
    have hx3 : w3.cell? ⟨W.heap.size, 4, none⟩ = w2.cell? ⟨W.heap.size, 4, none⟩ := World.cell?_of_block (a := ⟨W.heap.size, 4, none⟩) ((hgrow'.block _ (by simp; omega) nrx).trans (Below.heap_alloc w2 _ _ hx2))
    have x4 := hx3.trans d4
    have cl3 := hv3.cell
    have fl3 := hv3.frozen
    have HF3 := Aside0.mk hf3
    have cf3 := hf3.cell
    have ff3 := hf3.frozen
    have HPU := Aside0.mk hpush
    have HWX : Aside0 (w.heap.size + 1 + 1 + 1 < W.heap.size) := ⟨by have := HWL.out; omega⟩
    have hxn : ¬ W.heap.size = w.heap.size := by have := HWX.out; omega
    clear hpush hown' hgrow' hat hv3 hne hf3 hnf nrx hlt h1 hx2 hx3 d0 d3 d4 cl fl cfr ffr
    gi_wp2
    have hwx := HWX.out
    obtain ⟨W5, hW5⟩ : ∃ W5, W5 = w3.setCell ⟨w.heap.size, 0, none⟩ (.slice (some ⟨g', 0, none⟩) ((spanP pre).1.length + (gapS (spanP pre).2 x.1).length + 1) cap') := ⟨_, rfl⟩
    have hp1 := HPU.out.1
    have hp2 := HPU.out.2
    have hf5 : Boxed W5 (w.heap.size + 1 + 1 + 1) 3 (.int .i64 ((spanP pre).2 : Int)) := by rw [hW5]; exact HF3.out.other (by omega) _
    rw [← hW5] at hp1 hp2
    have hk := Chg.setCell (G := fun i => i = w.heap.size + 1 + 1 + 1) W5 (p := ⟨w.heap.size + 1 + 1 + 1, 0, none⟩) rfl (.int .i64 ((x.1 : Int) + (x.2.len : Int)))
    have hput := hp1.put (HA.out _) (b := w.heap.size + 1 + 1 + 1) (by omega) (by omega) (by omega) (.int .i64 ((x.1 : Int) + (x.2.len : Int))) (fix' := fixS w (x.1 + x.2.len)) (by
     intro p hp
     unfold fixS at hp
     simp only [List.mem_cons, List.not_mem_nil, or_false] at hp
     rcases hp with rfl | rfl | rfl | rfl
     ·exact hk.obj (hp1.same (w.heap.size + 1, _) (by unfold fixS; simp)) (by omega)
     ·exact hk.obj (hp1.same (w.heap.size + 1 + 1, _) (by unfold fixS; simp)) (by omega)
     ·exact hf5.set _
     ·exact hk.obj (hp1.same (w.heap.size + 1 + 1 + 1 + 1, _) (by unfold fixS; simp)) (by omega))
    refine ⟨rfl, ?_, ?_⟩
    ·rw [← hW5]
     exact (HK2.out.trans hp2).trans hput.2
    ·rw [← hW5]
     show RowI w (w.heap.size + 8) (w.heap.size + 5) w.heap.size 36 40 3 (fixS w (spanP (pre ++ [x])).2) (spanP (pre ++ [x])).1.length ((spanP (pre ++ [x])).1.flatMap spanCs) _ _
     have e1 : (spanP (pre ++ [x])).1 = (spanP pre).1 ++ gapS (spanP pre).2 x.1 ++ [(2, x.1, x.1 + x.2.len)] := by rw [HSN.out]; unfold spanA; rw [HKZ.out]
     have e2 : (spanP (pre ++ [x])).2 = x.1 + x.2.len := by rw [HSN.out]; rfl
     have e3 : (spanP (pre ++ [x])).1.length = (spanP pre).1.length + (gapS (spanP pre).2 x.1).length + 1 := by rw [e1, List.length_append, List.length_append]; rfl
     have e4 : (spanP (pre ++ [x])).1.flatMap spanCs = (spanP pre).1.flatMap spanCs ++ (gapS (spanP pre).2 x.1).flatMap spanCs ++ [.int .i64 2, .int .i64 (x.1 : Int), .int .i64 ((x.1 : Int) + (x.2.len : Int))] := by rw [e1, List.flatMap_append, List.flatMap_append]; rfl
     rw [e2, e3, e4, List.append_assoc]
     exact hput.1
  ·have HKZ := Aside0.mk (show (if x.2.kind = 0 then (2 : Int) else 3) = 3 from if_neg hkz)
   have q1 : (x.2.kind == 0) = false := beq_eq_false_iff_ne.2 hkz
   have q2 : (x.2.kind != 0) = true := bne_iff_ne.2 hkz
   have q3 : decide (x.2.kind = 0) = false := decide_eq_false hkz
   clear hkz
   gi_wp2_with (gi_at_builtin; refine wpListIn_append_at _ rfl _ _ 36 rfl (w.heap.size + 8) 40 i0 (.agg #[.int .i64 0, .int .i64 0, .int .i64 0]) 3 24 Tryd.underlying36 hi hz0 hz1 hz2 rfl (by decide) _ _ _ rfl (HRR.out.alloc _) ⟨w2.heap.size, 0, none⟩ 1 1 [.int .i64 3, .int .i64 (x.1 : Int), .int .i64 ((x.1 : Int) + (x.2.len : Int))] rfl rfl ?c1 ?c2 ?c3 ?c4 ?c5 ?goon)
   case c1 =>
    intro j u hj
    have hj3 : j < 3 := (List.getElem?_eq_some_iff.1 hj).1
    rcases (by omega : j = 0 ∨ j = 1 ∨ j = 2) with rfl | rfl | rfl <;> (cases hj; simp [go_sem, Addr.add])
   case c2 => simp [Value.oneCell']
   case c3 => have := HKL.out; unfold maxLen; omega
   case c4 => have := HKL.out; omega
   case c5 => have := HI2.out.size; simp; omega
   case goon =>
    intro v' w3 hown' hgrow' hat
    obtain ⟨g', cap', hvv⟩ := ownsRow_succ hown'
    subst hvv
    have hpush := HI2.out.push (HA.out _) HV.out HRR.out ((Below.refl _ _).alloc (Nat.le_refl _) _) hown' hgrow' (by simpa using hat)
    have hlt := fun i (e : v.ownBlock = some i) => HRR.out.lt i e
    have h1 := HI2.out.size
    have hne : some w.heap.size ≠ v.ownBlock := fun e => by have := (hlt _ e.symm).1; omega
    have hnf : some (w.heap.size + 1 + 1 + 1) ≠ v.ownBlock := fun e => by have := (hlt _ e.symm).1; omega
    have hv3 := (HV.out.alloc (.cells #[.int .i64 3, .int .i64 (x.1 : Int), .int .i64 ((x.1 : Int) + (x.2.len : Int))] 40)).kept hgrow' hne
    have hf3 := (HFR.out.alloc (.cells #[.int .i64 3, .int .i64 (x.1 : Int), .int .i64 ((x.1 : Int) + (x.2.len : Int))] 40)).kept hgrow' hnf
    have nrx : some W.heap.size ≠ v.ownBlock := fun e => by
     rcases HRR.out.2 with ⟨h4, _⟩ | ⟨g, cap, cur, h4, _, hgb, _⟩
     ·rw [h4] at e
      cases e
     ·rw [h4] at e
      have hg : W.heap.size = g := Option.some.inj e
      rw [← hg] at hgb
      exact absurd (HXO2.out.symm.trans hgb) (by simp)
    have hx2 : W.heap.size < w2.heap.size := (Array.getElem?_eq_some_iff.1 HXO2.out).1
    have hx3 : w3.cell? ⟨W.heap.size, 4, none⟩ = w2.cell? ⟨W.heap.size, 4, none⟩ := World.cell?_of_block (a := ⟨W.heap.size, 4, none⟩) ((hgrow'.block _ (by simp; omega) nrx).trans (Below.heap_alloc w2 _ _ hx2))
    have x4 := hx3.trans d4
    have cl3 := hv3.cell
    have fl3 := hv3.frozen
    have HF3 := Aside0.mk hf3
    have cf3 := hf3.cell
    have ff3 := hf3.frozen
    have HPU := Aside0.mk hpush
    have HWX : Aside0 (w.heap.size + 1 + 1 + 1 < W.heap.size) := ⟨by have := HWL.out; omega⟩
    have hxn : ¬ W.heap.size = w.heap.size := by have := HWX.out; omega
    clear hpush hown' hgrow' hat hv3 hne hf3 hnf nrx hlt h1 hx2 hx3 d0 d3 d4 cl fl cfr ffr
    gi_wp2
    have hwx := HWX.out
    obtain ⟨W5, hW5⟩ : ∃ W5, W5 = w3.setCell ⟨w.heap.size, 0, none⟩ (.slice (some ⟨g', 0, none⟩) ((spanP pre).1.length + (gapS (spanP pre).2 x.1).length + 1) cap') := ⟨_, rfl⟩
    have hp1 := HPU.out.1
    have hp2 := HPU.out.2
    have hf5 : Boxed W5 (w.heap.size + 1 + 1 + 1) 3 (.int .i64 ((spanP pre).2 : Int)) := by rw [hW5]; exact HF3.out.other (by omega) _
    rw [← hW5] at hp1 hp2
    have hk := Chg.setCell (G := fun i => i = w.heap.size + 1 + 1 + 1) W5 (p := ⟨w.heap.size + 1 + 1 + 1, 0, none⟩) rfl (.int .i64 ((x.1 : Int) + (x.2.len : Int)))
    have hput := hp1.put (HA.out _) (b := w.heap.size + 1 + 1 + 1) (by omega) (by omega) (by omega) (.int .i64 ((x.1 : Int) + (x.2.len : Int))) (fix' := fixS w (x.1 + x.2.len)) (by
     intro p hp
     unfold fixS at hp
     simp only [List.mem_cons, List.not_mem_nil, or_false] at hp
     rcases hp with rfl | rfl | rfl | rfl
     ·exact hk.obj (hp1.same (w.heap.size + 1, _) (by unfold fixS; simp)) (by omega)
     ·exact hk.obj (hp1.same (w.heap.size + 1 + 1, _) (by unfold fixS; simp)) (by omega)
     ·exact hf5.set _
     ·exact hk.obj (hp1.same (w.heap.size + 1 + 1 + 1 + 1, _) (by unfold fixS; simp)) (by omega))
    refine ⟨rfl, ?_, ?_⟩
    ·rw [← hW5]
     exact (HK2.out.trans hp2).trans hput.2
    ·rw [← hW5]
     show RowI w (w.heap.size + 8) (w.heap.size + 5) w.heap.size 36 40 3 (fixS w (spanP (pre ++ [x])).2) (spanP (pre ++ [x])).1.length ((spanP (pre ++ [x])).1.flatMap spanCs) _ _
     have e1 : (spanP (pre ++ [x])).1 = (spanP pre).1 ++ gapS (spanP pre).2 x.1 ++ [(3, x.1, x.1 + x.2.len)] := by rw [HSN.out]; unfold spanA; rw [HKZ.out]
     have e2 : (spanP (pre ++ [x])).2 = x.1 + x.2.len := by rw [HSN.out]; rfl
     have e3 : (spanP (pre ++ [x])).1.length = (spanP pre).1.length + (gapS (spanP pre).2 x.1).length + 1 := by rw [e1, List.length_append, List.length_append]; rfl
     have e4 : (spanP (pre ++ [x])).1.flatMap spanCs = (spanP pre).1.flatMap spanCs ++ (gapS (spanP pre).2 x.1).flatMap spanCs ++ [.int .i64 3, .int .i64 (x.1 : Int), .int .i64 ((x.1 : Int) + (x.2.len : Int))] := by rw [e1, List.flatMap_append, List.flatMap_append]; rfl
     rw [e2, e3, e4, List.append_assoc]
     exact hput.1
 case done =>
  rintro D G W hstn hD hI hK
  have hp0 : pend (fun _ : Nat × Itm => (none : Option Nat)) xs = none := pend_none fun _ _ => rfl
  rw [hp0]
  have hstn' : st = none := by cases st with | none => rfl | some p => cases hstn
  have hlr : spansR t = ((spanP xs).1 ++ gapS (spanP xs).2 t.length, 0, 0) := by rw [HLR.out, hstn']
  have hpl : (spanP xs).1.length ≤ 2097154 := by
   have h1 := span_len xs ([], 0)
   have h2 := HLE.out
   have h4 := HTL.out
   have h5 : (spanP xs).1.length ≤ 0 + 2 * xs.length := h1
   omega
  have hK2 := Aside0.mk hK
  obtain ⟨v0, hv0, hr0, hng0⟩ := hI.row
  have hgf : Boxed W (w.heap.size + 1 + 1 + 1 + 1) 77 (gapF w) := hI.same (w.heap.size + 1 + 1 + 1 + 1, _) (by unfold fixS; simp)
  have cg := hgf.cell
  have HR0 := Aside0.mk hr0
  have HGP := Aside0.mk (callsIn_wide.1 (gap_in 4 hI (HA.out _) (bf := w.heap.size + 1 + 1 + 1) (f' := (spanP xs).2) (by unfold fixS; simp) t.length (by omega) hv0 hr0))
  have HI := Aside0.mk hI
  have HLR2 := Aside0.mk hlr
  clear hK hI hgf hpl hv0 hr0 hng0 hlr
  unfold gapF at cg
  show Exit.inBlock 0 _ Exit.normal _ _
  gi_wp2
  refine (callsIn_wide.2 HGP.out).mono ?_
  rintro e w2 ⟨rfl, hI2, hk2, hot⟩
  rw [HSB.out] at hD
  have hs := HI.out.size
  have hD2 : w2.heap[D]? = some (.deferred (some [])) := (hot D (Array.getElem?_eq_some_iff.1 hK2.out).1 (by omega) (fun e => by
   rcases HR0.out.2 with ⟨h4, _⟩ | ⟨g, cap, cur, h4, _, hgb, _⟩
   ·rw [h4] at e
    cases e
   ·rw [h4] at e
    have hg : D = g := Option.some.inj e
    rw [← hg] at hgb
    exact absurd (hK2.out.symm.trans hgb) (by simp))).trans hK2.out
  have HD2 := Aside0.mk hD2
  obtain ⟨v, hv, hr, hng⟩ := hI2.row
  obtain ⟨A, cp, rfl⟩ := row_form hr
  have hx1 : Boxed w2 (w.heap.size + 1) 25 (.int .i64 0) := hI2.same (w.heap.size + 1, _) (by unfold fixS; simp)
  have hx2 : Boxed w2 (w.heap.size + 1 + 1) 3 (.int .i64 0) := hI2.same (w.heap.size + 1 + 1, _) (by unfold fixS; simp)
  have c0 := hv.cell
  have f0 := hv.frozen
  have c1 := hx1.cell
  have f1 := hx1.frozen
  have c2 := hx2.cell
  have f2 := hx2.frozen
  have HI2 := Aside0.mk hI2
  have HV := Aside0.mk hv
  have HRR := Aside0.mk hr
  have H1 := Aside0.mk hx1
  have H2 := Aside0.mk hx2
  generalize hkk : (spanP xs).1.length + (gapS (spanP xs).2 t.length).length = kk at c0 HV HRR hr hv HI2
  have HKK := Aside0.mk hkk
  clear hI2 hk2 hot hv hr hng hx1 hx2 hD2 cg hkk
  dsimp only
  gi_wp2
  show LeavesInM _ _ _ _ _ _ _ _ _
  have k1 : Chg (fun i => i = w.heap.size ∨ i = w.heap.size + 1 ∨ i = w.heap.size + 1 + 1) w2 (w2.setCell ⟨w.heap.size, 0, none⟩ (.slice A kk cp)) := Chg.setCell w2 (.inl rfl) _
  have k2 := k1.trans (Chg.setCell (G := fun i => i = w.heap.size ∨ i = w.heap.size + 1 ∨ i = w.heap.size + 1 + 1) _ (p := ⟨w.heap.size + 1, 0, none⟩) (.inr (.inl rfl)) (.int .i64 0)) fun i hi => .inl hi
  have k3 := k2.trans (Chg.setCell (G := fun i => i = w.heap.size ∨ i = w.heap.size + 1 ∨ i = w.heap.size + 1 + 1) _ (p := ⟨w.heap.size + 1 + 1, 0, none⟩) (.inr (.inr rfl)) (.int .i64 0)) fun i hi => .inl hi
  have z1 := ((HV.out.set (.slice A kk cp)).other (by omega : w.heap.size ≠ w.heap.size + 1) (.int .i64 0)).other (by omega : w.heap.size ≠ w.heap.size + 1 + 1) (.int .i64 0)
  have z2 := ((H1.out.other (by omega : w.heap.size + 1 ≠ w.heap.size) (.slice A kk cp)).set (.int .i64 0)).other (by omega : w.heap.size + 1 ≠ w.heap.size + 1 + 1) (.int .i64 0)
  have z3 := ((H2.out.other (by omega : w.heap.size + 1 + 1 ≠ w.heap.size) (.slice A kk cp)).other (by omega : w.heap.size + 1 + 1 ≠ w.heap.size + 1) (.int .i64 0)).set (.int .i64 0)
  generalize ((w2.setCell ⟨w.heap.size, 0, none⟩ (.slice A kk cp)).setCell ⟨w.heap.size + 1, 0, none⟩ (.int .i64 0)).setCell ⟨w.heap.size + 1 + 1, 0, none⟩ (.int .i64 0) = W3 at k3 z1 z2 z3 ⊢
  have zb : Below w.heap.size w W3 := HI2.out.below.trans (k3.below HI2.out.below.size (by omega))
  have zD := k3.obj HD2.out (by omega)
  have zr := k3.row HRR.out fun g e => by have := (HRR.out.lt g e).1; omega
  refine leaves_mark (by simp) zD ?_
  intro W4 hc4
  have y1 := hc4.boxed z1 (by omega)
  have y2 := hc4.boxed z2 (by omega)
  have y3 := hc4.boxed z3 (by omega)
  have yb : Below w.heap.size w W4 := zb.trans (hc4.below zb.size (by omega))
  have yr := hc4.row zr fun g e h => by
   obtain ⟨_, ⟨q, _⟩ | ⟨g', cap, cur, q, _, hgb, _⟩⟩ := zr
   ·rw [q] at e; cases e
   ·rw [q] at e
    have hg : g' = g := Option.some.inj e
    subst hg
    rw [h] at hgb
    exact absurd (zD.symm.trans hgb) (by simp)
  refine leaves_idle (by decide) _ _ ?_
  refine leaves_fn (by decide) (by simp) (f := 35) (cap := #[.pointer (some ⟨w.heap.size + 1, 0, none⟩), .pointer (some ⟨w.heap.size, 0, none⟩)]) (S := fun A B => B = A) (enters_of Tryd.func35 (by kernel_rfl) rfl _ _) (sp1_ok 5 _ _ .returning W4 y2.cell) ?_
  rintro W5 rfl
  have d1 := y1.cell
  have d2 := y2.cell
  have d3 := y3.cell
  simp [LeavesInM, LeavesIn, settle, results, Tryd.results15, go_sem, d1, d2, d3]
  have hkk := HKK.out
  exact ⟨_, by rw [HLR2.out]; rfl, by rw [HLR2.out, List.length_append, List.flatMap_append, hkk]; exact row_base yr (by omega), yb⟩
 case stop =>
  rintro D G W ch hch hD hI hK
  obtain ⟨p, rfl, rfl⟩ : ∃ p, st = some p ∧ ch = failC p := by
   cases st with
   | none => cases hch
   | some p => cases hch; exact ⟨p, rfl, rfl⟩
  have hpe := HER.out p rfl
  have hlr : spansR t = ([], p.1, p.2) := by rw [HLR.out]
  rw [HSB.out] at hD
  show LeavesInM _ _ _ _ _ _ _ _ _
  obtain ⟨v, hv, hr, _⟩ := hI.row
  refine leaves_mark (by simp) hK ?_
  intro W4 hc4
  have hs := hI.size
  exact sp_leaves t w W4 p hpe hlr v (hc4.boxed hv (by omega)) (hc4.obj (hI.same (w.heap.size + 1, _) (by unfold fixS; simp)) (by omega)) (hc4.obj (hI.same (w.heap.size + 1 + 1, _) (by unfold fixS; simp)) (by omega)) (hI.below.trans (hc4.below hI.below.size (by omega))) _ _ _ _ _ _ _ _ _ _ _ _ _ _ _ _ _ _ _ _ _ _ _ _ _ _ _ _ _ _ _ _ _ _ _ _ _ _ _
theorem sp_calls (t : List UInt8) (w : World) (hG : LaidG w) : Calls Tryd.prog 15 #[.string (ba t)] w (SpansOut t w) := by
 by_cases ht : t.length ≤ 1048576
 ·exact callsIn_wide.1 (sp_run t ht w hG)
 ·exact callsIn_wide.1 (sp_over t ht w)
end Go.Proofs.YtniihjhlkpjnoaaDoor.Given