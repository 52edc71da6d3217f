/- Package lex: the contract of Veil. -/
import Derived.Test.YtniihjhlkpjnoaaDoorJ11
set_option linter.unusedVariables false
set_option linter.unusedSimpArgs false
namespace Go.Proofs.YtniihjhlkpjnoaaDoor.Given
open Go.RowKit Go.Shelf Go.Proofs.YtniihjhlkpjnoaaDoor.PT Go.Proofs.YtniihjhlkpjnoaaDoorW.PrintWords Go.Proofs.YtniihjhlkpjnoaaDoorW.PrintLast Go.Proofs.YtniihjhlkpjnoaaDoorW.PrintMore
attribute [local go_sem] Oper.semAt_some
theorem str_cells (l : List UInt8) : Lib.strCells (ba l) = Lib.byteCells l := by
 unfold Lib.strCells Lib.byteCells
 rw [ba_list]
theorem byte_app (a b : List UInt8) : Lib.byteCells (a ++ b) = Lib.byteCells a ++ Lib.byteCells b := List.map_append
def fixV (t : List UInt8) (w : World) (f : Nat) : List (Nat × Obj) := [(w.heap.size, .cells #[.string (ba t)] 9 (0, 0)), (w.heap.size + 1, .cells #[.int .i64 0] 25 (0, 0)), (w.heap.size + 1 + 1, .cells #[.int .i64 0] 3 (0, 0)), (w.heap.size + 1 + 1 + 1 + 1, .cells #[.int .i64 (f : Int)] 3 (0, 0))]
structure VeilI (t : List UInt8) (w : World) (f : Nat) (bs : List UInt8) (G : Nat → Prop) (W : World) : Prop where
 below : Below w.heap.size w W
 size : w.heap.size + 8 ≤ W.heap.size
 same : ∀ p, p ∈ fixV t w f → W.heap[p.1]? = some p.2
 bld : ∃ p v, BldAt W (w.heap.size + 8) (w.heap.size + 1 + 1 + 1) p v (Lib.byteCells bs) ∧ ∀ g, v.ownBlock = some g → ¬ G g
 gl : ∀ i, G i → w.heap.size + 5 ≤ i
 gh : ∀ i, G i → i < W.heap.size
theorem fixV_lt {t : List UInt8} {w : World} {f : Nat} {p : Nat × Obj} (hp : p ∈ fixV t w f) : p.1 < w.heap.size + 5 ∧ p.1 ≠ w.heap.size + 1 + 1 + 1 := by
 unfold fixV at hp
 simp only [List.mem_cons, List.not_mem_nil, or_false] at hp
 rcases hp with rfl | rfl | rfl | rfl <;> (dsimp only; omega)
theorem VeilI.step {t : List UInt8} {w : World} {f : Nat} {bs : List UInt8} {G G' : Nat → Prop} {W W2 : World} (h : VeilI t w f bs G W) (hc : Chg G W W2) (hg : ∀ i, G' i → G i ∨ (W.heap.size ≤ i ∧ i < W2.heap.size)) : VeilI t w f bs G' W2 := by
 obtain ⟨hb, hs, hf, ⟨p, v, ⟨b1, b2, b3⟩, hng⟩, gl, gh⟩ := h
 have same : ∀ i, i < w.heap.size + 5 → W2.heap[i]? = W.heap[i]? := fun i hi => hc.block i (by omega) fun g => by have := gl i g; omega
 refine ⟨hb.trans (hc.below hb.size fun i g => by have := gl i g; omega), Nat.le_trans hs hc.size, fun p hp => (same _ (fixV_lt hp).1).trans (hf p hp), ⟨p, v, ⟨(same _ (by omega)).trans b1, b2, ownsRow_block b3 fun g e => hc.block g (b3.lt g e).2 (hng g e)⟩, ?_⟩, ?_, fun i h2 => (hg i h2).elim (fun h3 => Nat.lt_of_lt_of_le (gh i h3) hc.size) fun h3 => h3.2⟩
 ·exact fun g e h2 => (hg g h2).elim (hng g e) fun h3 => by have := (b3.lt g e).2; omega
 ·exact fun i h2 => (hg i h2).elim (gl i) fun h3 => by omega
theorem VeilI.grow {t : List UInt8} {w : World} {f : Nat} {bs : List UInt8} {G : Nat → Prop} {W W2 : World} (h : VeilI t w f bs G W) (hb : Below W.heap.size W W2) : VeilI t w f bs G W2 ∧ Kept G W W2 :=
 ⟨h.step (Chg.of_below G hb) fun i hi => .inl hi, ⟨hb.size, fun i hi => hb.block i (h.gh i hi)⟩⟩
theorem VeilI.write {t : List UInt8} {w : World} {f : Nat} {bs : List UInt8} {G : Nat → Prop} {W W2 : World} (h : VeilI t w f bs G W) {p v : Value} (hb : BldAt W (w.heap.size + 8) (w.heap.size + 1 + 1 + 1) p v (Lib.byteCells bs)) {v' : Value} {l : List UInt8}
  (hb2 : BldAt W2 (w.heap.size + 8) (w.heap.size + 1 + 1 + 1) (.pointer (some ⟨w.heap.size + 1 + 1 + 1, 0, none⟩)) v' (Lib.byteCells bs ++ Lib.strCells (ba l))) (hat : v'.ownBlock = v.ownBlock ∨ ∃ q, v'.ownBlock = some q ∧ W.heap.size ≤ q) (hc : Chg (fun i => i = w.heap.size + 1 + 1 + 1 ∨ v.ownBlock = some i) W W2) :
  VeilI t w f (bs ++ l) G W2 ∧ Kept G W W2 := by
 obtain ⟨hbl, hs, hf, ⟨p0, v0, hb0, hng⟩, gl, gh⟩ := h
 have hv : v0 = v := by
  have := hb0.blk.symm.trans hb.blk
  have h2 : p0 = p ∧ v0 = v := by simpa using (Obj.cells.inj (Option.some.inj this)).1
  exact h2.2
 subst hv
 have nr : ∀ i, i < w.heap.size + 8 → ¬ v0.ownBlock = some i := fun i hi e => by have := (hb.row.lt i e).1; omega
 rw [str_cells, ← byte_app] at hb2
 refine ⟨⟨hbl.trans (hc.below hbl.size ?_), Nat.le_trans hs hc.size, fun p hp => (hc.block _ (by have := (fixV_lt hp).1; omega) ?_).trans (hf p hp), ⟨_, v', hb2, ?_⟩, gl, fun i hi => Nat.lt_of_lt_of_le (gh i hi) hc.size⟩, ⟨hc.size, fun i hi => hc.block i (gh i hi) ?_⟩⟩
 ·rintro i (h | h)
  ·omega
  ·have := (hb.row.lt i h).1; omega
 ·rintro (h | h)
  ·exact (fixV_lt hp).2 h
  ·exact nr _ (by have := (fixV_lt hp).1; omega) h
 ·intro g e hg
  rcases hat with h2 | ⟨q, h2, h3⟩
  ·exact hng g (h2.symm.trans e) hg
  ·rw [h2] at e
   cases e
   have := gh _ hg
   omega
 ·rintro (h | h)
  ·have := gl i hi; omega
  ·exact hng i h hi
theorem VeilI.put {t : List UInt8} {w : World} {f : Nat} {bs : List UInt8} {G : Nat → Prop} {W : World} (h : VeilI t w f bs G W) (f' : Nat) : VeilI t w f' bs G (W.setCell ⟨w.heap.size + 1 + 1 + 1 + 1, 0, none⟩ (.int .i64 (f' : Int))) ∧ Kept G W (W.setCell ⟨w.heap.size + 1 + 1 + 1 + 1, 0, none⟩ (.int .i64 (f' : Int))) := by
 obtain ⟨hbl, hs, hf, ⟨p0, v0, hb0, hng⟩, gl, gh⟩ := h
 have hc := Chg.setCell (G := fun i => i = w.heap.size + 1 + 1 + 1 + 1) W (p := ⟨w.heap.size + 1 + 1 + 1 + 1, 0, none⟩) rfl (.int .i64 (f' : Int))
 have hx : Boxed W (w.heap.size + 1 + 1 + 1 + 1) 3 (.int .i64 (f : Int)) := hf (w.heap.size + 1 + 1 + 1 + 1, _) (by unfold fixV; simp)
 refine ⟨⟨hbl.trans (hc.below hbl.size (by omega)), Nat.le_trans hs hc.size, ?_, ⟨p0, v0, ⟨hc.obj hb0.blk (by omega), hb0.self, ownsRow_block hb0.row fun g e => hc.block g (hb0.row.lt g e).2 (by have := (hb0.row.lt g e).1; omega)⟩, hng⟩, gl, fun i hi => Nat.lt_of_lt_of_le (gh i hi) hc.size⟩, ⟨hc.size, fun i hi => hc.block i (gh i hi) (by
   have := gl i hi
   show ¬ i = _
   omega)⟩⟩
 intro p hp
 unfold fixV at hp
 simp only [List.mem_cons, List.not_mem_nil, or_false] at hp
 rcases hp with rfl | rfl | rfl | rfl
 ·exact hc.obj (hf (w.heap.size, _) (by unfold fixV; simp)) (by omega)
 ·exact hc.obj (hf (w.heap.size + 1, _) (by unfold fixV; simp)) (by omega)
 ·exact hc.obj (hf (w.heap.size + 1 + 1, _) (by unfold fixV; simp)) (by omega)
 ·exact hx.set _
theorem veil_len (t : List UInt8) (xs : List (Nat × Itm)) : ∀ s : List UInt8 × Nat, (xs.foldl (veilA t) s).1.length ≤ s.1.length + xs.length * (2 * t.length) := by
 induction xs with
 | nil => exact fun s => by simp
 | cons x xs ih =>
  intro s
  have h := ih (veilA t s x)
  have h2 : (veilA t s x).1.length ≤ s.1.length + 2 * t.length := by
   unfold veilA
   split
   ·simp only [List.length_append, List.length_map, List.length_take, List.length_drop]
    omega
   ·omega
  simp only [List.foldl_cons, List.length_cons, Nat.add_mul, Nat.one_mul]
  omega
def VeilOut (t : List UInt8) (w : World) : Ending → World → Prop := fun e w' => e = .returned (.tuple #[.string (ba (veilR t).1), .int .i64 (veilR t).2.1, .int .i64 (veilR t).2.2]) ∧ Below w.heap.size w w'
def wV (t : List UInt8) (w : World) : World := ((((w.alloc (.cells #[.string (ba t)] 9)).alloc (.cells #[.int .i64 0] 25)).alloc (.cells #[.int .i64 0] 3)).alloc (.cells #[.pointer none, .slice none 0 0] 86)).alloc (.cells #[.int .i64 0] 3)
theorem wV_size (t : List UInt8) (w : World) : (wV t w).heap.size = w.heap.size + 5 := by simp [wV]
theorem wV_below (t : List UInt8) (w : World) : Below w.heap.size w (wV t w) := (((((Below.refl _ _).alloc (Nat.le_refl _) _).alloc (by simp) _).alloc (by simp; omega) _).alloc (by simp; omega) _).alloc (by simp; omega) _
theorem wV_blocks (t : List UInt8) (w : World) : Boxed (wV t w) w.heap.size 9 (.string (ba t)) ∧ Boxed (wV t w) (w.heap.size + 1) 25 (.int .i64 0) ∧ Boxed (wV t w) (w.heap.size + 1 + 1) 3 (.int .i64 0) ∧ (wV t w).heap[w.heap.size + 1 + 1 + 1]? = some (.cells #[.pointer none, .slice none 0 0] 86 (0, 0)) ∧ Boxed (wV t w) (w.heap.size + 1 + 1 + 1 + 1) 3 (.int .i64 0) := by
 refine ⟨?_, ?_, ?_, ?_, ?_⟩
 ·exact ((((Boxed.new w 9 (.string (ba t))).alloc _).alloc _).alloc _).alloc _
 ·have := Boxed.new (w.alloc (.cells #[.string (ba t)] 9)) 25 (.int .i64 0)
  simp only [World.size_alloc] at this
  exact ((this.alloc _).alloc _).alloc _
 ·have := Boxed.new ((w.alloc (.cells #[.string (ba t)] 9)).alloc (.cells #[.int .i64 0] 25)) 3 (.int .i64 0)
  simp only [World.size_alloc] at this
  exact (this.alloc _).alloc _
 ·have := World.alloc_heap_new (((w.alloc (.cells #[.string (ba t)] 9)).alloc (.cells #[.int .i64 0] 25)).alloc (.cells #[.int .i64 0] 3)) (.cells #[.pointer none, .slice none 0 0] 86)
  simp only [World.size_alloc] at this
  exact (Below.heap_alloc _ _ _ (by simp <;> omega)).trans this
 ·have := Boxed.new ((((w.alloc (.cells #[.string (ba t)] 9)).alloc (.cells #[.int .i64 0] 25)).alloc (.cells #[.int .i64 0] 3)).alloc (.cells #[.pointer none, .slice none 0 0] 86)) 3 (.int .i64 0)
  simp only [World.size_alloc] at this
  exact this
set_option maxRecDepth 100000 in
set_option maxHeartbeats 0 in
theorem vl_leaves (t : List UInt8) (w W1 : World) (p : Int × Nat) (hpe : p.1 ≠ 0) (hlr : veilR t = ([], p.1, p.2)) (z3 : Boxed W1 (w.heap.size + 1) 25 (.int .i64 0)) (z4 : Boxed W1 (w.heap.size + 1 + 1) 3 (.int .i64 0)) (zb : Below w.heap.size w W1) (a0 a1 a5 a6 a7 a8 a9 a10 a11 a12 a13 a14 a15 a16 a17 a18 a19 a20 a21 a22 a23 a24 a25 a26 a27 a28 a29 a30 a31 a32 a33 a34 a35 a36 a37 a38 a39 a40 : Value) :
  LeavesInM Fence.wide 6 Tryd.prog Tryd.f24 #[a0, a1, .string ⟨#[]⟩, .pointer (some ⟨w.heap.size + 1, 0, none⟩), .pointer (some ⟨w.heap.size + 1 + 1, 0, none⟩), a5, a6, a7, a8, a9, a10, a11, a12, a13, a14, a15, a16, a17, a18, a19, a20, a21, a22, a23, a24, a25, a26, a27, a28, a29, a30, a31, a32, a33, a34, a35, a36, a37, a38, a39, a40] (VeilOut t w)
   [{ target := .fn (.func 28) #[], args := #[.pointer (some ⟨w.heap.size + 1, 0, none⟩), .pointer (some ⟨w.heap.size + 1 + 1, 0, none⟩)] }] (.panicking (failC p)) W1 := by
 refine leaves_caught (by decide) p z3 z4 (by omega) ?_
 intro W2 y3 y4 hc
 have yb : Below w.heap.size w W2 := zb.trans (hc.below (zb.size) (by rintro i (h | h) <;> omega))
 have x3 := y3.cell
 have x4 := y4.cell
 simp [LeavesInM, LeavesIn, settle, results, Tryd.results24, go_sem, x3, x4]
 exact ⟨by rw [hlr]; rfl, yb⟩
set_option maxRecDepth 100000 in
set_option maxHeartbeats 0 in
theorem vl_over (t : List UInt8) (ht : ¬ t.length ≤ 1048576) (w : World) : CallsIn Fence.wide 6 Tryd.prog 24 #[.string (ba t)] w (VeilOut t w) := by
 have hFw : Fence.wide.fn 29 := trivial
 have h16 : 1 ≤ 6 := by decide
 have hlr : veilR t = ([], 2, 0) := by unfold veilR; rw [if_pos (by omega)]
 have HLR := Aside0.mk hlr
 have HW := Aside0.mk (whole_fails t ht (wV t w))
 have HB := Aside0.mk (wV_below t w)
 have HBL := Aside0.mk (wV_blocks t w)
 clear hlr
 refine callsIn_of_wp_marks Tryd.func24 rfl trivial ?_ rfl
 simp only [Tryd.ntmps24, List.size_toArray, List.length_cons, List.length_nil, Nat.reduceAdd, Nat.reduceSub, Array.replicate_succ, Array.replicate_zero, List.push_toArray, List.append_toArray, List.nil_append, List.cons_append]
 gi_wp2_with (gi_at_call 29; refine (callsIn_wide.2 HW.out).mono ?_; rintro e w1 ⟨rfl, rfl⟩)
 exact vl_leaves t w (wV t w) (2, 0) (by decide) HLR.out HBL.out.2.1 HBL.out.2.2.1 HB.out _ _ _ _ _ _ _ _ _ _ _ _ _ _ _ _ _ _ _ _ _ _ _ _ _ _ _ _ _ _ _ _ _ _ _ _ _ _
set_option maxRecDepth 100000 in
set_option maxHeartbeats 0 in
theorem vl_run (t : List UInt8) (ht : t.length ≤ 1048576) (w : World) (hG : LaidG w) : CallsIn Fence.wide 6 Tryd.prog 24 #[.string (ba t)] w (VeilOut t w) := by
 have hFw : Fence.wide.fn 29 := trivial
 have hF1 : Fence.wide.fn 41 := trivial
 have hF2 : Fence.wide.fn 46 := trivial
 have hF3 : Fence.wide.fn 48 := trivial
 have hF4 : Fence.wide.fn 43 := trivial
 have h16 : 1 ≤ 6 := by decide
 have hsz := ba_size t
 have hu := Tryd.underlying70
 have hle := items_le false (t.length + 1) t 0 0
 have herr := items_err false (t.length + 1) t 0 0
 have hpos := items_mem false (t.length + 1) t 0 0
 have hord := items_order false (t.length + 1) t 0 0
 have hseq := items_in 5 (by decide) (wV t w).heap.size ((wV t w).heap.size + 2) ((wV t w).heap.size + 1) t (by omega) false 0 (by decide) (by decide) (by omega) (by omega) (fun _ => none) (fun y hy h => absurd rfl h)
 have hlr : veilR t = (match (itemsL false (t.length + 1) t 0 0).2 with
  | none => ((veilP t (itemsL false (t.length + 1) t 0 0).1).1 ++ t.drop (veilP t (itemsL false (t.length + 1) t 0 0).1).2, 0, 0)
  | some p => ([], p.1, p.2)) := by
  unfold veilR
  rw [if_neg (by omega)]
  rfl
 generalize hxs : (itemsL false (t.length + 1) t 0 0).1 = xs at hseq hle hpos hlr hord
 generalize hst : (itemsL false (t.length + 1) t 0 0).2 = st at hseq herr hlr
 clear hxs hst
 have hsX := wV_size t w
 have hsB := wBox_size t 0 false (wV t w)
 have hTH := fun (W : World) (hb : Below ((wV t w).heap.size + 3) (wBox t 0 false (wV t w)) W) => wBox_there t 0 false (wV t w) hb
 have hbB := wBox_below t 0 false (wV t w)
 rw [hsX] at hseq hsB hTH hbB
 have hvl := fun (pre : List (Nat × Itm)) (h : pre.length ≤ 1048577) => (show (veilP t pre).1.length ≤ 2199025352704 from by
  have h1 : (veilP t pre).1.length ≤ 0 + pre.length * (2 * t.length) := veil_len t pre ([], 0)
  have h2 : pre.length * (2 * t.length) ≤ 1048577 * (2 * 1048576) := Nat.mul_le_mul h (by omega)
  omega)
 have HVL := Aside0.mk hvl
 have HLR := Aside0.mk hlr
 have HLE := Aside0.mk hle
 have HER := Aside0.mk herr
 have HPO := Aside0.mk hpos
 have HOR := Aside0.mk hord
 have HSQ := Aside0.mk hseq
 have HTL := Aside0.mk ht
 have HSB := Aside0.mk hsB
 have HTH := Aside0.mk hTH
 have HG := Aside0.mk hG
 have HST : Aside0 (VeilI t w (veilP t []).2 (veilP t []).1 (fun i => i = w.heap.size + 5 ∨ i = w.heap.size + 5 + 2 ∨ i = w.heap.size + 5 + 1) (wBox t 0 false (wV t w))) := by
  obtain ⟨b0, b1, b2, b3, b4⟩ := wV_blocks t w
  refine ⟨⟨(wV_below t w).trans (hbB.mono (by omega)), by omega, ?_, ⟨.pointer none, .slice none 0 0, ⟨(hbB.block _ (by omega)).trans b3, .inl rfl, World.ownsRow_nil _ _ _ _⟩, fun g e => by cases e⟩, fun i hi => by omega, fun i hi => by omega⟩⟩
  intro p hp
  unfold fixV at hp
  simp only [List.mem_cons, List.not_mem_nil, or_false] at hp
  rcases hp with rfl | rfl | rfl | rfl
  ·exact (hbB.block _ (by dsimp only; omega)).trans b0
  ·exact (hbB.block _ (by dsimp only; omega)).trans b1
  ·exact (hbB.block _ (by dsimp only; omega)).trans b2
  ·exact (hbB.block _ (by dsimp only; omega)).trans b4
 have HUT : Aside0 (∀ W, Below w.heap.size w W → Lib.Utf8Tabs 1 2 W) := ⟨fun W hb => Utf8Tabs_below hG.2.2 hb⟩
 clear hlr hle herr hpos hord hseq hsB hTH hG hsX hbB ht hvl
 refine callsIn_of_wp_marks Tryd.func24 rfl trivial ?_ rfl
 simp only [Tryd.ntmps24, List.size_toArray, List.length_cons, List.length_nil, Nat.reduceAdd, Nat.reduceSub, Array.replicate_succ, Array.replicate_zero, List.push_toArray, List.append_toArray, List.nil_append, List.cons_append]
 gi_wp2_with (gi_at_call 29; refine (callsIn_wide.2 (whole_calls t HTL.out _)).mono ?_; rintro e w1 ⟨rfl, rfl⟩)
 change Code.wpIn _ _ _ _ _ _ (wBox t 0 false (wV t w))
 refine range_seq rfl h16 (gf := 55) (lb := #[.pointer (some ⟨w.heap.size + 5, 0, none⟩), .pointer (some ⟨w.heap.size + 5 + 2, 0, none⟩), .pointer (some ⟨w.heap.size + 5 + 1, 0, none⟩)]) rfl trivial (enters_of Tryd.func55 (by kernel_rfl) rfl) HSQ.out rfl
  (fun pre G W => VeilI t w (veilP t pre).2 (veilP t pre).1 G W)
  (fun W hb => by rw [HSB.out] at hb; exact HTH.out W hb) (fun i hi => by rw [HSB.out]; omega) (by exact HST.out) (fun pre G W h => HG.out.keep W h.below) (fun pre G G' W1 W2 h hc hg => h.step hc hg)
  (fun x W => { tmps := #[.string (ba t), .pointer (some ⟨w.heap.size, 0, none⟩), .string ⟨#[]⟩, .pointer (some ⟨w.heap.size + 1, 0, none⟩), .pointer (some ⟨w.heap.size + 1 + 1, 0, none⟩), .pointer (some ⟨w.heap.size + 1 + 1 + 1, 0, none⟩), .pointer (some ⟨w.heap.size + 1 + 1 + 1 + 1, 0, none⟩), .pointer (some ⟨W.heap.size, 0, none⟩), .string (ba t), itemF (w.heap.size + 1 + 1 + 1 + 1 + 1), encI x, undef, undef, undef, undef, undef, undef, undef, undef, undef, undef, undef, undef, undef, undef, undef, undef, undef, undef, undef, undef, undef, undef, undef, undef, undef, undef, undef, undef, undef, undef], defers := [] })
  (fun x W => W.alloc (.cells #[.int .i64 x.2.kind, .string (ba x.2.text), .int .i64 x.2.n, .int .i64 x.1, .int .i64 ((x.1 + x.2.len : Nat) : Int), .int .i64 x.2.e, .bool x.2.sure] 70)) (fun x W => (Below.refl _ _).alloc (Nat.le_refl _) _) ?assign ?body ?done ?stop
 case assign =>
  intro l x W K hK
  unfold encI itemV at hK ⊢
  gi_wp2
  exact hK
 case body =>
  rintro l pre x G W W' ⟨tl, hx⟩ hpre hW hl hwl hI
  have hxb : ∀ i, W'.cell? ⟨W.heap.size, i, none⟩ = (W.alloc (.cells #[.int .i64 x.2.kind, .string (ba x.2.text), .int .i64 x.2.n, .int .i64 x.1, .int .i64 ((x.1 + x.2.len : Nat) : Int), .int .i64 x.2.e, .bool x.2.sure] 70)).cell? ⟨W.heap.size, i, none⟩ := fun i => World.cell?_of_block (a := ⟨W.heap.size, i, none⟩) (hW _ (by show W.heap.size ≠ l; omega))
  have c0 := (hxb 0).trans (by simp [go_sem] : _ = some (.int .i64 x.2.kind))
  have hsn := veil_snoc t pre x
  by_cases hkz : x.2.kind = 0
  ·have hxl : W.heap.size < W'.heap.size := World.block_lt_of_cell? W' _ c0
   have HXO := Aside0.mk ((hW W.heap.size (by omega)).trans (World.alloc_heap_new W _))
   have HXL := Aside0.mk hxl
   have HWL : Aside0 (w.heap.size + 8 ≤ W.heap.size) := ⟨by rw [HSB.out] at hwl; omega⟩
   have hpl : pre.length ≤ 1048577 := by
    have h2 := HLE.out
    have h3 : pre.length ≤ xs.length := by rw [← hx]; simp
    have h4 := HTL.out
    omega
   have hord := HOR.out
   rw [← hx] at hord
   have hpx : (veilP t pre).2 ≤ x.1 := veil_end t pre ([], 0) x.1 (Nat.zero_le _) fun y hy => (List.pairwise_append.1 hord).2.2 y hy x List.mem_cons_self
   have hxp := HPO.out x (by rw [← hx]; simp)
   rw [show veilA t (veilP t pre) x = _ from if_pos hkz] at hsn
   have c3 := (hxb 3).trans (by simp [go_sem] : _ = some (.int .i64 x.1))
   have c4 := (hxb 4).trans (by simp [go_sem] : _ = some (.int .i64 ((x.1 : Int) + (x.2.len : Int))))
   have q1 : (x.2.kind == 0) = true := by rw [hkz]; rfl
   have q2 : (x.2.kind != 0) = false := by rw [hkz]; rfl
   have q3 : decide (x.2.kind = 0) = true := decide_eq_true hkz
   have hx3 : x.1 + x.2.len ≤ t.length := by have := hxp.2.2.1; omega
   have hbl := HVL.out pre hpl
   generalize hfe : (veilP t pre).2 = f at hI hpx hsn
   generalize hbe : (veilP t pre).1 = bs at hI hsn hbl
   have HSN := Aside0.mk hsn
   have ct : Boxed W' w.heap.size 9 (.string (ba t)) := hI.same (w.heap.size, _) (by unfold fixV; simp)
   have cf : Boxed W' (w.heap.size + 1 + 1 + 1 + 1) 3 (.int .i64 (f : Int)) := hI.same (w.heap.size + 1 + 1 + 1 + 1, _) (by unfold fixV; simp)
   have ctc := ct.cell
   have cfc := cf.cell
   obtain ⟨p0, v0, hb0, hng0⟩ := hI.bld
   have HI := Aside0.mk hI
   have HB0 := Aside0.mk hb0
   have HBL := Aside0.mk hbl
   obtain ⟨t1, ht1⟩ : ∃ t1, t1 = (t.take x.1).drop f := ⟨_, rfl⟩
   obtain ⟨t2, ht2⟩ : ∃ t2, t2 = (t.take (x.1 + x.2.len)).drop x.1 := ⟨_, rfl⟩
   have htl := HTL.out
   have hl1 : t1.length ≤ 1048576 := by rw [ht1, List.length_drop, List.length_take]; omega
   have hl2 : t2.length ≤ 1048576 := by rw [ht2, List.length_drop, List.length_take]; omega
   have HWS := Aside0.mk (ws_calls hb0 (by omega) hI.size (ba t1) (by rw [Lib.byteCells_length, ba_size]; omega))
   have HSA : Aside0 ((t.drop f).take (x.1 - f) = t1) := ⟨by rw [ht1, List.drop_take]⟩
   have HSB2 : Aside0 ((t.drop x.1).take x.2.len = t2) := ⟨by rw [ht2, List.drop_take]; congr 1; omega⟩
   have HL1 := Aside0.mk hl1
   have HL2 := Aside0.mk hl2
   have HNX : Aside0 (∀ {u : Value} {k : Nat} {cs : List Value} {W2 : World}, W2.heap[W.heap.size]? = W'.heap[W.heap.size]? → W2.ownsRow (w.heap.size + 8) 5 1 u k cs → ¬ u.ownBlock = some W.heap.size) := ⟨fun {u k cs W2} hsm hr e => by
    rcases hr.2 with ⟨h4, _⟩ | ⟨g, cap, cur, h4, _, hgb, _⟩
    ·rw [h4] at e
     cases e
    ·rw [h4] at e
     have hg : g = W.heap.size := Option.some.inj e
     rw [hg, hsm, HXO.out] at hgb
     exact absurd hgb (by simp)⟩
   have j1 : (0 : Int) ≤ (f : Int) := by omega
   have j2 : (f : Int) ≤ (x.1 : Int) := by omega
   have j3 : (x.1 : Int) ≤ (t.length : Int) := by omega
   have j4 : (x.1 : Int) ≤ (x.1 : Int) + (x.2.len : Int) := by omega
   have j5 : (x.1 : Int) + (x.2.len : Int) ≤ (t.length : Int) := by omega
   have j6 : f ≤ x.1 := hpx
   have j7 : x.1 ≤ t.length := by omega
   have j8 : x.1 + x.2.len ≤ t.length := hx3
   have kt1 : (ba t).extract f x.1 = ba t1 := by rw [ht1]; exact ba_extract t f x.1
   have kt2 : (ba t).extract x.1 (x.1 + x.2.len) = ba t2 := by rw [ht2]; exact ba_extract t x.1 _
   clear hxb hsn hkz hx hW hI hxl hord hxp hbl hfe hbe hng0 hb0 ct cf hpx hx3 ht1 ht2 hl1 hl2 htl
   gi_upto_region 8 with (gi_at_call 41; refine (callsIn_wide.2 HWS.out).mono ?_; rintro e w2 ⟨rfl, v2, hb2, hat2, hc2⟩; have HB2 := Aside0.mk hb2; have HAT2 := Aside0.mk hat2; have HC2 := Aside0.mk hc2; clear hb2 hat2 hc2)
   obtain ⟨hI2, hk2⟩ := HI.out.write HB0.out HB2.out HAT2.out HC2.out
   have hwl := HWL.out
   have hxs2 : w2.heap[W.heap.size]? = W'.heap[W.heap.size]? := HC2.out.block _ HXL.out (by
    rintro (h | h)
    ·omega
    ·exact HNX.out rfl HB0.out.row h)
   have hcx : ∀ i, w2.cell? ⟨W.heap.size, i, none⟩ = W'.cell? ⟨W.heap.size, i, none⟩ := fun i => World.cell?_of_block (a := ⟨W.heap.size, i, none⟩) hxs2
   have d3 := (hcx 3).trans c3
   have d4 := (hcx 4).trans c4
   have ct2 : Boxed w2 w.heap.size 9 (.string (ba t)) := hI2.same (w.heap.size, _) (by unfold fixV; simp)
   have ctc2 := ct2.cell
   have hgI := fun (w4 : World) (hb4 : Below w2.heap.size w2 w4) => hI2.grow hb4
   have HGI := Aside0.mk hgI
   have HXS2 := Aside0.mk hxs2
   have hbf : BldAt w2 (w.heap.size + 8) (w.heap.size + 1 + 1 + 1) (.pointer (some ⟨w.heap.size + 1 + 1 + 1, 0, none⟩)) v2 (Lib.byteCells (bs ++ t1)) := by
    have := HB2.out
    rw [str_cells, ← byte_app] at this
    exact this
   have hbg : ∀ w4, Below w2.heap.size w2 w4 → BldAt w4 (w.heap.size + 8) (w.heap.size + 1 + 1 + 1) (.pointer (some ⟨w.heap.size + 1 + 1 + 1, 0, none⟩)) v2 (Lib.byteCells (bs ++ t1)) := fun w4 hb4 => ⟨(hb4.block _ (Array.getElem?_eq_some_iff.1 hbf.blk).1).trans hbf.blk, .inr rfl, ownsRow_block hbf.row fun g e => hb4.block g (hbf.row.lt g e).2⟩
   have HBG := Aside0.mk hbg
   have HMP : Aside0 (∀ w3, Below w2.heap.size w2 w3 → Calls Tryd.prog 46 #[.func (.func 47) #[] #[], .string (ba (t2.map latB))] w3 fun e w' => e = .returned (.string (ba (t2.map veilB))) ∧ Below w3.heap.size w3 w') := ⟨fun w3 hb3 => map_calls t2 HL2.out w3 (HUT.out w3 (HGI.out w3 hb3).1.below)⟩
   have HW4 : Aside0 (∀ w4, Below w2.heap.size w2 w4 → Calls Tryd.prog 41 #[.pointer (some ⟨w.heap.size + 1 + 1 + 1, 0, none⟩), .string (ba (t2.map veilB))] w4 fun e w' => e = .returned (.tuple #[.int .i64 (ba (t2.map veilB)).size, .nilIface]) ∧ ∃ v', BldAt w' (w.heap.size + 8) (w.heap.size + 1 + 1 + 1) (.pointer (some ⟨w.heap.size + 1 + 1 + 1, 0, none⟩)) v' (Lib.byteCells (bs ++ t1) ++ Lib.strCells (ba (t2.map veilB))) ∧
     (v'.ownBlock = v2.ownBlock ∨ ∃ q, v'.ownBlock = some q ∧ w4.heap.size ≤ q) ∧ Chg (fun i => i = w.heap.size + 1 + 1 + 1 ∨ v2.ownBlock = some i) w4 w') := ⟨fun w4 hb4 => ws_calls (HBG.out w4 hb4) (by omega) ((HGI.out w4 hb4).1.size) _ (by
    have h1 := HBL.out
    have h2 := HL1.out
    have h3 := HL2.out
    rw [Lib.byteCells_length, ba_size, List.length_map, List.length_append]
    omega)⟩
   have HK2 := Aside0.mk hk2
   clear hI2 hk2 hxs2 hcx ct2 hgI hbf hbg hwl ctc cfc c3 c4
   gi_upto_region 9 with (first | (gi_at_call 48; refine (callsIn_wide.2 (latin_calls t2 HL2.out _)).mono ?_; rintro e w3 ⟨rfl, hd3⟩; have HD3 := Aside0.mk hd3; clear hd3) | (gi_at_call 46; refine (callsIn_wide.2 (HMP.out _ HD3.out)).mono ?_; rintro e w4 ⟨rfl, hd4⟩; have HD4 := Aside0.mk (HD3.out.trans (hd4.mono HD3.out.size)); clear hd4) | (gi_at_call 41; refine (callsIn_wide.2 (HW4.out _ HD4.out)).mono ?_; rintro e w5 ⟨rfl, v5, hb5, hat5, hc5⟩; have HB5 := Aside0.mk hb5; have HAT5 := Aside0.mk hat5; have HC5 := Aside0.mk hc5; clear hb5 hat5 hc5))
   obtain ⟨hI4, hk4⟩ := HGI.out _ HD4.out
   have hb4 := HBG.out _ HD4.out
   obtain ⟨hI5, hk5⟩ := hI4.write hb4 HB5.out HAT5.out HC5.out
   have hwl := HWL.out
   have hw2 : W.heap.size < w2.heap.size := by have := HC2.out.size; have := HXL.out; omega
   have hx4 := (HD4.out.block W.heap.size hw2).trans HXS2.out
   have hw4 : W.heap.size < w4.heap.size := Nat.lt_of_lt_of_le hw2 HD4.out.size
   have hx5 : w5.heap[W.heap.size]? = W'.heap[W.heap.size]? := (HC5.out.block _ hw4 (by
    rintro (h | h)
    ·omega
    ·exact HNX.out hx4 hb4.row h)).trans hx4
   have e4 : w5.cell? ⟨W.heap.size, 4, none⟩ = some (.int .i64 ((x.1 : Int) + (x.2.len : Int))) := by
    rw [← d4]
    exact World.cell?_of_block (a := ⟨W.heap.size, 4, none⟩) (hx5.trans HXS2.out.symm)
   have cf5 : Boxed w5 (w.heap.size + 1 + 1 + 1 + 1) 3 (.int .i64 (f : Int)) := hI5.same (w.heap.size + 1 + 1 + 1 + 1, _) (by unfold fixV; simp)
   have cfc := cf5.cell
   have cff := cf5.frozen
   have HI5 := Aside0.mk hI5
   have HK5 := Aside0.mk ((HK2.out.trans hk4).trans hk5)
   clear hI4 hk4 hb4 hI5 hk5 hwl hw2 hx4 hw4 hx5 cf5 d3 d4 ctc2
   gi_wp2
   have hput := HI5.out.put (x.1 + x.2.len)
   refine ⟨rfl, HK5.out.trans hput.2, ?_⟩
   show VeilI t w (veilP t (pre ++ [x])).2 (veilP t (pre ++ [x])).1 G _
   rw [HSN.out]
   show VeilI t w (x.1 + x.2.len) (bs ++ (t.drop f).take (x.1 - f) ++ ((t.drop x.1).take x.2.len).map veilB) G _
   rw [HSA.out, HSB2.out]
   exact hput.1
  ·have HR : Aside0 (VeilI t w (veilP t (pre ++ [x])).2 (veilP t (pre ++ [x])).1 G W') := ⟨by rw [hsn, show veilA t (veilP t pre) x = _ from if_neg hkz]; exact hI⟩
   have q1 : (x.2.kind == 0) = false := beq_eq_false_iff_ne.2 hkz
   have q2 : (x.2.kind != 0) = true := bne_iff_ne.2 hkz
   have q3 : decide (x.2.kind = 0) = false := decide_eq_false hkz
   clear hxb hsn hkz hx hW hI
   gi_wp2
   exact ⟨rfl, Kept.refl _ _, HR.out⟩
 case done =>
  rintro D G W hstn hD hI hK
  have hp0 : pend (fun _ : Nat × Itm => (none : Option Nat)) xs = none := pend_none fun _ _ => rfl
  rw [hp0]
  have hstn' : st = none := by cases st with | none => rfl | some p => cases hstn
  have hlr : veilR t = ((veilP t xs).1 ++ t.drop (veilP t xs).2, 0, 0) := by rw [HLR.out, hstn']
  have htl := HTL.out
  have hpl : xs.length ≤ 1048577 := by have := HLE.out; omega
  have hbl := HVL.out xs hpl
  have hfl : (veilP t xs).2 ≤ t.length := veil_end t xs ([], 0) t.length (Nat.zero_le _) fun y hy => by have := (HPO.out y hy).2.2.1; omega
  generalize (veilP t xs).2 = f at hI hlr hfl
  generalize (veilP t xs).1 = bs at hI hlr hbl
  rw [HSB.out] at hD
  obtain ⟨t1, ht1⟩ : ∃ t1, t1 = t.drop f := ⟨_, rfl⟩
  rw [← ht1] at hlr
  have hl1 : t1.length ≤ 1048576 := by rw [ht1, List.length_drop]; omega
  have ct : Boxed W w.heap.size 9 (.string (ba t)) := hI.same (w.heap.size, _) (by unfold fixV; simp)
  have cf : Boxed W (w.heap.size + 1 + 1 + 1 + 1) 3 (.int .i64 (f : Int)) := hI.same (w.heap.size + 1 + 1 + 1 + 1, _) (by unfold fixV; simp)
  have ctc := ct.cell
  have cfc := cf.cell
  obtain ⟨p0, v0, hb0, hng0⟩ := hI.bld
  have HWS := Aside0.mk (ws_calls hb0 (by omega) hI.size (ba t1) (by rw [Lib.byteCells_length, ba_size]; omega))
  have j1 : (0 : Int) ≤ (f : Int) := by omega
  have j2 : (f : Int) ≤ (t.length : Int) := by omega
  have j3 : f ≤ t.length := hfl
  have kt1 : (ba t).extract f t.length = ba t1 := by rw [ht1]; exact ba_tail t f
  have HLR2 := Aside0.mk hlr
  have HI := Aside0.mk hI
  have HB0 := Aside0.mk hb0
  have HK := Aside0.mk hK
  have HD := Aside0.mk hD
  clear hlr htl hpl hbl hfl hI ct cf hb0 hng0 hK hD ht1 hl1
  show Exit.inBlock 0 _ Exit.normal _ _
  gi_upto_region 11 with (gi_at_call 41; refine (callsIn_wide.2 HWS.out).mono ?_; rintro e w2 ⟨rfl, v2, hb2, hat2, hc2⟩; have HB2 := Aside0.mk hb2; have HAT2 := Aside0.mk hat2; have HC2 := Aside0.mk hc2; clear hb2 hat2 hc2)
  obtain ⟨hI2, hk2⟩ := HI.out.write HB0.out HB2.out HAT2.out HC2.out
  have hs := HI.out.size
  have hDn : ∀ {v : Value} {n k : Nat} {cs : List Value} {W2 : World}, W2.heap[D]? = some (.deferred (some [])) → W2.ownsRow n 5 1 v k cs → ¬ v.ownBlock = some D := fun {v n k cs W2} hd hr e => by
   rcases hr.2 with ⟨h4, _⟩ | ⟨g, cap, cur, h4, _, hgb, _⟩
   ·rw [h4] at e
    cases e
   ·rw [h4] at e
    have hg : g = D := Option.some.inj e
    rw [hg, hd] at hgb
    exact absurd hgb (by simp)
  have hd2 : w2.heap[D]? = some (.deferred (some [])) := (HC2.out.block D (Array.getElem?_eq_some_iff.1 HK.out).1 (by
   have := HD.out
   rintro (h | h)
   ·omega
   ·exact hDn HK.out HB0.out.row h)).trans HK.out
  have hbf : BldAt w2 (w.heap.size + 8) (w.heap.size + 1 + 1 + 1) (.pointer (some ⟨w.heap.size + 1 + 1 + 1, 0, none⟩)) v2 (Lib.byteCells (bs ++ t1)) := by
   have := HB2.out
   rw [str_cells, ← byte_app] at this
   exact this
  have hnd : ¬ v2.ownBlock = some D := hDn hd2 hbf.row
  have hlt2 := fun i (e : v2.ownBlock = some i) => hbf.row.lt i e
  have HST2 := Aside0.mk (str_calls hbf (by omega))
  have HI2 := Aside0.mk hI2
  have HD2 := Aside0.mk hd2
  have HND := Aside0.mk hnd
  have HLT := Aside0.mk hlt2
  clear hI2 hk2 hs hDn hd2 hbf hnd hlt2 ctc cfc
  gi_wp2_with (gi_at_call 43; refine (callsIn_wide.2 HST2.out).mono ?_; rintro e w3 ⟨rfl, hc3⟩; have HC3 := Aside0.mk hc3; have c1 := HC3.out.boxed (show Boxed w2 (w.heap.size + 1) 25 (.int .i64 0) from HI2.out.same (w.heap.size + 1, _) (by unfold fixV; simp)) (fun e => by have := (HLT.out _ e).1; omega); have c2 := HC3.out.boxed (show Boxed w2 (w.heap.size + 1 + 1) 3 (.int .i64 0) from HI2.out.same (w.heap.size + 1 + 1, _) (by unfold fixV; simp)) (fun e => by have := (HLT.out _ e).1; omega); have C1 := Aside0.mk c1; have C2 := Aside0.mk c2; have c1c := c1.cell; have c1f := c1.frozen; have c2c := c2.cell; have c2f := c2.frozen; clear hc3 c1 c2)
  show LeavesInM _ _ _ _ _ _ _ _ _
  have hD := HD.out
  have k2 := (Chg.setCell (G := fun i => i = w.heap.size + 1 ∨ i = w.heap.size + 1 + 1) w3 (p := ⟨w.heap.size + 1, 0, none⟩) (.inl rfl) (.int .i64 0)).trans (Chg.setCell (G := fun i => i = w.heap.size + 1 ∨ i = w.heap.size + 1 + 1) _ (p := ⟨w.heap.size + 1 + 1, 0, none⟩) (.inr rfl) (.int .i64 0)) fun i hi => .inl hi
  have z2 := (C1.out.set (.int .i64 0)).other (by omega : w.heap.size + 1 ≠ w.heap.size + 1 + 1) (.int .i64 0)
  have z3 := (C2.out.other (by omega : w.heap.size + 1 + 1 ≠ w.heap.size + 1) (.int .i64 0)).set (.int .i64 0)
  generalize (w3.setCell ⟨w.heap.size + 1, 0, none⟩ (.int .i64 0)).setCell ⟨w.heap.size + 1 + 1, 0, none⟩ (.int .i64 0) = W3 at k2 z2 z3 ⊢
  have zb3 : Below w.heap.size w w3 := HI2.out.below.trans (HC3.out.below HI2.out.below.size fun i e => by have := (HLT.out i e).1; omega)
  have zb : Below w.heap.size w W3 := zb3.trans (k2.below zb3.size (by rintro i (h | h) <;> omega))
  have zD := k2.obj (HC3.out.obj HD2.out HND.out) (by rintro (h | h) <;> omega)
  refine leaves_mark (by simp) zD ?_
  intro W4 hc4
  have y2 := hc4.boxed z2 (by omega)
  have y3 := hc4.boxed z3 (by omega)
  have yb : Below w.heap.size w W4 := zb.trans (hc4.below zb.size (by omega))
  refine leaves_idle (by decide) _ _ ?_
  have d2 := y2.cell
  have d3 := y3.cell
  simp [LeavesInM, LeavesIn, settle, results, Tryd.results24, go_sem, d2, d3]
  exact ⟨by rw [HLR2.out]; rfl, yb⟩
 case stop =>
  rintro D G W ch hch hD hI hK
  obtain ⟨p, rfl, rfl⟩ : ∃ p, st = some p ∧ ch = failC p := by
   cases st with
   | none => cases hch
   | some p => cases hch; exact ⟨p, rfl, rfl⟩
  have hpe := HER.out p rfl
  have hlr : veilR t = ([], p.1, p.2) := by rw [HLR.out]
  rw [HSB.out] at hD
  show LeavesInM _ _ _ _ _ _ _ _ _
  refine leaves_mark (by simp) hK ?_
  intro W4 hc4
  have hs := hI.size
  exact vl_leaves t w W4 p hpe hlr (hc4.obj (hI.same (w.heap.size + 1, _) (by unfold fixV; simp)) (by omega)) (hc4.obj (hI.same (w.heap.size + 1 + 1, _) (by unfold fixV; simp)) (by omega)) (hI.below.trans (hc4.below hI.below.size (by omega))) _ _ _ _ _ _ _ _ _ _ _ _ _ _ _ _ _ _ _ _ _ _ _ _ _ _ _ _ _ _ _ _ _ _ _ _ _ _
theorem vl_calls (t : List UInt8) (w : World) (hG : LaidG w) : Calls Tryd.prog 24 #[.string (ba t)] w (VeilOut t w) := by
 by_cases ht : t.length ≤ 1048576
 ·exact callsIn_wide.1 (vl_run t ht w hG)
 ·exact callsIn_wide.1 (vl_over t ht w)
end Go.Proofs.YtniihjhlkpjnoaaDoor.Given