/- Package lex: the contract of Lex. -/
import Derived.Test.YtniihjhlkpjnoaaDoorJ9
set_option linter.unusedVariables false
set_option linter.unusedSimpArgs false
namespace Go.Proofs.YtniihjhlkpjnoaaDoor.Given
open Go.RowKit Go.Shelf Go.Proofs.YtniihjhlkpjnoaaDoor.PT Go.Proofs.YtniihjhlkpjnoaaDoorW.PrintWords Go.Proofs.YtniihjhlkpjnoaaDoorW.PrintLast Go.Proofs.YtniihjhlkpjnoaaDoorW.PrintMore
attribute [local go_sem] Oper.semAt_some
def tokCs (d : Nat) (p : Nat × Itm) : List Value := [.int .i64 p.2.kind, .string (ba p.2.text), .int .i64 p.2.n, .int .i64 ((p.1 + d : Nat) : Int), .int .i64 ((p.1 + p.2.len + d : Nat) : Int)]
def wX (w : World) : World := ((w.alloc (.cells #[.slice none 0 0] 24)).alloc (.cells #[.int .i64 0] 25)).alloc (.cells #[.int .i64 0] 3)
theorem wX_size (w : World) : (wX w).heap.size = w.heap.size + 3 := by simp [wX]
theorem wX_below (w : World) : Below w.heap.size w (wX w) := (((Below.refl _ _).alloc (Nat.le_refl _) _).alloc (by simp) _).alloc (by simp; omega) _
structure LexI (w : World) (pre : List (Nat × Itm)) (G : Nat → Prop) (W : World) : Prop where
 below : Below w.heap.size w W
 size : w.heap.size + 6 ≤ W.heap.size
 x3 : Boxed W (w.heap.size + 1) 25 (.int .i64 0)
 x4 : Boxed W (w.heap.size + 1 + 1) 3 (.int .i64 0)
 row : ∃ v, Boxed W w.heap.size 24 v ∧ W.ownsRow (w.heap.size + 6) 42 5 v (toksL pre).length ((toksL pre).flatMap (tokCs 0)) ∧ ∀ g, v.ownBlock = some g → ¬ G g
 gl : ∀ i, G i → w.heap.size + 3 ≤ i
 gh : ∀ i, G i → i < W.heap.size
theorem LexI.step {w : World} {pre : List (Nat × Itm)} {G G' : Nat → Prop} {W1 W2 : World} (h : LexI w pre G W1) (hc : Chg G W1 W2) (hg : ∀ i, G' i → G i ∨ (W1.heap.size ≤ i ∧ i < W2.heap.size)) : LexI w pre G' W2 := by
 obtain ⟨hb, hs, x3, x4, ⟨v, hv, hr, hng⟩, gl, gh⟩ := h
 have same : ∀ i, i < w.heap.size + 3 → W2.heap[i]? = W1.heap[i]? := fun i hi => hc.block i (by omega) fun g => by have := gl i g; omega
 refine ⟨hb.trans ⟨hc.os, hc.tape, hc.output, hc.size, fun i hi => same i (by omega)⟩, Nat.le_trans hs hc.size, (same _ (by omega)).trans x3, (same _ (by omega)).trans x4, ⟨v, (same _ (by omega)).trans hv, ?_, ?_⟩, ?_, fun i h2 => (hg i h2).elim (fun h3 => Nat.lt_of_lt_of_le (gh i h3) hc.size) fun h3 => h3.2⟩
 ·exact ownsRow_block hr fun g e => hc.block g (hr.lt g e).2 (hng g e)
 ·exact fun g e h2 => (hg g h2).elim (hng g e) fun h3 => by have := (hr.lt g e).2; omega
 ·exact fun i h2 => (hg i h2).elim (gl i) fun h3 => by omega
theorem LexI.start (t : List UInt8) (w : World) : LexI w [] (fun i => i = w.heap.size + 3 ∨ i = w.heap.size + 5 ∨ i = w.heap.size + 4) (wBox t 0 false (wX w)) := by
 have hsx := wX_size w
 have hb := wBox_below t 0 false (wX w)
 have hz := wBox_size t 0 false (wX w)
 rw [hsx] at hb hz
 refine ⟨(wX_below w).trans (hb.mono (by omega)), by omega, ?_, ?_, ⟨.slice none 0 0, ?_, World.ownsRow_nil _ _ _ _, fun g e => by cases e⟩, fun i hi => by omega, fun i hi => by omega⟩
 ·refine (hb.block _ (by omega)).trans ?_
  have := Boxed.new (w.alloc (.cells #[.slice none 0 0] 24)) 25 (.int .i64 0)
  simp only [World.size_alloc] at this
  exact this.alloc _
 ·refine (hb.block _ (by omega)).trans ?_
  have := Boxed.new ((w.alloc (.cells #[.slice none 0 0] 24)).alloc (.cells #[.int .i64 0] 25)) 3 (.int .i64 0)
  simp only [World.size_alloc] at this
  exact this
 ·refine (hb.block _ (by omega)).trans ?_
  exact ((Boxed.new w 24 (.slice none 0 0)).alloc _).alloc _
theorem infoT : (Tryd.prog.info? 42).map (fun i => (i.zero, i.size, i.bytes)) = some (some (.agg #[.int .i64 0, .string ⟨#[]⟩, .int .i64 0, .int .i64 0, .int .i64 0]), 5, 48) := by kernel_rfl
set_option maxRecDepth 100000 in
theorem lex1_ok (n be bl : Nat) (u : FrameMode) (w : World) (h1 : w.cell? ⟨be, 0, none⟩ = some (.int .i64 0)) :
  CallsDIn Fence.wide n Tryd.prog 27 #[.pointer (some ⟨be, 0, none⟩), .pointer (some ⟨bl, 0, none⟩)] u w fun e u' w' => u' = u ∧ (e = .returned (.tuple #[]) ∧ w' = w) := by
 refine callsDIn_of_wp Tryd.func27 rfl trivial ?_ rfl
 simp only [Tryd.ntmps27, List.size_toArray, List.length_cons, List.length_nil, Nat.reduceAdd, Nat.reduceSub, Array.replicate_succ, Array.replicate_zero, List.push_toArray, List.append_toArray, List.nil_append, List.cons_append]
 gi_wp2
 exact bodyPost_end (results_none rfl _ _ _) rfl ⟨rfl, rfl⟩
set_option maxRecDepth 100000 in
theorem lex1_err (n be bl : Nat) (u : FrameMode) (e0 : Int) (he : e0 ≠ 0) (v : Value) (w : World) (h1 : w.cell? ⟨be, 0, none⟩ = some (.int .i64 e0)) (h2 : w.cell? ⟨bl, 0, none⟩ = some v) (h3 : w.frozen? ⟨bl, 0, none⟩ = false) :
  CallsDIn Fence.wide n Tryd.prog 27 #[.pointer (some ⟨be, 0, none⟩), .pointer (some ⟨bl, 0, none⟩)] u w fun e u' w' => u' = u ∧ (e = .returned (.tuple #[]) ∧ w' = w.setCell ⟨bl, 0, none⟩ (.slice none 0 0)) := by
 have q1 : (e0 == 0) = false := beq_eq_false_iff_ne.2 he
 have q2 : (e0 != 0) = true := bne_iff_ne.2 he
 have q3 : decide (e0 = 0) = false := decide_eq_false he
 refine callsDIn_of_wp Tryd.func27 rfl trivial ?_ rfl
 simp only [Tryd.ntmps27, List.size_toArray, List.length_cons, List.length_nil, Nat.reduceAdd, Nat.reduceSub, Array.replicate_succ, Array.replicate_zero, List.push_toArray, List.append_toArray, List.nil_append, List.cons_append]
 gi_wp2
 exact bodyPost_end (results_none rfl _ _ _) rfl ⟨rfl, rfl⟩
def LexOut (t : List UInt8) (w : World) : Ending → World → Prop := fun e w' =>
 ∃ v, e = .returned (.tuple #[v, .int .i64 (lexR t).2.1, .int .i64 (lexR t).2.2]) ∧ w'.ownsRow w.heap.size 42 5 v (lexR t).1.length ((lexR t).1.flatMap (tokCs 0)) ∧ Below w.heap.size w w'
set_option maxRecDepth 100000 in
set_option maxHeartbeats 2000000 in
theorem lex_leaves (t : List UInt8) (w W1 : World) (p : Int × Nat) (hpe : p.1 ≠ 0) (hlr : lexR t = ([], p.1, p.2)) (v : Value) (z0 : Boxed W1 w.heap.size 24 v) (z3 : Boxed W1 (w.heap.size + 1) 25 (.int .i64 0)) (z4 : Boxed W1 (w.heap.size + 1 + 1) 3 (.int .i64 0)) (zb : Below w.heap.size w W1) (a0 a1 a5 a6 a7 a8 a9 a10 a11 a12 a13 a14 a15 a16 a17 a18 a19 : Value) :
  LeavesInM Fence.wide 6 Tryd.prog Tryd.f11 #[a0, a1, .pointer (some ⟨w.heap.size, 0, none⟩), .pointer (some ⟨w.heap.size + 1, 0, none⟩), .pointer (some ⟨w.heap.size + 1 + 1, 0, none⟩), a5, a6, a7, a8, a9, a10, a11, a12, a13, a14, a15, a16, a17, a18, a19] (LexOut t w)
   [{ target := .fn (.func 28) #[], args := #[.pointer (some ⟨w.heap.size + 1, 0, none⟩), .pointer (some ⟨w.heap.size + 1 + 1, 0, none⟩)] }, { target := .fn (.func 27) #[.pointer (some ⟨w.heap.size + 1, 0, none⟩), .pointer (some ⟨w.heap.size, 0, none⟩)], args := #[] }] (.panicking (failC p)) W1 := by
 have zs := z4.lt
 refine ⟨by simp, .inr ⟨fun _ => by decide, .func 28, #[], 28, _, rfl, by simp [go_sem]; rfl, fun _ _ => trivial, ?_⟩⟩
 refine (caught_fails 5 (w.heap.size + 1) (w.heap.size + 1 + 1) p.1 p.2 _ _ W1 z3.cell z4.cell z3.frozen z4.frozen (by omega)).mono ?_
 rintro e u' w'' ⟨rfl, rfl, rfl⟩
 have y0 := ((z0.other (by omega : w.heap.size ≠ w.heap.size + 1) (.int .i64 p.1)).other (by omega : w.heap.size ≠ w.heap.size + 1 + 1) (.int .i64 p.2)).alloc (.cells #[.int .i64 p.1, .int .i64 p.2] 74)
 have y3 := ((z3.set (.int .i64 p.1)).other (by omega : w.heap.size + 1 ≠ w.heap.size + 1 + 1) (.int .i64 p.2)).alloc (.cells #[.int .i64 p.1, .int .i64 p.2] 74)
 have y4 := ((z4.other (by omega : w.heap.size + 1 + 1 ≠ w.heap.size + 1) (.int .i64 p.1)).set (.int .i64 p.2)).alloc (.cells #[.int .i64 p.1, .int .i64 p.2] 74)
 have yb := (((zb.setCell (p := ⟨w.heap.size + 1, 0, none⟩) (by simp) (.int .i64 p.1)).setCell (p := ⟨w.heap.size + 1 + 1, 0, none⟩) (by simp; omega) (.int .i64 p.2)).alloc (by simp [World.setCell]; omega) (.cells #[.int .i64 p.1, .int .i64 p.2] 74)).trans (Drawn0.below ⟨⟨1, rfl⟩⟩ |>.mono (by simp [World.setCell]; omega))
 replace y0 : Boxed (((W1.setCell ⟨w.heap.size + 1, 0, none⟩ (.int .i64 p.1)).setCell ⟨w.heap.size + 1 + 1, 0, none⟩ (.int .i64 p.2)).alloc (.cells #[.int .i64 p.1, .int .i64 p.2] 74)).drew w.heap.size 24 v := y0
 replace y3 : Boxed (((W1.setCell ⟨w.heap.size + 1, 0, none⟩ (.int .i64 p.1)).setCell ⟨w.heap.size + 1 + 1, 0, none⟩ (.int .i64 p.2)).alloc (.cells #[.int .i64 p.1, .int .i64 p.2] 74)).drew (w.heap.size + 1) 25 (.int .i64 p.1) := y3
 replace y4 : Boxed (((W1.setCell ⟨w.heap.size + 1, 0, none⟩ (.int .i64 p.1)).setCell ⟨w.heap.size + 1 + 1, 0, none⟩ (.int .i64 p.2)).alloc (.cells #[.int .i64 p.1, .int .i64 p.2] 74)).drew (w.heap.size + 1 + 1) 3 (.int .i64 p.2) := y4
 replace yb : Below w.heap.size w (((W1.setCell ⟨w.heap.size + 1, 0, none⟩ (.int .i64 p.1)).setCell ⟨w.heap.size + 1 + 1, 0, none⟩ (.int .i64 p.2)).alloc (.cells #[.int .i64 p.1, .int .i64 p.2] 74)).drew := yb
 generalize (((W1.setCell ⟨w.heap.size + 1, 0, none⟩ (.int .i64 p.1)).setCell ⟨w.heap.size + 1 + 1, 0, none⟩ (.int .i64 p.2)).alloc (.cells #[.int .i64 p.1, .int .i64 p.2] 74)).drew = W2 at y0 y3 y4 yb ⊢
 refine ⟨by simp [settle], .inr ⟨fun _ => by decide, .func 27, #[.pointer (some ⟨w.heap.size + 1, 0, none⟩), .pointer (some ⟨w.heap.size, 0, none⟩)], 27, _, rfl, by simp [go_sem]; rfl, fun _ _ => trivial, ?_⟩⟩
 refine (lex1_err 5 _ _ _ p.1 hpe _ W2 y3.cell y0.cell y0.frozen).mono ?_
 rintro e u' w'' ⟨rfl, rfl, rfl⟩
 have x0 := (y0.set (.slice none 0 0)).cell
 have x3 := (y3.other (by omega : w.heap.size + 1 ≠ w.heap.size) (.slice none 0 0)).cell
 have x4 := (y4.other (by omega : w.heap.size + 1 + 1 ≠ w.heap.size) (.slice none 0 0)).cell
 have xb := yb.setCell (p := ⟨w.heap.size, 0, none⟩) (Nat.le_refl _) (.slice none 0 0)
 generalize W2.setCell ⟨w.heap.size, 0, none⟩ (.slice none 0 0) = W5 at x0 x3 x4 xb ⊢
 simp [LeavesInM, LeavesIn, settle, results, Tryd.results11, go_sem, x0, x3, x4]
 exact ⟨_, by rw [hlr], by rw [hlr]; exact World.ownsRow_nil _ _ _ _, xb⟩
set_option maxRecDepth 100000 in
set_option maxHeartbeats 4000000 in
theorem lex_in (t : List UInt8) (ht : t.length ≤ 1048576) (w : World) (hG : LaidG w) : CallsIn Fence.wide 6 Tryd.prog 11 #[.string (ba t)] w (LexOut t w) := by
 obtain ⟨i0, hi, hz0, hz1, hz2⟩ : ∃ i, Tryd.prog.info? 42 = some i ∧ i.zero = some (.agg #[.int .i64 0, .string ⟨#[]⟩, .int .i64 0, .int .i64 0, .int .i64 0]) ∧ i.size = 5 ∧ i.bytes = 48 := by
  obtain ⟨i, hi, he⟩ := Option.map_eq_some_iff.1 infoT
  simp only [Prod.mk.injEq] at he
  exact ⟨i, hi, he⟩
 have HG := Aside0.mk hG
 have hFw : Fence.wide.fn 29 := trivial
 have h16 : 1 ≤ 6 := by decide
 have hu := Tryd.underlying70
 have hut := Tryd.underlying42
 clear hG
 refine callsIn_of_wp_marks Tryd.func11 rfl trivial ?_ rfl
 simp only [Tryd.ntmps11, List.size_toArray, List.length_cons, List.length_nil, Nat.reduceAdd, Nat.reduceSub, Array.replicate_succ, Array.replicate_zero, List.push_toArray, List.append_toArray, List.nil_append, List.cons_append]
 gi_wp2_with (gi_at_call 29; refine (callsIn_wide.2 (whole_calls t ht _)).mono ?_; rintro e w1 ⟨rfl, rfl⟩)
 change Code.wpIn _ _ _ _ _ _ (wBox t 0 false (wX w))
 have hsX := wX_size w
 have hsB := wBox_size t 0 false (wX w)
 have hbX := wX_below w
 have hbB := wBox_below t 0 false (wX w)
 have hseq := items_in 5 (by decide) (wX w).heap.size ((wX w).heap.size + 2) ((wX w).heap.size + 1) t (by omega) false 0 (by decide) (by decide) (by omega) (by omega) (fun _ => none) (fun y hy h => absurd rfl h)
 have hlen := items_le false (t.length + 1) t 0 0
 have herr := items_err false (t.length + 1) t 0 0
 have HLR := Aside0.mk (show lexR t = (match (itemsL false (t.length + 1) t 0 0).2 with | none => (toksL (itemsL false (t.length + 1) t 0 0).1, 0, 0) | some p => ([], p.1, p.2)) from by unfold lexR; rw [if_neg (by omega)]; rfl)
 generalize hxs : (itemsL false (t.length + 1) t 0 0).1 = xs at hseq hlen HLR
 generalize hst : (itemsL false (t.length + 1) t 0 0).2 = st at hseq herr HLR
 rw [hsX] at hseq hsB hbB
 have HTH := Aside0.mk (fun (W : World) (hb : Below ((wX w).heap.size + 3) (wBox t 0 false (wX w)) W) => wBox_there t 0 false (wX w) hb)
 rw [hsX] at HTH
 have HST := Aside0.mk (LexI.start t w)
 have HSB := Aside0.mk hsB
 have HLN := Aside0.mk hlen
 have HER := Aside0.mk herr
 clear hlen herr hbX hbB hxs hst
 refine range_seq rfl h16 (gf := 55) (lb := #[.pointer (some ⟨w.heap.size + 3, 0, none⟩), .pointer (some ⟨w.heap.size + 3 + 2, 0, none⟩), .pointer (some ⟨w.heap.size + 3 + 1, 0, none⟩)]) rfl trivial (enters_of Tryd.func55 (by kernel_rfl) rfl) hseq rfl (LexI w)
  (fun W hb => by rw [HSB.out] at hb; exact HTH.out W hb) (fun i hi => by rw [HSB.out]; omega) (by exact HST.out) (fun pre G W h => HG.out.keep W h.below) (fun pre G G' W1 W2 h hc hg => h.step hc hg)
  (fun x W => { tmps := #[.string (ba t), undef, .pointer (some ⟨w.heap.size, 0, none⟩), .pointer (some ⟨w.heap.size + 1, 0, none⟩), .pointer (some ⟨w.heap.size + 1 + 1, 0, none⟩), .pointer (some ⟨W.heap.size, 0, none⟩), .func (.func 27) #[] #[.pointer (some ⟨w.heap.size + 1, 0, none⟩), .pointer (some ⟨w.heap.size, 0, none⟩)], .string (ba t), itemF (w.heap.size + 1 + 1 + 1), encI x, undef, undef, undef, undef, undef, undef, undef, undef, undef, undef], defers := [] })
  (fun x W => W.alloc (.cells #[.int .i64 x.2.kind, .string (ba x.2.text), .int .i64 x.2.n, .int .i64 x.1, .int .i64 ((x.1 + x.2.len : Nat) : Int), .int .i64 x.2.e, .bool x.2.sure] 70)) (fun x W => (Below.refl _ _).alloc (Nat.le_refl _) _) ?assign ?body ?done ?stop
 case assign =>
  intro l x W K hK
  unfold encI itemV at hK ⊢
  gi_wp2
  exact hK
 case body =>
  rintro l pre x G W W' ⟨tl, hx⟩ hpre hW hl hwl hI
  have hxb : ∀ i, W'.cell? ⟨W.heap.size, i, none⟩ = (W.alloc (.cells #[.int .i64 x.2.kind, .string (ba x.2.text), .int .i64 x.2.n, .int .i64 x.1, .int .i64 ((x.1 + x.2.len : Nat) : Int), .int .i64 x.2.e, .bool x.2.sure] 70)).cell? ⟨W.heap.size, i, none⟩ := fun i => World.cell?_of_block (a := ⟨W.heap.size, i, none⟩) (hW _ (by show W.heap.size ≠ l; omega))
  have c0 := (hxb 0).trans (by simp [go_sem] : _ = some (.int .i64 x.2.kind))
  have c1 := (hxb 1).trans (by simp [go_sem] : _ = some (.string (ba x.2.text)))
  have c2 := (hxb 2).trans (by simp [go_sem] : _ = some (.int .i64 x.2.n))
  have c3 := (hxb 3).trans (by simp [go_sem] : _ = some (.int .i64 x.1))
  have c4 := (hxb 4).trans (by simp [go_sem] : _ = some (.int .i64 ((x.1 : Int) + (x.2.len : Int))))
  have hpl : (toksL pre).length ≤ 1048577 := by
   have h1 := toks_le pre
   have h2 := HLN.out
   have h3 : pre.length ≤ xs.length := by rw [← hx]; simp
   omega
  obtain ⟨hb, hs, x3, x4, ⟨v, hv, hr, hng⟩, gl, gh⟩ := hI
  have cl := hv.cell
  have fl := hv.frozen
  have hsn := toks_snoc pre x
  by_cases hkz : x.2.kind = 0
  ·have HR : Aside0 (LexI w (pre ++ [x]) G W') := ⟨⟨hb, hs, x3, x4, ⟨v, hv, by rw [hsn, if_pos hkz]; exact hr, hng⟩, gl, gh⟩⟩
   have q1 : (x.2.kind == 0) = true := by rw [hkz]; rfl
   have q2 : (x.2.kind != 0) = false := by rw [hkz]; rfl
   have q3 : decide (x.2.kind = 0) = true := decide_eq_true hkz
   clear hxb hsn hkz hx hW hb hs x3 x4 hv hr hng gl gh
   gi_wp2
   exact ⟨rfl, Kept.refl _ _, HR.out⟩
  ·rw [if_neg hkz] at hsn
   have q1 : (x.2.kind == 0) = false := beq_eq_false_iff_ne.2 hkz
   have q2 : (x.2.kind != 0) = true := bne_iff_ne.2 hkz
   have q3 : decide (x.2.kind = 0) = false := decide_eq_false hkz
   have HSN := Aside0.mk hsn
   have HX := Aside0.mk hb
   have HS := Aside0.mk hs
   have H3 := Aside0.mk x3
   have H4 := Aside0.mk x4
   have HV := Aside0.mk hv
   have HRR := Aside0.mk hr
   have HNG := Aside0.mk hng
   have HGL := Aside0.mk gl
   have HGH := Aside0.mk gh
   clear hxb hsn hkz hx hW hb hs x3 x4 hv hr hng gl gh
   have HTC := Aside0.mk (show tokCs 0 x = [.int .i64 x.2.kind, .string (ba x.2.text), .int .i64 x.2.n, .int .i64 x.1, .int .i64 ((x.1 : Int) + (x.2.len : Int))] from rfl)
   gi_wp2_with (gi_at_builtin; refine wpListIn_append_at _ rfl _ _ 24 rfl (w.heap.size + 6) 42 i0 (.agg #[.int .i64 0, .string ⟨#[]⟩, .int .i64 0, .int .i64 0, .int .i64 0]) 5 48 Tryd.underlying24 hi hz0 hz1 hz2 rfl (by decide) _ _ _ rfl (HRR.out.alloc _) ⟨W'.heap.size, 0, none⟩ 1 1 [.int .i64 x.2.kind, .string (ba x.2.text), .int .i64 x.2.n, .int .i64 x.1, .int .i64 ((x.1 : Int) + (x.2.len : Int))] rfl rfl ?c1 ?c2 ?c3 ?c4 ?c5 ?goon)
   case c2 => refine ⟨rfl, rfl, rfl, rfl, rfl⟩
   case c3 => unfold maxLen; omega
   case c4 => omega
   case c5 => have := HS.out; simp; omega
   case goon =>
    intro v' w3 hown' hgrow' hat
    obtain ⟨g', cap', hvv⟩ := ownsRow_succ hown'
    subst hvv
    have HOW := Aside0.mk hown'
    have HGR := Aside0.mk hgrow'
    have hv3 := (HV.out.alloc (.cells #[.int .i64 x.2.kind, .string (ba x.2.text), .int .i64 x.2.n, .int .i64 x.1, .int .i64 ((x.1 : Int) + (x.2.len : Int))] 42)).kept hgrow' (fun e => by have := (HRR.out.lt _ e.symm).1; omega)
    have cl3 := hv3.cell
    have fl3 := hv3.frozen
    have HV3 := Aside0.mk hv3
    have HAT := Aside0.mk hat
    clear hown' hgrow' hv3 hat
    gi_wp2
    have hgs := grownBy_setCell' w3 w.heap.size (.slice (some ⟨g', 0, none⟩) ((toksL pre).length + 1) cap')
    have hz3 := HGR.out.size
    simp only [World.size_alloc] at hz3
    have nr : ∀ k, k < w.heap.size + 6 → some k ≠ v.ownBlock := fun k hk e => by have := (HRR.out.lt k e.symm).1; omega
    have hg6 := (HOW.out.lt g' rfl).1
    have hwg := HS.out
    have kept3 : ∀ i, i < W'.heap.size → some i ≠ v.ownBlock → i ≠ w.heap.size → (w3.setCell ⟨w.heap.size, 0, none⟩ (.slice (some ⟨g', 0, none⟩) ((toksL pre).length + 1) cap')).heap[i]? = W'.heap[i]? := fun i hi hne h0 =>
     ((Below.heap_setCell w3 ⟨w.heap.size, 0, none⟩ _ i h0).trans (HGR.out.block i (by simp; omega) hne)).trans (Below.heap_alloc W' _ i hi)
    refine ⟨rfl, ⟨by simp [World.setCell]; omega, fun i hgi => kept3 i (HGH.out i hgi) (fun e => HNG.out i e.symm hgi) (by have := HGL.out i hgi; omega)⟩, ?_⟩
    refine ⟨?_, by simp [World.setCell]; omega, ?_, ?_, ⟨_, HV3.out.set _, ?_, ?_⟩, HGL.out, fun i hgi => by have := HGH.out i hgi; simp [World.setCell]; omega⟩
    ·exact ((HX.out.alloc (by omega) _).grown HGR.out (by simp; omega) (fun k e => by have := (HRR.out.lt k e).1; omega)).setCell (p := ⟨w.heap.size, 0, none⟩) (Nat.le_refl _) _
    ·exact (kept3 _ (by omega) (nr _ (by omega)) (by omega)).trans H3.out
    ·exact (kept3 _ (by omega) (nr _ (by omega)) (by omega)).trans H4.out
    ·rw [HSN.out, List.length_append, List.flatMap_append, List.flatMap_cons, List.flatMap_nil, List.append_nil, HTC.out]
     exact ownsRow_block HOW.out fun g e => Below.heap_setCell w3 ⟨w.heap.size, 0, none⟩ _ g (by have := (HOW.out.lt g e).1; show g ≠ w.heap.size; omega)
    ·rintro g e hgg
     rcases HAT.out with h | h
     ·exact HNG.out g (h.symm.trans e) hgg
     ·have h2 : (some W'.heap.size.succ.pred : Option Nat) = some W'.heap.size := rfl
      have := HGH.out g hgg
      rw [e] at h
      simp at h
      omega
 case done =>
  rintro D G W hstn hD hI hK
  have hp0 : pend (fun _ : Nat × Itm => (none : Option Nat)) xs = none := pend_none fun _ _ => rfl
  rw [hp0]
  have hK2 := Aside0.mk hK
  have HI := Aside0.mk hI
  have c1 := hI.x3.cell
  have f1 := hI.x3.frozen
  have c2 := hI.x4.cell
  have f2 := hI.x4.frozen
  obtain ⟨v, hv, hr, _⟩ := hI.row
  obtain ⟨A, cp, rfl⟩ := row_form hr
  have c0 := hv.cell
  have f0 := hv.frozen
  have HR := Aside0.mk hr
  have HV := Aside0.mk hv
  have H3 := Aside0.mk hI.x3
  have H4 := Aside0.mk hI.x4
  have hstn' : st = none := by cases st with | none => rfl | some p => cases hstn
  clear hK hI hv hr
  show Exit.inBlock 0 _ Exit.normal _ _
  gi_wp2
  have hlr : lexR t = (toksL xs, 0, 0) := by rw [HLR.out, hstn']
  show LeavesInM _ _ _ _ _ _ _ _ _
  have z0 := (((HV.out.set (.slice A (toksL xs).length cp)).other (by omega : w.heap.size ≠ w.heap.size + 1) (.int .i64 0)).other (by omega : w.heap.size ≠ w.heap.size + 1 + 1) (.int .i64 0))
  have z3 := (((H3.out.other (by omega : w.heap.size + 1 ≠ w.heap.size) (.slice A (toksL xs).length cp)).set (.int .i64 0)).other (by omega : w.heap.size + 1 ≠ w.heap.size + 1 + 1) (.int .i64 0))
  have z4 := (((H4.out.other (by omega : w.heap.size + 1 + 1 ≠ w.heap.size) (.slice A (toksL xs).length cp)).other (by omega : w.heap.size + 1 + 1 ≠ w.heap.size + 1) (.int .i64 0)).set (.int .i64 0))
  have zb := ((HI.out.below.setCell (p := ⟨w.heap.size, 0, none⟩) (Nat.le_refl _) (.slice A (toksL xs).length cp)).setCell (p := ⟨w.heap.size + 1, 0, none⟩) (by simp) (.int .i64 0)).setCell (p := ⟨w.heap.size + 1 + 1, 0, none⟩) (by simp; omega) (.int .i64 0)
  have zo : ∀ i, w.heap.size + 3 ≤ i → (((W.setCell ⟨w.heap.size, 0, none⟩ (.slice A (toksL xs).length cp)).setCell ⟨w.heap.size + 1, 0, none⟩ (.int .i64 0)).setCell ⟨w.heap.size + 1 + 1, 0, none⟩ (.int .i64 0)).heap[i]? = W.heap[i]? := fun i hi => by
   rw [Below.heap_setCell _ ⟨w.heap.size + 1 + 1, 0, none⟩ _ i (by show i ≠ w.heap.size + 1 + 1; omega), Below.heap_setCell _ ⟨w.heap.size + 1, 0, none⟩ _ i (by show i ≠ w.heap.size + 1; omega), Below.heap_setCell _ ⟨w.heap.size, 0, none⟩ _ i (by show i ≠ w.heap.size; omega)]
  generalize ((W.setCell ⟨w.heap.size, 0, none⟩ (.slice A (toksL xs).length cp)).setCell ⟨w.heap.size + 1, 0, none⟩ (.int .i64 0)).setCell ⟨w.heap.size + 1 + 1, 0, none⟩ (.int .i64 0) = W3 at z0 z3 z4 zb zo ⊢
  have zD := (zo D (by rw [HSB.out] at hD; omega)).trans hK2.out
  have zr := ownsRow_block HR.out fun g e => zo g (by have := (HR.out.lt g e).1; omega)
  rw [HSB.out] at hD
  refine ⟨by simp, .inl ⟨D, _, rfl, run_takeDeferred zD, ?_⟩⟩
  have z0' : Boxed (W3.putObj D (.deferred none)) w.heap.size 24 (.slice A (toksL xs).length cp) := (World.putObj_heap_other (by omega)).trans z0
  have z3' : Boxed (W3.putObj D (.deferred none)) (w.heap.size + 1) 25 (.int .i64 0) := (World.putObj_heap_other (by omega)).trans z3
  have z4' : Boxed (W3.putObj D (.deferred none)) (w.heap.size + 1 + 1) 3 (.int .i64 0) := (World.putObj_heap_other (by omega)).trans z4
  have zb' : Below w.heap.size w (W3.putObj D (.deferred none)) := zb.trans ⟨rfl, rfl, rfl, by simp, fun i hi => World.putObj_heap_other (by omega)⟩
  have zr' := ownsRow_putObj zr (.deferred none) zD rfl
  generalize W3.putObj D (.deferred none) = W4 at z0' z3' z4' zb' zr' ⊢
  refine ⟨by simp, .inr ⟨fun _ => by decide, .func 28, #[], 28, _, rfl, by simp [go_sem]; rfl, fun _ _ => trivial, ?_⟩⟩
  refine (caught_idle 5 _ _ W4).mono ?_
  rintro e u' w'' ⟨rfl, rfl, rfl⟩
  refine ⟨by simp [settle], .inr ⟨fun _ => by decide, .func 27, #[.pointer (some ⟨w.heap.size + 1, 0, none⟩), .pointer (some ⟨w.heap.size, 0, none⟩)], 27, _, rfl, by simp [go_sem]; rfl, fun _ _ => trivial, ?_⟩⟩
  refine (lex1_ok 5 _ _ _ W4 z3'.cell).mono ?_
  rintro e u' w'' ⟨rfl, rfl, rfl⟩
  have d0 := z0'.cell
  have d3 := z3'.cell
  have d4 := z4'.cell
  simp [LeavesInM, LeavesIn, settle, results, Tryd.results11, go_sem, d0, d3, d4]
  exact ⟨_, by rw [hlr]; rfl, by rw [hlr]; exact row_base zr' (by omega), zb'⟩
 case stop =>
  rintro D G W ch hch hD hI hK
  obtain ⟨p, rfl, rfl⟩ : ∃ p, st = some p ∧ ch = failC p := by
   cases st with
   | none => cases hch
   | some p => cases hch; exact ⟨p, rfl, rfl⟩
  have hpe := HER.out p rfl
  have hlr : lexR t = ([], p.1, p.2) := by rw [HLR.out]
  rw [HSB.out] at hD
  show LeavesInM _ _ _ _ _ _ _ _ _
  obtain ⟨v, hv, hr, _⟩ := hI.row
  refine ⟨by simp, .inl ⟨D, _, rfl, run_takeDeferred hK, ?_⟩⟩
  have z0 : Boxed (W.putObj D (.deferred none)) w.heap.size 24 v := (World.putObj_heap_other (by omega)).trans hv
  have z3 : Boxed (W.putObj D (.deferred none)) (w.heap.size + 1) 25 (.int .i64 0) := (World.putObj_heap_other (by omega)).trans hI.x3
  have z4 : Boxed (W.putObj D (.deferred none)) (w.heap.size + 1 + 1) 3 (.int .i64 0) := (World.putObj_heap_other (by omega)).trans hI.x4
  have zb : Below w.heap.size w (W.putObj D (.deferred none)) := hI.below.trans ⟨rfl, rfl, rfl, by simp, fun i hi => World.putObj_heap_other (by omega)⟩
  generalize W.putObj D (.deferred none) = W1 at z0 z3 z4 zb ⊢
  exact lex_leaves t w W1 p hpe hlr v z0 z3 z4 zb _ _ _ _ _ _ _ _ _ _ _ _ _ _ _ _ _
set_option maxRecDepth 100000 in
set_option maxHeartbeats 2000000 in
theorem lex_over (t : List UInt8) (ht : ¬ t.length ≤ 1048576) (w : World) : CallsIn Fence.wide 6 Tryd.prog 11 #[.string (ba t)] w (LexOut t w) := by
 have hFw : Fence.wide.fn 29 := trivial
 have hlr : lexR t = ([], 2, 0) := by unfold lexR; rw [if_pos (by omega)]
 have HLR := Aside0.mk hlr
 have HW := Aside0.mk (whole_fails t ht (wX w))
 clear hlr
 refine callsIn_of_wp_marks Tryd.func11 rfl trivial ?_ rfl
 simp only [Tryd.ntmps11, List.size_toArray, List.length_cons, List.length_nil, Nat.reduceAdd, Nat.reduceSub, Array.replicate_succ, Array.replicate_zero, List.push_toArray, List.append_toArray, List.nil_append, List.cons_append]
 gi_wp2_with (gi_at_call 29; refine (callsIn_wide.2 HW.out).mono ?_; rintro e w1 ⟨rfl, rfl⟩)
 have hst := LexI.start t w
 have z0 : Boxed (wX w) w.heap.size 24 (.slice none 0 0) := ((Boxed.new w 24 (.slice none 0 0)).alloc _).alloc _
 have z3 : Boxed (wX w) (w.heap.size + 1) 25 (.int .i64 0) := by
  have := Boxed.new (w.alloc (.cells #[.slice none 0 0] 24)) 25 (.int .i64 0)
  simp only [World.size_alloc] at this
  exact this.alloc _
 have z4 : Boxed (wX w) (w.heap.size + 1 + 1) 3 (.int .i64 0) := by
  have := Boxed.new ((w.alloc (.cells #[.slice none 0 0] 24)).alloc (.cells #[.int .i64 0] 25)) 3 (.int .i64 0)
  simp only [World.size_alloc] at this
  exact this
 exact lex_leaves t w (wX w) (2, 0) (by decide) HLR.out _ z0 z3 z4 (wX_below w) _ _ _ _ _ _ _ _ _ _ _ _ _ _ _ _ _
theorem lex_calls (t : List UInt8) (w : World) (hG : LaidG w) : Calls Tryd.prog 11 #[.string (ba t)] w (LexOut t w) := by
 by_cases ht : t.length ≤ 1048576
 ·exact callsIn_wide.1 (lex_in t ht w hG)
 ·exact callsIn_wide.1 (lex_over t ht w)
end Go.Proofs.YtniihjhlkpjnoaaDoor.Given