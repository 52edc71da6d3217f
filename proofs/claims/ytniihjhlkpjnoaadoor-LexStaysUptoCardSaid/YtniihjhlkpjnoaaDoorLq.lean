/- Package lex: the contract of Feed. -/
import Derived.Test.YtniihjhlkpjnoaaDoorLp
import Derived.Deep.RegionHeld3
set_option linter.unusedVariables false
set_option linter.unusedSimpArgs false
namespace Go.Proofs.YtniihjhlkpjnoaaDoor.Given
open Go.RowKit Go.Shelf Go.Proofs.YtniihjhlkpjnoaaDoor.PT Go.Proofs.YtniihjhlkpjnoaaDoorW.PrintWords Go.Proofs.YtniihjhlkpjnoaaDoorW.PrintLast Go.Proofs.YtniihjhlkpjnoaaDoorW.PrintMore
attribute [local go_sem] Oper.semAt_some
attribute [local irreducible] wpOpIn wpAnyHIn
theorem ba_app (a b : List UInt8) : ba a ++ ba b = ba (a ++ b) := by
 apply ByteArray.ext
 simp [ba]
def FeedOut (d : Int) (r : List UInt8) (m : Int) (u : List UInt8) (w : World) : Ending → World → Prop := fun e w' =>
 ∃ v, e = .returned (.tuple #[v, scanV (feedR d r m u).2.1.1 (feedR d r m u).2.1.2.1 (feedR d r m u).2.1.2.2, .int .i64 (feedR d r m u).2.2.1, .int .i64 (feedR d r m u).2.2.2]) ∧ w'.ownsRow w.heap.size 42 5 v (feedR d r m u).1.length ((feedR d r m u).1.flatMap (tokCs d.toNat)) ∧ Below w.heap.size w w'
def wG (d : Int) (r : List UInt8) (m : Int) (w : World) : World := ((((w.alloc (.cells #[.int .i64 d, .string (ba r), .int .i64 m] 29)).alloc (.cells #[.slice none 0 0] 24)).alloc (.cells #[.int .i64 0, .string ⟨#[]⟩, .int .i64 0] 29)).alloc (.cells #[.int .i64 0] 25)).alloc (.cells #[.int .i64 0] 3)
theorem wG_size (d : Int) (r : List UInt8) (m : Int) (w : World) : (wG d r m w).heap.size = w.heap.size + 5 := by simp [wG]
theorem wG_below (d : Int) (r : List UInt8) (m : Int) (w : World) : Below w.heap.size w (wG d r m w) := (((((Below.refl _ _).alloc (Nat.le_refl _) _).alloc (by simp) _).alloc (by simp; omega) _).alloc (by simp; omega) _).alloc (by simp; omega) _
def ScanAt (W : World) (b : Nat) (d : Int) (r : List UInt8) (m : Int) : Prop := W.heap[b]? = some (.cells #[.int .i64 d, .string (ba r), .int .i64 m] 29 (0, 0))
theorem wG_blocks (d : Int) (r : List UInt8) (m : Int) (w : World) : ScanAt (wG d r m w) w.heap.size d r m ∧ Boxed (wG d r m w) (w.heap.size + 1) 24 (.slice none 0 0) ∧ ScanAt (wG d r m w) (w.heap.size + 1 + 1) 0 [] 0 ∧ Boxed (wG d r m w) (w.heap.size + 1 + 1 + 1) 25 (.int .i64 0) ∧ Boxed (wG d r m w) (w.heap.size + 1 + 1 + 1 + 1) 3 (.int .i64 0) := by
 refine ⟨?_, ?_, ?_, ?_, ?_⟩
 ·exact (Below.heap_alloc _ _ _ (by simp; omega)).trans ((Below.heap_alloc _ _ _ (by simp; omega)).trans ((Below.heap_alloc _ _ _ (by simp; omega)).trans ((Below.heap_alloc _ _ _ (by simp)).trans (World.alloc_heap_new w _))))
 ·have := Boxed.new (w.alloc (.cells #[.int .i64 d, .string (ba r), .int .i64 m] 29)) 24 (.slice none 0 0)
  simp only [World.size_alloc] at this
  exact ((this.alloc _).alloc _).alloc _
 ·have := World.alloc_heap_new ((w.alloc (.cells #[.int .i64 d, .string (ba r), .int .i64 m] 29)).alloc (.cells #[.slice none 0 0] 24)) (.cells #[.int .i64 0, .string ⟨#[]⟩, .int .i64 0] 29)
  simp only [World.size_alloc] at this
  exact (Below.heap_alloc _ _ _ (by simp <;> omega)).trans ((Below.heap_alloc _ _ _ (by simp <;> omega)).trans this)
 ·have := Boxed.new (((w.alloc (.cells #[.int .i64 d, .string (ba r), .int .i64 m] 29)).alloc (.cells #[.slice none 0 0] 24)).alloc (.cells #[.int .i64 0, .string ⟨#[]⟩, .int .i64 0] 29)) 25 (.int .i64 0)
  simp only [World.size_alloc] at this
  exact this.alloc _
 ·have := Boxed.new ((((w.alloc (.cells #[.int .i64 d, .string (ba r), .int .i64 m] 29)).alloc (.cells #[.slice none 0 0] 24)).alloc (.cells #[.int .i64 0, .string ⟨#[]⟩, .int .i64 0] 29)).alloc (.cells #[.int .i64 0] 25)) 3 (.int .i64 0)
  simp only [World.size_alloc] at this
  exact this
theorem setCell_obj {W : World} {b : Nat} {xs : Array Value} {t : TypeId} {q : Nat × Nat} (h : W.heap[b]? = some (.cells xs t q)) (i : Nat) (v : Value) : (W.setCell ⟨b, i, none⟩ v).heap[b]? = some (.cells (xs.setIfInBounds i v) t q) := by
 obtain ⟨hlt, hk⟩ := Array.getElem?_eq_some_iff.1 h
 show (W.heap.modify b _)[b]? = _
 rw [Array.getElem?_eq_getElem (by rw [Array.size_modify]; exact hlt), Array.getElem_modify_self, hk]
 rfl
theorem ScanAt.set {W : World} {b : Nat} {d : Int} {r : List UInt8} {m : Int} (h : ScanAt W b d r m) (d' : Int) (r' : List UInt8) (m' : Int) : ScanAt (((W.setCell ⟨b, 0, none⟩ (.int .i64 d')).setCell ⟨b, 1, none⟩ (.string (ba r'))).setCell ⟨b, 2, none⟩ (.int .i64 m')) b d' r' m' := by
 have h1 := setCell_obj h 0 (.int .i64 d')
 have h2 := setCell_obj h1 1 (.string (ba r'))
 exact setCell_obj h2 2 (.int .i64 m')
theorem ScanAt.frozen {W : World} {b : Nat} {d : Int} {r : List UInt8} {m : Int} (h : ScanAt W b d r m) (i : Nat) : W.frozen? ⟨b, i, none⟩ = false := by
 unfold ScanAt at h
 simp [World.frozen?, h]
theorem Chg.three {G : Nat → Prop} (W : World) {b : Nat} (hb : G b) (x y z : Value) : Chg G W (((W.setCell ⟨b, 0, none⟩ x).setCell ⟨b, 1, none⟩ y).setCell ⟨b, 2, none⟩ z) :=
 ((Chg.setCell (p := ⟨b, 0, none⟩) W hb x).trans (Chg.setCell (p := ⟨b, 1, none⟩) _ hb y) fun i hi => .inl hi).trans (Chg.setCell (p := ⟨b, 2, none⟩) _ hb z) fun i hi => .inl hi
theorem fd1_ok (n be bt' bs bl bn : Nat) (u : FrameMode) (w : World) (h1 : w.cell? ⟨be, 0, none⟩ = some (.int .i64 0)) :
  CallsDIn Fence.wide n Tryd.prog 51 #[.pointer (some ⟨be, 0, none⟩), .pointer (some ⟨bt', 0, none⟩), .pointer (some ⟨bs, 0, none⟩), .pointer (some ⟨bl, 0, none⟩), .pointer (some ⟨bn, 0, none⟩)] u w fun e u' w' => u' = u ∧ (e = .returned (.tuple #[]) ∧ w' = w) := by
 refine callsDIn_of_wp Tryd.func51 rfl trivial ?_ rfl
 simp only [Tryd.ntmps51, List.size_toArray, List.length_cons, List.length_nil, Nat.reduceAdd, Nat.reduceSub, Array.replicate_succ, Array.replicate_zero, List.push_toArray, List.append_toArray, List.nil_append, List.cons_append]
 gi_wp2
 exact bodyPost_end (results_none rfl _ _ _) rfl ⟨rfl, rfl⟩
def fd1W (w : World) (bl bn bt' : Nat) (x : Int) : World := (((((w.setCell ⟨bl, 0, none⟩ (.slice none 0 0)).setCell ⟨bn, 0, none⟩ (.int .i64 0)).setCell ⟨bn, 1, none⟩ (.string ⟨#[]⟩)).setCell ⟨bn, 2, none⟩ (.int .i64 0)).setCell ⟨bt', 0, none⟩ (.int .i64 x))
set_option maxRecDepth 100000 in
set_option maxHeartbeats 0 in
theorem fd1_err (n be bt' bs bl bn : Nat) (u : FrameMode) (e0 : Int) (he : e0 ≠ 0) (v : Value) (d a0 : Int) (hd : 0 ≤ d ∧ d ≤ 1048576) (ha : 0 ≤ a0 ∧ a0 ≤ 4611686018427387904) (w : World) (h1 : w.cell? ⟨be, 0, none⟩ = some (.int .i64 e0)) (h2 : w.cell? ⟨bl, 0, none⟩ = some v) (h3 : w.frozen? ⟨bl, 0, none⟩ = false)
  (s0 : w.cell? ⟨bs, 0, none⟩ = some (.int .i64 d)) (t0 : w.cell? ⟨bt', 0, none⟩ = some (.int .i64 a0)) (tf : w.frozen? ⟨bt', 0, none⟩ = false) {d' m' : Int} {r' : List UInt8} (hn : ScanAt w bn d' r' m') (n1 : bl ≠ bn) (n2 : bl ≠ bt') (n3 : bn ≠ bt') :
  CallsDIn Fence.wide n Tryd.prog 51 #[.pointer (some ⟨be, 0, none⟩), .pointer (some ⟨bt', 0, none⟩), .pointer (some ⟨bs, 0, none⟩), .pointer (some ⟨bl, 0, none⟩), .pointer (some ⟨bn, 0, none⟩)] u w fun e u' w' => u' = u ∧ (e = .returned (.tuple #[]) ∧ w' = fd1W w bl bn bt' (a0 + d)) := by
 have q1 : (e0 == 0) = false := beq_eq_false_iff_ne.2 he
 have q2 : (e0 != 0) = true := bne_iff_ne.2 he
 have q3 : decide (e0 = 0) = false := decide_eq_false he
 have hus := Tryd.underlying29
 have m1 : ¬ bn = bl := fun e => n1 e.symm
 have m2 : ¬ bt' = bl := fun e => n2 e.symm
 have m3 : ¬ bt' = bn := fun e => n3 e.symm
 have kw2 : IntKind.i64.wrap (a0 + d) = a0 + d := IntWalk.i64_in _ (by omega)
 obtain ⟨y0, y1, y2⟩ := scan_cells hn
 have yf0 := hn.frozen 0
 have yf1 := hn.frozen 1
 have yf2 := hn.frozen 2
 clear he hn
 refine callsDIn_of_wp Tryd.func51 rfl trivial ?_ rfl
 simp only [Tryd.ntmps51, List.size_toArray, List.length_cons, List.length_nil, Nat.reduceAdd, Nat.reduceSub, Array.replicate_succ, Array.replicate_zero, List.push_toArray, List.append_toArray, List.nil_append, List.cons_append]
 gi_wp2
 exact bodyPost_end (results_none rfl _ _ _) rfl ⟨rfl, rfl⟩
def sureL (xs : List (Nat × Itm)) : List (Nat × Itm) := xs.filter fun x => x.2.sure
def fromL (n : Nat) (xs : List (Nat × Itm)) : Nat := match xs.getLast? with | some x => if x.2.sure = true then n else x.1 | none => n
def brkF (x : Nat × Itm) : Option Nat := if x.2.sure = true then none else some 0
theorem sure_snoc (xs : List (Nat × Itm)) (x : Nat × Itm) : sureL (xs ++ [x]) = if x.2.sure = true then sureL xs ++ [x] else sureL xs := by
 unfold sureL
 rw [List.filter_append]
 by_cases h : x.2.sure = true
 ·rw [if_pos h]; simp [h]
 ·rw [if_neg h]; simp [h]
theorem sure_all (xs : List (Nat × Itm)) (h : ∀ x ∈ xs, x.2.sure = true) : sureL xs = xs := List.filter_eq_self.2 h
theorem from_snoc (n : Nat) (xs : List (Nat × Itm)) (x : Nat × Itm) : fromL n (xs ++ [x]) = if x.2.sure = true then n else x.1 := by simp [fromL]
theorem from_all (n : Nat) (xs : List (Nat × Itm)) (h : ∀ x ∈ xs, x.2.sure = true) : fromL n xs = n := by
 unfold fromL
 cases hl : xs.getLast? with
 | none => rfl
 | some x => simp [h x (List.mem_of_getLast? hl)]
theorem feed_end (t : List UInt8) (m : Int) (hn : (feedL (t.length + 1) t 0 m).2.1 = none) :
  sureL (itemsL true (t.length + 1) t 0 m).1 = (feedL (t.length + 1) t 0 m).1 ∧ fromL t.length (itemsL true (t.length + 1) t 0 m).1 = (feedL (t.length + 1) t 0 m).2.2.1 := by
 obtain ⟨h1, h2, h3, h4, h5, h6⟩ := feed_items (t.length + 1) t 0 m (by omega)
 obtain ⟨h7, h8⟩ := h5 hn
 generalize feedL (t.length + 1) t 0 m = f at h1 h2 h4 h7 h8
 rw [h7]
 unfold lastL
 by_cases hd : t.drop f.2.2.1 = []
 ·rw [if_pos hd, List.append_nil, sure_all _ h2, from_all _ _ h2]
  have := List.drop_eq_nil_iff.1 hd
  exact ⟨rfl, by omega⟩
 ·rw [if_neg hd, sure_snoc, from_snoc, if_neg (by rw [(h8 hd).2]; decide), if_neg (by rw [(h8 hd).2]; decide), sure_all _ h2]
  exact ⟨rfl, by omega⟩
set_option maxRecDepth 100000 in
set_option maxHeartbeats 0 in
theorem fd_leaves (d : Int) (r : List UInt8) (m : Int) (u : List UInt8) (hd : 0 ≤ d ∧ d ≤ 1048576) (w W1 : World) (p : Int × Nat) (hpe : p.1 ≠ 0) (hp2 : p.2 ≤ 4611686018427387904) (hlr : feedR d r m u = ([], (0, [], 0), p.1, p.2 + d)) (v : Value)
  (zs : ScanAt W1 w.heap.size d r m) (z1 : Boxed W1 (w.heap.size + 1) 24 v) (zn : ScanAt W1 (w.heap.size + 1 + 1) 0 [] 0) (z3 : Boxed W1 (w.heap.size + 1 + 1 + 1) 25 (.int .i64 0)) (z4 : Boxed W1 (w.heap.size + 1 + 1 + 1 + 1) 3 (.int .i64 0)) (zb : Below w.heap.size w W1) (a0 a1 a2 a3 a8 a9 a10 a11 a12 a13 a14 a15 a16 a17 a18 a19 a20 a21 a22 a23 a24 a25 a26 a27 a28 a29 a30 a31 a32 a33 a34 a35 a36 a37 a38 a39 a40 a41 a42 a43 a44 a45 a46 a47 a48 a49 a50 a51 a52 a53 a54 a55 a56 a57 a58 a59 a60 a61 a62 a63 a64 a65 a66 a67 a68 a69 : Value) :
  LeavesInM Fence.wide 6 Tryd.prog Tryd.f26 #[a0, a1, a2, a3, .pointer (some ⟨w.heap.size + 1, 0, none⟩), .pointer (some ⟨w.heap.size + 1 + 1, 0, none⟩), .pointer (some ⟨w.heap.size + 1 + 1 + 1, 0, none⟩), .pointer (some ⟨w.heap.size + 1 + 1 + 1 + 1, 0, none⟩), a8, a9, a10, a11, a12, a13, a14, a15, a16, a17, a18, a19, a20, a21, a22, a23, a24, a25, a26, a27, a28, a29, a30, a31, a32, a33, a34, a35, a36, a37, a38, a39, a40, a41, a42, a43, a44, a45, a46, a47, a48, a49, a50, a51, a52, a53, a54, a55, a56, a57, a58, a59, a60, a61, a62, a63, a64, a65, a66, a67, a68, a69] (FeedOut d r m u w)
   [{ target := .fn (.func 28) #[], args := #[.pointer (some ⟨w.heap.size + 1 + 1 + 1, 0, none⟩), .pointer (some ⟨w.heap.size + 1 + 1 + 1 + 1, 0, none⟩)] }, { target := .fn (.func 51) #[.pointer (some ⟨w.heap.size + 1 + 1 + 1, 0, none⟩), .pointer (some ⟨w.heap.size + 1 + 1 + 1 + 1, 0, none⟩), .pointer (some ⟨w.heap.size, 0, none⟩), .pointer (some ⟨w.heap.size + 1, 0, none⟩), .pointer (some ⟨w.heap.size + 1 + 1, 0, none⟩)], args := #[] }] (.panicking (failC p)) W1 := by
 refine leaves_caught (by decide) p z3 z4 (by omega) ?_
 intro W2 y3 y4 hc
 have ys := hc.obj zs (by omega)
 have y1 := hc.boxed z1 (by omega)
 have yn := hc.obj zn (by omega)
 have yb : Below w.heap.size w W2 := zb.trans (hc.below (zb.size) (by rintro i (h | h) <;> omega))
 obtain ⟨s0, s1, s2⟩ := scan_cells ys
 refine leaves_fn (by decide) (by simp) (f := 51) (cap := #[.pointer (some ⟨w.heap.size + 1 + 1 + 1, 0, none⟩), .pointer (some ⟨w.heap.size + 1 + 1 + 1 + 1, 0, none⟩), .pointer (some ⟨w.heap.size, 0, none⟩), .pointer (some ⟨w.heap.size + 1, 0, none⟩), .pointer (some ⟨w.heap.size + 1 + 1, 0, none⟩)]) (S := fun A B => B = fd1W A (w.heap.size + 1) (w.heap.size + 1 + 1) (w.heap.size + 1 + 1 + 1 + 1) (p.2 + d)) (enters_of Tryd.func51 (by kernel_rfl) rfl _ _)
  (fd1_err 5 _ _ _ _ _ .returning p.1 hpe v d p.2 hd ⟨by omega, by omega⟩ W2 y3.cell y1.cell y1.frozen s0 y4.cell y4.frozen yn (by omega) (by omega) (by omega)) ?_
 intro W5 hW5
 have k1 := Chg.setCell (G := fun i => i = w.heap.size + 1) W2 (p := ⟨w.heap.size + 1, 0, none⟩) rfl (.slice none 0 0)
 have k2 := Chg.three (G := fun i => i = w.heap.size + 1 + 1) (W2.setCell ⟨w.heap.size + 1, 0, none⟩ (.slice none 0 0)) (b := w.heap.size + 1 + 1) rfl (.int .i64 0) (.string (ba [])) (.int .i64 0)
 have x1 := (k2.boxed (y1.set (.slice none 0 0)) (by omega)).other (by omega : w.heap.size + 1 ≠ w.heap.size + 1 + 1 + 1 + 1) (.int .i64 (p.2 + d))
 have xn : ScanAt _ (w.heap.size + 1 + 1) 0 [] 0 := (Chg.setCell (G := fun i => i = w.heap.size + 1 + 1 + 1 + 1) _ (p := ⟨w.heap.size + 1 + 1 + 1 + 1, 0, none⟩) rfl (.int .i64 (p.2 + d))).obj (ScanAt.set (k1.obj yn (by omega)) 0 [] 0) (by omega)
 have x3 := (k2.boxed (y3.other (by omega : w.heap.size + 1 + 1 + 1 ≠ w.heap.size + 1) (.slice none 0 0)) (by omega)).other (by omega : w.heap.size + 1 + 1 + 1 ≠ w.heap.size + 1 + 1 + 1 + 1) (.int .i64 (p.2 + d))
 have x4 := (k2.boxed (y4.other (by omega : w.heap.size + 1 + 1 + 1 + 1 ≠ w.heap.size + 1) (.slice none 0 0)) (by omega)).set (.int .i64 (p.2 + d))
 have xb := (((((yb.setCell (p := ⟨w.heap.size + 1, 0, none⟩) (by simp) (.slice none 0 0)).setCell (p := ⟨w.heap.size + 1 + 1, 0, none⟩) (by simp; omega) (.int .i64 0)).setCell (p := ⟨w.heap.size + 1 + 1, 1, none⟩) (by simp; omega) (.string (ba []))).setCell (p := ⟨w.heap.size + 1 + 1, 2, none⟩) (by simp; omega) (.int .i64 0)).setCell (p := ⟨w.heap.size + 1 + 1 + 1 + 1, 0, none⟩) (by simp; omega) (.int .i64 (p.2 + d)))
 have hW6 : fd1W W2 (w.heap.size + 1) (w.heap.size + 1 + 1) (w.heap.size + 1 + 1 + 1 + 1) (p.2 + d) = _ := rfl
 unfold fd1W at hW6
 change W5 = (((((W2.setCell ⟨w.heap.size + 1, 0, none⟩ (.slice none 0 0)).setCell ⟨w.heap.size + 1 + 1, 0, none⟩ (.int .i64 0)).setCell ⟨w.heap.size + 1 + 1, 1, none⟩ (.string (ba []))).setCell ⟨w.heap.size + 1 + 1, 2, none⟩ (.int .i64 0)).setCell ⟨w.heap.size + 1 + 1 + 1 + 1, 0, none⟩ (.int .i64 (p.2 + d))) at hW5
 clear hW6 k1 k2
 rw [← hW5] at x1 xn x3 x4 xb
 clear hW5
 have d1 := x1.cell
 have d3 := x3.cell
 have d4 := x4.cell
 obtain ⟨e0, e1, e2⟩ := scan_cells xn
 simp [LeavesInM, LeavesIn, settle, results, Tryd.results26, go_sem, d1, d3, d4, e0, e1, e2]
 exact ⟨_, by rw [hlr]; rfl, by rw [hlr]; exact World.ownsRow_nil _ _ _ _, xb⟩
set_option maxRecDepth 100000 in
set_option maxHeartbeats 0 in
theorem fd_no (d : Int) (r : List UInt8) (m : Int) (u : List UInt8) (hfb : fedB d r m = false) (w : World) (hG : LaidG w) : CallsIn Fence.wide 6 Tryd.prog 26 #[scanV d r m, .string (ba u)] w (FeedOut d r m u w) := by
 have hFf : Fence.wide.fn 31 := trivial
 have h16 : 1 ≤ 6 := by decide
 have hus := Tryd.underlying29
 have hsz := ba_size r
 have hsu := ba_size u
 have hlr : feedR d r m u = ([], (0, [], 0), 1, 0) := by unfold feedR; rw [if_pos hfb]
 have HLR := Aside0.mk hlr
 have HF := Aside0.mk (fed_in 5 (by decide) d r m (wG d r m w) (hG.keep _ (wG_below d r m w)))
 rw [hfb] at HF
 obtain ⟨bs, b1, bn, b3, b4⟩ := wG_blocks d r m w
 obtain ⟨s0, s1, s2⟩ := scan_cells bs
 have HSZ := Aside0.mk (wG_size d r m w)
 have HB := Aside0.mk (wG_below d r m w)
 have BS := Aside0.mk bs
 have B1 := Aside0.mk b1
 have BN := Aside0.mk bn
 have B3 := Aside0.mk b3
 have B4 := Aside0.mk b4
 have HGG := Aside0.mk hG
 clear hG hlr hfb b1 bn b3 b4 bs
 unfold wG at s0 s1 s2
 refine callsIn_of_wp_marks Tryd.func26 rfl trivial ?_ rfl
 simp only [scanV, Tryd.ntmps26, List.size_toArray, List.length_cons, List.length_nil, Nat.reduceAdd, Nat.reduceSub, Array.replicate_succ, Array.replicate_zero, List.push_toArray, List.append_toArray, List.nil_append, List.cons_append]
 gi_upto_region 2 with (gi_at_call 31; refine HF.out.mono ?_; rintro e w1 ⟨rfl, hd1⟩; have HD1 := Aside0.mk hd1; clear hd1)
 have hb1 := HD1.out
 rw [HSZ.out] at hb1
 have X1 := Aside0.mk (show Boxed w1 (w.heap.size + 1) _ _ from (hb1.block _ (by omega)).trans B1.out)
 have XN := Aside0.mk (show ScanAt w1 (w.heap.size + 1 + 1) 0 [] 0 from (hb1.block _ (by omega)).trans BN.out)
 have X3 := Aside0.mk (show Boxed w1 (w.heap.size + 1 + 1 + 1) _ _ from (hb1.block _ (by omega)).trans B3.out)
 have X4 := Aside0.mk (show Boxed w1 (w.heap.size + 1 + 1 + 1 + 1) _ _ from (hb1.block _ (by omega)).trans B4.out)
 have xs : ScanAt w1 w.heap.size d r m := (hb1.block w.heap.size (by omega)).trans BS.out
 have XS := Aside0.mk xs
 have HB1 := Aside0.mk (HB.out.trans (hb1.mono (by omega)))
 have HS1 : Aside0 (w.heap.size + 5 ≤ w1.heap.size) := ⟨by have := hb1.size; rw [HSZ.out] at this; exact this⟩
 clear s0 s1 s2
 obtain ⟨s0, s1, s2⟩ := scan_cells xs
 have c1 := X1.out.cell
 have f1 := X1.out.frozen
 obtain ⟨n0, n1, n2⟩ := scan_cells XN.out
 have nf0 := XN.out.frozen 0
 have nf1 := XN.out.frozen 1
 have nf2 := XN.out.frozen 2
 have c3 := X3.out.cell
 have f3 := X3.out.frozen
 have c4 := X4.out.cell
 have f4 := X4.out.frozen
 clear hb1 xs
 gi_wp2
 show LeavesInM _ _ _ _ _ _ _ _ _
 have k1 := Chg.setCell (G := fun i => i = w.heap.size + 1) w1 (p := ⟨w.heap.size + 1, 0, none⟩) rfl (.slice none 0 0)
 have k2 := Chg.three (G := fun i => i = w.heap.size + 1 + 1) (w1.setCell ⟨w.heap.size + 1, 0, none⟩ (.slice none 0 0)) (b := w.heap.size + 1 + 1) rfl (.int .i64 0) (.string (ba [])) (.int .i64 0)
 have k3 := fun W => Chg.setCell (G := fun i => i = w.heap.size + 1 + 1 + 1) W (p := ⟨w.heap.size + 1 + 1 + 1, 0, none⟩) rfl (.int .i64 1)
 have k4 := fun W => Chg.setCell (G := fun i => i = w.heap.size + 1 + 1 + 1 + 1) W (p := ⟨w.heap.size + 1 + 1 + 1 + 1, 0, none⟩) rfl (.int .i64 0)
 have x1 := (k4 _).boxed ((k3 _).boxed (k2.boxed (X1.out.set (.slice none 0 0)) (by omega)) (by omega)) (by omega)
 have xn : ScanAt _ (w.heap.size + 1 + 1) 0 [] 0 := (k4 _).obj ((k3 _).obj (ScanAt.set (k1.obj XN.out (by omega)) 0 [] 0) (by omega)) (by omega)
 have x3 := (k4 _).boxed ((k2.boxed (k1.boxed X3.out (by omega)) (by omega)).set (.int .i64 1)) (by omega)
 have x4 := ((k3 _).boxed (k2.boxed (k1.boxed X4.out (by omega)) (by omega)) (by omega)).set (.int .i64 0)
 have xb := ((((((HB1.out.setCell (p := ⟨w.heap.size + 1, 0, none⟩) (by simp) (.slice none 0 0)).setCell (p := ⟨w.heap.size + 1 + 1, 0, none⟩) (by simp; omega) (.int .i64 0)).setCell (p := ⟨w.heap.size + 1 + 1, 1, none⟩) (by simp; omega) (.string (ba []))).setCell (p := ⟨w.heap.size + 1 + 1, 2, none⟩) (by simp; omega) (.int .i64 0)).setCell (p := ⟨w.heap.size + 1 + 1 + 1, 0, none⟩) (by simp; omega) (.int .i64 1)).setCell (p := ⟨w.heap.size + 1 + 1 + 1 + 1, 0, none⟩) (by simp; omega) (.int .i64 0))
 obtain ⟨W5, hW5⟩ : ∃ W5, W5 = ((((((w1.setCell ⟨w.heap.size + 1, 0, none⟩ (.slice none 0 0)).setCell ⟨w.heap.size + 1 + 1, 0, none⟩ (.int .i64 0)).setCell ⟨w.heap.size + 1 + 1, 1, none⟩ (.string (ba []))).setCell ⟨w.heap.size + 1 + 1, 2, none⟩ (.int .i64 0)).setCell ⟨w.heap.size + 1 + 1 + 1, 0, none⟩ (.int .i64 1)).setCell ⟨w.heap.size + 1 + 1 + 1 + 1, 0, none⟩ (.int .i64 0)) := ⟨_, rfl⟩
 change LeavesInM _ _ _ _ _ _ _ _ ((((((w1.setCell ⟨w.heap.size + 1, 0, none⟩ (.slice none 0 0)).setCell ⟨w.heap.size + 1 + 1, 0, none⟩ (.int .i64 0)).setCell ⟨w.heap.size + 1 + 1, 1, none⟩ (.string (ba []))).setCell ⟨w.heap.size + 1 + 1, 2, none⟩ (.int .i64 0)).setCell ⟨w.heap.size + 1 + 1 + 1, 0, none⟩ (.int .i64 1)).setCell ⟨w.heap.size + 1 + 1 + 1 + 1, 0, none⟩ (.int .i64 0))
 rw [← hW5] at x1 xn x3 x4 xb ⊢
 clear hW5 k1 k2 k3 k4
 have d1 := x1.cell
 have d3 := x3.cell
 have d4 := x4.cell
 obtain ⟨e0, e1, e2⟩ := scan_cells xn
 simp [LeavesInM, LeavesIn, settle, results, Tryd.results26, go_sem, d1, d3, d4, e0, e1, e2]
 exact ⟨_, by rw [HLR.out]; rfl, by rw [HLR.out]; exact World.ownsRow_nil _ _ _ _, xb⟩
set_option maxRecDepth 100000 in
set_option maxHeartbeats 0 in
theorem fd_over (d : Int) (r : List UInt8) (m : Int) (u : List UInt8) (hrl : r.length ≤ 2305843009213693952) (hul : u.length ≤ 2305843009213693952) (hfb : fedB d r m = true) (hov : 1048576 < d + r.length + u.length) (w : World) (hG : LaidG w) : CallsIn Fence.wide 6 Tryd.prog 26 #[scanV d r m, .string (ba u)] w (FeedOut d r m u w) := by
 have hFf : Fence.wide.fn 31 := trivial
 have h16 : 1 ≤ 6 := by decide
 have hus := Tryd.underlying29
 have hsz := ba_size r
 have hsu := ba_size u
 obtain ⟨g1, g2, g3, g4⟩ := fed_bounds hfb
 have hlr : feedR d r m u = ([], (0, [], 0), 2, 0) := by unfold feedR; rw [hfb, if_neg (by decide), if_pos hov]
 have kw1 : IntKind.i64.wrap (d + (r.length : Int)) = d + (r.length : Int) := IntWalk.i64_in _ (by omega)
 have kw2 : IntKind.i64.wrap (d + (r.length : Int) + (u.length : Int)) = d + (r.length : Int) + (u.length : Int) := IntWalk.i64_in _ (by omega)
 have k0 : decide (1048576 < d + (r.length : Int) + (u.length : Int)) = true := decide_eq_true hov
 have HLR := Aside0.mk hlr
 have HF := Aside0.mk (fed_in 5 (by decide) d r m (wG d r m w) (hG.keep _ (wG_below d r m w)))
 rw [hfb] at HF
 obtain ⟨bs, b1, bn, b3, b4⟩ := wG_blocks d r m w
 obtain ⟨s0, s1, s2⟩ := scan_cells bs
 have HSZ := Aside0.mk (wG_size d r m w)
 have HB := Aside0.mk (wG_below d r m w)
 have BS := Aside0.mk bs
 have B1 := Aside0.mk b1
 have BN := Aside0.mk bn
 have B3 := Aside0.mk b3
 have B4 := Aside0.mk b4
 have HGG := Aside0.mk hG
 clear hG hlr hfb b1 bn b3 b4 bs
 unfold wG at s0 s1 s2
 clear hov g1 g2 g3 g4 hrl hul
 refine callsIn_of_wp_marks Tryd.func26 rfl trivial ?_ rfl
 simp only [scanV, Tryd.ntmps26, List.size_toArray, List.length_cons, List.length_nil, Nat.reduceAdd, Nat.reduceSub, Array.replicate_succ, Array.replicate_zero, List.push_toArray, List.append_toArray, List.nil_append, List.cons_append]
 gi_upto_region 3 with (gi_at_call 31; refine HF.out.mono ?_; rintro e w1 ⟨rfl, hd1⟩; have HD1 := Aside0.mk hd1; clear hd1)
 have hb1 := HD1.out
 rw [HSZ.out] at hb1
 have X1 := Aside0.mk (show Boxed w1 (w.heap.size + 1) _ _ from (hb1.block _ (by omega)).trans B1.out)
 have XN := Aside0.mk (show ScanAt w1 (w.heap.size + 1 + 1) 0 [] 0 from (hb1.block _ (by omega)).trans BN.out)
 have X3 := Aside0.mk (show Boxed w1 (w.heap.size + 1 + 1 + 1) _ _ from (hb1.block _ (by omega)).trans B3.out)
 have X4 := Aside0.mk (show Boxed w1 (w.heap.size + 1 + 1 + 1 + 1) _ _ from (hb1.block _ (by omega)).trans B4.out)
 have xs : ScanAt w1 w.heap.size d r m := (hb1.block w.heap.size (by omega)).trans BS.out
 have XS := Aside0.mk xs
 have HB1 := Aside0.mk (HB.out.trans (hb1.mono (by omega)))
 have HS1 : Aside0 (w.heap.size + 5 ≤ w1.heap.size) := ⟨by have := hb1.size; rw [HSZ.out] at this; exact this⟩
 clear s0 s1 s2
 obtain ⟨s0, s1, s2⟩ := scan_cells xs
 have c1 := X1.out.cell
 have f1 := X1.out.frozen
 obtain ⟨n0, n1, n2⟩ := scan_cells XN.out
 have nf0 := XN.out.frozen 0
 have nf1 := XN.out.frozen 1
 have nf2 := XN.out.frozen 2
 have c3 := X3.out.cell
 have f3 := X3.out.frozen
 have c4 := X4.out.cell
 have f4 := X4.out.frozen
 clear hb1 xs
 gi_wp2
 show LeavesInM _ _ _ _ _ _ _ _ _
 have k1 := Chg.setCell (G := fun i => i = w.heap.size + 1) w1 (p := ⟨w.heap.size + 1, 0, none⟩) rfl (.slice none 0 0)
 have k2 := Chg.three (G := fun i => i = w.heap.size + 1 + 1) (w1.setCell ⟨w.heap.size + 1, 0, none⟩ (.slice none 0 0)) (b := w.heap.size + 1 + 1) rfl (.int .i64 0) (.string (ba [])) (.int .i64 0)
 have k3 := fun W => Chg.setCell (G := fun i => i = w.heap.size + 1 + 1 + 1) W (p := ⟨w.heap.size + 1 + 1 + 1, 0, none⟩) rfl (.int .i64 2)
 have k4 := fun W => Chg.setCell (G := fun i => i = w.heap.size + 1 + 1 + 1 + 1) W (p := ⟨w.heap.size + 1 + 1 + 1 + 1, 0, none⟩) rfl (.int .i64 0)
 have x1 := (k4 _).boxed ((k3 _).boxed (k2.boxed (X1.out.set (.slice none 0 0)) (by omega)) (by omega)) (by omega)
 have xn : ScanAt _ (w.heap.size + 1 + 1) 0 [] 0 := (k4 _).obj ((k3 _).obj (ScanAt.set (k1.obj XN.out (by omega)) 0 [] 0) (by omega)) (by omega)
 have x3 := (k4 _).boxed ((k2.boxed (k1.boxed X3.out (by omega)) (by omega)).set (.int .i64 2)) (by omega)
 have x4 := ((k3 _).boxed (k2.boxed (k1.boxed X4.out (by omega)) (by omega)) (by omega)).set (.int .i64 0)
 have xb := ((((((HB1.out.setCell (p := ⟨w.heap.size + 1, 0, none⟩) (by simp) (.slice none 0 0)).setCell (p := ⟨w.heap.size + 1 + 1, 0, none⟩) (by simp; omega) (.int .i64 0)).setCell (p := ⟨w.heap.size + 1 + 1, 1, none⟩) (by simp; omega) (.string (ba []))).setCell (p := ⟨w.heap.size + 1 + 1, 2, none⟩) (by simp; omega) (.int .i64 0)).setCell (p := ⟨w.heap.size + 1 + 1 + 1, 0, none⟩) (by simp; omega) (.int .i64 2)).setCell (p := ⟨w.heap.size + 1 + 1 + 1 + 1, 0, none⟩) (by simp; omega) (.int .i64 0))
 obtain ⟨W5, hW5⟩ : ∃ W5, W5 = ((((((w1.setCell ⟨w.heap.size + 1, 0, none⟩ (.slice none 0 0)).setCell ⟨w.heap.size + 1 + 1, 0, none⟩ (.int .i64 0)).setCell ⟨w.heap.size + 1 + 1, 1, none⟩ (.string (ba []))).setCell ⟨w.heap.size + 1 + 1, 2, none⟩ (.int .i64 0)).setCell ⟨w.heap.size + 1 + 1 + 1, 0, none⟩ (.int .i64 2)).setCell ⟨w.heap.size + 1 + 1 + 1 + 1, 0, none⟩ (.int .i64 0)) := ⟨_, rfl⟩
 change LeavesInM _ _ _ _ _ _ _ _ ((((((w1.setCell ⟨w.heap.size + 1, 0, none⟩ (.slice none 0 0)).setCell ⟨w.heap.size + 1 + 1, 0, none⟩ (.int .i64 0)).setCell ⟨w.heap.size + 1 + 1, 1, none⟩ (.string (ba []))).setCell ⟨w.heap.size + 1 + 1, 2, none⟩ (.int .i64 0)).setCell ⟨w.heap.size + 1 + 1 + 1, 0, none⟩ (.int .i64 2)).setCell ⟨w.heap.size + 1 + 1 + 1 + 1, 0, none⟩ (.int .i64 0))
 rw [← hW5] at x1 xn x3 x4 xb ⊢
 clear hW5 k1 k2 k3 k4
 have d1 := x1.cell
 have d3 := x3.cell
 have d4 := x4.cell
 obtain ⟨e0, e1, e2⟩ := scan_cells xn
 simp [LeavesInM, LeavesIn, settle, results, Tryd.results26, go_sem, d1, d3, d4, e0, e1, e2]
 exact ⟨_, by rw [HLR.out]; rfl, by rw [HLR.out]; exact World.ownsRow_nil _ _ _ _, xb⟩
def fixG (d : Int) (r : List UInt8) (m : Int) (w : World) (q f : Nat) : List (Nat × Obj) := [(w.heap.size, .cells #[.int .i64 d, .string (ba r), .int .i64 m] 29 (0, 0)), (w.heap.size + 1 + 1, .cells #[.int .i64 0, .string (ba []), .int .i64 0] 29 (0, 0)), (w.heap.size + 1 + 1 + 1, .cells #[.int .i64 0] 25 (0, 0)), (w.heap.size + 1 + 1 + 1 + 1, .cells #[.int .i64 0] 3 (0, 0)), (q, .cells #[.int .i64 f] 3 (0, 0))]
theorem brk_sure {y : Nat × Itm} (h : brkF y = none) : y.2.sure = true := by
 unfold brkF at h
 split at h
 ·assumption
 ·cases h
theorem brk_not {y : Nat × Itm} (h : brkF y ≠ none) : y.2.sure = false := by
 unfold brkF at h
 split at h
 ·exact absurd rfl h
 ·rename_i hs
  simpa using hs
theorem inBlock_two {e : Exit} (he : e = .normal ∨ e = .exit 0) {Q : Exit → Act → World → Prop} {a : Act} {w : World} (h : Q .normal a w) : Exit.inBlock 0 Q e a w := by
 rcases he with rfl | rfl
 ·exact h
 ·exact h
theorem pend_brk (xs : List (Nat × Itm)) : pend brkF xs = none ∨ pend brkF xs = some 0 := by
 unfold pend
 cases xs.getLast? with
 | none => exact .inl rfl
 | some x =>
  show brkF x = none ∨ brkF x = some 0
  unfold brkF
  split
  ·exact .inl rfl
  ·exact .inr rfl
set_option maxRecDepth 100000 in
set_option maxHeartbeats 0 in
theorem fd_run (dn : Nat) (r : List UInt8) (m : Int) (u : List UInt8) (hfb : fedB dn r m = true) (hov : ¬ 1048576 < (dn : Int) + r.length + u.length) (w : World) (hG : LaidG w) : CallsIn Fence.wide 6 Tryd.prog 26 #[scanV dn r m, .string (ba u)] w (FeedOut dn r m u w) := by
 obtain ⟨i0, hi, hz0, hz1, hz2⟩ : ∃ i, Tryd.prog.info? 42 = some i ∧ i.zero = some (.agg #[.int .i64 0, .string ⟨#[]⟩, .int .i64 0, .int .i64 0, .int .i64 0]) ∧ i.size = 5 ∧ i.bytes = 48 := by
  obtain ⟨i, hi, he⟩ := Option.map_eq_some_iff.1 infoT
  simp only [Prod.mk.injEq] at he
  exact ⟨i, hi, he⟩
 have hFi : Fence.wide.fn 33 := trivial
 have hFm : Fence.wide.fn 34 := trivial
 have hu := Tryd.underlying70
 have hut := Tryd.underlying42
 have hFf : Fence.wide.fn 31 := trivial
 have h16 : 1 ≤ 6 := by decide
 have hus := Tryd.underlying29
 have hsz := ba_size r
 have hsu := ba_size u
 obtain ⟨g1, g2, g3, g4⟩ := fed_bounds hfb
 have hru : (r ++ u).length = r.length + u.length := List.length_append
 have hrl : (r ++ u).length ≤ 1048576 := by omega
 have hsru := ba_size (r ++ u)
 have happ := ba_app r u
 have kc : ¬ 9223372036854775807 < r.length + u.length := by omega
 have kw1 : IntKind.i64.wrap ((dn : Int) + (r.length : Int)) = (dn : Int) + (r.length : Int) := IntWalk.i64_in _ (by omega)
 have kw2 : IntKind.i64.wrap ((dn : Int) + (r.length : Int) + (u.length : Int)) = (dn : Int) + (r.length : Int) + (u.length : Int) := IntWalk.i64_in _ (by omega)
 have k0 : decide (1048576 < (dn : Int) + (r.length : Int) + (u.length : Int)) = false := decide_eq_false hov
 have hfi := feed_items ((r ++ u).length + 1) (r ++ u) 0 m (by omega)
 have hfe := feed_end (r ++ u) m
 have hle := items_le true ((r ++ u).length + 1) (r ++ u) 0 m
 have herr := items_err true ((r ++ u).length + 1) (r ++ u) 0 m
 have hpos := items_mem true ((r ++ u).length + 1) (r ++ u) 0 m
 have hseq0 := fun (n0 : Nat) => items_in 5 (by decide) n0 (n0 + 2) (n0 + 1) (r ++ u) (by omega) true m g3 (by omega) (by omega) (by omega) brkF (fun y hy h => ⟨rfl, brk_not h⟩)
 have hlr : feedR (dn : Int) r m u = (match (feedL ((r ++ u).length + 1) (r ++ u) 0 m).2.1 with
  | none => (toksL (feedL ((r ++ u).length + 1) (r ++ u) 0 m).1, ((dn : Int) + (feedL ((r ++ u).length + 1) (r ++ u) 0 m).2.2.1, (r ++ u).drop (feedL ((r ++ u).length + 1) (r ++ u) 0 m).2.2.1, m + (toksL (feedL ((r ++ u).length + 1) (r ++ u) 0 m).1).length), 0, 0)
  | some p => ([], (0, [], 0), p.1, p.2 + (dn : Int))) := by
  unfold feedR
  rw [hfb, if_neg (by decide), if_neg hov]
  rfl
 have hLV := fun (p : Int × Nat) (h1 : p.1 ≠ 0) (h2 : p.2 ≤ 4611686018427387904) (h3 : feedR (dn : Int) r m u = ([], (0, [], 0), p.1, p.2 + (dn : Int))) (W1 : World) => fd_leaves (dn : Int) r m u ⟨g1, g2⟩ w W1 p h1 h2 h3
 have hpl := items_at true ((r ++ u).length + 1) (r ++ u) 0 m
 obtain ⟨hf1, _, hf3, _, _, _⟩ := hfi
 rw [hf3] at hseq0 herr hpl
 generalize hxs : (itemsL true ((r ++ u).length + 1) (r ++ u) 0 m).1 = xs at hseq0 hle hpos hfe
 generalize hff : feedL ((r ++ u).length + 1) (r ++ u) 0 m = f at hseq0 herr hlr hpl hfe hf1
 clear hxs hff hf3
 have HLR := Aside0.mk hlr
 have HLE := Aside0.mk hle
 have HER := Aside0.mk herr
 have HPO := Aside0.mk hpos
 have HPL := Aside0.mk hpl
 have HFE := Aside0.mk hfe
 have HF1 := Aside0.mk hf1
 have HSQ := Aside0.mk hseq0
 have HLV := Aside0.mk hLV
 have HRL := Aside0.mk hrl
 have HRU := Aside0.mk hru
 clear hle herr hpos hseq0 hLV hpl hfe hf1 hru
 have HF := Aside0.mk (fed_in 5 (by decide) (dn : Int) r m (wG (dn : Int) r m w) (hG.keep _ (wG_below (dn : Int) r m w)))
 rw [hfb] at HF
 obtain ⟨bs, b1, bn, b3, b4⟩ := wG_blocks (dn : Int) r m w
 obtain ⟨s0, s1, s2⟩ := scan_cells bs
 have HSZ := Aside0.mk (wG_size (dn : Int) r m w)
 have HB := Aside0.mk (wG_below (dn : Int) r m w)
 have BS := Aside0.mk bs
 have B1 := Aside0.mk b1
 have BN := Aside0.mk bn
 have B3 := Aside0.mk b3
 have B4 := Aside0.mk b4
 have HGG := Aside0.mk hG
 clear hG hlr hfb b1 bn b3 b4 bs
 unfold wG at s0 s1 s2
 have HG2 := Aside0.mk (And.intro g1 (And.intro g2 (And.intro g3 g4)))
 clear hov g1 g2 g3 g4 hrl
 refine callsIn_of_wp_marks Tryd.func26 rfl trivial ?_ rfl
 simp only [scanV, Tryd.ntmps26, List.size_toArray, List.length_cons, List.length_nil, Nat.reduceAdd, Nat.reduceSub, Array.replicate_succ, Array.replicate_zero, List.push_toArray, List.append_toArray, List.nil_append, List.cons_append]
 gi_upto_region 3 with (gi_at_call 31; refine HF.out.mono ?_; rintro e w1 ⟨rfl, hd1⟩; have HD1 := Aside0.mk hd1; clear hd1)
 have hb1 := HD1.out
 rw [HSZ.out] at hb1
 have X1 := Aside0.mk (show Boxed w1 (w.heap.size + 1) _ _ from (hb1.block _ (by omega)).trans B1.out)
 have XN := Aside0.mk (show ScanAt w1 (w.heap.size + 1 + 1) 0 [] 0 from (hb1.block _ (by omega)).trans BN.out)
 have X3 := Aside0.mk (show Boxed w1 (w.heap.size + 1 + 1 + 1) _ _ from (hb1.block _ (by omega)).trans B3.out)
 have X4 := Aside0.mk (show Boxed w1 (w.heap.size + 1 + 1 + 1 + 1) _ _ from (hb1.block _ (by omega)).trans B4.out)
 have xs : ScanAt w1 w.heap.size (dn : Int) r m := (hb1.block w.heap.size (by omega)).trans BS.out
 have XS := Aside0.mk xs
 have HB1 := Aside0.mk (HB.out.trans (hb1.mono (by omega)))
 have HS1 : Aside0 (w.heap.size + 5 ≤ w1.heap.size) := ⟨by have := hb1.size; rw [HSZ.out] at this; exact this⟩
 clear s0 s1 s2
 obtain ⟨s0, s1, s2⟩ := scan_cells xs
 have c1 := X1.out.cell
 have f1 := X1.out.frozen
 obtain ⟨n0, n1, n2⟩ := scan_cells XN.out
 have nf0 := XN.out.frozen 0
 have nf1 := XN.out.frozen 1
 have nf2 := XN.out.frozen 2
 have c3 := X3.out.cell
 have f3 := X3.out.frozen
 have c4 := X4.out.cell
 have f4 := X4.out.frozen
 clear hb1 xs
 gi_upto_region 9 with (fail)
 have hzf : (w1.alloc (.cells #[.int .i64 ((r.length : Int) + (u.length : Int))] 3)).heap.size = w1.heap.size + 1 := by simp
 have hfx := Boxed.new w1 3 (.int .i64 ((r.length : Int) + (u.length : Int)))
 have hbf : Below w1.heap.size w1 (w1.alloc (.cells #[.int .i64 ((r.length : Int) + (u.length : Int))] 3)) := (Below.refl _ _).alloc (Nat.le_refl _) _
 generalize w1.alloc (.cells #[.int .i64 ((r.length : Int) + (u.length : Int))] 3) = w2 at hzf hfx hbf ⊢
 have HZF := Aside0.mk hzf
 have HFX := Aside0.mk hfx
 have hs1 := HS1.out
 have Y1 := Aside0.mk (show Boxed w2 _ _ _ from (hbf.block _ (by omega)).trans X1.out)
 have YN := Aside0.mk (show ScanAt w2 _ _ _ _ from (hbf.block _ (by omega)).trans XN.out)
 have Y3 := Aside0.mk (show Boxed w2 _ _ _ from (hbf.block _ (by omega)).trans X3.out)
 have Y4 := Aside0.mk (show Boxed w2 _ _ _ from (hbf.block _ (by omega)).trans X4.out)
 have ys : ScanAt w2 w.heap.size dn r m := (hbf.block _ (by omega)).trans XS.out
 have YS := Aside0.mk ys
 have HB2 := Aside0.mk (HB1.out.trans (hbf.mono (by omega)))
 clear s0 s1 s2 c1 f1 n0 n1 n2 nf0 nf1 nf2 c3 f3 c4 f4 hzf hfx hbf hs1
 obtain ⟨s0, s1, s2⟩ := scan_cells ys
 clear ys
 gi_wp2_with (gi_at_call 33; refine (callsIn_wide.2 (items_calls (r ++ u) m true _)).mono ?_; rintro e w3 ⟨rfl, rfl⟩)
 change Code.wpIn _ _ _ _ _ _ (wBox (r ++ u) m true w2)
 have hseq := HSQ.out w2.heap.size
 have HTH := Aside0.mk (fun (W : World) (hb : Below (w2.heap.size + 3) (wBox (r ++ u) m true w2) W) => wBox_there (r ++ u) m true w2 hb)
 have HSB := Aside0.mk (wBox_size (r ++ u) m true w2)
 have HA : Aside0 (∀ q, RowA w (w2.heap.size + 3) w2.heap.size (w.heap.size + 1) (fixG dn r m w w1.heap.size q)) := ⟨fun q => ⟨by omega, by have := HS1.out; have := HZF.out; omega, by omega, by
  have h1 := HS1.out
  have h2 := HZF.out
  intro p hp
  unfold fixG at hp
  simp only [List.mem_cons, List.not_mem_nil, or_false] at hp
  rcases hp with rfl | rfl | rfl | rfl | rfl <;> (dsimp only; omega)⟩⟩
 have HST : Aside0 (RowI w (w2.heap.size + 3) w2.heap.size (w.heap.size + 1) 24 42 5 (fixG dn r m w w1.heap.size (fromL (r.length + u.length) [])) (toksL (sureL [])).length ((toksL (sureL [])).flatMap (tokCs dn)) (fun i => i = w2.heap.size ∨ i = w2.heap.size + 2 ∨ i = w2.heap.size + 1) (wBox (r ++ u) m true w2)) := by
  have hb := wBox_below (r ++ u) m true w2
  have hs1 := HS1.out
  have hs2 := HZF.out
  refine ⟨⟨HB2.out.trans (hb.mono HB2.out.size), by rw [HSB.out]; omega, ?_, ⟨.slice none 0 0, (hb.block _ (by omega)).trans Y1.out, World.ownsRow_nil _ _ _ _, fun g e => by cases e⟩, fun i hi => by omega, fun i hi => by rw [HSB.out]; omega⟩⟩
  intro p hp
  unfold fixG at hp
  simp only [List.mem_cons, List.not_mem_nil, or_false] at hp
  rcases hp with rfl | rfl | rfl | rfl | rfl
  ·exact (hb.block _ (by dsimp only; omega)).trans YS.out
  ·exact (hb.block _ (by dsimp only; omega)).trans YN.out
  ·exact (hb.block _ (by dsimp only; omega)).trans Y3.out
  ·exact (hb.block _ (by dsimp only; omega)).trans Y4.out
  ·exact (hb.block _ (by dsimp only; omega)).trans HFX.out
 clear s0 s1 s2
 refine range_seq rfl h16 (gf := 55) (lb := #[.pointer (some ⟨w2.heap.size, 0, none⟩), .pointer (some ⟨w2.heap.size + 2, 0, none⟩), .pointer (some ⟨w2.heap.size + 1, 0, none⟩)]) rfl trivial (enters_of Tryd.func55 (by kernel_rfl) rfl) hseq rfl
  (fun pre G W => RowI w (w2.heap.size + 3) w2.heap.size (w.heap.size + 1) 24 42 5 (fixG dn r m w w1.heap.size (fromL (r.length + u.length) pre)) (toksL (sureL pre)).length ((toksL (sureL pre)).flatMap (tokCs dn)) G W)
  (fun W hb => by rw [HSB.out] at hb; exact HTH.out W hb) (fun i hi => by rw [HSB.out]; omega) (by exact HST.out) (fun pre G W h => HGG.out.keep W h.below) (fun pre G G' W1 W2 h hc hg => h.step (HA.out _) hc hg)
  (fun x W => { tmps := #[.agg #[.int .i64 (dn : Int), .string (ba r), .int .i64 m], .string (ba u), .pointer (some ⟨w.heap.size, 0, none⟩), undef, .pointer (some ⟨w.heap.size + 1, 0, none⟩), .pointer (some ⟨w.heap.size + 1 + 1, 0, none⟩), .pointer (some ⟨w.heap.size + 1 + 1 + 1, 0, none⟩), .pointer (some ⟨w.heap.size + 1 + 1 + 1 + 1, 0, none⟩), .string (ba (r ++ u)), .pointer (some ⟨w1.heap.size, 0, none⟩), .pointer (some ⟨W.heap.size, 0, none⟩), .agg #[.int .i64 (dn : Int), .string (ba r), .int .i64 m], .bool true, .bool false, undef, .pointer (some ⟨w.heap.size, 0, none⟩), .int .i64 (dn : Int), .pointer (some ⟨w.heap.size, 1, none⟩), .string (ba r), .int .i64 (r.length : Int), .int .i64 ((dn : Int) + (r.length : Int)), .string (ba u), .int .i64 (u.length : Int), .int .i64 ((dn : Int) + (r.length : Int) + (u.length : Int)), .bool false, undef, .func (.func 51) #[] #[.pointer (some ⟨w.heap.size + 1 + 1 + 1, 0, none⟩), .pointer (some ⟨w.heap.size + 1 + 1 + 1 + 1, 0, none⟩), .pointer (some ⟨w.heap.size, 0, none⟩), .pointer (some ⟨w.heap.size + 1, 0, none⟩), .pointer (some ⟨w.heap.size + 1 + 1, 0, none⟩)], .pointer (some ⟨w.heap.size, 1, none⟩), .string (ba r), .string (ba u), .string (ba (r ++ u)), .string (ba (r ++ u)), .int .i64 ((r.length : Int) + (u.length : Int)), .string (ba (r ++ u)), .pointer (some ⟨w.heap.size, 2, none⟩), .int .i64 m, itemF w2.heap.size, encI x, undef, undef, undef, undef, undef, undef, undef, undef, undef, undef, undef, undef, undef, undef, undef, undef, undef, undef, undef, undef, undef, undef, undef, undef, undef, undef, undef, undef, undef, undef, undef, undef], defers := [] })
  (fun x W => W.alloc (.cells #[.int .i64 x.2.kind, .string (ba x.2.text), .int .i64 x.2.n, .int .i64 x.1, .int .i64 ((x.1 + x.2.len : Nat) : Int), .int .i64 x.2.e, .bool x.2.sure] 70)) (fun x W => (Below.refl _ _).alloc (Nat.le_refl _) _) ?assign ?body ?done ?stop
 case assign =>
  intro l x W K hK
  unfold encI itemV at hK ⊢
  gi_wp2
  exact hK
 case body =>
  rintro l pre x G W W' ⟨tl, hx⟩ hpre hW hl hwl hI
  have hxb : ∀ i, W'.cell? ⟨W.heap.size, i, none⟩ = (W.alloc (.cells #[.int .i64 x.2.kind, .string (ba x.2.text), .int .i64 x.2.n, .int .i64 x.1, .int .i64 ((x.1 + x.2.len : Nat) : Int), .int .i64 x.2.e, .bool x.2.sure] 70)).cell? ⟨W.heap.size, i, none⟩ := fun i => World.cell?_of_block (a := ⟨W.heap.size, i, none⟩) (hW _ (by show W.heap.size ≠ l; omega))
  have c0 := (hxb 0).trans (by simp [go_sem] : _ = some (.int .i64 x.2.kind))
  have c1 := (hxb 1).trans (by simp [go_sem] : _ = some (.string (ba x.2.text)))
  have c2 := (hxb 2).trans (by simp [go_sem] : _ = some (.int .i64 x.2.n))
  have c3 := (hxb 3).trans (by simp [go_sem] : _ = some (.int .i64 x.1))
  have c4 := (hxb 4).trans (by simp [go_sem] : _ = some (.int .i64 ((x.1 : Int) + (x.2.len : Int))))
  have c6 := (hxb 6).trans (by simp [go_sem] : _ = some (.bool x.2.sure))
  have hps : ∀ y ∈ pre, y.2.sure = true := fun y hy => brk_sure (hpre y hy)
  have hpl : (toksL pre).length ≤ 1048577 := by
   have h1 := toks_le pre
   have h2 := HLE.out
   have h3 : pre.length ≤ xs.length := by rw [← hx]; simp
   have h4 := HRL.out
   omega
  have hxp := HPO.out x (by rw [← hx]; simp)
  have hss := sure_snoc pre x
  have hfs := from_snoc (r.length + u.length) pre x
  have hI : RowI w (w2.heap.size + 3) w2.heap.size (w.heap.size + 1) 24 42 5 (fixG dn r m w w1.heap.size (r.length + u.length)) (toksL pre).length ((toksL pre).flatMap (tokCs dn)) G W' := by
   have := hI
   simp only [sure_all pre hps, from_all _ pre hps] at this
   exact this
  have hbr : brkF x = if x.2.sure = true then none else some 0 := rfl
  by_cases hsu2 : x.2.sure = true
  ·rw [if_pos hsu2] at hss hfs hbr
   rw [sure_all pre hps] at hss
   rw [hsu2] at c6
   have hsn := toks_snoc pre x
   by_cases hkz : x.2.kind = 0
   ·have HR : Aside0 (RowI w (w2.heap.size + 3) w2.heap.size (w.heap.size + 1) 24 42 5 (fixG dn r m w w1.heap.size (fromL (r.length + u.length) (pre ++ [x]))) (toksL (sureL (pre ++ [x]))).length ((toksL (sureL (pre ++ [x]))).flatMap (tokCs dn)) G W') := ⟨by rw [hss, hfs, hsn, if_pos hkz]; exact hI⟩
    have HBR := Aside0.mk hbr
    have q1 : (x.2.kind == 0) = true := by rw [hkz]; rfl
    have q2 : (x.2.kind != 0) = false := by rw [hkz]; rfl
    have q3 : decide (x.2.kind = 0) = true := decide_eq_true hkz
    clear hxb hsn hkz hx hW hI hxp hss hfs hbr hsu2 hps
    gi_wp2
    exact ⟨HBR.out, Kept.refl _ _, HR.out⟩
   ·rw [if_neg hkz] at hsn
    have HBR := Aside0.mk hbr
    have HSS := Aside0.mk hss
    have HFS := Aside0.mk hfs
    have q1 : (x.2.kind == 0) = false := beq_eq_false_iff_ne.2 hkz
    have q2 : (x.2.kind != 0) = true := bne_iff_ne.2 hkz
    have q3 : decide (x.2.kind = 0) = false := decide_eq_false hkz
    have HSN := Aside0.mk hsn
    have HI := Aside0.mk hI
    have HX := Aside0.mk hxp
    obtain ⟨v, hv, hr, hng⟩ := hI.row
    obtain ⟨s0, s1, s2⟩ := scan_cells (hI.same (w.heap.size, _) (by unfold fixG; exact List.mem_cons_self))
    have hxl : W.heap.size < W'.heap.size := by
     have h1 := hW W.heap.size (by omega)
     have h2 := World.block_lt_of_cell? W' _ c0
     exact h2
    have HXL := Aside0.mk hxl
    have HXO := Aside0.mk ((hW W.heap.size (by omega)).trans (World.alloc_heap_new W _))
    have HV := Aside0.mk hv
    have HRR := Aside0.mk hr
    clear hxb hsn hkz hx hW hI hr hxp hxl hss hfs hbr hsu2 hps
    have HTC := Aside0.mk (show tokCs dn x = [.int .i64 x.2.kind, .string (ba x.2.text), .int .i64 x.2.n, .int .i64 ((x.1 + dn : Nat) : Int), .int .i64 ((x.1 + x.2.len + dn : Nat) : Int)] from rfl)
    gi_wp2
    have hbd : Below W'.heap.size W' W'.drew := Drawn0.below ⟨⟨1, rfl⟩⟩
    refine wpIn_region_held 8 (S := fun W2 => W2.cell? ⟨w.heap.size + 1, 0, none⟩ = some v ∧ W2.cell? ⟨W.heap.size, 0, none⟩ = some (.int .i64 x.2.kind) ∧ W2.cell? ⟨W.heap.size, 1, none⟩ = some (.string (ba x.2.text)) ∧ W2.cell? ⟨W.heap.size, 2, none⟩ = some (.int .i64 x.2.n) ∧ W2.cell? ⟨W.heap.size, 3, none⟩ = some (.int .i64 x.1) ∧ W2.cell? ⟨W.heap.size, 4, none⟩ = some (.int .i64 ((x.1 : Int) + (x.2.len : Int))) ∧ W2.cell? ⟨w.heap.size, 0, none⟩ = some (.int .i64 dn)) (by kernel_rfl) ?_
    change wpAnyHIn _ _ _ _ _ _ _ _ _ _ _ W'.drew
    have HS7 : Aside0 ((fun W2 : World => W2.cell? ⟨w.heap.size + 1, 0, none⟩ = some v ∧ W2.cell? ⟨W.heap.size, 0, none⟩ = some (.int .i64 x.2.kind) ∧ W2.cell? ⟨W.heap.size, 1, none⟩ = some (.string (ba x.2.text)) ∧ W2.cell? ⟨W.heap.size, 2, none⟩ = some (.int .i64 x.2.n) ∧ W2.cell? ⟨W.heap.size, 3, none⟩ = some (.int .i64 x.1) ∧ W2.cell? ⟨W.heap.size, 4, none⟩ = some (.int .i64 ((x.1 : Int) + (x.2.len : Int))) ∧ W2.cell? ⟨w.heap.size, 0, none⟩ = some (.int .i64 dn)) W'.drew) := ⟨⟨hv.cell, c0, c1, c2, c3, c4, s0⟩⟩
    have HS0 : Aside0 ((fun W2 : World => W2.cell? ⟨w.heap.size + 1, 0, none⟩ = some v ∧ W2.cell? ⟨W.heap.size, 0, none⟩ = some (.int .i64 x.2.kind) ∧ W2.cell? ⟨W.heap.size, 1, none⟩ = some (.string (ba x.2.text)) ∧ W2.cell? ⟨W.heap.size, 2, none⟩ = some (.int .i64 x.2.n) ∧ W2.cell? ⟨W.heap.size, 3, none⟩ = some (.int .i64 x.1) ∧ W2.cell? ⟨W.heap.size, 4, none⟩ = some (.int .i64 ((x.1 : Int) + (x.2.len : Int))) ∧ W2.cell? ⟨w.heap.size, 0, none⟩ = some (.int .i64 dn)) W') := ⟨⟨hv.cell, c0, c1, c2, c3, c4, s0⟩⟩
    have HS8 : Aside0 (∀ {W2 W3 : World}, W'.heap.size ≤ W2.heap.size → Below W2.heap.size W2 W3 → ((fun W2 : World => W2.cell? ⟨w.heap.size + 1, 0, none⟩ = some v ∧ W2.cell? ⟨W.heap.size, 0, none⟩ = some (.int .i64 x.2.kind) ∧ W2.cell? ⟨W.heap.size, 1, none⟩ = some (.string (ba x.2.text)) ∧ W2.cell? ⟨W.heap.size, 2, none⟩ = some (.int .i64 x.2.n) ∧ W2.cell? ⟨W.heap.size, 3, none⟩ = some (.int .i64 x.1) ∧ W2.cell? ⟨W.heap.size, 4, none⟩ = some (.int .i64 ((x.1 : Int) + (x.2.len : Int))) ∧ W2.cell? ⟨w.heap.size, 0, none⟩ = some (.int .i64 dn)) W2) → ((fun W2 : World => W2.cell? ⟨w.heap.size + 1, 0, none⟩ = some v ∧ W2.cell? ⟨W.heap.size, 0, none⟩ = some (.int .i64 x.2.kind) ∧ W2.cell? ⟨W.heap.size, 1, none⟩ = some (.string (ba x.2.text)) ∧ W2.cell? ⟨W.heap.size, 2, none⟩ = some (.int .i64 x.2.n) ∧ W2.cell? ⟨W.heap.size, 3, none⟩ = some (.int .i64 x.1) ∧ W2.cell? ⟨W.heap.size, 4, none⟩ = some (.int .i64 ((x.1 : Int) + (x.2.len : Int))) ∧ W2.cell? ⟨w.heap.size, 0, none⟩ = some (.int .i64 dn)) W3)) := by
     have hx1 := HXL.out
     have hx2 := HI.out.size
     have hx3 := HS1.out
     have hx4 := HZF.out
     exact ⟨fun hs hb h => ⟨(bcell hb (by omega)).trans h.1, (bcell hb (by omega)).trans h.2.1, (bcell hb (by omega)).trans h.2.2.1, (bcell hb (by omega)).trans h.2.2.2.1, (bcell hb (by omega)).trans h.2.2.2.2.1, (bcell hb (by omega)).trans h.2.2.2.2.2.1, (bcell hb (by omega)).trans h.2.2.2.2.2.2⟩⟩
    have HBD := Aside0.mk hbd
    clear hbd c0 c1 c2 c3 c4 s0 s1 s2 hv hng
    generalize W'.drew = W2 at HBD HS7 ⊢
    refine wpAnyHIn_take (i := 0) (v := v) (by kernel_rfl) (by kernel_rfl) rfl (by kernel_rfl) (by kernel_rfl) (by kernel_rfl) (fun _ _ _ h => h) (fun _ => by rfl) (.inl ⟨by kernel_rfl, fun w' hw' => by obtain ⟨e1, e2, e3, e4, e5, e6, e7⟩ := hw'; go_simp⟩) HS7.out ?_
    simp only [Act.put, List.setIfInBounds_toArray, List.set_cons_zero, List.set_cons_succ]
    refine wpAnyHIn_take (i := 1) (v := .pointer (some ⟨W.heap.size, 0, none⟩)) (by kernel_rfl) (by kernel_rfl) rfl (by kernel_rfl) (by kernel_rfl) (by kernel_rfl) (fun _ _ _ h => h) (fun _ => by rfl) (.inl ⟨by kernel_rfl, fun w' hw' => by obtain ⟨e1, e2, e3, e4, e5, e6, e7⟩ := hw'; go_simp⟩) HS7.out ?_
    simp only [Act.put, List.setIfInBounds_toArray, List.set_cons_zero, List.set_cons_succ]
    refine wpAnyHIn_take (i := 2) (v := .agg #[.int .i64 x.2.kind, .string (ba x.2.text), .int .i64 x.2.n, .int .i64 x.1, .int .i64 ((x.1 : Int) + (x.2.len : Int))]) (by kernel_rfl) (by kernel_rfl) rfl (by kernel_rfl) (by kernel_rfl) (by kernel_rfl) (fun _ _ _ h => h) (fun _ => by rfl) (.inl ⟨by kernel_rfl, fun w' hw' => by obtain ⟨e1, e2, e3, e4, e5, e6, e7⟩ := hw'; go_simp⟩) HS7.out ?_
    simp only [Act.put, List.setIfInBounds_toArray, List.set_cons_zero, List.set_cons_succ]
    refine wpAnyHIn_take (i := 3) (v := .pointer (some ⟨w.heap.size, 0, none⟩)) (by kernel_rfl) (by kernel_rfl) rfl (by kernel_rfl) (by kernel_rfl) (by kernel_rfl) (fun _ _ _ h => h) (fun _ => by rfl) (.inl ⟨by kernel_rfl, fun w' hw' => by obtain ⟨e1, e2, e3, e4, e5, e6, e7⟩ := hw'; go_simp⟩) HS7.out ?_
    simp only [Act.put, List.setIfInBounds_toArray, List.set_cons_zero, List.set_cons_succ]
    refine wpAnyHIn_take (i := 4) (v := .int .i64 (dn : Int)) (by kernel_rfl) (by kernel_rfl) rfl (by kernel_rfl) (by kernel_rfl) (by kernel_rfl) (fun _ _ _ h => h) (fun _ => by rfl) (.inl ⟨by kernel_rfl, fun w' hw' => by obtain ⟨e1, e2, e3, e4, e5, e6, e7⟩ := hw'; go_simp⟩) HS7.out ?_
    simp only [Act.put, List.setIfInBounds_toArray, List.set_cons_zero, List.set_cons_succ]
    refine wpAnyHIn_one (i := 5) (by kernel_rfl) ?_
    refine wpOpIn_of rfl (by kernel_rfl) ?_
    go_simp
    have HMV : Aside0 (x.1 + x.2.len + dn ≤ 4611686018427387904) := ⟨by have h1 := HX.out.2.2.1; have h2 := HRL.out; have h3 := HG2.out.2.1; omega⟩
    refine (callsIn_wide.2 (moved_calls x dn HMV.out W2)).mono ?_
    rintro e w5 ⟨rfl, hb5⟩
    have HS5 := Aside0.mk (HS8.out HBD.out.size hb5 HS7.out)
    have HB5 := Aside0.mk (HBD.out.trans (hb5.mono HBD.out.size))
    clear hb5
    refine ⟨HS5.out, ?_⟩
    try simp only [Act.put, List.setIfInBounds_toArray, List.set_cons_zero, List.set_cons_succ]
    refine wpAnyHIn_one (i := 6) (by kernel_rfl) ?_
    refine wpOpIn_of rfl (by kernel_rfl) ?_
    go_simp
    have hb6 : Below w5.heap.size w5 (w5.alloc (.cells #[.int .i64 x.2.kind, .string (ba x.2.text), .int .i64 x.2.n, .int .i64 ((x.1 + dn : Nat) : Int), .int .i64 ((x.1 + x.2.len + dn : Nat) : Int)] 42)) := (Below.refl _ _).alloc (Nat.le_refl _) _
    have HS6 := Aside0.mk (HS8.out HB5.out.size hb6 HS5.out)
    have HB6 := Aside0.mk (HB5.out.trans (hb6.mono HB5.out.size))
    clear hb6
    refine ⟨HS6.out, ?_⟩
    try simp only [Act.put, List.setIfInBounds_toArray, List.set_cons_zero, List.set_cons_succ]
    refine wpAnyHIn_one (i := 7) (by kernel_rfl) ?_
    refine wpOpIn_of rfl (by kernel_rfl) ?_
    have hown6 : (w5.alloc (.cells #[.int .i64 x.2.kind, .string (ba x.2.text), .int .i64 x.2.n, .int .i64 ((x.1 + dn : Nat) : Int), .int .i64 ((x.1 + x.2.len + dn : Nat) : Int)] 42)).ownsRow (w2.heap.size + 3) 42 5 v (toksL pre).length ((toksL pre).flatMap (tokCs dn)) := ownsRow_block HRR.out fun g e => HB6.out.block g (HRR.out.lt g e).2
    refine wpInop_append_at _ _ _ 24 rfl (w2.heap.size + 3) 42 i0 (.agg #[.int .i64 0, .string ⟨#[]⟩, .int .i64 0, .int .i64 0, .int .i64 0]) 5 48 Tryd.underlying24 hi hz0 hz1 hz2 rfl (by decide) _ _ _ rfl hown6 ⟨w5.heap.size, 0, none⟩ 1 1 [.int .i64 x.2.kind, .string (ba x.2.text), .int .i64 x.2.n, .int .i64 ((x.1 + dn : Nat) : Int), .int .i64 ((x.1 + x.2.len + dn : Nat) : Int)] rfl rfl ?c1 ?c2 ?c3 ?c4 ?c5 ?goon
    case c1 =>
     intro j u hj
     have hj5 : j < 5 := (List.getElem?_eq_some_iff.1 hj).1
     rcases (by omega : j = 0 ∨ j = 1 ∨ j = 2 ∨ j = 3 ∨ j = 4) with rfl | rfl | rfl | rfl | rfl <;> (cases hj; simp [go_sem, Addr.add])
    case c2 => simp [Value.oneCell']
    case c3 => unfold maxLen; omega
    case c4 => omega
    case c5 => have h1 := HI.out.size; have h2 := HB5.out.size; simp; omega
    case goon =>
     intro v' w6 hown' hgrow' hat
     obtain ⟨g', cap', hvv⟩ := ownsRow_succ hown'
     subst hvv
     have hpush := HI.out.push (HA.out _) HV.out HRR.out HB6.out hown' hgrow' hat
     have hlt := fun i (e : v.ownBlock = some i) => HRR.out.lt i e
     have h1 := HI.out.size
     have h2 := HS1.out
     have h2z := HZF.out
     have hB6 := HB6.out
     have h3 := hB6.size
     have hkb : ∀ b, b < W'.heap.size → some b ≠ v.ownBlock → w6.heap[b]? = W'.heap[b]? := fun b hb hn => (hgrow'.block b (Nat.lt_of_lt_of_le hb h3) hn).trans (hB6.block b hb)
     have hv6 : Boxed w6 (w.heap.size + 1) 24 v := (hkb _ (by omega) (fun e => by have := (hlt _ e.symm).1; omega)).trans HV.out
     have nrx : some W.heap.size ≠ v.ownBlock := fun e => by
      rcases HRR.out.2 with ⟨h4, _⟩ | ⟨g, cap, cur, h4, _, hgb, _⟩
      ·rw [h4] at e
       cases e
      ·rw [h4] at e
       have hg : W.heap.size = g := Option.some.inj e
       rw [← hg] at hgb
       exact absurd (HXO.out.symm.trans hgb) (by simp)
     have hcl : ∀ b i, b < W'.heap.size → some b ≠ v.ownBlock → w6.cell? ⟨b, i, none⟩ = W'.cell? ⟨b, i, none⟩ := fun b i hb hn => World.cell?_of_block (a := ⟨b, i, none⟩) (hkb b hb hn)
     have HS9 : Aside0 ((fun W2 : World => W2.cell? ⟨w.heap.size + 1, 0, none⟩ = some v ∧ W2.cell? ⟨W.heap.size, 0, none⟩ = some (.int .i64 x.2.kind) ∧ W2.cell? ⟨W.heap.size, 1, none⟩ = some (.string (ba x.2.text)) ∧ W2.cell? ⟨W.heap.size, 2, none⟩ = some (.int .i64 x.2.n) ∧ W2.cell? ⟨W.heap.size, 3, none⟩ = some (.int .i64 x.1) ∧ W2.cell? ⟨W.heap.size, 4, none⟩ = some (.int .i64 ((x.1 : Int) + (x.2.len : Int))) ∧ W2.cell? ⟨w.heap.size, 0, none⟩ = some (.int .i64 dn)) w6) := by
      have hx1 := HXL.out
      have h0 := HS0.out
      have ns : some w.heap.size ≠ v.ownBlock := fun e => by have := (hlt _ e.symm).1; omega
      exact ⟨⟨hv6.cell, (hcl _ _ hx1 nrx).trans h0.2.1, (hcl _ _ hx1 nrx).trans h0.2.2.1, (hcl _ _ hx1 nrx).trans h0.2.2.2.1, (hcl _ _ hx1 nrx).trans h0.2.2.2.2.1, (hcl _ _ hx1 nrx).trans h0.2.2.2.2.2.1, (hcl _ _ (by omega) ns).trans h0.2.2.2.2.2.2⟩⟩
     refine ⟨fun _ => HS9.out, ?_⟩
     have hc6 := hv6.cell
     have hf6 := hv6.frozen
     have HPU := Aside0.mk hpush
     clear hpush hown' hgrow' hat hlt h1 h2 h2z h3 hB6 hkb hcl nrx hv6
     try simp only [Act.put, List.setIfInBounds_toArray, List.set_cons_zero, List.set_cons_succ]
     refine wpAnyHIn_one (i := 8) (by kernel_rfl) ?_
     refine wpOpIn_of rfl (by kernel_rfl) ?_
     go_simp
     refine wpAnyHIn_done (by kernel_rfl) ?_ _
     have hlen : (toksL (pre ++ [x])).length = (toksL pre).length + 1 := by rw [HSN.out]; simp
     have hflat : (toksL (pre ++ [x])).flatMap (tokCs dn) = (toksL pre).flatMap (tokCs dn) ++ [.int .i64 x.2.kind, .string (ba x.2.text), .int .i64 x.2.n, .int .i64 ((x.1 + dn : Nat) : Int), .int .i64 ((x.1 + x.2.len + dn : Nat) : Int)] := by rw [HSN.out, List.flatMap_append, List.flatMap_cons, List.flatMap_nil, List.append_nil, HTC.out]
     refine ⟨HBR.out, HPU.out.2, ?_⟩
     show RowI w (w2.heap.size + 3) w2.heap.size (w.heap.size + 1) 24 42 5 (fixG dn r m w w1.heap.size (fromL (r.length + u.length) (pre ++ [x]))) (toksL (sureL (pre ++ [x]))).length ((toksL (sureL (pre ++ [x]))).flatMap (tokCs dn)) _ _
     rw [HSS.out, HFS.out, hlen, hflat]
     exact HPU.out.1
  ·rw [if_neg hsu2] at hss hfs hbr
   rw [sure_all pre hps] at hss
   have hsf : x.2.sure = false := by simpa using hsu2
   rw [hsf] at c6
   have hfx : Boxed W' w1.heap.size 3 (.int .i64 ((r.length + u.length : Nat) : Int)) := hI.same (w1.heap.size, _) (by unfold fixG; simp)
   have e0 := hfx.cell
   have ef := hfx.frozen
   have HBR := Aside0.mk hbr
   have HSS := Aside0.mk hss
   have HFS := Aside0.mk hfs
   have HI := Aside0.mk hI
   have HFX2 := Aside0.mk hfx
   clear hxb hx hW hI hxp hss hfs hbr hsu2 hps hfx
   gi_wp2
   have h1 := HS1.out
   have h2 := HZF.out
   have hk := Chg.setCell (G := fun i => i = w1.heap.size) W' (p := ⟨w1.heap.size, 0, none⟩) rfl (.int .i64 x.1)
   have hput := HI.out.put (HA.out _) (b := w1.heap.size) (by omega) (by omega) (by omega) (.int .i64 x.1) (fix' := fixG dn r m w w1.heap.size x.1) (by
    intro p hp
    unfold fixG at hp
    simp only [List.mem_cons, List.not_mem_nil, or_false] at hp
    rcases hp with rfl | rfl | rfl | rfl | rfl
    ·exact hk.obj (HI.out.same (w.heap.size, _) (by unfold fixG; simp)) (by omega)
    ·exact hk.obj (HI.out.same (w.heap.size + 1 + 1, _) (by unfold fixG; simp)) (by omega)
    ·exact hk.obj (HI.out.same (w.heap.size + 1 + 1 + 1, _) (by unfold fixG; simp)) (by omega)
    ·exact hk.obj (HI.out.same (w.heap.size + 1 + 1 + 1 + 1, _) (by unfold fixG; simp)) (by omega)
    ·exact HFX2.out.set _)
   refine ⟨HBR.out, hput.2, ?_⟩
   show RowI w (w2.heap.size + 3) w2.heap.size (w.heap.size + 1) 24 42 5 (fixG dn r m w w1.heap.size (fromL (r.length + u.length) (pre ++ [x]))) (toksL (sureL (pre ++ [x]))).length ((toksL (sureL (pre ++ [x]))).flatMap (tokCs dn)) _ _
   rw [HSS.out, HFS.out]
   exact hput.1
 case done =>
  rintro D G W hstn hD hI hK
  have hfn : f.2.1 = none := by cases hff : f.2.1 with | none => rfl | some p => rw [hff] at hstn; cases hstn
  obtain ⟨he1, he2⟩ := HFE.out hfn
  have hlr : feedR dn r m u = (toksL (sureL xs), ((dn : Int) + f.2.2.1, (r ++ u).drop f.2.2.1, m + (toksL (sureL xs)).length), 0, 0) := by rw [HLR.out, hfn, he1]
  rw [HRU.out] at he2
  have hqle := HF1.out
  rw [HRU.out] at hqle
  have hI' : RowI w (w2.heap.size + 3) w2.heap.size (w.heap.size + 1) 24 42 5 (fixG dn r m w w1.heap.size f.2.2.1) (toksL (sureL xs)).length ((toksL (sureL xs)).flatMap (tokCs dn)) G W := by
   have := hI
   simp only [he2] at this
   exact this
  have hkl : (toksL (sureL xs)).length ≤ 1048577 := by
   have h1 := toks_le (sureL xs)
   have h2 : (sureL xs).length ≤ xs.length := List.length_filter_le ..
   have h3 := HLE.out
   have h4 := HRL.out
   omega
  generalize f.2.2.1 = q at he1 he2 hlr hqle hI'
  have hg := HG2.out
  have kq1 : IntKind.i64.wrap ((dn : Int) + (q : Int)) = (dn : Int) + (q : Int) := IntWalk.i64_in _ (by have := HRL.out; have := HRU.out; omega)
  have kq2 : IntKind.i64.wrap (m + ((toksL (sureL xs)).length : Int)) = m + ((toksL (sureL xs)).length : Int) := IntWalk.i64_in _ (by omega)
  have kt : (ba (r ++ u)).extract q (r ++ u).length = ba ((r ++ u).drop q) := ba_tail _ _
  have kt2 : (ba (r ++ u)).extract q (r.length + u.length) = ba ((r ++ u).drop q) := by rw [← HRU.out]; exact ba_tail _ _
  have kq3 : (q : Int) ≤ (r.length : Int) + (u.length : Int) := by omega
  have kq4 : q ≤ (r ++ u).length := by rw [HRU.out]; exact hqle
  have hpb := pend_brk xs
  have hK2 := Aside0.mk hK
  have HI := Aside0.mk hI'
  obtain ⟨v, hv, hr, _⟩ := hI'.row
  obtain ⟨A, cp, rfl⟩ := row_form hr
  have hs : ScanAt W w.heap.size dn r m := hI'.same (w.heap.size, _) (by unfold fixG; simp)
  have hn : ScanAt W (w.heap.size + 1 + 1) 0 [] 0 := hI'.same (w.heap.size + 1 + 1, _) (by unfold fixG; simp)
  have hx3 : Boxed W (w.heap.size + 1 + 1 + 1) 25 (.int .i64 0) := hI'.same (w.heap.size + 1 + 1 + 1, _) (by unfold fixG; simp)
  have hx4 : Boxed W (w.heap.size + 1 + 1 + 1 + 1) 3 (.int .i64 0) := hI'.same (w.heap.size + 1 + 1 + 1 + 1, _) (by unfold fixG; simp)
  have hxf : Boxed W w1.heap.size 3 (.int .i64 (q : Int)) := hI'.same (w1.heap.size, _) (by unfold fixG; simp)
  have HR := Aside0.mk hr
  have HV := Aside0.mk hv
  have HSC := Aside0.mk hs
  have HN := Aside0.mk hn
  have H3 := Aside0.mk hx3
  have H4 := Aside0.mk hx4
  have HXF := Aside0.mk hxf
  have HLR2 := Aside0.mk hlr
  have HE1 := Aside0.mk he1
  clear hK hI hI' hv hr hs hn hx3 hx4 hxf hlr he1 he2 hg
  generalize pend brkF xs = pq at hpb ⊢
  refine inBlock_two (by rcases hpb with rfl | rfl; exact .inl rfl; exact .inr rfl) ?_
  gi_wp2
  refine wpIn_mono (Q := NoPanic _) ?_ NoPanic.imp
  refine wpIn_region_held 17 (S := fun W2 : World => Boxed W2 (w.heap.size + 1) 24 (.slice A (toksL (sureL xs)).length cp) ∧ ScanAt W2 w.heap.size dn r m ∧ Boxed W2 w1.heap.size 3 (.int .i64 (q : Int))) (by kernel_rfl) ?_
  change wpAnyHIn _ _ _ _ _ _ _ _ _ _ _ W.drew
  have HS15 : Aside0 ((fun W2 : World => Boxed W2 (w.heap.size + 1) 24 (.slice A (toksL (sureL xs)).length cp) ∧ ScanAt W2 w.heap.size dn r m ∧ Boxed W2 w1.heap.size 3 (.int .i64 (q : Int))) W.drew) := ⟨⟨HV.out, HSC.out, HXF.out⟩⟩
  have HC0 : Aside0 (Chg (fun _ => False) W W.drew) := ⟨Chg.of_below _ (Drawn0.below ⟨⟨1, rfl⟩⟩)⟩
  generalize W.drew = W2 at HS15 HC0 ⊢
  have h1 := HS1.out
  have h3 := HZF.out
  have c0 := HS15.out.1.cell
  have f0 := HS15.out.1.frozen
  obtain ⟨s0, s1, s2⟩ := scan_cells HS15.out.2.1
  have e0 := HS15.out.2.2.cell
  have HZS := Aside0.mk (And.intro h1 h3)
  clear h1 h3
  refine wpAnyHIn_take (i := 0) (v := .slice A (toksL (sureL xs)).length cp) (by kernel_rfl) (by kernel_rfl) rfl (by kernel_rfl) (by kernel_rfl) (by kernel_rfl) (fun _ _ _ h => h) (fun _ => by rfl) (.inl ⟨by kernel_rfl, fun w' hw' => by have e4 := hw'.1.cell; go_simp⟩) HS15.out ?_
  simp only [Act.put, List.setIfInBounds_toArray, List.set_cons_zero, List.set_cons_succ]
  refine wpAnyHIn_take (i := 1) (v := .pointer (some ⟨w.heap.size, 0, none⟩)) (by kernel_rfl) (by kernel_rfl) rfl (by kernel_rfl) (by kernel_rfl) (by kernel_rfl) (fun _ _ _ h => h) (fun _ => by rfl) (.inl ⟨by kernel_rfl, fun w' hw' => by go_simp⟩) HS15.out ?_
  simp only [Act.put, List.setIfInBounds_toArray, List.set_cons_zero, List.set_cons_succ]
  refine wpAnyHIn_take (i := 2) (v := .int .i64 (dn : Int)) (by kernel_rfl) (by kernel_rfl) rfl (by kernel_rfl) (by kernel_rfl) (by kernel_rfl) (fun _ _ _ h => h) (fun _ => by rfl) (.inl ⟨by kernel_rfl, fun w' hw' => by have e5 := (scan_cells hw'.2.1).1; go_simp⟩) HS15.out ?_
  simp only [Act.put, List.setIfInBounds_toArray, List.set_cons_zero, List.set_cons_succ]
  refine wpAnyHIn_take (i := 3) (v := .int .i64 (q : Int)) (by kernel_rfl) (by kernel_rfl) rfl (by kernel_rfl) (by kernel_rfl) (by kernel_rfl) (fun _ _ _ h => h) (fun _ => by rfl) (.inl ⟨by kernel_rfl, fun w' hw' => by have e8 := hw'.2.2.cell; go_simp⟩) HS15.out ?_
  simp only [Act.put, List.setIfInBounds_toArray, List.set_cons_zero, List.set_cons_succ]
  refine wpAnyHIn_take (i := 4) (v := .int .i64 ((dn : Int) + (q : Int))) (by kernel_rfl) (by kernel_rfl) rfl (by kernel_rfl) (by kernel_rfl) (by kernel_rfl) (fun _ _ _ h => h) (fun _ => by rfl) (.inl ⟨by kernel_rfl, fun w' hw' => by go_simp⟩) HS15.out ?_
  simp only [Act.put, List.setIfInBounds_toArray, List.set_cons_zero, List.set_cons_succ]
  refine wpAnyHIn_take (i := 5) (v := .string (ba (r ++ u))) (by kernel_rfl) (by kernel_rfl) rfl (by kernel_rfl) (by kernel_rfl) (by kernel_rfl) (fun _ _ _ h => h) (fun _ => by rfl) (.inl ⟨by kernel_rfl, fun w' hw' => by go_simp⟩) HS15.out ?_
  simp only [Act.put, List.setIfInBounds_toArray, List.set_cons_zero, List.set_cons_succ]
  refine wpAnyHIn_take (i := 6) (v := .int .i64 (q : Int)) (by kernel_rfl) (by kernel_rfl) rfl (by kernel_rfl) (by kernel_rfl) (by kernel_rfl) (fun _ _ _ h => h) (fun _ => by rfl) (.inl ⟨by kernel_rfl, fun w' hw' => by have e8 := hw'.2.2.cell; go_simp⟩) HS15.out ?_
  simp only [Act.put, List.setIfInBounds_toArray, List.set_cons_zero, List.set_cons_succ]
  refine wpAnyHIn_take (i := 7) (v := .string (ba ((r ++ u).drop q))) (by kernel_rfl) (by kernel_rfl) rfl (by kernel_rfl) (by kernel_rfl) (by kernel_rfl) (fun _ _ _ h => h) (fun _ => by rfl) (.inl ⟨by kernel_rfl, fun w' hw' => by go_simp⟩) HS15.out ?_
  simp only [Act.put, List.setIfInBounds_toArray, List.set_cons_zero, List.set_cons_succ]
  refine wpAnyHIn_take (i := 8) (v := .pointer (some ⟨w.heap.size, 2, none⟩)) (by kernel_rfl) (by kernel_rfl) rfl (by kernel_rfl) (by kernel_rfl) (by kernel_rfl) (fun _ _ _ h => h) (fun _ => by rfl) (.inl ⟨by kernel_rfl, fun w' hw' => by go_simp⟩) HS15.out ?_
  simp only [Act.put, List.setIfInBounds_toArray, List.set_cons_zero, List.set_cons_succ]
  refine wpAnyHIn_take (i := 9) (v := .int .i64 m) (by kernel_rfl) (by kernel_rfl) rfl (by kernel_rfl) (by kernel_rfl) (by kernel_rfl) (fun _ _ _ h => h) (fun _ => by rfl) (.inl ⟨by kernel_rfl, fun w' hw' => by have e7 := (scan_cells hw'.2.1).2.2; go_simp⟩) HS15.out ?_
  simp only [Act.put, List.setIfInBounds_toArray, List.set_cons_zero, List.set_cons_succ]
  refine wpAnyHIn_take (i := 10) (v := .slice A (toksL (sureL xs)).length cp) (by kernel_rfl) (by kernel_rfl) rfl (by kernel_rfl) (by kernel_rfl) (by kernel_rfl) (fun _ _ _ h => h) (fun _ => by rfl) (.inl ⟨by kernel_rfl, fun w' hw' => by have e4 := hw'.1.cell; go_simp⟩) HS15.out ?_
  simp only [Act.put, List.setIfInBounds_toArray, List.set_cons_zero, List.set_cons_succ]
  refine wpAnyHIn_take (i := 11) (v := .int .i64 ((toksL (sureL xs)).length : Int)) (by kernel_rfl) (by kernel_rfl) rfl (by kernel_rfl) (by kernel_rfl) (by kernel_rfl) (fun _ _ _ h => h) (fun _ => by rfl) (.inl ⟨by kernel_rfl, fun w' hw' => by go_simp⟩) HS15.out ?_
  simp only [Act.put, List.setIfInBounds_toArray, List.set_cons_zero, List.set_cons_succ]
  refine wpAnyHIn_take (i := 12) (v := .int .i64 (m + ((toksL (sureL xs)).length : Int))) (by kernel_rfl) (by kernel_rfl) rfl (by kernel_rfl) (by kernel_rfl) (by kernel_rfl) (fun _ _ _ h => h) (fun _ => by rfl) (.inl ⟨by kernel_rfl, fun w' hw' => by go_simp⟩) HS15.out ?_
  simp only [Act.put, List.setIfInBounds_toArray, List.set_cons_zero, List.set_cons_succ]
  refine wpAnyHIn_take (i := 13) (v := .agg #[.int .i64 ((dn : Int) + (q : Int)), .string (ba ((r ++ u).drop q)), .int .i64 (m + ((toksL (sureL xs)).length : Int))]) (by kernel_rfl) (by kernel_rfl) rfl (by kernel_rfl) (by kernel_rfl) (by kernel_rfl) (fun _ _ _ h => h) (fun _ => by rfl) (.inl ⟨by kernel_rfl, fun w' hw' => by go_simp⟩) HS15.out ?_
  simp only [Act.put, List.setIfInBounds_toArray, List.set_cons_zero, List.set_cons_succ]
  have hnx : ScanAt W2 (w.heap.size + 1 + 1) 0 [] 0 := HC0.out.obj HN.out (by simp)
  have hx3 : Boxed W2 (w.heap.size + 1 + 1 + 1) 25 (.int .i64 0) := HC0.out.boxed H3.out (by simp)
  have hx4 : Boxed W2 (w.heap.size + 1 + 1 + 1 + 1) 3 (.int .i64 0) := HC0.out.boxed H4.out (by simp)
  have HA0 := Aside0.mk hnx
  have HA3 := Aside0.mk hx3
  have HA4 := Aside0.mk hx4
  clear hnx hx3 hx4 s0 s1 s2 e0
  refine wpAnyHIn_one (i := 14) (by kernel_rfl) ?_
  refine wpOpIn_of rfl (by kernel_rfl) ?_
  go_simp
  have k1 : Chg (fun i => i = w.heap.size + 1) W2 (W2.setCell ⟨w.heap.size + 1, 0, none⟩ (.slice A (toksL (sureL xs)).length cp)) := Chg.setCell (G := fun i => i = w.heap.size + 1) W2 (p := ⟨w.heap.size + 1, 0, none⟩) rfl _
  have HS14 : Aside0 ((fun W2 : World => Boxed W2 (w.heap.size + 1) 24 (.slice A (toksL (sureL xs)).length cp) ∧ ScanAt W2 w.heap.size dn r m ∧ Boxed W2 w1.heap.size 3 (.int .i64 (q : Int))) (W2.setCell ⟨w.heap.size + 1, 0, none⟩ (.slice A (toksL (sureL xs)).length cp))) := ⟨⟨HS15.out.1.set _, k1.obj HS15.out.2.1 (by omega), k1.boxed HS15.out.2.2 (by have := HZS.out.1; omega)⟩⟩
  have HB0 : Aside0 (ScanAt (W2.setCell ⟨w.heap.size + 1, 0, none⟩ (.slice A (toksL (sureL xs)).length cp)) (w.heap.size + 1 + 1) 0 [] 0) := ⟨k1.obj HA0.out (by omega)⟩
  have HB3 := Aside0.mk (k1.boxed HA3.out (by omega))
  have HB4 := Aside0.mk (k1.boxed HA4.out (by omega))
  have HC1 := Aside0.mk ((HC0.out.mono (G' := fun i => i = w.heap.size + 1) (fun i h => h.elim)).trans k1 fun i h => .inl h)
  generalize W2.setCell ⟨w.heap.size + 1, 0, none⟩ (.slice A (toksL (sureL xs)).length cp) = W3 at HS14 HB0 HB3 HB4 HC1 ⊢
  refine ⟨HS14.out, ?_⟩
  try simp only [Act.put, List.setIfInBounds_toArray, List.set_cons_zero, List.set_cons_succ]
  have n0 := (scan_cells HB0.out).1
  have n1 := (scan_cells HB0.out).2.1
  have n2 := (scan_cells HB0.out).2.2
  have nf0 := HB0.out.frozen 0
  have nf1 := HB0.out.frozen 1
  have nf2 := HB0.out.frozen 2
  clear c0 f0 k1
  refine wpAnyHIn_one (i := 15) (by kernel_rfl) ?_
  refine wpOpIn_of rfl (by kernel_rfl) ?_
  go_simp
  have k2 := Chg.three (G := fun i => i = w.heap.size + 1 + 1) W3 (b := w.heap.size + 1 + 1) rfl (.int .i64 ((dn : Int) + (q : Int))) (.string (ba ((r ++ u).drop q))) (.int .i64 (m + ((toksL (sureL xs)).length : Int)))
  have HD0 : Aside0 (ScanAt (((W3.setCell ⟨w.heap.size + 1 + 1, 0, none⟩ (.int .i64 ((dn : Int) + (q : Int)))).setCell ⟨w.heap.size + 1 + 1, 1, none⟩ (.string (ba ((r ++ u).drop q)))).setCell ⟨w.heap.size + 1 + 1, 2, none⟩ (.int .i64 (m + ((toksL (sureL xs)).length : Int)))) (w.heap.size + 1 + 1) ((dn : Int) + (q : Int)) ((r ++ u).drop q) (m + ((toksL (sureL xs)).length : Int))) := ⟨HB0.out.set _ _ _⟩
  have HS16 : Aside0 ((fun W2 : World => Boxed W2 (w.heap.size + 1) 24 (.slice A (toksL (sureL xs)).length cp) ∧ ScanAt W2 w.heap.size dn r m ∧ Boxed W2 w1.heap.size 3 (.int .i64 (q : Int))) (((W3.setCell ⟨w.heap.size + 1 + 1, 0, none⟩ (.int .i64 ((dn : Int) + (q : Int)))).setCell ⟨w.heap.size + 1 + 1, 1, none⟩ (.string (ba ((r ++ u).drop q)))).setCell ⟨w.heap.size + 1 + 1, 2, none⟩ (.int .i64 (m + ((toksL (sureL xs)).length : Int))))) := ⟨⟨k2.boxed HS14.out.1 (by omega), k2.obj HS14.out.2.1 (by omega), k2.boxed HS14.out.2.2 (by have := HZS.out.1; omega)⟩⟩
  have HD3 := Aside0.mk (k2.boxed HB3.out (by omega))
  have HD4 := Aside0.mk (k2.boxed HB4.out (by omega))
  have HC2 := Aside0.mk ((HC1.out.mono (G' := fun i => i = w.heap.size + 1 ∨ i = w.heap.size + 1 + 1) (fun i h => .inl h)).trans k2 fun i h => .inl (.inr h))
  clear k2
  generalize ((W3.setCell ⟨w.heap.size + 1 + 1, 0, none⟩ (.int .i64 ((dn : Int) + (q : Int)))).setCell ⟨w.heap.size + 1 + 1, 1, none⟩ (.string (ba ((r ++ u).drop q)))).setCell ⟨w.heap.size + 1 + 1, 2, none⟩ (.int .i64 (m + ((toksL (sureL xs)).length : Int))) = W4 at HD0 HS16 HD3 HD4 HC2 ⊢
  refine ⟨HS16.out, ?_⟩
  try simp only [Act.put, List.setIfInBounds_toArray, List.set_cons_zero, List.set_cons_succ]
  have c3 := HD3.out.cell
  have f3 := HD3.out.frozen
  clear n0 n1 n2 nf0 nf1 nf2
  refine wpAnyHIn_one (i := 16) (by kernel_rfl) ?_
  refine wpOpIn_of rfl (by kernel_rfl) ?_
  go_simp
  have k3 : Chg (fun i => i = w.heap.size + 1 + 1 + 1) W4 (W4.setCell ⟨w.heap.size + 1 + 1 + 1, 0, none⟩ (.int .i64 0)) := Chg.setCell (G := fun i => i = w.heap.size + 1 + 1 + 1) W4 (p := ⟨w.heap.size + 1 + 1 + 1, 0, none⟩) rfl _
  have HE0 := Aside0.mk (k3.obj HD0.out (by omega))
  have HS17 : Aside0 ((fun W2 : World => Boxed W2 (w.heap.size + 1) 24 (.slice A (toksL (sureL xs)).length cp) ∧ ScanAt W2 w.heap.size dn r m ∧ Boxed W2 w1.heap.size 3 (.int .i64 (q : Int))) (W4.setCell ⟨w.heap.size + 1 + 1 + 1, 0, none⟩ (.int .i64 0))) := ⟨⟨k3.boxed HS16.out.1 (by omega), k3.obj HS16.out.2.1 (by omega), k3.boxed HS16.out.2.2 (by have := HZS.out.1; omega)⟩⟩
  have HE3 := Aside0.mk (HD3.out.set (.int .i64 0))
  have HE4 := Aside0.mk (k3.boxed HD4.out (by omega))
  have HC3 := Aside0.mk ((HC2.out.mono (G' := fun i => i = w.heap.size + 1 ∨ i = w.heap.size + 1 + 1 ∨ i = w.heap.size + 1 + 1 + 1) (fun i h => h.elim .inl fun h => .inr (.inl h))).trans k3 fun i h => .inl (.inr (.inr h)))
  clear k3
  generalize W4.setCell ⟨w.heap.size + 1 + 1 + 1, 0, none⟩ (.int .i64 0) = W5 at HE0 HS17 HE3 HE4 HC3 ⊢
  refine ⟨HS17.out, ?_⟩
  try simp only [Act.put, List.setIfInBounds_toArray, List.set_cons_zero, List.set_cons_succ]
  have c4 := HE4.out.cell
  have f4 := HE4.out.frozen
  clear c3 f3
  refine wpAnyHIn_one (i := 17) (by kernel_rfl) ?_
  refine wpOpIn_of rfl (by kernel_rfl) ?_
  go_simp
  refine wpAnyHIn_done (by kernel_rfl) (NoPanic.normal ?_) _
  have k4 : Chg (fun i => i = w.heap.size + 1 + 1 + 1 + 1) W5 (W5.setCell ⟨w.heap.size + 1 + 1 + 1 + 1, 0, none⟩ (.int .i64 0)) := Chg.setCell (G := fun i => i = w.heap.size + 1 + 1 + 1 + 1) W5 (p := ⟨w.heap.size + 1 + 1 + 1 + 1, 0, none⟩) rfl _
  have Z0 := Aside0.mk (k4.obj HE0.out (by omega))
  have Z1 := Aside0.mk (k4.boxed HS17.out.1 (by omega))
  have Z3 := Aside0.mk (k4.boxed HE3.out (by omega))
  have Z4 := Aside0.mk (HE4.out.set (.int .i64 0))
  have HC4 := Aside0.mk ((HC3.out.mono (G' := fun i => w.heap.size + 1 ≤ i ∧ i ≤ w.heap.size + 1 + 1 + 1 + 1) (fun i h => by omega)).trans k4 fun i h => .inl (by omega))
  clear k4 c4 f4
  generalize W5.setCell ⟨w.heap.size + 1 + 1 + 1 + 1, 0, none⟩ (.int .i64 0) = W6 at Z0 Z1 Z3 Z4 HC4 ⊢
  change Exit.then _ _ _ _ _
  gi_wp2
  show LeavesInM _ _ _ _ _ _ _ _ _
  have h1 := HZS.out.1
  have h3 := HZS.out.2
  have h2 := HI.out.size
  rw [HSB.out] at hD
  have zb : Below w.heap.size w W6 := HI.out.below.trans (HC4.out.below HI.out.below.size (by omega))
  have zD := HC4.out.obj hK2.out (by omega)
  have zr := HC4.out.row HR.out fun g e => by have := (HR.out.lt g e).1; omega
  refine leaves_mark (by simp) zD ?_
  intro W7 hc
  have y0 := hc.obj Z0.out (by omega)
  have y1 := hc.boxed Z1.out (by omega)
  have y3 := hc.boxed Z3.out (by omega)
  have y4 := hc.boxed Z4.out (by omega)
  have yb : Below w.heap.size w W7 := zb.trans (hc.below zb.size (by omega))
  have yr := hc.row zr fun g e h => by
   obtain ⟨_, ⟨q', _⟩ | ⟨g', cap, cur, q', _, hgb, _⟩⟩ := zr
   ·rw [q'] at e; cases e
   ·rw [q'] at e
    have hg : g' = g := Option.some.inj e
    subst hg
    rw [h] at hgb
    exact absurd (zD.symm.trans hgb) (by simp)
  refine leaves_idle (by decide) _ _ ?_
  refine leaves_fn (by decide) (by simp) (f := 51) (cap := #[.pointer (some ⟨w.heap.size + 1 + 1 + 1, 0, none⟩), .pointer (some ⟨w.heap.size + 1 + 1 + 1 + 1, 0, none⟩), .pointer (some ⟨w.heap.size, 0, none⟩), .pointer (some ⟨w.heap.size + 1, 0, none⟩), .pointer (some ⟨w.heap.size + 1 + 1, 0, none⟩)]) (S := fun A B => B = A) (enters_of Tryd.func51 (by kernel_rfl) rfl _ _) (fd1_ok 5 _ _ _ _ _ .returning W7 y3.cell) ?_
  rintro W8 rfl
  have d1 := y1.cell
  have d3 := y3.cell
  have d4 := y4.cell
  have e0 := (scan_cells y0).1
  have e1 := (scan_cells y0).2.1
  have e2 := (scan_cells y0).2.2
  simp [LeavesInM, LeavesIn, settle, results, Tryd.results26, go_sem, d1, d3, d4, e0, e1, e2]
  exact ⟨_, by rw [HLR2.out]; rfl, by rw [HLR2.out, Int.toNat_natCast]; exact row_base yr (by omega), yb⟩
 case stop =>
  rintro D G W ch hch hD hI hK
  obtain ⟨p, hst, rfl⟩ : ∃ p, f.2.1 = some p ∧ ch = failC p := by
   cases hff : f.2.1 with
   | none => rw [hff] at hch; cases hch
   | some p => rw [hff] at hch; cases hch; exact ⟨p, rfl, rfl⟩
  have hpe := HER.out p hst
  have hpl := HPL.out p hst
  have hrl := HRL.out
  have hlr : feedR dn r m u = ([], (0, [], 0), p.1, p.2 + (dn : Int)) := by rw [HLR.out, hst]
  have h1 := HS1.out
  have h3 := HZF.out
  rw [HSB.out] at hD
  show LeavesInM _ _ _ _ _ _ _ _ _
  obtain ⟨v, hv, hr, _⟩ := hI.row
  refine leaves_mark (by simp) hK ?_
  intro W4 hc4
  have hs := hI.size
  exact HLV.out p hpe (by omega) hlr W4 v (hc4.obj (hI.same (w.heap.size, _) (by unfold fixG; simp)) (by omega)) (hc4.boxed hv (by omega)) (hc4.obj (hI.same (w.heap.size + 1 + 1, _) (by unfold fixG; simp)) (by omega)) (hc4.obj (hI.same (w.heap.size + 1 + 1 + 1, _) (by unfold fixG; simp)) (by omega)) (hc4.obj (hI.same (w.heap.size + 1 + 1 + 1 + 1, _) (by unfold fixG; simp)) (by omega)) (hI.below.trans (hc4.below hI.below.size (by omega))) _ _ _ _ _ _ _ _ _ _ _ _ _ _ _ _ _ _ _ _ _ _ _ _ _ _ _ _ _ _ _ _ _ _ _ _ _ _ _ _ _ _ _ _ _ _ _ _ _ _ _ _ _ _ _ _ _ _ _ _ _ _ _ _ _ _
theorem fd_calls (d : Int) (r : List UInt8) (m : Int) (u : List UInt8) (hrl : r.length ≤ 2305843009213693952) (hul : u.length ≤ 2305843009213693952) (w : World) (hG : LaidG w) : Calls Tryd.prog 26 #[scanV d r m, .string (ba u)] w (FeedOut d r m u w) := by
 suffices h : CallsIn Fence.wide 6 Tryd.prog 26 #[scanV d r m, .string (ba u)] w (FeedOut d r m u w) from callsIn_wide.1 h
 by_cases hfb : fedB d r m = false
 ·exact fd_no d r m u hfb w hG
 ·have hfb : fedB d r m = true := by simpa using hfb
  by_cases hov : 1048576 < d + r.length + u.length
  ·exact fd_over d r m u hrl hul hfb hov w hG
  ·obtain ⟨dn, rfl⟩ : ∃ dn : Nat, d = dn := ⟨d.toNat, (Int.toNat_of_nonneg (fed_bounds hfb).1).symm⟩
   exact fd_run dn r m u hfb hov w hG
end Go.Proofs.YtniihjhlkpjnoaaDoor.Given