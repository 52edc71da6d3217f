/- A range over an iterator that makes memory, writes into blocks of its own (G) between two rounds, and ends by returning or by a panic: of it is known which elements come. -/
import Derived.RangeFuncNested
import Derived.RangeFuncBound
import Derived.RangeFuncCalls
import Derived.RangeFuncLeaves
import Derived.RangeFuncBox
import Derived.Lib.BufferOwn
import Derived.Shelf.Abstract
import Derived.OwnWalkIn
import Derived.TacticsInMore
import Derived.LoopNIn
import Derived.LoopIn
set_option linter.unusedVariables false
set_option linter.unusedSimpArgs false
namespace Go.Proofs.YtniihjhlkpjnoaaDoor.Given
open Go.RowKit Go.Shelf
structure Chg (G : Nat → Prop) (W W' : World) : Prop where
 os : W'.os = W.os
 tape : W'.tape = W.tape
 output : W'.output = W.output
 size : W.heap.size ≤ W'.heap.size
 block : ∀ i, i < W.heap.size → ¬ G i → W'.heap[i]? = W.heap[i]?
structure Kept (G : Nat → Prop) (W W' : World) : Prop where
 size : W.heap.size ≤ W'.heap.size
 block : ∀ i, G i → W'.heap[i]? = W.heap[i]?
theorem Chg.refl (G : Nat → Prop) (W : World) : Chg G W W := ⟨rfl, rfl, rfl, Nat.le_refl _, fun _ _ _ => rfl⟩
theorem Chg.trans {G G' : Nat → Prop} {A B C : World} (h : Chg G A B) (k : Chg G' B C) (hG : ∀ i, G' i → G i ∨ A.heap.size ≤ i) : Chg G A C :=
 ⟨k.os.trans h.os, k.tape.trans h.tape, k.output.trans h.output, Nat.le_trans h.size k.size, fun i hi hn => (k.block i (Nat.lt_of_lt_of_le hi h.size) (fun hg => (hG i hg).elim hn (fun h2 => by omega))).trans (h.block i hi hn)⟩
theorem Chg.mono {G G' : Nat → Prop} {A B : World} (h : Chg G A B) (hG : ∀ i, G i → G' i) : Chg G' A B := ⟨h.os, h.tape, h.output, h.size, fun i hi hn => h.block i hi fun g => hn (hG i g)⟩
theorem Chg.below {G : Nat → Prop} {A B : World} (h : Chg G A B) {n : Nat} (hn : n ≤ A.heap.size) (hG : ∀ i, G i → n ≤ i) : Below n A B := ⟨h.os, h.tape, h.output, h.size, fun i hi => h.block i (by omega) fun g => by have := hG i g; omega⟩
theorem Chg.of_below {A B : World} (G : Nat → Prop) (h : Below A.heap.size A B) : Chg G A B := ⟨h.os, h.tape, h.output, h.size, fun i hi _ => h.block i hi⟩
theorem Chg.setCell {G : Nat → Prop} (W : World) {p : Addr} (hp : G p.block) (u : Value) : Chg G W (W.setCell p u) :=
 ⟨rfl, rfl, rfl, by simp [World.setCell], fun i hi hn => Below.heap_setCell W p u i (fun e => hn (e ▸ hp))⟩
theorem Chg.putObj {G : Nat → Prop} (W : World) {l : Nat} (hp : G l) (o : Obj) : Chg G W (W.putObj l o) :=
 ⟨rfl, rfl, rfl, by simp, fun i hi hn => World.putObj_heap_other (fun e => hn (e ▸ hp))⟩
theorem Kept.refl (G : Nat → Prop) (W : World) : Kept G W W := ⟨Nat.le_refl _, fun _ _ => rfl⟩
theorem Kept.trans {G : Nat → Prop} {A B C : World} (h : Kept G A B) (k : Kept G B C) : Kept G A C := ⟨Nat.le_trans h.size k.size, fun i hi => (k.block i hi).trans (h.block i hi)⟩
def seqEnds {α : Type} (stop : Option (List PanicEntry)) (brk : α → Option Nat) (xs : List α) (J : List α → (Nat → Prop) → World → Prop) : Ending → World → Prop := fun e W' =>
 (match stop with | none => ∃ v, e = .returned v | some ch => e = .panicked ch) ∧ (match stop with | none => True | some _ => ∀ y, y ∈ xs → brk y = none) ∧ ∃ G, J xs G W'
def GivesSeq {α : Type} (F : Fence) (n : Nat) (P : Program) (gf : Nat) (lb : Array Value) (enc : α → Value) (brk : α → Option Nat) (xs : List α) (stop : Option (List PanicEntry)) (C K : World → Prop) (F0 : Nat → Prop) : Prop :=
 ∀ (l : Nat) (J : List α → (Nat → Prop) → World → Prop) (W : World), C W → J [] F0 W →
  (∀ pre G W1, J pre G W1 → K W1) →
  (∀ pre G G' W1 W2, J pre G W1 → Chg G W1 W2 → (∀ i, G' i → G i ∨ (W1.heap.size ≤ i ∧ i < W2.heap.size)) → J pre G' W2) →
  (∀ pre x G W1, (∃ t, pre ++ x :: t = xs) → (∀ y, y ∈ pre → brk y = none) → J pre G W1 → YieldAt F (n - 1) P l #[enc x] W1 fun e W' => e = .returned (.bool (brk x).isNone) ∧ J (pre ++ [x]) G W' ∧ Kept G W1 W') →
  CallsIn F n P gf (#[.func (.yield l) #[] #[]] ++ lb) W (seqEnds stop brk xs J)
def goesOnS {α : Type} (brk : α → Option Nat) (I : List α → (Nat → Prop) → World → Prop) (pre : List α) (x : α) (G : Nat → Prop) (W : World) : Exit → Act → World → Prop
 | .normal, _, W' => brk x = none ∧ Kept G W W' ∧ I (pre ++ [x]) G W'
 | .exit id, _, W' => brk x = some id ∧ Kept G W W' ∧ I (pre ++ [x]) G W'
 | _, _, _ => False
def pend {α : Type} (brk : α → Option Nat) (xs : List α) : Option Nat := xs.getLast?.bind brk
theorem pend_snoc {α : Type} (brk : α → Option Nat) (xs : List α) (x : α) : pend brk (xs ++ [x]) = brk x := by simp [pend]
theorem pend_none {α : Type} {brk : α → Option Nat} {xs : List α} (h : ∀ y, y ∈ xs → brk y = none) : pend brk xs = none := by
 unfold pend
 cases hl : xs.getLast? with
 | none => rfl
 | some y => exact h y (List.mem_of_getLast? hl)
theorem range_seq {α : Type} {F : Fence} {n : Nat} {P : Program} {g : Operand} {ps : Array Tmp} {assign body : Code} {Q : Exit → Act → World → Prop} {a : Act} {w : World}
  (hro : F.round = none) (h1 : 1 ≤ n) {gf : Nat} {lb : Array Value} (hg : a.eval g = .func (.func gf) #[] lb) (hFg : F.fn gf) (eg : ∀ args w, (callFunc gf args).run P w = .ok (.enter gf args) w)
  {enc : α → Value} {brk : α → Option Nat} {xs : List α} {stop : Option (List PanicEntry)} {C K : World → Prop} {F0 : Nat → Prop}
  (hseq : GivesSeq F (n - 1) P gf lb enc brk xs stop C K F0)
  (hps : ps.size = 1) (I : List α → (Nat → Prop) → World → Prop) (hC : ∀ W, Below w.heap.size w W → C W) (hF0 : ∀ i, F0 i → i < w.heap.size) (h0 : I [] F0 w) (hIK : ∀ pre G W, I pre G W → K W)
  (hI : ∀ pre G G' W1 W2, I pre G W1 → Chg G W1 W2 → (∀ i, G' i → G i ∨ (W1.heap.size ≤ i ∧ i < W2.heap.size)) → I pre G' W2) (a₁ : α → World → Act) (wx : α → World → World) (hwx : ∀ x W, Below W.heap.size W (wx x W))
  (hassign : ∀ (l : Nat) (x : α) (W : World) (K : Act → World → Prop), K (a₁ x W) (wx x W) →
   assign.wpIn (F.inRound l) (n - 1 - 1) P (Exit.then K (fun _ _ _ => False)) { tmps := (ps.zip #[enc x]).foldl (fun t (p, v) => t.setIfInBounds p v) a.tmps, defers := [] } W)
  (hbody : ∀ (l : Nat) (pre : List α) (x : α) (G : Nat → Prop) (W W' : World), (∃ t, pre ++ x :: t = xs) → (∀ y, y ∈ pre → brk y = none) → (∀ i, i ≠ l → W'.heap[i]? = (wx x W).heap[i]?) → l < W.heap.size → w.heap.size ≤ l → I pre G W' → body.wpIn (F.inRound l) (n - 1 - 1) P (goesOnS brk I pre x G W') (a₁ x W) W')
  (hdone : ∀ (D : Nat) (G : Nat → Prop) (W : World), stop = none → w.heap.size ≤ D → I xs G W → W.heap[D]? = some (.deferred (some [])) → Q (match pend brk xs with | none => .normal | some id => .exit id) { a with defers := { target := .collected D, args := #[] } :: a.defers } W)
  (hstop : ∀ (D : Nat) (G : Nat → Prop) (W : World) (ch : List PanicEntry), stop = some ch → w.heap.size ≤ D → I xs G W → W.heap[D]? = some (.deferred (some [])) → Q (.panic ch) { a with defers := { target := .collected D, args := #[] } :: a.defers } W) :
  (Code.rangeFunc g ps assign body).wpIn F n P Q a w := by
 refine wpIn_rangeFunc fun fn hfn => ?_
 rw [hro]
 obtain ⟨rec, hrec⟩ : ∃ rec : LoopState → Option Code → Loop, rec = fun st pe => { state := st, pending := pe, fn, tmps := a.tmps, params := ps, assign, body, defers := w.heap.size } := ⟨_, rfl⟩
 obtain ⟨W1, hW1⟩ : ∃ W1, (w.alloc (.deferred (some []))).alloc (.loop (rec .ready none)) = W1 := ⟨_, rfl⟩
 have hL1 : W1.heap[w.heap.size + 1]? = some (.loop (rec .ready none)) := by
  rw [← hW1]; have := World.alloc_heap_new (w.alloc (.deferred (some []))) (.loop (rec .ready none)); rwa [World.size_alloc] at this
 have hK1 : W1.heap[w.heap.size]? = some (.deferred (some [])) := by
  rw [← hW1]; exact (Below.heap_alloc _ _ _ (by simp)).trans (World.alloc_heap_new w _)
 have hB1 : Below w.heap.size w W1 := by rw [← hW1]; exact ((Below.refl _ _).alloc (Nat.le_refl _) _).alloc (by simp) _
 have hS1 : W1.heap.size = w.heap.size + 2 := by rw [← hW1]; simp
 -- the blocks that are the iterator's, and the loop's own two
 obtain ⟨two, htwo⟩ : ∃ two : (Nat → Prop) → Nat → Prop, two = fun G i => G i ∨ i = w.heap.size ∨ i = w.heap.size + 1 := ⟨_, rfl⟩
 have two0 : ∀ (G : Nat → Prop) i, G i → two G i := fun G i h => by rw [htwo]; exact .inl h
 have two1 : ∀ (G : Nat → Prop), two G (w.heap.size + 1) := fun G => by rw [htwo]; exact .inr (.inr rfl)
 have two2 : ∀ (G : Nat → Prop), two G w.heap.size := fun G => by rw [htwo]; exact .inr (.inl rfl)
 obtain ⟨st, hst⟩ : ∃ st : List α → Loop, st = fun pre => match pend brk pre with | none => rec .ready none | some id => rec .done (some (.exit id)) := ⟨_, rfl⟩
 have hst0 : ∀ pre : List α, (∀ y, y ∈ pre → brk y = none) → st pre = rec .ready none := fun pre h => by rw [hst]; simp only [pend_none h]
 obtain ⟨J, hJ⟩ : ∃ J : List α → (Nat → Prop) → World → Prop, J = fun pre G W => I pre (two G) W ∧ W.heap[w.heap.size + 1]? = some (.loop (st pre)) ∧ W.heap[w.heap.size]? = some (.deferred (some [])) ∧ ¬ G (w.heap.size + 1) ∧ ¬ G w.heap.size ∧ ∀ i, G i → i < W.heap.size := ⟨_, rfl⟩
 refine ⟨w.heap.size + 1, [{ target := .collected w.heap.size, args := #[] }], W1, { target := .fn (.func gf) lb, args := #[.func (.yield (w.heap.size + 1)) #[] #[]] }, W1, gf,
  #[.func (.yield (w.heap.size + 1)) #[] #[]] ++ lb, W1, ?_, ?_, ?_, ?_, fun _ => h1, ?_⟩
 ·rw [← hW1, hrec]; exact run_enterLoop_outer _ _ _ _ _
 ·simp only [resolve, hg]
  simp [go_sem]
 ·intro f' hf'; simp [Target.leads] at hf'; subst hf'; exact hFg
 ·simp [invoke, go_sem, eg]
 ·refine (hseq (w.heap.size + 1) J W1 (hC _ hB1) ?_ (fun pre G Wk hj => by rw [hJ] at hj; exact hIK _ _ _ hj.1) ?_ ?_).mono ?_
  ·rw [hJ]
   refine ⟨hI [] F0 _ w W1 h0 (.of_below _ hB1) ?_, ?_, hK1, ?_, ?_, fun i hi => by have := hF0 i hi; omega⟩
   ·intro i hi
    rw [htwo] at hi
    rcases hi with hi | rfl | rfl
    ·exact .inl hi
    ·exact .inr ⟨Nat.le_refl _, by omega⟩
    ·exact .inr ⟨by omega, by omega⟩
   ·rw [hst0 [] (fun y hy => by cases hy)]; exact hL1
   ·exact fun h => by have := hF0 _ h; omega
   ·exact fun h => by have := hF0 _ h; omega
  ·intro pre G G' Wa Wb hj hc hg'
   rw [hJ] at hj ⊢
   obtain ⟨hi, hl, hk, n1, n2, ng⟩ := hj
   have l1 := (Array.getElem?_eq_some_iff.1 hl).1
   have l2 := (Array.getElem?_eq_some_iff.1 hk).1
   refine ⟨hI pre (two G) (two G') Wa Wb hi (hc.mono (two0 G)) ?_, (hc.block _ l1 n1).trans hl, (hc.block _ l2 n2).trans hk, fun h => (hg' _ h).elim n1 (fun h2 => by omega), fun h => (hg' _ h).elim n2 (fun h2 => by omega), fun i hi2 => (hg' i hi2).elim (fun h2 => Nat.lt_of_lt_of_le (ng i h2) hc.size) fun h2 => h2.2⟩
   intro i h
   rw [htwo] at h
   rcases h with h | rfl | rfl
   ·exact (hg' i h).imp (two0 G i) id
   ·exact .inl (two2 G)
   ·exact .inl (two1 G)
  ·intro pre x G W hx hpre hj
   rw [hJ] at hj
   obtain ⟨hi, hl, hk, n1, n2, ng⟩ := hj
   rw [hst0 pre hpre] at hl
   have hlt : w.heap.size + 1 < W.heap.size := (Array.getElem?_eq_some_iff.1 hl).1
   have hy := run_yield (P := P) (args := #[enc x]) hl (by rw [hrec]; exact hps.symm)
   rw [hrec] at hy
   have hbx := hwx x W
   have hl0 : (wx x W).heap[w.heap.size + 1]? = some (.loop (rec .ready none)) := (hbx.block _ hlt).trans hl
   have hk0 : (wx x W).heap[w.heap.size]? = some (.deferred (some [])) := (hbx.block _ (by omega)).trans hk
   have hi0 : I pre (two G) (wx x W) := hI pre (two G) (two G) _ _ hi (.of_below _ hbx) fun i h => .inl h
   have hlt0 : w.heap.size + 1 < (wx x W).heap.size := Nat.lt_of_lt_of_le hlt hbx.size
   refine ⟨fn, _, assign, body, hy, roundIn_of_wpIn hfn (hassign _ x W _ ⟨_, run_beginRound hl0 (by rw [hrec]), ?_⟩)⟩
   obtain ⟨Wx, hWx⟩ : ∃ Wx, wx x W = Wx := ⟨_, rfl⟩
   rw [hWx] at hl0 hk0 hi0 hlt0 hbx ⊢
   have hl2 : (Wx.putObj (w.heap.size + 1) (.loop { rec .ready none with state := .busy })).heap[w.heap.size + 1]? = some (.loop { rec .ready none with state := .busy }) := World.putObj_heap_same hlt0
   have hk2 : (Wx.putObj (w.heap.size + 1) (.loop { rec .ready none with state := .busy })).heap[w.heap.size]? = some (.deferred (some [])) := (World.putObj_heap_other (by omega)).trans hk0
   have hi2 : I pre (two G) (Wx.putObj (w.heap.size + 1) (.loop { rec .ready none with state := .busy })) := hI pre (two G) (two G) _ _ hi0 (.putObj Wx (two1 G) _) fun i h => .inl h
   refine wpIn_mono (hbody (w.heap.size + 1) pre x (two G) W _ hx hpre (fun i hne => by rw [hWx]; exact World.putObj_heap_other hne) hlt (by omega) hi2) ?_
   have fin : ∀ (jump : Option Nat) (W3 : World), brk x = jump → Kept (two G) (Wx.putObj (w.heap.size + 1) (.loop { rec .ready none with state := .busy })) W3 → I (pre ++ [x]) (two G) W3 →
     ∃ v w', (Instr.endRound (w.heap.size + 1) (jump.map Code.exit)).run P W3 = .ok v w' ∧ (Ending.returned v = .returned (.bool (brk x).isNone) ∧ J (pre ++ [x]) G w' ∧ Kept G W w') := fun jump W3 hb hk3 hi3 => by
    have hl3 := (hk3.block _ (two1 G)).trans hl2
    have hk4 := (hk3.block _ (two2 G)).trans hk2
    have hlt3 : w.heap.size + 1 < W3.heap.size := (Array.getElem?_eq_some_iff.1 hl3).1
    have hr := run_endRound (P := P) (jump.map Code.exit) hl3
    refine ⟨_, _, hr, by cases jump <;> rw [hb] <;> rfl, ?_, ?_⟩
    ·rw [hJ]
     refine ⟨hI _ (two G) (two G) _ _ hi3 (.putObj W3 (two1 G) _) fun i h => .inl h, ?_, (World.putObj_heap_other (by omega)).trans hk4, n1, n2, fun i hgi => by have h1 := ng i hgi; have h2 := hbx.size; have h3 := hk3.size; simp at h3 ⊢; omega⟩
     rw [World.putObj_heap_same hlt3, hst, hrec]
     simp only [pend_snoc, hb]
     cases jump <;> rfl
    ·refine ⟨by have := hk3.size; have h2 := hbx.size; simp at this ⊢; omega, fun i hgi => ?_⟩
     have hne : i ≠ w.heap.size + 1 := fun e => n1 (e ▸ hgi)
     exact (((World.putObj_heap_other hne).trans (hk3.block i (two0 G i hgi))).trans (World.putObj_heap_other hne)).trans (hbx.block i (ng i hgi))
   rintro e a3 W3 hp
   cases e with
   | normal =>
    obtain ⟨hb, hk3, hi3⟩ := hp
    exact fin none W3 hb hk3 hi3
   | ret => exact hp.elim
   | exit id =>
    obtain ⟨hb, hk3, hi3⟩ := hp
    exact fin (some id) W3 hb hk3 hi3
   | goto t => exact hp.elim
   | panic ch => exact hp.elim
   | outgrown => exact hp.elim
  ·rintro e W2 ⟨he, hx, G, hj⟩
   rw [hJ] at hj
   obtain ⟨hi, hl, hk, n1, n2, ng⟩ := hj
   cases stop with
   | none =>
    obtain ⟨v, rfl⟩ := he
    have hr := run_endLoop (P := P) hl (by rw [hst, hrec]; simp only []; cases pend brk xs <;> simp)
    have hi3 := hI xs (two G) (two G) _ (W2.putObj (w.heap.size + 1) (.loop { st xs with state := .exhausted })) hi (.putObj W2 (two1 G) _) fun i h => .inl h
    have hk3 : (W2.putObj (w.heap.size + 1) (.loop { st xs with state := .exhausted })).heap[w.heap.size]? = some (.deferred (some [])) := (World.putObj_heap_other (by omega)).trans hk
    have hd := hdone _ _ _ rfl (Nat.le_refl _) hi3 hk3
    generalize (W2.putObj (w.heap.size + 1) (.loop { st xs with state := .exhausted })) = W3 at hr hi3 hk3 hd
    have hpe : (st xs).pending = (pend brk xs).map Code.exit := by
     rw [hst, hrec]; simp only []
     cases pend brk xs <;> rfl
    rw [hpe] at hr
    cases hp : pend brk xs with
    | none => rw [hp] at hr hd; exact ⟨none, _, hr, hd⟩
    | some id => rw [hp] at hr hd; exact ⟨some (.exit id), _, hr, wpIn_exit hd⟩
   | some ch =>
    obtain rfl : e = .panicked ch := he
    exact hstop _ _ _ ch rfl (Nat.le_refl _) hi hk
end Go.Proofs.YtniihjhlkpjnoaaDoor.Given