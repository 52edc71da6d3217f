/- A range over an iterator that makes memory, writes into blocks of its own (G) between two rounds, and ends by returning or by a panic: of it is known which elements come. -/
import Derived.RangeFuncNested
import Derived.RangeFuncBound
import Derived.RangeFuncCalls
import Derived.RangeFuncLeaves
import Derived.RangeFuncBox
import Derived.Lib.BufferOwn
import Derived.Shelf.Abstract
import Derived.OwnWalkIn
import Derived.TacticsInMore
import Derived.LoopNIn
import Derived.LoopIn
import Derived.Test.YtniihjhlkpjnoaaDoorJ5
import Derived.MapKept
section
set_option linter.unusedVariables false
set_option linter.unusedSimpArgs false
namespace Go.Proofs.YtniihjhlkpjnoaaDoor.Given
open Go.RowKit Go.Shelf
structure Chg (G : Nat → Prop) (W W' : World) : Prop where
 os : W'.os = W.os
 tape : W'.tape = W.tape
 output : W'.output = W.output
 size : W.heap.size ≤ W'.heap.size
 block : ∀ i, i < W.heap.size → ¬ G i → W'.heap[i]? = W.heap[i]?
structure Kept (G : Nat → Prop) (W W' : World) : Prop where
 size : W.heap.size ≤ W'.heap.size
 block : ∀ i, G i → W'.heap[i]? = W.heap[i]?
theorem Chg.refl (G : Nat → Prop) (W : World) : Chg G W W := ⟨rfl, rfl, rfl, Nat.le_refl _, fun _ _ _ => rfl⟩
theorem Chg.trans {G G' : Nat → Prop} {A B C : World} (h : Chg G A B) (k : Chg G' B C) (hG : ∀ i, G' i → G i ∨ A.heap.size ≤ i) : Chg G A C :=
 ⟨k.os.trans h.os, k.tape.trans h.tape, k.output.trans h.output, Nat.le_trans h.size k.size, fun i hi hn => (k.block i (Nat.lt_of_lt_of_le hi h.size) (fun hg => (hG i hg).elim hn (fun h2 => by omega))).trans (h.block i hi hn)⟩
theorem Chg.mono {G G' : Nat → Prop} {A B : World} (h : Chg G A B) (hG : ∀ i, G i → G' i) : Chg G' A B := ⟨h.os, h.tape, h.output, h.size, fun i hi hn => h.block i hi fun g => hn (hG i g)⟩
theorem Chg.below {G : Nat → Prop} {A B : World} (h : Chg G A B) {n : Nat} (hn : n ≤ A.heap.size) (hG : ∀ i, G i → n ≤ i) : Below n A B := ⟨h.os, h.tape, h.output, h.size, fun i hi => h.block i (by omega) fun g => by have := hG i g; omega⟩
theorem Chg.of_below {A B : World} (G : Nat → Prop) (h : Below A.heap.size A B) : Chg G A B := ⟨h.os, h.tape, h.output, h.size, fun i hi _ => h.block i hi⟩
theorem Chg.setCell {G : Nat → Prop} (W : World) {p : Addr} (hp : G p.block) (u : Value) : Chg G W (W.setCell p u) :=
 ⟨rfl, rfl, rfl, by simp [World.setCell], fun i hi hn => Below.heap_setCell W p u i (fun e => hn (e ▸ hp))⟩
theorem Chg.putObj {G : Nat → Prop} (W : World) {l : Nat} (hp : G l) (o : Obj) : Chg G W (W.putObj l o) :=
 ⟨rfl, rfl, rfl, by simp, fun i hi hn => World.putObj_heap_other (fun e => hn (e ▸ hp))⟩
theorem Kept.refl (G : Nat → Prop) (W : World) : Kept G W W := ⟨Nat.le_refl _, fun _ _ => rfl⟩
theorem Kept.trans {G : Nat → Prop} {A B C : World} (h : Kept G A B) (k : Kept G B C) : Kept G A C := ⟨Nat.le_trans h.size k.size, fun i hi => (k.block i hi).trans (h.block i hi)⟩
def seqEnds {α : Type} (stop : Option (List PanicEntry)) (brk : α → Option Nat) (xs : List α) (J : List α → (Nat → Prop) → World → Prop) : Ending → World → Prop := fun e W' =>
 (match stop with | none => ∃ v, e = .returned v | some ch => e = .panicked ch) ∧ (match stop with | none => True | some _ => ∀ y, y ∈ xs → brk y = none) ∧ ∃ G, J xs G W'
def GivesSeq {α : Type} (F : Fence) (n : Nat) (P : Program) (gf : Nat) (lb : Array Value) (enc : α → Value) (brk : α → Option Nat) (xs : List α) (stop : Option (List PanicEntry)) (C K : World → Prop) (F0 : Nat → Prop) : Prop :=
 ∀ (l : Nat) (J : List α → (Nat → Prop) → World → Prop) (W : World), C W → J [] F0 W →
  (∀ pre G W1, J pre G W1 → K W1) →
  (∀ pre G G' W1 W2, J pre G W1 → Chg G W1 W2 → (∀ i, G' i → G i ∨ (W1.heap.size ≤ i ∧ i < W2.heap.size)) → J pre G' W2) →
  (∀ pre x G W1, (∃ t, pre ++ x :: t = xs) → (∀ y, y ∈ pre → brk y = none) → J pre G W1 → YieldAt F (n - 1) P l #[enc x] W1 fun e W' => e = .returned (.bool (brk x).isNone) ∧ J (pre ++ [x]) G W' ∧ Kept G W1 W') →
  CallsIn F n P gf (#[.func (.yield l) #[] #[]] ++ lb) W (seqEnds stop brk xs J)
def goesOnS {α : Type} (brk : α → Option Nat) (I : List α → (Nat → Prop) → World → Prop) (pre : List α) (x : α) (G : Nat → Prop) (W : World) : Exit → Act → World → Prop
 | .normal, _, W' => brk x = none ∧ Kept G W W' ∧ I (pre ++ [x]) G W'
 | .exit id, _, W' => brk x = some id ∧ Kept G W W' ∧ I (pre ++ [x]) G W'
 | _, _, _ => False
def pend {α : Type} (brk : α → Option Nat) (xs : List α) : Option Nat := xs.getLast?.bind brk
theorem pend_snoc {α : Type} (brk : α → Option Nat) (xs : List α) (x : α) : pend brk (xs ++ [x]) = brk x := by simp [pend]
theorem pend_none {α : Type} {brk : α → Option Nat} {xs : List α} (h : ∀ y, y ∈ xs → brk y = none) : pend brk xs = none := by
 unfold pend
 cases hl : xs.getLast? with
 | none => rfl
 | some y => exact h y (List.mem_of_getLast? hl)
theorem range_seq {α : Type} {F : Fence} {n : Nat} {P : Program} {g : Operand} {ps : Array Tmp} {assign body : Code} {Q : Exit → Act → World → Prop} {a : Act} {w : World}
  (hro : F.round = none) (h1 : 1 ≤ n) {gf : Nat} {lb : Array Value} (hg : a.eval g = .func (.func gf) #[] lb) (hFg : F.fn gf) (eg : ∀ args w, (callFunc gf args).run P w = .ok (.enter gf args) w)
  {enc : α → Value} {brk : α → Option Nat} {xs : List α} {stop : Option (List PanicEntry)} {C K : World → Prop} {F0 : Nat → Prop}
  (hseq : GivesSeq F (n - 1) P gf lb enc brk xs stop C K F0)
  (hps : ps.size = 1) (I : List α → (Nat → Prop) → World → Prop) (hC : ∀ W, Below w.heap.size w W → C W) (hF0 : ∀ i, F0 i → i < w.heap.size) (h0 : I [] F0 w) (hIK : ∀ pre G W, I pre G W → K W)
  (hI : ∀ pre G G' W1 W2, I pre G W1 → Chg G W1 W2 → (∀ i, G' i → G i ∨ (W1.heap.size ≤ i ∧ i < W2.heap.size)) → I pre G' W2) (a₁ : α → World → Act) (wx : α → World → World) (hwx : ∀ x W, Below W.heap.size W (wx x W))
  (hassign : ∀ (l : Nat) (x : α) (W : World) (K : Act → World → Prop), K (a₁ x W) (wx x W) →
   assign.wpIn (F.inRound l) (n - 1 - 1) P (Exit.then K (fun _ _ _ => False)) { tmps := (ps.zip #[enc x]).foldl (fun t (p, v) => t.setIfInBounds p v) a.tmps, defers := [] } W)
  (hbody : ∀ (l : Nat) (pre : List α) (x : α) (G : Nat → Prop) (W W' : World), (∃ t, pre ++ x :: t = xs) → (∀ y, y ∈ pre → brk y = none) → (∀ i, i ≠ l → W'.heap[i]? = (wx x W).heap[i]?) → l < W.heap.size → w.heap.size ≤ l → I pre G W' → body.wpIn (F.inRound l) (n - 1 - 1) P (goesOnS brk I pre x G W') (a₁ x W) W')
  (hdone : ∀ (D : Nat) (G : Nat → Prop) (W : World), stop = none → w.heap.size ≤ D → I xs G W → W.heap[D]? = some (.deferred (some [])) → Q (match pend brk xs with | none => .normal | some id => .exit id) { a with defers := { target := .collected D, args := #[] } :: a.defers } W)
  (hstop : ∀ (D : Nat) (G : Nat → Prop) (W : World) (ch : List PanicEntry), stop = some ch → w.heap.size ≤ D → I xs G W → W.heap[D]? = some (.deferred (some [])) → Q (.panic ch) { a with defers := { target := .collected D, args := #[] } :: a.defers } W) :
  (Code.rangeFunc g ps assign body).wpIn F n P Q a w := by
 refine wpIn_rangeFunc fun fn hfn => ?_
 rw [hro]
 obtain ⟨rec, hrec⟩ : ∃ rec : LoopState → Option Code → Loop, rec = fun st pe => { state := st, pending := pe, fn, tmps := a.tmps, params := ps, assign, body, defers := w.heap.size } := ⟨_, rfl⟩
 obtain ⟨W1, hW1⟩ : ∃ W1, (w.alloc (.deferred (some []))).alloc (.loop (rec .ready none)) = W1 := ⟨_, rfl⟩
 have hL1 : W1.heap[w.heap.size + 1]? = some (.loop (rec .ready none)) := by
  rw [← hW1]; have := World.alloc_heap_new (w.alloc (.deferred (some []))) (.loop (rec .ready none)); rwa [World.size_alloc] at this
 have hK1 : W1.heap[w.heap.size]? = some (.deferred (some [])) := by
  rw [← hW1]; exact (Below.heap_alloc _ _ _ (by simp)).trans (World.alloc_heap_new w _)
 have hB1 : Below w.heap.size w W1 := by rw [← hW1]; exact ((Below.refl _ _).alloc (Nat.le_refl _) _).alloc (by simp) _
 have hS1 : W1.heap.size = w.heap.size + 2 := by rw [← hW1]; simp
 -- the blocks that are the iterator's, and the loop's own two
 obtain ⟨two, htwo⟩ : ∃ two : (Nat → Prop) → Nat → Prop, two = fun G i => G i ∨ i = w.heap.size ∨ i = w.heap.size + 1 := ⟨_, rfl⟩
 have two0 : ∀ (G : Nat → Prop) i, G i → two G i := fun G i h => by rw [htwo]; exact .inl h
 have two1 : ∀ (G : Nat → Prop), two G (w.heap.size + 1) := fun G => by rw [htwo]; exact .inr (.inr rfl)
 have two2 : ∀ (G : Nat → Prop), two G w.heap.size := fun G => by rw [htwo]; exact .inr (.inl rfl)
 obtain ⟨st, hst⟩ : ∃ st : List α → Loop, st = fun pre => match pend brk pre with | none => rec .ready none | some id => rec .done (some (.exit id)) := ⟨_, rfl⟩
 have hst0 : ∀ pre : List α, (∀ y, y ∈ pre → brk y = none) → st pre = rec .ready none := fun pre h => by rw [hst]; simp only [pend_none h]
 obtain ⟨J, hJ⟩ : ∃ J : List α → (Nat → Prop) → World → Prop, J = fun pre G W => I pre (two G) W ∧ W.heap[w.heap.size + 1]? = some (.loop (st pre)) ∧ W.heap[w.heap.size]? = some (.deferred (some [])) ∧ ¬ G (w.heap.size + 1) ∧ ¬ G w.heap.size ∧ ∀ i, G i → i < W.heap.size := ⟨_, rfl⟩
 refine ⟨w.heap.size + 1, [{ target := .collected w.heap.size, args := #[] }], W1, { target := .fn (.func gf) lb, args := #[.func (.yield (w.heap.size + 1)) #[] #[]] }, W1, gf,
  #[.func (.yield (w.heap.size + 1)) #[] #[]] ++ lb, W1, ?_, ?_, ?_, ?_, fun _ => h1, ?_⟩
 ·rw [← hW1, hrec]; exact run_enterLoop_outer _ _ _ _ _
 ·simp only [resolve, hg]
  simp [go_sem]
 ·intro f' hf'; simp [Target.leads] at hf'; subst hf'; exact hFg
 ·simp [invoke, go_sem, eg]
 ·refine (hseq (w.heap.size + 1) J W1 (hC _ hB1) ?_ (fun pre G Wk hj => by rw [hJ] at hj; exact hIK _ _ _ hj.1) ?_ ?_).mono ?_
  ·rw [hJ]
   refine ⟨hI [] F0 _ w W1 h0 (.of_below _ hB1) ?_, ?_, hK1, ?_, ?_, fun i hi => by have := hF0 i hi; omega⟩
   ·intro i hi
    rw [htwo] at hi
    rcases hi with hi | rfl | rfl
    ·exact .inl hi
    ·exact .inr ⟨Nat.le_refl _, by omega⟩
    ·exact .inr ⟨by omega, by omega⟩
   ·rw [hst0 [] (fun y hy => by cases hy)]; exact hL1
   ·exact fun h => by have := hF0 _ h; omega
   ·exact fun h => by have := hF0 _ h; omega
  ·intro pre G G' Wa Wb hj hc hg'
   rw [hJ] at hj ⊢
   obtain ⟨hi, hl, hk, n1, n2, ng⟩ := hj
   have l1 := (Array.getElem?_eq_some_iff.1 hl).1
   have l2 := (Array.getElem?_eq_some_iff.1 hk).1
   refine ⟨hI pre (two G) (two G') Wa Wb hi (hc.mono (two0 G)) ?_, (hc.block _ l1 n1).trans hl, (hc.block _ l2 n2).trans hk, fun h => (hg' _ h).elim n1 (fun h2 => by omega), fun h => (hg' _ h).elim n2 (fun h2 => by omega), fun i hi2 => (hg' i hi2).elim (fun h2 => Nat.lt_of_lt_of_le (ng i h2) hc.size) fun h2 => h2.2⟩
   intro i h
   rw [htwo] at h
   rcases h with h | rfl | rfl
   ·exact (hg' i h).imp (two0 G i) id
   ·exact .inl (two2 G)
   ·exact .inl (two1 G)
  ·intro pre x G W hx hpre hj
   rw [hJ] at hj
   obtain ⟨hi, hl, hk, n1, n2, ng⟩ := hj
   rw [hst0 pre hpre] at hl
   have hlt : w.heap.size + 1 < W.heap.size := (Array.getElem?_eq_some_iff.1 hl).1
   have hy := run_yield (P := P) (args := #[enc x]) hl (by rw [hrec]; exact hps.symm)
   rw [hrec] at hy
   have hbx := hwx x W
   have hl0 : (wx x W).heap[w.heap.size + 1]? = some (.loop (rec .ready none)) := (hbx.block _ hlt).trans hl
   have hk0 : (wx x W).heap[w.heap.size]? = some (.deferred (some [])) := (hbx.block _ (by omega)).trans hk
   have hi0 : I pre (two G) (wx x W) := hI pre (two G) (two G) _ _ hi (.of_below _ hbx) fun i h => .inl h
   have hlt0 : w.heap.size + 1 < (wx x W).heap.size := Nat.lt_of_lt_of_le hlt hbx.size
   refine ⟨fn, _, assign, body, hy, roundIn_of_wpIn hfn (hassign _ x W _ ⟨_, run_beginRound hl0 (by rw [hrec]), ?_⟩)⟩
   obtain ⟨Wx, hWx⟩ : ∃ Wx, wx x W = Wx := ⟨_, rfl⟩
   rw [hWx] at hl0 hk0 hi0 hlt0 hbx ⊢
   have hl2 : (Wx.putObj (w.heap.size + 1) (.loop { rec .ready none with state := .busy })).heap[w.heap.size + 1]? = some (.loop { rec .ready none with state := .busy }) := World.putObj_heap_same hlt0
   have hk2 : (Wx.putObj (w.heap.size + 1) (.loop { rec .ready none with state := .busy })).heap[w.heap.size]? = some (.deferred (some [])) := (World.putObj_heap_other (by omega)).trans hk0
   have hi2 : I pre (two G) (Wx.putObj (w.heap.size + 1) (.loop { rec .ready none with state := .busy })) := hI pre (two G) (two G) _ _ hi0 (.putObj Wx (two1 G) _) fun i h => .inl h
   refine wpIn_mono (hbody (w.heap.size + 1) pre x (two G) W _ hx hpre (fun i hne => by rw [hWx]; exact World.putObj_heap_other hne) hlt (by omega) hi2) ?_
   have fin : ∀ (jump : Option Nat) (W3 : World), brk x = jump → Kept (two G) (Wx.putObj (w.heap.size + 1) (.loop { rec .ready none with state := .busy })) W3 → I (pre ++ [x]) (two G) W3 →
     ∃ v w', (Instr.endRound (w.heap.size + 1) (jump.map Code.exit)).run P W3 = .ok v w' ∧ (Ending.returned v = .returned (.bool (brk x).isNone) ∧ J (pre ++ [x]) G w' ∧ Kept G W w') := fun jump W3 hb hk3 hi3 => by
    have hl3 := (hk3.block _ (two1 G)).trans hl2
    have hk4 := (hk3.block _ (two2 G)).trans hk2
    have hlt3 : w.heap.size + 1 < W3.heap.size := (Array.getElem?_eq_some_iff.1 hl3).1
    have hr := run_endRound (P := P) (jump.map Code.exit) hl3
    refine ⟨_, _, hr, by cases jump <;> rw [hb] <;> rfl, ?_, ?_⟩
    ·rw [hJ]
     refine ⟨hI _ (two G) (two G) _ _ hi3 (.putObj W3 (two1 G) _) fun i h => .inl h, ?_, (World.putObj_heap_other (by omega)).trans hk4, n1, n2, fun i hgi => by have h1 := ng i hgi; have h2 := hbx.size; have h3 := hk3.size; simp at h3 ⊢; omega⟩
     rw [World.putObj_heap_same hlt3, hst, hrec]
     simp only [pend_snoc, hb]
     cases jump <;> rfl
    ·refine ⟨by have := hk3.size; have h2 := hbx.size; simp at this ⊢; omega, fun i hgi => ?_⟩
     have hne : i ≠ w.heap.size + 1 := fun e => n1 (e ▸ hgi)
     exact (((World.putObj_heap_other hne).trans (hk3.block i (two0 G i hgi))).trans (World.putObj_heap_other hne)).trans (hbx.block i (ng i hgi))
   rintro e a3 W3 hp
   cases e with
   | normal =>
    obtain ⟨hb, hk3, hi3⟩ := hp
    exact fin none W3 hb hk3 hi3
   | ret => exact hp.elim
   | exit id =>
    obtain ⟨hb, hk3, hi3⟩ := hp
    exact fin (some id) W3 hb hk3 hi3
   | goto t => exact hp.elim
   | panic ch => exact hp.elim
   | outgrown => exact hp.elim
  ·rintro e W2 ⟨he, hx, G, hj⟩
   rw [hJ] at hj
   obtain ⟨hi, hl, hk, n1, n2, ng⟩ := hj
   cases stop with
   | none =>
    obtain ⟨v, rfl⟩ := he
    have hr := run_endLoop (P := P) hl (by rw [hst, hrec]; simp only []; cases pend brk xs <;> simp)
    have hi3 := hI xs (two G) (two G) _ (W2.putObj (w.heap.size + 1) (.loop { st xs with state := .exhausted })) hi (.putObj W2 (two1 G) _) fun i h => .inl h
    have hk3 : (W2.putObj (w.heap.size + 1) (.loop { st xs with state := .exhausted })).heap[w.heap.size]? = some (.deferred (some [])) := (World.putObj_heap_other (by omega)).trans hk
    have hd := hdone _ _ _ rfl (Nat.le_refl _) hi3 hk3
    generalize (W2.putObj (w.heap.size + 1) (.loop { st xs with state := .exhausted })) = W3 at hr hi3 hk3 hd
    have hpe : (st xs).pending = (pend brk xs).map Code.exit := by
     rw [hst, hrec]; simp only []
     cases pend brk xs <;> rfl
    rw [hpe] at hr
    cases hp : pend brk xs with
    | none => rw [hp] at hr hd; exact ⟨none, _, hr, hd⟩
    | some id => rw [hp] at hr hd; exact ⟨some (.exit id), _, hr, wpIn_exit hd⟩
   | some ch =>
    obtain rfl : e = .panicked ch := he
    exact hstop _ _ _ ch rfl (Nat.le_refl _) hi hk
end Go.Proofs.YtniihjhlkpjnoaaDoor.Given
end
section
/- Package lex: the contracts of classOf and of begins; the readers, looked up by their class. -/
set_option linter.unusedVariables false
set_option linter.unusedSimpArgs false
namespace Go.Proofs.YtniihjhlkpjnoaaDoor.Given
open Go.RowKit Go.Proofs.YtniihjhlkpjnoaaDoor.PT Go.Proofs.YtniihjhlkpjnoaaDoorW.PrintWords Go.Proofs.YtniihjhlkpjnoaaDoorW.PrintLast Go.Proofs.YtniihjhlkpjnoaaDoorW.PrintMore
theorem ba_bt (c : UInt8) (r : List UInt8) : bt (ba (c :: r)) 0 = (c.toNat : Int) := by
 have h := bt_at (ba (c :: r)) 0 (by rw [ba_size]; simp)
 rw [← h]
 rfl
theorem note_f (c : UInt8) (r : List UInt8) (hc : c.toNat = 40) : strings_HasPrefix.f (ba (c :: r)) (⟨#[40, 42]⟩ : ByteArray) = some (decide (c.toNat = 40 ∧ r.head? = some 42)) := by
 obtain rfl : c = 40 := UInt8.toNat_inj.1 hc
 unfold strings_HasPrefix.f stringslite_HasPrefix.f
 have h2 : ((⟨#[40, 42]⟩ : ByteArray).size : Int) = 2 := rfl
 rw [h2, ba_size]
 cases r with
 | nil => rfl
 | cons d r =>
  rw [if_pos (by simp only [List.length_cons]; omega), if_pos (by decide), if_pos (by simp only [List.length_cons]; omega), Option.bind_some]
  have e : ((ba (40 :: d :: r)).extract 0 ((2 : Int) : Int).toNat).toList = [40, d] := by
   show ((ba (40 :: d :: r)).extract 0 2).toList = _
   rw [ba_extract, ba_toList]
   rfl
  have e2 : (⟨#[40, 42]⟩ : ByteArray).toList = [40, 42] := ba_toList [40, 42]
  rw [e, e2]
  congr 1
  by_cases hd : d = 42
  ·subst hd
   rfl
  ·rw [decide_eq_false (by simp [hd])]
   rw [beq_eq_false_iff_ne]
   intro h
   simp at h
   exact hd h
theorem letter_f (c : UInt8) : lex_letter.f (c.toNat : Int) = some (letB c) := by
 unfold lex_letter.f letB
 by_cases h1 : 97 ≤ c.toNat
 ·rw [if_pos (by omega)]
  by_cases h2 : c.toNat ≤ 122
  ·rw [if_pos (by omega), decide_eq_true h1, decide_eq_true h2]
   rfl
  ·rw [if_neg (by omega), if_pos (by omega), decide_eq_false h2, decide_eq_false (by omega), decide_eq_false (show ¬ c.toNat ≤ 90 by omega)]
   simp
 ·rw [if_neg (by omega), decide_eq_false h1]
  by_cases h3 : 65 ≤ c.toNat
  ·rw [if_pos (by omega), decide_eq_true h3]
   congr 1
   by_cases h4 : c.toNat ≤ 90
   ·rw [decide_eq_true h4, decide_eq_true (by omega)]
    rfl
   ·rw [decide_eq_false h4, decide_eq_false (by omega)]
    rfl
  ·rw [if_neg (by omega), decide_eq_false h3]
   rfl
theorem class_j1 (c : UInt8) (r : List UInt8) : lex_classOf.j1 2 (ba (c :: r)) (c.toNat : Int) (digB c) = some (if digB c = true then 2 else if letB c = true then 1 else if blkB c = true then 6 else 0) := by
 have h1 : (0 : Int) < ((ba (c :: r)).size : Int) := by rw [ba_size]; simp only [List.length_cons]; omega
 rw [lex_classOf.j1]
 by_cases hd : digB c = true
 ·rw [if_pos hd, if_pos hd]
 ·rw [if_neg hd, if_neg hd, letter_f, Option.bind_some]
  by_cases hl : letB c = true
  ·rw [if_pos hl, if_pos hl]
  ·rw [if_neg hl, if_neg hl, if_pos h1, ba_bt]
   unfold blkB
   by_cases c9 : c.toNat = 9
   ·rw [if_pos (by omega), lex_classOf.j2, if_pos (by rw [beq_iff_eq]; omega), decide_eq_true c9]
    rfl
   ·rw [if_neg (by omega), decide_eq_false c9]
    by_cases c10 : c.toNat = 10
    ·rw [if_pos (by omega), lex_classOf.j2, if_pos (by rw [beq_iff_eq]; omega), decide_eq_true c10]
     rfl
    ·rw [if_neg (by omega), decide_eq_false c10, lex_classOf.j2]
     by_cases c13 : c.toNat = 13
     ·rw [if_pos (by rw [beq_iff_eq]; omega), decide_eq_true c13]
      rfl
     ·rw [if_neg (by rw [beq_iff_eq]; omega), decide_eq_false c13]
      by_cases c32 : c.toNat = 32
      ·rw [if_pos (by omega), decide_eq_true c32]
       rfl
      ·rw [if_neg (by omega), decide_eq_false c32]
       rfl
theorem class_j0 (c : UInt8) (r : List UInt8) (b : Bool) (hb : b = decide (c.toNat = 40 ∧ r.head? = some 42)) : lex_classOf.j0 3 (ba (c :: r)) (c.toNat : Int) b = some (classL (c :: r)) := by
 rw [lex_classOf.j0, hb, show classL (c :: r) = (if c.toNat = 40 ∧ r.head? = some 42 then 5 else if c.toNat = 39 then 3 else if c.toNat = 34 then 4 else if digB c = true then 2 else if letB c = true then 1 else if blkB c = true then 6 else 0) from rfl]
 by_cases h5 : c.toNat = 40 ∧ r.head? = some 42
 ·rw [decide_eq_true h5, if_pos rfl, if_pos h5]
 ·rw [decide_eq_false h5, if_neg (by decide), if_neg h5]
  by_cases h39 : c.toNat = 39
  ·rw [if_pos (by omega), if_pos h39]
  ·rw [if_neg (by omega), if_neg h39]
   by_cases h34 : c.toNat = 34
   ·rw [if_pos (by omega), if_pos h34]
   ·rw [if_neg (by omega), if_neg h34, ← class_j1 c r]
    unfold digB
    by_cases h48 : 48 ≤ c.toNat
    ·rw [if_pos (by omega), decide_eq_true h48]
     congr 1
     rw [Bool.true_and, Bool.eq_iff_iff, decide_eq_true_eq, decide_eq_true_eq]
     omega
    ·rw [if_neg (by omega), decide_eq_false h48]
     rfl
theorem class_f (t : List UInt8) (h0 : t ≠ []) : lex_classOf.f 3 (ba t) = some (classL t) := by
 cases t with
 | nil => exact absurd rfl h0
 | cons c r =>
  unfold lex_classOf.f
  rw [if_pos (by rw [ba_size]; simp only [List.length_cons]; omega), ba_bt]
  by_cases hc : c.toNat = 40
  ·rw [if_pos (by omega)]
   rw [note_f c r hc, Option.bind_some]
   exact class_j0 c r _ rfl
  ·rw [if_neg (by omega)]
   exact class_j0 c r _ (by rw [decide_eq_false fun h => hc h.1])
theorem class_calls (t : List UInt8) (h0 : t ≠ []) (w : World) : Calls Tryd.prog 53 #[.string (ba t)] w fun e w' => e = .returned (.int .i64 (classL t)) ∧ Drawn0 w w' :=
 lex_classOf.calls 3 (ba t) (classL t) w (class_f t h0)
end Go.Proofs.YtniihjhlkpjnoaaDoor.Given
end
section
/- Package lex: the contract of begins; the readers, looked up by their class. -/
set_option linter.unusedVariables false
set_option linter.unusedSimpArgs false
namespace Go.Proofs.YtniihjhlkpjnoaaDoor.Given
open Go.RowKit Go.Proofs.YtniihjhlkpjnoaaDoor.PT Go.Proofs.YtniihjhlkpjnoaaDoorW.PrintWords Go.Proofs.YtniihjhlkpjnoaaDoorW.PrintLast Go.Proofs.YtniihjhlkpjnoaaDoorW.PrintMore
theorem run_store_fn (P : Program) (w : World) (a : Addr) (m : Mode) (f : Fn) (x c : Array Value) : (store a (.func f x c) m).run P w = stored P w a (.func f x c) m := run_store P w a _ m rfl
attribute [local go_sem] run_store_fn
theorem put_new {P : Program} {mty kt et : TypeId} {kd : IntKind} (hm : P.underlying mty = some (.map kt et)) (hk : P.underlying kt = some (.int kd)) (W : World) (es : Array MapEntry) (clock : Nat) (key : Int) (val : Value) (hf : Instr.findNow (.int kd) (.int kd key) es.toList 0 = some none) :
  (Instr.mapUpdate mty (.map (some W.heap.size)) (.int kd key) val).run P (W.alloc (.map es clock)) = .ok () (W.alloc (.map (es.push { key := .int kd key, val := val, born := clock }) (clock + 1))) := by
 have hb : (W.alloc (.map es clock)).heap[W.heap.size]? = some (.map es clock) := World.alloc_heap_new W _
 have hc : (Instr.checkKey false 10000 kt (.int kd key)).run P (W.alloc (.map es clock)) = .ok () (W.alloc (.map es clock)) := MapKept.run_checkKey hk (by simp [MapKept.IsKey]) false 9999
 simp [Instr.mapUpdate, run_underlying hm, MapKept.run_getObj_map hb, hc, MapKept.run_findKey hk hf, MapKept.run_setObj_map _ hb, Result.andThen]
 have e : (W.heap.push (.map es clock)).setIfInBounds W.heap.size (.map (es.push { key := .int kd key, val := val, born := clock }) (clock + 1)) = W.heap.push (.map (es.push { key := .int kd key, val := val, born := clock }) (clock + 1)) := by
  apply Array.ext'
  simp
 show World.mk .. = World.mk ..
 exact congrArg (fun h => { W with heap := h }) e
theorem look_up {P : Program} {mty kt et : TypeId} {kd : IntKind} (hm : P.underlying mty = some (.map kt et)) (hk : P.underlying kt = some (.int kd)) {W : World} {r : Nat} {es : Array MapEntry} {clock : Nat} (hb : W.heap[r]? = some (.map es clock)) (key : Int) (i : Nat) (val : Value) (hf : Instr.findNow (.int kd) (.int kd key) es.toList 0 = some (some (i, val))) :
  (Instr.lookup mty (.map (some r)) (.int kd key) false).run P W = .ok val W := by
 have hc : ∀ b, (Instr.checkKey b 10000 kt (.int kd key)).run P W = .ok () W := fun b => MapKept.run_checkKey hk (by simp [MapKept.IsKey]) b 9999
 simp [Instr.lookup, run_underlying hm, MapKept.run_getObj_map hb, hc, MapKept.run_findKey hk hf, Result.andThen]
def wB (w : World) : World :=
 ((((w.alloc (rowV wordsL)).alloc (rowV signsL)).alloc (.cells #[.slice (some ⟨w.heap.size, 0, none⟩) 33 33] 119)).alloc (.cells #[.slice (some ⟨w.heap.size + 1, 0, none⟩) 35 35] 119)).alloc (.cells #[.func (.func 74) #[] #[.pointer (some ⟨w.heap.size + 1 + 1 + 1, 0, none⟩)]] 61)
theorem wB_size (w : World) : (wB w).heap.size = w.heap.size + 5 := by simp [wB]
def readE (n : Nat) : Array MapEntry :=
 #[⟨.int .i64 1, .func (.func 77) #[] #[.pointer (some ⟨n + 2, 0, none⟩)], 0⟩, ⟨.int .i64 2, .func (.func 84) #[] #[], 1⟩, ⟨.int .i64 3, .func (.func 85) #[] #[], 2⟩, ⟨.int .i64 4, .func (.func 87) #[] #[], 3⟩,
  ⟨.int .i64 5, .func (.func 89) #[] #[], 4⟩, ⟨.int .i64 0, .func (.func 90) #[] #[.pointer (some ⟨n + 3, 0, none⟩), .pointer (some ⟨n + 4, 0, none⟩)], 5⟩]
set_option maxRecDepth 100000 in
set_option maxHeartbeats 2000000 in
theorem begins_calls (w : World) (hG : LaidG w) : Calls Tryd.prog 54 #[] w fun e w' => e = .returned (.map (some (w.heap.size + 5))) ∧ w' = (wB w).alloc (.map (readE w.heap.size) 6) := by
 have HT := Aside0.mk hG
 have hmm := @run_makeMap Tryd.prog
 clear hG
 go_enter Tryd.func54, Tryd.ntmps54
 go_upto_region 3 with (first
  | (go_at_call 72; (with_reducible refine (words_calls _ HT.out).mono ?_); rintro e w1 ⟨rfl, rfl⟩)
  | (go_at_call 73; (with_reducible refine (signs_calls _ (HT.out.keep _ ((Below.refl _ _).alloc (Nat.le_refl _) _))).mono ?_); rintro e w1 ⟨rfl, rfl⟩))
 have hsz := wB_size w
 have hu := Tryd.underlying104
 have huc := Tryd.underlying101
 change Code.wp _ _ _ _ (wB w)
 generalize hWB : wB w = W at hsz ⊢
 have HWB := Aside0.mk hWB
 clear hWB
 have HSZ := Aside0.mk hsz
 clear hsz
 have h0 := put_new (mty := 104) hu huc W #[] 0 1 (.func (.func 77) #[] #[.pointer (some ⟨w.heap.size + 1 + 1, 0, none⟩)]) rfl
 simp only [List.push_toArray, List.cons_append, List.nil_append, Nat.reduceAdd] at h0
 have h1 := put_new (mty := 104) hu huc W #[⟨.int .i64 1, .func (.func 77) #[] #[.pointer (some ⟨w.heap.size + 1 + 1, 0, none⟩)], 0⟩] 1 2 (.func (.func 84) #[] #[]) rfl
 simp only [List.push_toArray, List.cons_append, List.nil_append, Nat.reduceAdd] at h1
 have h2 := put_new (mty := 104) hu huc W #[⟨.int .i64 1, .func (.func 77) #[] #[.pointer (some ⟨w.heap.size + 1 + 1, 0, none⟩)], 0⟩, ⟨.int .i64 2, .func (.func 84) #[] #[], 1⟩] 2 3 (.func (.func 85) #[] #[]) rfl
 simp only [List.push_toArray, List.cons_append, List.nil_append, Nat.reduceAdd] at h2
 have h3 := put_new (mty := 104) hu huc W #[⟨.int .i64 1, .func (.func 77) #[] #[.pointer (some ⟨w.heap.size + 1 + 1, 0, none⟩)], 0⟩, ⟨.int .i64 2, .func (.func 84) #[] #[], 1⟩, ⟨.int .i64 3, .func (.func 85) #[] #[], 2⟩] 3 4 (.func (.func 87) #[] #[]) rfl
 simp only [List.push_toArray, List.cons_append, List.nil_append, Nat.reduceAdd] at h3
 have h4 := put_new (mty := 104) hu huc W #[⟨.int .i64 1, .func (.func 77) #[] #[.pointer (some ⟨w.heap.size + 1 + 1, 0, none⟩)], 0⟩, ⟨.int .i64 2, .func (.func 84) #[] #[], 1⟩, ⟨.int .i64 3, .func (.func 85) #[] #[], 2⟩, ⟨.int .i64 4, .func (.func 87) #[] #[], 3⟩] 4 5 (.func (.func 89) #[] #[]) rfl
 simp only [List.push_toArray, List.cons_append, List.nil_append, Nat.reduceAdd] at h4
 have h5 := put_new (mty := 104) hu huc W #[⟨.int .i64 1, .func (.func 77) #[] #[.pointer (some ⟨w.heap.size + 1 + 1, 0, none⟩)], 0⟩, ⟨.int .i64 2, .func (.func 84) #[] #[], 1⟩, ⟨.int .i64 3, .func (.func 85) #[] #[], 2⟩, ⟨.int .i64 4, .func (.func 87) #[] #[], 3⟩, ⟨.int .i64 5, .func (.func 89) #[] #[], 4⟩] 5 0 (.func (.func 90) #[] #[.pointer (some ⟨w.heap.size + 1 + 1 + 1, 0, none⟩), .pointer (some ⟨w.heap.size + 1 + 1 + 1 + 1, 0, none⟩)]) rfl
 simp only [List.push_toArray, List.cons_append, List.nil_append, Nat.reduceAdd] at h5
 clear hu huc
 go_wp2
 go_ret
 exact ⟨by rw [HSZ.out]; first | rfl | simp, by rw [HWB.out]; rfl⟩
structure Readers (n : Nat) (W : World) : Prop where
 hm : W.heap[n + 5]? = some (.map (readE n) 6)
 g1 : W.heap[n]? = some (rowV wordsL)
 c1 : W.cell? ⟨n + 2, 0, none⟩ = some (.slice (some ⟨n, 0, none⟩) 33 33)
 hs : SignBox W (n + 3) (n + 4) (n + 1)
theorem Readers.of (w : World) : Readers w.heap.size ((wB w).alloc (.map (readE w.heap.size) 6)) := by
 have hsz := wB_size w
 have hb : Below (wB w).heap.size (wB w) ((wB w).alloc (.map (readE w.heap.size) 6)) := (Below.refl _ _).alloc (Nat.le_refl _) _
 have a1 : (w.alloc (rowV wordsL)).heap.size = w.heap.size + 1 := by simp
 have a2 : ((w.alloc (rowV wordsL)).alloc (rowV signsL)).heap.size = w.heap.size + 2 := by simp
 refine ⟨?_, ?_, ?_, ?_, ?_, ?_⟩
 ·have := World.alloc_heap_new (wB w) (.map (readE w.heap.size) 6)
  rwa [hsz] at this
 ·refine (hb.block _ (by omega)).trans ?_
  unfold wB
  have e := World.alloc_heap_new w (rowV wordsL)
  exact (((((Below.refl _ _).alloc (B := w.heap.size + 1) (by simp) (rowV signsL)).alloc (by simp) _).alloc (by simp) _).alloc (by simp) _).block w.heap.size (by omega) |>.trans e
 ·refine (bcell hb (by omega)).trans ?_
  simp [wB, go_sem]
 ·refine (bcell hb (by omega)).trans ?_
  simp [wB, go_sem]
 ·refine (bcell hb (by omega)).trans ?_
  simp [wB, go_sem]
 ·refine (hb.block _ (by omega)).trans ?_
  unfold wB
  have e := World.alloc_heap_new (w.alloc (rowV wordsL)) (rowV signsL)
  rw [a1] at e
  exact ((((Below.refl _ _).alloc (B := w.heap.size + 2) (by simp) _).alloc (by simp) _).alloc (by simp) _).block (w.heap.size + 1) (by omega) |>.trans e
theorem Readers.keep {n : Nat} {W W' : World} (h : Readers n W) (hk : ∀ i, n ≤ i → i < n + 6 → W'.heap[i]? = W.heap[i]?) : Readers n W' := by
 obtain ⟨hm, g1, c1, ⟨cb, co, hg⟩⟩ := h
 exact ⟨(hk _ (by omega) (by omega)).trans hm, (hk _ (by omega) (by omega)).trans g1, (World.cell?_of_block (a := ⟨n + 2, 0, none⟩) (hk (n + 2) (by omega) (by omega))).trans c1,
  ⟨(World.cell?_of_block (a := ⟨n + 3, 0, none⟩) (hk (n + 3) (by omega) (by omega))).trans cb, (World.cell?_of_block (a := ⟨n + 4, 0, none⟩) (hk (n + 4) (by omega) (by omega))).trans co, (hk _ (by omega) (by omega)).trans hg⟩⟩
theorem classL_in (t : List UInt8) : classL t = 0 ∨ classL t = 1 ∨ classL t = 2 ∨ classL t = 3 ∨ classL t = 4 ∨ (classL t = 5 ∧ 2 ≤ t.length) ∨ classL t = 6 := by
 cases t with
 | nil => exact .inl rfl
 | cons c r =>
  rw [show classL (c :: r) = (if c.toNat = 40 ∧ r.head? = some 42 then 5 else if c.toNat = 39 then 3 else if c.toNat = 34 then 4 else if digB c = true then 2 else if letB c = true then 1 else if blkB c = true then 6 else 0) from rfl]
  by_cases h : c.toNat = 40 ∧ r.head? = some 42
  ·rw [if_pos h]
   refine .inr (.inr (.inr (.inr (.inr (.inl ⟨rfl, ?_⟩)))))
   cases r with
   | nil => exact absurd h.2 (by simp)
   | cons d r => simp
  ·rw [if_neg h]
   repeat' split
   all_goals omega
theorem read_calls (t : List UInt8) (h0 : t ≠ []) (ht : t.length ≤ 4000000000) (h6 : classL t ≠ 6) (n : Nat) : ∃ (f : Nat) (cap : Array Value) (i : Nat), Instr.findNow (.int .i64) (.int .i64 (classL t)) (readE n).toList 0 = some (some (i, .func (.func f) #[] cap)) ∧
  (∀ args W, (callFunc f args).run Tryd.prog W = .ok (.enter f args) W) ∧
  ∀ W, Readers n W → LaidG W → Calls Tryd.prog f (#[.string (ba t)] ++ cap) W fun e W' => e = .returned (itemV (itemL (classL t) t) 0 (itemL (classL t) t).len) ∧ Below W.heap.size W W' := by
 have hb : t.length ≤ 1099511627776 := by omega
 rcases classL_in t with h | h | h | h | h | ⟨h, h2⟩ | h
 ·rw [h]
  exact ⟨_, _, _, rfl, enters_of Tryd.func90 (by kernel_rfl) rfl, fun W hr hG => sign_reads t h0 hb W _ _ _ hr.hs⟩
 ·rw [h]
  exact ⟨_, _, _, rfl, enters_of Tryd.func77 (by kernel_rfl) rfl, fun W hr hG => letter_reads t hb W _ _ _ hr.c1 (row_there hr.g1 (by decide))⟩
 ·rw [h]
  exact ⟨_, _, _, rfl, enters_of Tryd.func84 (by kernel_rfl) rfl, fun W hr hG => number_reads t hb W⟩
 ·rw [h]
  exact ⟨_, _, _, rfl, enters_of Tryd.func85 (by kernel_rfl) rfl, fun W hr hG => tick_reads t h0 hb W⟩
 ·rw [h]
  exact ⟨_, _, _, rfl, enters_of Tryd.func87 (by kernel_rfl) rfl, fun W hr hG => quote_reads t h0 hb W⟩
 ·rw [h]
  exact ⟨_, _, _, rfl, enters_of Tryd.func89 (by kernel_rfl) rfl, fun W hr hG => note_reads t h2 ht W hG⟩
 ·exact absurd h h6
end Go.Proofs.YtniihjhlkpjnoaaDoor.Given
end
