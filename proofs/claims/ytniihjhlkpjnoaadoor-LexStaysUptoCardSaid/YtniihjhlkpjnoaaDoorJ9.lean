/- A deferred function whose first operation is recover, and which recovers nothing later: its contract out of one walk of the rest of its body. No program is named. -/
import Derived.Recover
import Derived.RecoverIn
import Derived.Defers
import Derived.WalkKit
import Derived.Test.YtniihjhlkpjnoaaDoorLj
import Derived.Test.YtniihjhlkpjnoaaDoorSeq
import Derived.Test.YtniihjhlkpjnoaaDoorLexR
import Derived.Maps.AppendAt
section
set_option linter.unusedVariables false
set_option linter.unusedSimpArgs false
namespace Go.Proofs.YtniihjhlkpjnoaaDoor.Given
open Go Go.RowKit
def recovers : FrameMode → Value × FrameMode
 | .panicking ({ v, recovered := false, goexit := false } :: older) => (v, .panicking ({ v, recovered := true } :: older))
 | u => (.nilIface, u)
theorem recovers_of {c : Frame} {cs : List Frame} : recoverD (c :: cs) = none ∧ recovers c.mode = (.nilIface, c.mode) ∨
  ∃ v u', recoverD (c :: cs) = some (v, { c with mode := u' } :: cs) ∧ recovers c.mode = (v, u') := by
 obtain ⟨fn, tmps, todo, defers, mode, kind, ro⟩ := c
 have run : ∀ u : FrameMode, (∀ v older, u ≠ .panicking ({ v, recovered := false, goexit := false } :: older)) → recoverD (⟨fn, tmps, todo, defers, u, kind, ro⟩ :: cs) = none ∧ recovers u = (.nilIface, u) := by
  intro u hu
  unfold recoverD recovers
  constructor
  ·simp only []
  ·split
   ·rename_i v older; exact absurd rfl (hu v older)
   ·rfl
 by_cases h : ∃ v older, mode = .panicking ({ v, recovered := false, goexit := false } :: older)
 ·obtain ⟨v, older, rfl⟩ := h
  exact .inr ⟨v, _, rfl, rfl⟩
 ·exact .inl (run mode (fun v older e => h ⟨v, older, e⟩))
variable {P : Program}
theorem callsD_of_recover {f : FuncId} {fn : Func} {id d : Nat} {pos : String} {t : TypeId} {rest : Code} {args : Array Value} {u : FrameMode} {w : World} {R : Ending → World → Prop}
  (hf : P.funcs[f]? = some fn)
  (hb : fn.body = some (.seq (.region id #[{ dst := some d, op := .call { callee := .builtin .recover, args := #[], argTypes := #[] }, type := t, pos := pos, after := #[], guard := none }] false) rest))
  (h : rest.wp P (bodyPost P fn R) { tmps := (args ++ Array.replicate (fn.ntmps - args.size) undef).setIfInBounds d (recovers u).1, defers := [] } w) :
  CallsD P f args u w fun e u' w' => u' = (recovers u).2 ∧ R e w' := by
 refine callsD_of_wpS hf hb fun c₀ cs hu => ?_
 subst hu
 have key : ∀ (v : Value) (u' : FrameMode) , recovers c₀.mode = (v, u') → rest.wpS P (bodyPostS P fn c₀ cs fun e u' w' => u' = (recovers c₀.mode).2 ∧ R e w')
   { tmps := (args ++ Array.replicate (fn.ntmps - args.size) undef).setIfInBounds d (recovers c₀.mode).1, defers := [] } ({ c₀ with mode := u' } :: cs) w := by
  intro v u' hv
  refine wpS_of_wp (wp_mono h ?_)
  intro e a w' hq
  cases e with
  | normal => obtain ⟨hd, v', hr, hR⟩ := hq; exact ⟨hd, u', rfl, v', hr, by rw [hv], hR⟩
  | ret => obtain ⟨hd, v', hr, hR⟩ := hq; exact ⟨hd, u', rfl, v', hr, by rw [hv], hR⟩
  | panic chain => obtain ⟨hd, hR⟩ := hq; exact ⟨hd, u', rfl, by rw [hv], hR⟩
  | exit id => exact hq
  | goto l => exact hq
  | outgrown => exact ⟨_, rfl, hq⟩
 apply wpS_seq
 apply wpS_region
 rcases recovers_of (c := c₀) (cs := cs) with ⟨h1, h2⟩ | ⟨v, u', h1, h2⟩
 ·have hc : ({ c₀ with mode := c₀.mode } : Frame) = c₀ := rfl
  have k := key _ _ h2
  rw [h2] at k
  simp [wpOpsS, go_sem, h1, Exit.thenS]
  rw [h2]
  exact k
 ·have k := key _ _ h2
  rw [h2] at k
  simp [wpOpsS, go_sem, h1, Exit.thenS]
  rw [h2]
  exact k
theorem callsDIn_of_recover {f : FuncId} {fn : Func} {id d n : Nat} {pos : String} {t : TypeId} {rest : Code} {args : Array Value} {u : FrameMode} {w : World} {R : Ending → World → Prop}
  (hf : P.funcs[f]? = some fn)
  (hb : fn.body = some (.seq (.region id #[{ dst := some d, op := .call { callee := .builtin .recover, args := #[], argTypes := #[] }, type := t, pos := pos, after := #[], guard := none }] false) rest))
  (h : rest.wp P (bodyPost P fn R) { tmps := (args ++ Array.replicate (fn.ntmps - args.size) undef).setIfInBounds d (recovers u).1, defers := [] } w) :
  CallsDIn Fence.wide n P f args u w fun e u' w' => u' = (recovers u).2 ∧ R e w' := by
 refine callsDIn_of_wpSIn hf hb trivial fun c₀ cs hu => ?_
 subst hu
 have key : ∀ (v : Value) (u' : FrameMode) , recovers c₀.mode = (v, u') → rest.wpSIn Fence.wide n P (bodyPostS P fn c₀ cs fun e u' w' => u' = (recovers c₀.mode).2 ∧ R e w')
   { tmps := (args ++ Array.replicate (fn.ntmps - args.size) undef).setIfInBounds d (recovers c₀.mode).1, defers := [] } ({ c₀ with mode := u' } :: cs) w := by
  intro v u' hv
  refine wpSIn_of_wpIn rfl (wpIn_wide.2 (wp_mono h ?_))
  intro e a w' hq
  cases e with
  | normal => obtain ⟨hd, v', hr, hR⟩ := hq; exact ⟨hd, u', rfl, v', hr, by rw [hv], hR⟩
  | ret => obtain ⟨hd, v', hr, hR⟩ := hq; exact ⟨hd, u', rfl, v', hr, by rw [hv], hR⟩
  | panic chain => obtain ⟨hd, hR⟩ := hq; exact ⟨hd, u', rfl, by rw [hv], hR⟩
  | exit id => exact hq
  | goto l => exact hq
  | outgrown => exact ⟨_, rfl, hq⟩
 apply wpSIn_seq
 apply wpSIn_region
 rcases recovers_of (c := c₀) (cs := cs) with ⟨h1, h2⟩ | ⟨v, u', h1, h2⟩
 ·have hc : ({ c₀ with mode := c₀.mode } : Frame) = c₀ := rfl
  have k := key _ _ h2
  rw [h2] at k
  simp [wpOpsSIn, go_sem, h1, Exit.thenS, Oper.about]
  rw [h2]
  exact k
 ·have k := key _ _ h2
  rw [h2] at k
  simp [wpOpsSIn, go_sem, h1, Exit.thenS, Oper.about]
  rw [h2]
  exact k
end Go.Proofs.YtniihjhlkpjnoaaDoor.Given
end
section
/- Package lex: the contracts of items and whole, and of caught, which recovers a failure. -/
set_option linter.unusedVariables false
set_option linter.unusedSimpArgs false
namespace Go.Proofs.YtniihjhlkpjnoaaDoor.Given
open Go.RowKit Go.Shelf Go.Proofs.YtniihjhlkpjnoaaDoor.PT Go.Proofs.YtniihjhlkpjnoaaDoorW.PrintWords Go.Proofs.YtniihjhlkpjnoaaDoorW.PrintLast Go.Proofs.YtniihjhlkpjnoaaDoorW.PrintMore
def itemF (n : Nat) : Value := .func (.func 55) #[] #[.pointer (some ⟨n, 0, none⟩), .pointer (some ⟨n + 2, 0, none⟩), .pointer (some ⟨n + 1, 0, none⟩)]
def wBox (t : List UInt8) (m : Int) (more : Bool) (w : World) : World := ((w.alloc (.cells #[.string (ba t)] 9)).alloc (.cells #[.int .i64 m] 3)).alloc (.cells #[.bool more] 4)
theorem wBox_size (t : List UInt8) (m : Int) (more : Bool) (w : World) : (wBox t m more w).heap.size = w.heap.size + 3 := by simp [wBox]
theorem wBox_below (t : List UInt8) (m : Int) (more : Bool) (w : World) : Below w.heap.size w (wBox t m more w) :=
 (((Below.refl _ _).alloc (Nat.le_refl _) _).alloc (by simp) _).alloc (by simp; omega) _
theorem items_calls (t : List UInt8) (m : Int) (more : Bool) (w : World) : Calls Tryd.prog 33 #[.string (ba t), .int .i64 m, .bool more] w fun e w' => e = .returned (itemF w.heap.size) ∧ w' = wBox t m more w := by
 go_enter Tryd.func33, Tryd.ntmps33
 go_wp2
 go_ret
 exact ⟨rfl, rfl⟩
theorem wBox_there (t : List UInt8) (m : Int) (more : Bool) (w : World) {W : World} (hb : Below (w.heap.size + 3) (wBox t m more w) W) : W.cell? ⟨w.heap.size, 0, none⟩ = some (.string (ba t)) ∧ W.cell? ⟨w.heap.size + 2, 0, none⟩ = some (.bool more) ∧ W.cell? ⟨w.heap.size + 1, 0, none⟩ = some (.int .i64 m) ∧ W.frozen? ⟨w.heap.size + 1, 0, none⟩ = false := by
 refine ⟨(bcell hb (by omega)).trans ?_, (bcell hb (by omega)).trans ?_, (bcell hb (by omega)).trans ?_, (bfrozen hb (by omega)).trans ?_⟩
 all_goals simp [wBox, go_sem]
theorem whole_calls (t : List UInt8) (h : t.length ≤ 1048576) (w : World) : Calls Tryd.prog 29 #[.string (ba t)] w fun e w' => e = .returned (itemF w.heap.size) ∧ w' = wBox t 0 false w := by
 have hsz := ba_size t
 have n1 : decide (1048576 < t.length) = false := decide_eq_false (by omega)
 have n2 : decide ((1048576 : Int) < (t.length : Int)) = false := decide_eq_false (by omega)
 go_enter Tryd.func29, Tryd.ntmps29
 go_wp2_with (first | (go_at_call 33; (with_reducible refine (items_calls _ _ _ _).mono ?_); rintro e w1 ⟨rfl, rfl⟩))
 go_ret
 exact ⟨rfl, rfl⟩
theorem whole_fails (t : List UInt8) (h : ¬ t.length ≤ 1048576) (w : World) : Calls Tryd.prog 29 #[.string (ba t)] w fun e w' => e = .panicked (failC (2, 0)) ∧ w' = w := by
 have hsz := ba_size t
 have n1 : decide (1048576 < t.length) = true := decide_eq_true (by omega)
 have n2 : decide ((1048576 : Int) < (t.length : Int)) = true := decide_eq_true (by omega)
 have hu := Tryd.underlying74
 go_enter Tryd.func29, Tryd.ntmps29
 go_wp2
 exact ⟨rfl, rfl, rfl⟩
theorem caught_idle (n : Nat) (po pe : Addr) (w : World) :
  CallsDIn Fence.wide n Tryd.prog 28 #[.pointer (some po), .pointer (some pe)] .returning w fun e u' w' => u' = .returning ∧ (e = .returned (.tuple #[]) ∧ w = w') := by
 refine callsDIn_of_recover Tryd.func28 rfl ?_
 simp only [recovers, Tryd.ntmps28, List.size_toArray, List.length_cons, List.length_nil, Nat.reduceAdd, Nat.reduceSub, Array.replicate_succ, Array.replicate_zero, List.push_toArray, List.append_toArray, List.nil_append, List.cons_append, List.setIfInBounds_toArray, List.set_cons_zero, List.set_cons_succ]
 go_wp2
 go_end0
 exact ⟨rfl, rfl⟩
set_option maxRecDepth 100000 in
set_option maxHeartbeats 2000000 in
theorem caught_fails (n : Nat) (bo be : Nat) (e0 a0 : Int) (x y : Value) (w : World) (h1 : w.cell? ⟨bo, 0, none⟩ = some x) (h2 : w.cell? ⟨be, 0, none⟩ = some y) (hf1 : w.frozen? ⟨bo, 0, none⟩ = false) (hf2 : w.frozen? ⟨be, 0, none⟩ = false) (hne : ¬ bo = be) :
  CallsDIn Fence.wide n Tryd.prog 28 #[.pointer (some ⟨bo, 0, none⟩), .pointer (some ⟨be, 0, none⟩)] (.panicking [{ v := failV e0 a0, recovered := false }]) w fun e u' w' => u' = .panicking [{ v := failV e0 a0, recovered := true }] ∧ (e = .returned (.tuple #[]) ∧
   (((w.setCell ⟨bo, 0, none⟩ (.int .i64 e0)).setCell ⟨be, 0, none⟩ (.int .i64 a0)).alloc (.cells #[.int .i64 e0, .int .i64 a0] 74)).drew = w') := by
 have hb1 := World.block_lt_of_cell? w _ h1
 have hb2 := World.block_lt_of_cell? w _ h2
 simp only [] at hb1 hb2
 have hu95 := Tryd.underlying74
 have hta : ∀ (v : Value) (W : World), (Instr.typeAssert (.iface 74 v) 20 74 true).run Tryd.prog W = .ok (.tuple #[v, .bool true]) W := fun v W => by rfl
 have hbo : ¬ bo = w.heap.size := by omega
 have hbe : ¬ be = w.heap.size := by omega
 have hbo' : ¬ w.heap.size = bo := by omega
 have hbe' : ¬ w.heap.size = be := by omega
 have hne' : ¬ be = bo := fun e => hne e.symm
 refine callsDIn_of_recover Tryd.func28 rfl ?_
 simp only [failV, recovers, Tryd.ntmps28, List.size_toArray, List.length_cons, List.length_nil, Nat.reduceAdd, Nat.reduceSub, Array.replicate_succ, Array.replicate_zero, List.push_toArray, List.append_toArray, List.nil_append, List.cons_append, List.setIfInBounds_toArray, List.set_cons_zero, List.set_cons_succ]
 go_wp2
 go_region
 all_goals go_end0
 all_goals exact ⟨rfl, rfl⟩
end Go.Proofs.YtniihjhlkpjnoaaDoor.Given
end
section
/- A row that a range over an iterator appends to: what holds between two rounds; an append inside a fence that says where the row lies then. -/
set_option linter.unusedVariables false
set_option linter.unusedSimpArgs false
namespace Go.Proofs.YtniihjhlkpjnoaaDoor.Given
open Go.RowKit Go.Shelf
theorem ownsRow_block {W W' : World} {base : Nat} {e : TypeId} {size : Nat} {v : Value} {k : Nat} {xs : List Value} (h : W.ownsRow base e size v k xs) (hk : ∀ g, v.ownBlock = some g → W'.heap[g]? = W.heap[g]?) : W'.ownsRow base e size v k xs := by
 obtain ⟨h1, h2 | ⟨g, cap, cur, rfl, h3, h4, h5⟩⟩ := h
 ·exact ⟨h1, .inl h2⟩
 ·exact ⟨h1, .inr ⟨g, cap, cur, rfl, h3, (hk g rfl).trans h4, h5⟩⟩
theorem row_form {W : World} {base : Nat} {e : TypeId} {size : Nat} {v : Value} {k : Nat} {xs : List Value} (h : W.ownsRow base e size v k xs) : ∃ A c, v = .slice A k c := by
 obtain ⟨_, ⟨rfl, rfl⟩ | ⟨g, cap, cur, rfl, _⟩⟩ := h
 ·exact ⟨_, _, rfl⟩
 ·exact ⟨_, _, rfl⟩
theorem row_base {W : World} {base base' : Nat} {e : TypeId} {size : Nat} {v : Value} {k : Nat} {xs : List Value} (h : W.ownsRow base e size v k xs) (hb : base' ≤ base) : W.ownsRow base' e size v k xs := by
 obtain ⟨h1, h2 | ⟨g, cap, cur, rfl, h3, h4⟩⟩ := h
 ·exact ⟨h1, .inl h2⟩
 ·exact ⟨h1, .inr ⟨g, cap, cur, rfl, by omega, h4⟩⟩
theorem wpListIn_append_at {F : Fence} {n : Nat} {P : Program} (w : World) {ops : Array Oper} {rest : List Oper} {o : Oper} {a : Act} {Q : Exit → Act → World → Prop}
  (hg : o.guard = none) (s x : Operand) (t : TypeId) (hop : o.op = Op.call { callee := Callee.builtin Builtin.append, args := #[s, x], argTypes := #[t, t] })
  (base : Nat) (e : TypeId) (i : TypeInfo) (z : Value) (size bytes : Nat) (h1 : P.underlying t = some (.slice e)) (h2 : P.info? e = some i) (h3 : i.zero = some z) (h4 : i.size = size) (h5 : i.bytes = bytes) (h6 : z.cells.size = size) (h7 : 0 < size)
  (v : Value) (k : Nat) (xs : List Value) (hs : a.eval s = v) (hown : w.ownsRow base e size v k xs) (ad : Addr) (m c : Nat) (news : List Value) (hx : a.eval x = .slice (some ad) m c) (hn : news.length = m * size)
  (hc : ∀ j u, news[j]? = some u → w.cell? (ad.add j) = some u) (h1c : ∀ u ∈ news, u.oneCell' = true) (b1 : k + m ≤ maxLen) (b2 : (k + m) * bytes ≤ 140737488355328) (b3 : base ≤ w.heap.size)
  (hK : ∀ v' w', w'.ownsRow base e size v' (k + m) (xs ++ news) → w.grownBy w' v.ownBlock → (v'.ownBlock = v.ownBlock ∨ v'.ownBlock = some w.heap.size) → wpListIn F n P ops Q rest (a.put o.dst v') w') :
  wpListIn F n P ops Q (o :: rest) a w := by
 refine wpListIn_plain hg fun K hK' => ?_
 obtain ⟨v', w', hrun, r1, r2, r3, r4⟩ := run_append_own_at (P := P) (w := w) base t o.type e i z size bytes h1 h2 h3 h4 h5 h6 h7 v k xs hown ad m c news hn hc h1c b1 b2 b3
 unfold Oper.wpIn
 refine ⟨?_, ?_⟩
 ·simp [Oper.about, hop, resolve, Target.leads, Sem.run_pure]
 ·rw [Oper.semAt_plain F _ _ (by rw [hop]; intro c hc'; cases hc')]
  simp [execOp, hop, resolve, invoke, builtin, hs, hx, hrun, Result.andThen]
  exact hK' _ _ (hK v' w' r1 r2 r4)
structure RowI (w : World) (n g0 lb : Nat) (T e : TypeId) (sz : Nat) (fix : List (Nat × Obj)) (k : Nat) (cs : List Value) (G : Nat → Prop) (W : World) : Prop where
 below : Below w.heap.size w W
 size : n ≤ W.heap.size
 same : ∀ p, p ∈ fix → W.heap[p.1]? = some p.2
 row : ∃ v, Boxed W lb T v ∧ W.ownsRow n e sz v k cs ∧ ∀ g, v.ownBlock = some g → ¬ G g
 gl : ∀ i, G i → g0 ≤ i
 gh : ∀ i, G i → i < W.heap.size
structure RowA (w : World) (n g0 lb : Nat) (fix : List (Nat × Obj)) : Prop where
 lb1 : w.heap.size ≤ lb
 lb2 : lb < g0
 g0n : g0 ≤ n
 fx : ∀ p, p ∈ fix → p.1 < g0 ∧ p.1 ≠ lb
theorem Boxed.same {W : World} {B : Nat} {t t' : TypeId} {v v' : Value} (h : Boxed W B t v) (h' : Boxed W B t' v') : v = v' := by
 have := h.symm.trans h'
 simpa using (Obj.cells.inj (Option.some.inj this)).1
section
variable {w : World} {n g0 lb : Nat} {T e : TypeId} {sz : Nat} {fix : List (Nat × Obj)} {k : Nat} {cs : List Value} {G : Nat → Prop} {W : World}
theorem RowI.step (h : RowI w n g0 lb T e sz fix k cs G W) (ha : RowA w n g0 lb fix) {G' : Nat → Prop} {W2 : World} (hc : Chg G W W2) (hg : ∀ i, G' i → G i ∨ (W.heap.size ≤ i ∧ i < W2.heap.size)) : RowI w n g0 lb T e sz fix k cs G' W2 := by
 obtain ⟨hb, hs, hf, ⟨v, hv, hr, hng⟩, gl, gh⟩ := h
 obtain ⟨a1, a2, a3, a4⟩ := ha
 have same : ∀ i, i < g0 → W2.heap[i]? = W.heap[i]? := fun i hi => hc.block i (by omega) fun g => by have := gl i g; omega
 refine ⟨hb.trans ⟨hc.os, hc.tape, hc.output, hc.size, fun i hi => same i (by omega)⟩, Nat.le_trans hs hc.size, fun p hp => (same _ (a4 p hp).1).trans (hf p hp), ⟨v, (same _ a2).trans hv, ?_, ?_⟩, ?_, fun i h2 => (hg i h2).elim (fun h3 => Nat.lt_of_lt_of_le (gh i h3) hc.size) fun h3 => h3.2⟩
 ·exact ownsRow_block hr fun g e => hc.block g (hr.lt g e).2 (hng g e)
 ·exact fun g e h2 => (hg g h2).elim (hng g e) fun h3 => by have := (hr.lt g e).2; omega
 ·exact fun i h2 => (hg i h2).elim (gl i) fun h3 => by omega
theorem RowI.put (h : RowI w n g0 lb T e sz fix k cs G W) (ha : RowA w n g0 lb fix) {b : Nat} (hb1 : w.heap.size ≤ b) (hb2 : b < g0) (hne : b ≠ lb) (u : Value) {fix' : List (Nat × Obj)} (hf' : ∀ p, p ∈ fix' → (W.setCell ⟨b, 0, none⟩ u).heap[p.1]? = some p.2) :
  RowI w n g0 lb T e sz fix' k cs G (W.setCell ⟨b, 0, none⟩ u) ∧ Kept G W (W.setCell ⟨b, 0, none⟩ u) := by
 obtain ⟨hb, hs, hf, ⟨v, hv, hr, hng⟩, gl, gh⟩ := h
 obtain ⟨a1, a2, a3, a4⟩ := ha
 have same : ∀ i, i ≠ b → (W.setCell ⟨b, 0, none⟩ u).heap[i]? = W.heap[i]? := fun i hi => Below.heap_setCell W ⟨b, 0, none⟩ u i hi
 refine ⟨⟨hb.setCell (p := ⟨b, 0, none⟩) hb1 u, by simpa [World.setCell] using hs, hf', ⟨v, (same _ (Ne.symm hne)).trans hv, ownsRow_block hr fun g e => same g ?_, hng⟩, gl, fun i hi => by have := gh i hi; simpa [World.setCell] using this⟩, ⟨by simp [World.setCell], fun i hi => same i ?_⟩⟩
 ·have := (hr.lt g e).1
  omega
 ·have := gl i hi
  omega
theorem RowI.grow (h : RowI w n g0 lb T e sz fix k cs G W) (ha : RowA w n g0 lb fix) {W2 : World} (hb : Below W.heap.size W W2) : RowI w n g0 lb T e sz fix k cs G W2 ∧ Kept G W W2 :=
 ⟨h.step ha (Chg.of_below G hb) fun i hi => .inl hi, ⟨hb.size, fun i hi => hb.block i (h.gh i hi)⟩⟩
theorem RowI.push (h : RowI w n g0 lb T e sz fix k cs G W) (ha : RowA w n g0 lb fix) {v v' : Value} (hv : Boxed W lb T v) (hr : W.ownsRow n e sz v k cs) {W1 w3 : World} (hB : Below W.heap.size W W1) {k' : Nat} {cs' : List Value} (hown : w3.ownsRow n e sz v' k' cs') (hgrow : W1.grownBy w3 v.ownBlock) (hat : v'.ownBlock = v.ownBlock ∨ v'.ownBlock = some W1.heap.size) :
  RowI w n g0 lb T e sz fix k' cs' G (w3.setCell ⟨lb, 0, none⟩ v') ∧ Kept G W (w3.setCell ⟨lb, 0, none⟩ v') := by
 obtain ⟨hb, hs, hf, ⟨v0, hv0, _, hng⟩, gl, gh⟩ := h
 obtain rfl := Boxed.same hv0 hv
 obtain ⟨a1, a2, a3, a4⟩ := ha
 have s1 := hB.size
 have s2 := hgrow.size
 have nr : ∀ i, i < n → some i ≠ v0.ownBlock := fun i hi e => by have := (hr.lt i e.symm).1; omega
 have kept3 : ∀ i, i < W.heap.size → some i ≠ v0.ownBlock → i ≠ lb → (w3.setCell ⟨lb, 0, none⟩ v').heap[i]? = W.heap[i]? := fun i hi hne h0 =>
  ((Below.heap_setCell w3 ⟨lb, 0, none⟩ v' i h0).trans (hgrow.block i (by omega) hne)).trans (hB.block i hi)
 have hv3 : Boxed w3 lb T v0 := ((hgrow.block lb (by omega) (nr lb (by omega))).trans (hB.block lb (by omega))).trans hv
 refine ⟨⟨?_, ?_, fun p hp => (kept3 _ (by have := (a4 p hp).1; omega) (nr _ (by have := (a4 p hp).1; omega)) (a4 p hp).2).trans (hf p hp), ⟨v', hv3.set v', ?_, ?_⟩, gl, fun i hi => by have := gh i hi; simp [World.setCell]; omega⟩, ⟨by simp [World.setCell]; omega, fun i hi => kept3 i (gh i hi) (fun e => hng i e.symm hi) (by have := gl i hi; omega)⟩⟩
 ·have hbw : Below w.heap.size w w3 := (hb.trans (hB.mono (by omega))).grown hgrow (by omega) (fun k e => by have := (hr.lt k e).1; omega)
  exact hbw.setCell (p := ⟨lb, 0, none⟩) a1 v'
 ·simp [World.setCell]
  omega
 ·exact ownsRow_block hown fun g e => Below.heap_setCell w3 ⟨lb, 0, none⟩ v' g (by have := (hown.lt g e).1; show g ≠ lb; omega)
 ·intro g e hgg
  rcases hat with h2 | h2
  ·exact hng g (h2.symm.trans e) hgg
  ·rw [h2] at e
   cases e
   have := gh _ hgg
   omega
end
end Go.Proofs.YtniihjhlkpjnoaaDoor.Given
end
