-- Out of this text a program of mine (wip/slim.py) took what this claim does not use.
/- Package lex: the contracts of moved and of Finish's deferred function. -/
import Derived.Test.YtniihjhlkpjnoaaDoorLl
section
set_option linter.unusedVariables false
set_option linter.unusedSimpArgs false
namespace Go.Proofs.YtniihjhlkpjnoaaDoor.Given
open Go.RowKit Go.Shelf Go.Proofs.YtniihjhlkpjnoaaDoor.PT Go.Proofs.YtniihjhlkpjnoaaDoorW.PrintWords Go.Proofs.YtniihjhlkpjnoaaDoorW.PrintLast Go.Proofs.YtniihjhlkpjnoaaDoorW.PrintMore
attribute [local go_sem] Oper.semAt_some
theorem moved_calls (p : Nat × Itm) (d : Nat) (h1 : p.1 + p.2.len + d ≤ 4611686018427387904) (w : World) : Calls Tryd.prog 34 #[.agg #[.int .i64 p.2.kind, .string (ba p.2.text), .int .i64 p.2.n, .int .i64 p.1, .int .i64 ((p.1 : Int) + (p.2.len : Int))], .int .i64 d] w fun e w' =>
  e = .returned (.agg #[.int .i64 p.2.kind, .string (ba p.2.text), .int .i64 p.2.n, .int .i64 ((p.1 + d : Nat) : Int), .int .i64 ((p.1 + p.2.len + d : Nat) : Int)]) ∧ Below w.heap.size w w' :=
 lex_moved.calls _ _ _ _ _ _ _ _ _ _ _ w (by
  unfold lex_moved.f
  rw [w64 (a := (p.1 : Int) + (d : Int)) (n := p.1 + d) (by omega) (by omega), w64 (a := (p.1 : Int) + (p.2.len : Int) + (d : Int)) (n := p.1 + p.2.len + d) (by omega) (by omega)])
set_option maxRecDepth 100000 in
theorem fin1_ok (n be bl bs ba' : Nat) (u : FrameMode) (w : World) (h1 : w.cell? ⟨be, 0, none⟩ = some (.int .i64 0)) :
  CallsDIn Fence.wide n Tryd.prog 32 #[.pointer (some ⟨be, 0, none⟩), .pointer (some ⟨bl, 0, none⟩), .pointer (some ⟨bs, 0, none⟩), .pointer (some ⟨ba', 0, none⟩)] u w fun e u' w' => u' = u ∧ (e = .returned (.tuple #[]) ∧ w' = w) := by
 refine callsDIn_of_wp Tryd.func32 rfl trivial ?_ rfl
 simp only [Tryd.ntmps32, List.size_toArray, List.length_cons, List.length_nil, Nat.reduceAdd, Nat.reduceSub, Array.replicate_succ, Array.replicate_zero, List.push_toArray, List.append_toArray, List.nil_append, List.cons_append]
 gi_wp2
 exact bodyPost_end (results_none rfl _ _ _) rfl ⟨rfl, rfl⟩
set_option maxRecDepth 100000 in
set_option maxHeartbeats 1000000 in
theorem fin1_err (n be bl bs bt' : Nat) (u : FrameMode) (e0 : Int) (he : e0 ≠ 0) (v : Value) (d : Int) (r : List UInt8) (m a0 : Int) (hd : 0 ≤ d ∧ d ≤ 1048576) (ha : 0 ≤ a0 ∧ a0 ≤ 4611686018427387904) (hr : r.length ≤ 4611686018427387904) (w : World) (h1 : w.cell? ⟨be, 0, none⟩ = some (.int .i64 e0)) (h2 : w.cell? ⟨bl, 0, none⟩ = some v) (h3 : w.frozen? ⟨bl, 0, none⟩ = false)
  (s0 : w.cell? ⟨bs, 0, none⟩ = some (.int .i64 d)) (s1 : w.cell? ⟨bs, 1, none⟩ = some (.string (ba r))) (s2 : w.cell? ⟨bs, 2, none⟩ = some (.int .i64 m)) (t0 : w.cell? ⟨bt', 0, none⟩ = some (.int .i64 a0)) (tf : w.frozen? ⟨bt', 0, none⟩ = false) (n1 : bl ≠ bs) (n2 : bl ≠ bt') :
  CallsDIn Fence.wide n Tryd.prog 32 #[.pointer (some ⟨be, 0, none⟩), .pointer (some ⟨bl, 0, none⟩), .pointer (some ⟨bs, 0, none⟩), .pointer (some ⟨bt', 0, none⟩)] u w fun e u' w' => u' = u ∧ (e = .returned (.tuple #[]) ∧ w' = if d + r.length ≤ 1048576 then (w.setCell ⟨bl, 0, none⟩ (.slice none 0 0)).setCell ⟨bt', 0, none⟩ (.int .i64 (a0 + d)) else w.setCell ⟨bl, 0, none⟩ (.slice none 0 0)) := by
 have q1 : (e0 == 0) = false := beq_eq_false_iff_ne.2 he
 have q2 : (e0 != 0) = true := bne_iff_ne.2 he
 have q3 : decide (e0 = 0) = false := decide_eq_false he
 have hsz := ba_size r
 have hus := Tryd.underlying29
 have m1 : ¬ bs = bl := fun e => n1 e.symm
 have m2 : ¬ bt' = bl := fun e => n2 e.symm
 by_cases hle : d + r.length ≤ 1048576
 ·simp only [if_pos hle]
  have k1 : decide (d + (r.length : Int) ≤ 1048576) = true := decide_eq_true hle
  have kw1 : IntKind.i64.wrap (d + (r.length : Int)) = d + (r.length : Int) := IntWalk.i64_in _ (by omega)
  have kw2 : IntKind.i64.wrap (a0 + d) = a0 + d := IntWalk.i64_in _ (by omega)
  clear hle he
  refine callsDIn_of_wp Tryd.func32 rfl trivial ?_ rfl
  simp only [Tryd.ntmps32, List.size_toArray, List.length_cons, List.length_nil, Nat.reduceAdd, Nat.reduceSub, Array.replicate_succ, Array.replicate_zero, List.push_toArray, List.append_toArray, List.nil_append, List.cons_append]
  gi_wp2
  exact bodyPost_end (results_none rfl _ _ _) rfl ⟨rfl, rfl⟩
 ·simp only [if_neg hle]
  have k1 : decide (d + (r.length : Int) ≤ 1048576) = false := decide_eq_false hle
  have kw1 : IntKind.i64.wrap (d + (r.length : Int)) = d + (r.length : Int) := IntWalk.i64_in _ (by omega)
  clear hle he
  refine callsDIn_of_wp Tryd.func32 rfl trivial ?_ rfl
  simp only [Tryd.ntmps32, List.size_toArray, List.length_cons, List.length_nil, Nat.reduceAdd, Nat.reduceSub, Array.replicate_succ, Array.replicate_zero, List.push_toArray, List.append_toArray, List.nil_append, List.cons_append]
  gi_wp2
  exact bodyPost_end (results_none rfl _ _ _) rfl ⟨rfl, rfl⟩
end Go.Proofs.YtniihjhlkpjnoaaDoor.Given
end
section
/- Package lex: how a function that has deferred caught is left. -/
set_option linter.unusedVariables false
set_option linter.unusedSimpArgs false
namespace Go.Proofs.YtniihjhlkpjnoaaDoor.Given
open Go.RowKit Go.Shelf Go.Proofs.YtniihjhlkpjnoaaDoor.PT Go.Proofs.YtniihjhlkpjnoaaDoorW.PrintWords Go.Proofs.YtniihjhlkpjnoaaDoorW.PrintLast Go.Proofs.YtniihjhlkpjnoaaDoorW.PrintMore
attribute [local go_sem] Oper.semAt_some
theorem Chg.boxed {G : Nat → Prop} {W W' : World} (h : Chg G W W') {b : Nat} {T : TypeId} {v : Value} (hb : Boxed W b T v) (hn : ¬ G b) : Boxed W' b T v := (h.block b hb.lt hn).trans hb
theorem Chg.obj {G : Nat → Prop} {W W' : World} (h : Chg G W W') {b : Nat} {o : Obj} (hb : W.heap[b]? = some o) (hn : ¬ G b) : W'.heap[b]? = some o := (h.block b (Array.getElem?_eq_some_iff.1 hb).1 hn).trans hb
theorem Chg.row {G : Nat → Prop} {W W' : World} (h : Chg G W W') {base : Nat} {e : TypeId} {size : Nat} {v : Value} {k : Nat} {xs : List Value} (hr : W.ownsRow base e size v k xs) (hn : ∀ g, v.ownBlock = some g → ¬ G g) : W'.ownsRow base e size v k xs :=
 ownsRow_block hr fun g e => h.block g (hr.lt g e).2 (hn g e)
theorem wpInop_append_at {F : Fence} {n : Nat} {P : Program} (w : World) {o : Oper} {a : Act} {K : Act → World → Prop} {Q : Exit → Act → World → Prop}
  (s x : Operand) (t : TypeId) (hop : o.op = Op.call { callee := Callee.builtin Builtin.append, args := #[s, x], argTypes := #[t, t] })
  (base : Nat) (e : TypeId) (i : TypeInfo) (z : Value) (size bytes : Nat) (h1 : P.underlying t = some (.slice e)) (h2 : P.info? e = some i) (h3 : i.zero = some z) (h4 : i.size = size) (h5 : i.bytes = bytes) (h6 : z.cells.size = size) (h7 : 0 < size)
  (v : Value) (k : Nat) (xs : List Value) (hs : a.eval s = v) (hown : w.ownsRow base e size v k xs) (ad : Addr) (m c : Nat) (news : List Value) (hx : a.eval x = .slice (some ad) m c) (hn : news.length = m * size)
  (hc : ∀ j u, news[j]? = some u → w.cell? (ad.add j) = some u) (h1c : ∀ u ∈ news, u.oneCell' = true) (b1 : k + m ≤ maxLen) (b2 : (k + m) * bytes ≤ 140737488355328) (b3 : base ≤ w.heap.size)
  (hK : ∀ v' w', w'.ownsRow base e size v' (k + m) (xs ++ news) → w.grownBy w' v.ownBlock → (v'.ownBlock = v.ownBlock ∨ v'.ownBlock = some w.heap.size) → K (a.put o.dst v') w') : o.wpIn F n P a w K Q := by
 obtain ⟨v', w', hrun, r1, r2, r3, r4⟩ := run_append_own_at (P := P) (w := w) base t o.type e i z size bytes h1 h2 h3 h4 h5 h6 h7 v k xs hown ad m c news hn hc h1c b1 b2 b3
 unfold Oper.wpIn
 refine ⟨?_, ?_⟩
 ·simp [Oper.about, hop, resolve, Target.leads, Sem.run_pure]
 ·rw [Oper.semAt_plain F _ _ (by rw [hop]; intro c hc'; cases hc')]
  simp [execOp, hop, resolve, invoke, builtin, hs, hx, hrun, Result.andThen]
  exact hK _ _ r1 r2 r4
section
variable {N : Nat} {fn : Func} {tmps : Array Value} {R : Ending → World → Prop} {ds : List Deferred} {u : FrameMode} {W : World}
theorem leaves_mark {D : Nat} (hu : u ≠ .run) (hK : W.heap[D]? = some (.deferred (some []))) (h : ∀ W', Chg (fun i => i = D) W W' → LeavesInM Fence.wide N Tryd.prog fn tmps R ds u W') :
  LeavesInM Fence.wide N Tryd.prog fn tmps R ({ target := .collected D, args := #[] } :: ds) u W :=
 ⟨hu, .inl ⟨D, _, rfl, run_takeDeferred hK, h _ (Chg.putObj (G := fun i => i = D) W rfl _)⟩⟩
theorem leaves_idle (hN : 1 ≤ N) (po pe : Addr) (h : LeavesInM Fence.wide N Tryd.prog fn tmps R ds .returning W) :
  LeavesInM Fence.wide N Tryd.prog fn tmps R ({ target := .fn (.func 28) #[], args := #[.pointer (some po), .pointer (some pe)] } :: ds) .returning W := by
 refine ⟨by simp, .inr ⟨fun _ => hN, .func 28, #[], 28, _, rfl, by simp [go_sem]; rfl, fun _ _ => trivial, ?_⟩⟩
 refine (caught_idle (N - 1) _ _ W).mono ?_
 rintro e u' w'' ⟨rfl, rfl, rfl⟩
 exact h
theorem leaves_caught (hN : 1 ≤ N) {be bo : Nat} (p : Int × Nat) (z3 : Boxed W be 25 (.int .i64 0)) (z4 : Boxed W bo 3 (.int .i64 0)) (hne : be ≠ bo)
  (h : ∀ W', Boxed W' be 25 (.int .i64 p.1) → Boxed W' bo 3 (.int .i64 p.2) → Chg (fun i => i = be ∨ i = bo) W W' → LeavesInM Fence.wide N Tryd.prog fn tmps R ds .returning W') :
  LeavesInM Fence.wide N Tryd.prog fn tmps R ({ target := .fn (.func 28) #[], args := #[.pointer (some ⟨be, 0, none⟩), .pointer (some ⟨bo, 0, none⟩)] } :: ds) (.panicking (failC p)) W := by
 refine ⟨by simp, .inr ⟨fun _ => hN, .func 28, #[], 28, _, rfl, by simp [go_sem]; rfl, fun _ _ => trivial, ?_⟩⟩
 refine (caught_fails (N - 1) be bo p.1 p.2 _ _ W z3.cell z4.cell z3.frozen z4.frozen hne).mono ?_
 rintro e u' w'' ⟨rfl, rfl, rfl⟩
 have y3 := ((z3.set (.int .i64 p.1)).other hne (.int .i64 p.2)).alloc (.cells #[.int .i64 p.1, .int .i64 p.2] 74)
 have y4 := ((z4.other (Ne.symm hne) (.int .i64 p.1)).set (.int .i64 p.2)).alloc (.cells #[.int .i64 p.1, .int .i64 p.2] 74)
 refine h _ y3 y4 ?_
 have c1 : Chg (fun i => i = be ∨ i = bo) W (W.setCell ⟨be, 0, none⟩ (.int .i64 p.1)) := Chg.setCell W (.inl rfl) _
 have c2 : Chg (fun i => i = be ∨ i = bo) (W.setCell ⟨be, 0, none⟩ (.int .i64 p.1)) ((W.setCell ⟨be, 0, none⟩ (.int .i64 p.1)).setCell ⟨bo, 0, none⟩ (.int .i64 p.2)) := Chg.setCell _ (.inr rfl) _
 have c3 := (c1.trans c2 fun i hi => .inl hi)
 generalize (W.setCell ⟨be, 0, none⟩ (.int .i64 p.1)).setCell ⟨bo, 0, none⟩ (.int .i64 p.2) = W2 at c3
 exact c3.trans (Chg.of_below _ (((Below.refl _ _).alloc (Nat.le_refl _) _).trans (Drawn0.below ⟨⟨1, rfl⟩⟩ |>.mono (by simp)))) fun i hi => .inl hi
theorem leaves_fn (hN : 1 ≤ N) (hu : u ≠ .run) {f : Nat} {cap : Array Value} {S : World → World → Prop} (hen : (callFunc f cap).run Tryd.prog W = .ok (.enter f cap) W)
  (hc : CallsDIn Fence.wide (N - 1) Tryd.prog f cap u W fun e u' w' => u' = u ∧ (e = .returned (.tuple #[]) ∧ S W w')) (h : ∀ W', S W W' → LeavesInM Fence.wide N Tryd.prog fn tmps R ds (settle u) W') :
  LeavesInM Fence.wide N Tryd.prog fn tmps R ({ target := .fn (.func f) cap, args := #[] } :: ds) u W := by
 refine ⟨hu, .inr ⟨fun _ => hN, .func f, cap, f, cap, rfl, by simpa [go_sem, invoke] using hen, fun _ _ => trivial, ?_⟩⟩
 refine hc.mono ?_
 rintro e u' w'' ⟨rfl, rfl, hs⟩
 exact h _ hs
end
end Go.Proofs.YtniihjhlkpjnoaaDoor.Given
end
