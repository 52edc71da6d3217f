/- What the rows of the Pattern laws need whose input holds patterns: how such a list among the arguments is read, and that it reads the same behind the call. -/
import Derived.Test.YtgkebfeggekkgaaDoorKit
import Derived.Test.YtgkebfeggekkgaaDoorHm
import Derived.Carry
import Derived.Deep.Strs
import Derived.Test.YtgkebfeggekkgaaDoorHv
section
set_option linter.unusedVariables false
set_option linter.unusedSimpArgs false
namespace Go.Proofs.YtgkebfeggekkgaaDoor.Given
open Go.ChangeShapes Go.WideShapes Go.ChangeAt Go.RowKit Go.Deep Go.Proofs.YtgkebfeggekkgaaDoor.PT Go.Proofs.YtgkebfeggekkgaaDoorW.PrintWords

instance : Inhabited S31 := ⟨⟨0, 0, 0⟩⟩
theorem laidOut : laidOutB Tryd.prog = true := by kernel_rfl
theorem cells31 : Tryd.prog.cellsOf 31 = 3 := by kernel_rfl
theorem cells3 : Tryd.prog.cellsOf 3 = 1 := by kernel_rfl
theorem inI_wf {n : Int} (h : (Lit.int .i64 n).wf = true) : inI n = true := by
  simpa [Lit.wf, IntKind.min, IntKind.max, IntKind.signed, IntKind.bits, inI] using h
theorem list3 {α : Type} : ∀ {l : List α}, l.length = 3 → ∃ a b c, l = [a, b, c]
  | [a, b, c], _ => ⟨a, b, c, rfl⟩
theorem open_part {H : Type} {enc : TypeId × Value → H} {w : World} {base : Nat} {sp : Nat → Bool} {hd : Bool} {n : Nat} {cs : List Value} {x : DataW H × List MemPlace} (h : DataW.trod enc Tryd.prog w base sp hd n 31 cs = some x) :
    ∃ p : S31, cs = [.int .i64 p.f0, .int .i64 p.f1, .int .i64 p.f2] ∧ inI3 p = true := by
  obtain ⟨y0, y1, y2, n, rfl, hl, h0, h1, h2⟩ := trod_struct3 Tryd.underlying31 h
  rw [cells31] at hl
  obtain ⟨a, b, c, rfl⟩ := list3 hl
  obtain ⟨m0, e0, _, k0⟩ := DataW.trod_int Tryd.underlying3 h0
  obtain ⟨m1, e1, _, k1⟩ := DataW.trod_int Tryd.underlying3 h1
  obtain ⟨m2, e2, _, k2⟩ := DataW.trod_int Tryd.underlying3 h2
  simp only [cells3] at e0 e1 e2
  have a0 : a = .int .i64 m0 := by simpa using e0
  have a1 : b = .int .i64 m1 := by simpa using e1
  have a2 : c = .int .i64 m2 := by simpa using e2
  exact ⟨⟨m0, m1, m2⟩, by rw [a0, a1, a2], by show (inI m0 && (inI m1 && inI m2)) = true; rw [inI_wf k0, inI_wf k1, inI_wf k2]; rfl⟩
set_option maxRecDepth 100000 in
theorem open_pats {H : Type} {enc : TypeId × Value → H} {w : World} {r : Reach} {b0 : Nat} {v : Value} {d : DataW H} {ps : List MemPlace} (hv : Value.okWide Tryd.prog w r b0 24 v) (h : DataW.Trod enc Tryd.prog w 0 (fun _ => true) true 24 v d ps) :
    ∃ (A : Option Addr) (c : Nat) (l : List S31), v = .slice A l.length c ∧ l.length ≤ c ∧ Kd.C k31 w A l.length l ∧ l.all inI3 = true ∧ (∀ x ∈ ps, x.block < w.heap.size) := by
  obtain ⟨a, len, cap, rfl⟩ := okWide_slice Tryd.underlying24 hv
  have hlt : ∀ x ∈ ps, x.block < w.heap.size := by
    obtain ⟨m, hm⟩ := h
    exact DataW.trod_lt m _ _ _ hm
  obtain ⟨fuel, hf⟩ := h
  rcases open_slice Tryd.underlying24 hf with ⟨hcs, hx⟩ | ⟨x, len', cap', m, n, D, Pl, hcs, _, hl, hm, hmm, hx, hcell⟩
  · simp [Value.cells] at hcs
    obtain ⟨rfl, rfl, rfl⟩ := hcs
    exact ⟨none, 0, [], rfl, Nat.le_refl _, Kd.C_nil _ _, rfl, hlt⟩
  · simp [Value.cells] at hcs
    obtain ⟨rfl, rfl, rfl⟩ := hcs
    have hlm : len ≤ m := by rw [hmm]; split <;> omega
    have each : ∀ i, i < m → ∃ p : S31, w.cells? 0 (x.add (i * 3)) 3 = some [.int .i64 p.f0, .int .i64 p.f1, .int .i64 p.f2] ∧ inI3 p = true := fun i hi => by
      obtain ⟨cs', h1, h2⟩ := hcell i hi
      rw [cells31] at h1
      obtain ⟨p, rfl, hp⟩ := open_part h2
      exact ⟨p, h1, hp⟩
    obtain ⟨Sx, hS⟩ := choose_lt each
    have hn : ((List.range len).map Sx).length = len := by simp
    unfold maxLen at hm
    refine ⟨some x, cap, (List.range len).map Sx, by rw [hn], by rw [hn]; exact hl, ?_, ?_, hlt⟩
    · refine ⟨rfl, by rw [hn]; omega, fun h0 => ⟨x, rfl, fun j y hj => ?_⟩⟩
      have hjl : j < len := by
        have := (List.getElem?_eq_some_iff.1 hj).1
        omega
      have hy : Sx j = y := by simpa [hjl] using hj
      subst hy
      refine ⟨[.int .i64 (Sx j).f0, .int .i64 (Sx j).f1, .int .i64 (Sx j).f2], rfl, k31_mk w (Sx j), fun i u hu => ?_⟩
      have hc := (World.cells?_some (hS j (by omega)).1).2.2
      have hi3 : i < 3 := by
        have := (List.getElem?_eq_some_iff.1 hu).1
        simpa using this
      have h4 := hc i hi3
      rw [Go.Addr.add_add] at h4
      exact h4.trans hu
    · rw [List.all_eq_true]
      intro p hp
      simp only [List.mem_map, List.mem_range] at hp
      obtain ⟨i, hi, rfl⟩ := hp
      exact (hS i (by omega)).2
theorem shut_pats {H : Type} {enc : TypeId × Value → H} {w w' : World} {v : Value} {d : DataW H} {ps : List MemPlace} (h : DataW.Trod enc Tryd.prog w 0 (fun _ => true) true 24 v d ps) (hb : Below w.heap.size w w') (hlt : ∀ x ∈ ps, x.block < w.heap.size)
    {sp : Nat → Bool} (hsp : ∀ x ∈ ps, sp x.block = true) : DataW.Trod enc Tryd.prog w' 0 sp true 24 v d ps :=
  WideElems.Trod_stays laidOut (by kernel_rfl) (of_decide_eq_true (by kernel_rfl)) h (fun x hx => hb.same (hlt x hx)) hsp
end Go.Proofs.YtgkebfeggekkgaaDoor.Given
end
section
/- PROVED: 'mjolnerlaw09.PatternOrders' answers true and leaves its input as it was, on every input of bulk at most 1048576 (the second form's tied card), in the model's Go, its conditions those of the row: the library's tables hold what the program's text lays. -/
set_option linter.unusedVariables false
set_option linter.unusedSimpArgs false
namespace Go.Proofs.YtgkebfeggekkgaaDoor.patternOrders
open Go.ChangeShapes Go.WideShapes Go.ChangeAt Go.RowKit Go.Proofs.YtgkebfeggekkgaaDoor.Given Go.Proofs.YtgkebfeggekkgaaDoor.PT

set_option maxRecDepth 100000 in
theorem contract (H : Type) (enc : TypeId × Value → H) (W : World) (base : Nat) (args : Array Value) (ds gs : List (DataW H)) (before : List MemPlace)
    (hval : ∀ (j : Nat) t v, Tryd.f13.params[j]? = some t → args[j]? = some v → Value.okWide Tryd.prog W .any base t v)
    (hW : DataW.Whole enc Tryd.prog Tryd.f13.params.toList Rows.patternOrdersSpec.vars false W args.toList ds gs before) (hk : Rows.uptoSmall H (ds ++ gs) = true)
    (hL : laidMetH Tryd.prog Rows.patternOrdersUptoRow.laid W) (hs : W.ShapedOpen Tryd.prog) :
    Calls Tryd.prog 13 args W fun e W' => ∃ v, e = .returned v ∧ Rows.patternOrdersSpec.post enc Tryd.prog Tryd.f13 false true false false W args v W' := by
  have hG : LaidG W := laidG_of (l := Rows.patternOrdersUptoRow.laid) hL (by kernel_rfl) hs
  have hW' := hW
  obtain ⟨p, q, hA0, hV, rfl, hfz, hnd⟩ := hW
  have hA : DataW.TrodAll enc Tryd.prog W 0 (fun _ => true) true Tryd.f13.params.toList args.toList ds p := hA0
  rw [Tryd.params13] at hA hval
  obtain ⟨v0, vs0, d0, ds0, p0, q0, hargs, rfl, rfl, h0, r0⟩ := trodAll_cons hA
  obtain ⟨v1, vs1, d1, ds1, p1, q1, rfl, rfl, rfl, h1, r1⟩ := trodAll_cons r0
  obtain ⟨rfl, rfl, rfl⟩ := trodAll_nil r1
  obtain rfl : args = #[v0, v1] := by cases args; simp_all
  obtain ⟨rfl, rfl⟩ := trodVars_none hV
  have k0 := h0
  obtain ⟨A0, c0, x0, rfl, hc0, hC0, bi0, lt0⟩ := open_pats (hval 0 24 v0 rfl rfl) h0
  have k1 := h1
  obtain ⟨A1, c1, x1, rfl, hc1, hC1, bi1, lt1⟩ := open_pats (hval 1 24 v1 rfl rfl) h1
  clear hA0
  simp only [List.append_nil, List.nil_append] at hW' hk
  obtain ⟨k, hf⟩ := PatternOrders_law x0 x1 bi0 bi1
  refine (mjolnerlaw09_PatternOrders.calls k A0 c0 x0 A1 c1 x1 true W hG hC0 hc0 hC1 hc1 hf).mono fun e W' ⟨he, hb⟩ => ?_
  subst he
  exact ⟨_, rfl, post_below (pa := p0 ++ (p1)) (pv := []) hW' hb (fun _ _ _ => trodAll_cons_mk (shut_bool Tryd.underlying4 _) trodAll_mk0) (fun _ hsp => by have hx := (trodAll_cons_mk (shut_pats k0 hb lt0 (fun x hx => hsp x (by simp [hx]))) (trodAll_cons_mk (shut_pats k1 hb lt1 (fun x hx => hsp x (by simp [hx]))) trodAll_mk0)); simp only [List.append_nil, List.nil_append] at hx; exact hx) (fun _ _ => rfl) (List.append_nil _).symm (ok_one (by kernel_rfl) rfl (okWide_bool_mk Tryd.underlying4 _))⟩
theorem laid_met (os : Os) : laidMet Tryd.prog Rows.patternOrdersUptoRow.laid ((laidWorld os).forCall (fun _ _ => 0) ⟨#[], #[.slice none 0 0, .slice none 0 0], []⟩).memory :=
  laidMet_of_run' 8 (by kernel_rfl) (by kernel_rfl)
theorem reads (os : Os) {H : Type} (enc : TypeId × Value → H) : ∃ places, DataW.whole enc Tryd.prog ((laidWorld os).forCall (fun _ _ => 0) ⟨#[], #[.slice none 0 0, .slice none 0 0], []⟩).memory Tryd.f13.params.toList Rows.patternOrdersSpec.vars false #[Value.slice none 0 0, Value.slice none 0 0].toList 8 = some ([.nil, .nil], [], places) :=
  ⟨[], by kernel_rfl⟩
set_option maxRecDepth 100000 in
theorem liftedUpto (os : Os) (started : os.Started) (H : Type) (enc : TypeId × Value → H) (F : Stop.Interp) :
    ReturnsInHanded {} Tryd.checked os 13 .any ((Rows.OpenSpec.upto Rows.patternOrdersSpec).preRow enc Tryd.prog Tryd.f13 Rows.patternOrdersUptoRow.domain false Rows.patternOrdersUptoRow.laid) (((Rows.OpenSpec.upto Rows.patternOrdersSpec).at F).post enc Tryd.prog Tryd.f13 false true false false) := by
  obtain ⟨places, hx⟩ := reads os enc
  refine returnsInHanded_of_row (C := Tryd.checked) (s := Rows.OpenSpec.upto Rows.patternOrdersSpec) own started (by kernel_rfl) Tryd.func13
    (witness_row_at (enc := enc) (C := Tryd.checked) false (laidWorld os) #[.slice none 0 0, .slice none 0 0] rfl (by kernel_rfl) (by kernel_rfl) (by kernel_rfl)
      (OpenSpec.preRow_of_cond 8 hx (by kernel_rfl) (fun k hk => by cases hk; kernel_rfl) (by kernel_rfl) (laid_met os))) ?_
  intro W base args ds gs before hval hW _ hcond _ hL hsh _
  exact contract H enc W base args ds gs before hval hW (hcond _ rfl) hL hsh
theorem saidUpto : Rows.PatternOrdersUptoSaid :=
  OpenClaim.holds_of_cond 13 Tryd.f13 rfl rfl rfl rfl rfl rfl rfl ⟨rfl, rfl, rfl, rfl, rfl⟩ rfl rfl rfl rfl rfl (by kernel_rfl) Tryd.func13 (by kernel_rfl)
    (of_decide_eq_true (by kernel_rfl)) (by unfold Func.isWrapper; first | (rw [if_pos (by decide +kernel)]; kernel_rfl) | (rw [if_neg (by decide +kernel)]; exact ⟨rfl, rfl⟩))
    (fun os started H enc _ F => by rw [OpenClaim.pre_eq_preRow]; exact liftedUpto os started H enc F)
theorem plain (f : FuncId) (fn : Func) (hf : Tryd.pinned.checked.prog.funcNamed "mjolner/mjolnerlaw09.PatternOrders" = some f) (hfn : Tryd.pinned.checked.prog.funcs[f]? = some fn) :
    true = Tryd.pinned.checked.prog.looks [] ∧ ∀ (j : Nat) t, fn.params[j]? = some t → Tryd.pinned.checked.prog.wantsStandIn t = false := by
  obtain rfl : f = 13 := Option.some.inj ((show Tryd.prog.funcNamed "mjolner/mjolnerlaw09.PatternOrders" = some 13 by kernel_rfl).symm.trans hf) |>.symm
  obtain rfl : fn = Tryd.f13 := (Option.some.inj (Tryd.func13.symm.trans hfn)).symm
  refine ⟨by kernel_rfl, fun j t ht => ?_⟩
  rw [Tryd.params13] at ht
  have ht' := Array.mem_of_getElem? ht
  simp only [List.mem_toArray, List.mem_cons, List.not_mem_nil, or_false] at ht'
  have hw24 : Tryd.pinned.checked.prog.wantsStandIn 24 = false := (show Tryd.prog.wantsStandIn 24 = false by kernel_rfl)
  rcases ht' with rfl | rfl
  all_goals first | (with_reducible exact hw24)
/-- THE SECOND FORM's CARD -/
theorem cardUpto : Rows.PatternOrdersUptoCardSaid :=
  Claim7.holds_tied_plain_at .later [] _ _ _ _ saidUpto (fun _ h => by cases h) (by kernel_rfl) (fun _ h => by cases h) patternOrdersUpto_row_tie rfl ⟨rfl, rfl⟩ (by kernel_rfl) rfl plain (by kernel_rfl)
end Go.Proofs.YtgkebfeggekkgaaDoor.patternOrders
end
