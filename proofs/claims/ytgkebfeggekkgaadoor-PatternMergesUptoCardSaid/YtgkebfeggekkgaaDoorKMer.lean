/- PROVED: 'mjolnerlaw09.PatternMerges' answers true and leaves its input as it was, on every input of bulk at most 1048576 (the second form's tied card), in the model's Go, its conditions those of the row: the library's tables hold what the program's text lays. -/
import Derived.Test.YtgkebfeggekkgaaDoorMc
import Derived.Test.YtgkebfeggekkgaaDoorKitB
set_option linter.unusedVariables false
set_option linter.unusedSimpArgs false
namespace Go.Proofs.YtgkebfeggekkgaaDoor.patternMerges
open Go.ChangeShapes Go.WideShapes Go.ChangeAt Go.RowKit Go.Proofs.YtgkebfeggekkgaaDoor.Given Go.Proofs.YtgkebfeggekkgaaDoor.PT

set_option maxRecDepth 100000 in
theorem contract (H : Type) (enc : TypeId × Value → H) (W : World) (base : Nat) (args : Array Value) (ds gs : List (DataW H)) (before : List MemPlace)
    (hval : ∀ (j : Nat) t v, Tryd.f10.params[j]? = some t → args[j]? = some v → Value.okWide Tryd.prog W .any base t v)
    (hW : DataW.Whole enc Tryd.prog Tryd.f10.params.toList Rows.patternMergesSpec.vars false W args.toList ds gs before) (hk : Rows.uptoSmall H (ds ++ gs) = true)
    (hL : laidMetH Tryd.prog Rows.patternMergesUptoRow.laid W) (hs : W.ShapedOpen Tryd.prog) :
    Calls Tryd.prog 10 args W fun e W' => ∃ v, e = .returned v ∧ Rows.patternMergesSpec.post enc Tryd.prog Tryd.f10 false true false false W args v W' := by
  have hG : LaidG W := laidG_of (l := Rows.patternMergesUptoRow.laid) hL (by kernel_rfl) hs
  have hW' := hW
  obtain ⟨p, q, hA0, hV, rfl, hfz, hnd⟩ := hW
  have hA : DataW.TrodAll enc Tryd.prog W 0 (fun _ => true) true Tryd.f10.params.toList args.toList ds p := hA0
  rw [Tryd.params10] at hA hval
  obtain ⟨v0, vs0, d0, ds0, p0, q0, hargs, rfl, rfl, h0, r0⟩ := trodAll_cons hA
  obtain ⟨v1, vs1, d1, ds1, p1, q1, rfl, rfl, rfl, h1, r1⟩ := trodAll_cons r0
  obtain ⟨v2, vs2, d2, ds2, p2, q2, rfl, rfl, rfl, h2, r2⟩ := trodAll_cons r1
  obtain ⟨rfl, rfl, rfl⟩ := trodAll_nil r2
  obtain rfl : args = #[v0, v1, v2] := by cases args; simp_all
  obtain ⟨rfl, rfl⟩ := trodVars_none hV
  have k0 := h0
  obtain ⟨A0, c0, x0, rfl, hc0, hC0, bl0, lt0, bi0⟩ := open_dos (hval 0 36 v0 rfl rfl) h0
  obtain ⟨x1, rfl, rfl, rfl, wf1⟩ := open_int Tryd.underlying3 (hval 1 3 v1 rfl rfl) h1
  have k2 := h2
  obtain ⟨x2, A2, c2, rfl, hc2, hC2, bi2, bl2, lt2⟩ := open_do (hval 2 39 v2 rfl rfl) h2
  clear hA0
  simp only [List.append_nil, List.nil_append] at hW' hk
  obtain ⟨k, hf⟩ := PatternMerges_law x0 x1 x2 (Nat.le_trans bl0 (bulk_small hk (by simp))) (fun b hb => ⟨(bi0 b hb).1, Nat.le_trans (bi0 b hb).2 (bulk_small hk (by simp))⟩) bi2 (Nat.le_trans bl2 (bulk_small hk (by simp)))
  refine (mjolnerlaw09_PatternMerges.calls k A0 c0 x0 x1 A2 c2 x2 true W hG hC0 hc0 hC2 hc2 hf).mono fun e W' ⟨he, hb⟩ => ?_
  subst he
  exact ⟨_, rfl, post_below (pa := p0 ++ (p2)) (pv := []) hW' hb (fun _ _ _ => trodAll_cons_mk (shut_bool Tryd.underlying4 _) trodAll_mk0) (fun _ hsp => by have hx := (trodAll_cons_mk (shut_dos hb lt0 (fun x hx => hsp x (by simp [hx])) k0) (trodAll_cons_mk (shut_int Tryd.underlying3 wf1) (trodAll_cons_mk (shut_do hb lt2 (fun x hx => hsp x (by simp [hx])) k2) trodAll_mk0))); simp only [List.append_nil, List.nil_append] at hx; exact hx) (fun _ _ => rfl) (List.append_nil _).symm (ok_one (by kernel_rfl) rfl (okWide_bool_mk Tryd.underlying4 _))⟩
theorem laid_met (os : Os) : laidMet Tryd.prog Rows.patternMergesUptoRow.laid ((laidWorld os).forCall (fun _ _ => 0) ⟨#[], #[.slice none 0 0, .int .i64 0, .agg #[.bool false, .slice none 0 0]], []⟩).memory :=
  laidMet_of_run' 8 (by kernel_rfl) (by kernel_rfl)
theorem reads (os : Os) {H : Type} (enc : TypeId × Value → H) : ∃ places, DataW.whole enc Tryd.prog ((laidWorld os).forCall (fun _ _ => 0) ⟨#[], #[.slice none 0 0, .int .i64 0, .agg #[.bool false, .slice none 0 0]], []⟩).memory Tryd.f10.params.toList Rows.patternMergesSpec.vars false #[Value.slice none 0 0, Value.int .i64 0, Value.agg #[.bool false, .slice none 0 0]].toList 8 = some ([.nil, .lit (.int .i64 0), .agg [.lit (.bool false), .nil]], [], places) :=
  ⟨[], by kernel_rfl⟩
set_option maxRecDepth 100000 in
theorem liftedUpto (os : Os) (started : os.Started) (H : Type) (enc : TypeId × Value → H) (F : Stop.Interp) :
    ReturnsInHanded {} Tryd.checked os 10 .any ((Rows.OpenSpec.upto Rows.patternMergesSpec).preRow enc Tryd.prog Tryd.f10 Rows.patternMergesUptoRow.domain false Rows.patternMergesUptoRow.laid) (((Rows.OpenSpec.upto Rows.patternMergesSpec).at F).post enc Tryd.prog Tryd.f10 false true false false) := by
  obtain ⟨places, hx⟩ := reads os enc
  refine returnsInHanded_of_row (C := Tryd.checked) (s := Rows.OpenSpec.upto Rows.patternMergesSpec) own started (by kernel_rfl) Tryd.func10
    (witness_row_at (enc := enc) (C := Tryd.checked) false (laidWorld os) #[.slice none 0 0, .int .i64 0, .agg #[.bool false, .slice none 0 0]] rfl (by kernel_rfl) (by kernel_rfl) (by kernel_rfl)
      (OpenSpec.preRow_of_cond 8 hx (by kernel_rfl) (fun k hk => by cases hk; kernel_rfl) (by kernel_rfl) (laid_met os))) ?_
  intro W base args ds gs before hval hW _ hcond _ hL hsh _
  exact contract H enc W base args ds gs before hval hW (hcond _ rfl) hL hsh
theorem saidUpto : Rows.PatternMergesUptoSaid :=
  OpenClaim.holds_of_cond 10 Tryd.f10 rfl rfl rfl rfl rfl rfl rfl ⟨rfl, rfl, rfl, rfl, rfl⟩ rfl rfl rfl rfl rfl (by kernel_rfl) Tryd.func10 (by kernel_rfl)
    (of_decide_eq_true (by kernel_rfl)) (by unfold Func.isWrapper; first | (rw [if_pos (by decide +kernel)]; kernel_rfl) | (rw [if_neg (by decide +kernel)]; exact ⟨rfl, rfl⟩))
    (fun os started H enc _ F => by rw [OpenClaim.pre_eq_preRow]; exact liftedUpto os started H enc F)
theorem plain (f : FuncId) (fn : Func) (hf : Tryd.pinned.checked.prog.funcNamed "mjolner/mjolnerlaw09.PatternMerges" = some f) (hfn : Tryd.pinned.checked.prog.funcs[f]? = some fn) :
    true = Tryd.pinned.checked.prog.looks [] ∧ ∀ (j : Nat) t, fn.params[j]? = some t → Tryd.pinned.checked.prog.wantsStandIn t = false := by
  obtain rfl : f = 10 := Option.some.inj ((show Tryd.prog.funcNamed "mjolner/mjolnerlaw09.PatternMerges" = some 10 by kernel_rfl).symm.trans hf) |>.symm
  obtain rfl : fn = Tryd.f10 := (Option.some.inj (Tryd.func10.symm.trans hfn)).symm
  refine ⟨by kernel_rfl, fun j t ht => ?_⟩
  rw [Tryd.params10] at ht
  have ht' := Array.mem_of_getElem? ht
  simp only [List.mem_toArray, List.mem_cons, List.not_mem_nil, or_false] at ht'
  have hw39 : Tryd.pinned.checked.prog.wantsStandIn 39 = false := (show Tryd.prog.wantsStandIn 39 = false by kernel_rfl)
  have hw3 : Tryd.pinned.checked.prog.wantsStandIn 3 = false := (show Tryd.prog.wantsStandIn 3 = false by kernel_rfl)
  have hw36 : Tryd.pinned.checked.prog.wantsStandIn 36 = false := (show Tryd.prog.wantsStandIn 36 = false by kernel_rfl)
  rcases ht' with rfl | rfl | rfl
  all_goals first | (with_reducible exact hw39) | (with_reducible exact hw3) | (with_reducible exact hw36)
/-- THE SECOND FORM's CARD -/
theorem cardUpto : Rows.PatternMergesUptoCardSaid :=
  Claim7.holds_tied_plain_at .later [] _ _ _ _ saidUpto (fun _ h => by cases h) (by kernel_rfl) (fun _ h => by cases h) patternMergesUpto_row_tie rfl ⟨rfl, rfl⟩ (by kernel_rfl) rfl plain (by kernel_rfl)
end Go.Proofs.YtgkebfeggekkgaaDoor.patternMerges
