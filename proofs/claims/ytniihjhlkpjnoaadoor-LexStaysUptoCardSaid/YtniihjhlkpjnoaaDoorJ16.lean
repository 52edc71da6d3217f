-- Out of this text a program of mine (wip/slim.py) took what this claim does not use.
/- What the rows of the Lex laws need: the library's tables and its variable lie in the world as the contracts ask; the bound gives each string's length; what is below the heap's end reads as it did; a world for the witness. -/
import Derived.Test.YtniihjhlkpjnoaaDoorShelf
import Derived.Test.YtniihjhlkpjnoaaDoorJ0
import Derived.Test.YtniihjhlkpjnoaaDoorCards
import Derived.Test.YtniihjhlkpjnoaaDoorTie
import Derived.WalkKit
import Derived.ProofKit
import Derived.OpenShut
import Derived.Deep.DeepHandedRow
import Derived.Deep.DeepWitnessRowRef
import Derived.Deep.DeepLaidRun
import Derived.Lib.LaidTab
import Derived.Lib.LaidU8
import Derived.LaidSub
import Derived.Carry
import Derived.Deep.Strs
import Derived.Test.YtniihjhlkpjnoaaDoorJ3
import Derived.Lib.SmallJoins
import Derived.Test.YtniihjhlkpjnoaaDoorLSta
section
set_option linter.unusedVariables false
set_option linter.unusedSimpArgs false
namespace Go.Proofs.YtniihjhlkpjnoaaDoor.Given
open Go.ChangeShapes Go.WideShapes Go.ChangeAt Go.RowKit
theorem own : ownKnob Tryd.prog.godebug = none := by kernel_rfl
theorem gTab : Tryd.prog.globalNamed "strings.asciiSpace" = some 3 := by kernel_rfl
theorem gTabType : (Tryd.prog.globals[3]?).map (·.type) = some 135 := by kernel_rfl
theorem cellsT : Tryd.prog.cellsOf 135 = 256 := by kernel_rfl
theorem cells5 : Tryd.prog.cellsOf 5 = 1 := by kernel_rfl
def laids : List (String × DataW Unit) := [("unicode/utf8.acceptRanges", Rows.laid_unicode_utf8_acceptRanges), ("unicode.White_Space", Rows.laid_unicode_White_Space), ("strings.asciiSpace", Rows.laid_strings_asciiSpace), ("unicode/utf8.first", Rows.laid_unicode_utf8_first)]
theorem e_first : Rows.laid_unicode_utf8_first = Lib.firstData := by kernel_rfl
theorem e_acc : (Rows.laid_unicode_utf8_acceptRanges : DataW Unit) = Lib.acceptData := by kernel_rfl
theorem met_one {l : List (String × DataW Unit)} {W : World} (h : laidMetH Tryd.prog l W) (n : String) (d : DataW Unit) (hl : (l.filter fun x => x.1 == n) = [(n, d)]) : laidMetH Tryd.prog [(n, d)] W := by
 have h2 := h.filter (fun x => x.1 == n)
 rw [hl] at h2
 exact h2
set_option maxRecDepth 100000 in
theorem laidG_of {W : World} (h : laidMetH Tryd.prog laids W) (hs : W.ShapedOpen Tryd.prog) : LaidG W := by
 refine ⟨?_, Go.Proofs.cell_of_shapedOpen_int (zero := #[.int .i64 0]) (t := 3) hs (of_decide_eq_true (by kernel_rfl)) (by kernel_rfl) rfl (by kernel_rfl) (by kernel_rfl) Tryd.underlying3, ?_⟩
 ·exact Lib.tabIs_of_head (rest := []) gTab gTabType Tryd.underlying135 Tryd.underlying5 cells5 cellsT (met_one h "strings.asciiSpace" Rows.laid_strings_asciiSpace (by kernel_rfl))
 ·exact utf8Tabs_of_reads { Tryd.lays260 with } ⟨by kernel_rfl, by kernel_rfl, by kernel_rfl, by kernel_rfl, by kernel_rfl, by kernel_rfl, by kernel_rfl⟩
   (by have hx := met_one h "unicode/utf8.first" Rows.laid_unicode_utf8_first (by kernel_rfl); rw [e_first] at hx; exact Lib.laidMet.reads hx (.head _)) (by have hx := met_one h "unicode/utf8.acceptRanges" Rows.laid_unicode_utf8_acceptRanges (by kernel_rfl); rw [e_acc] at hx; exact Lib.laidMet.reads hx (.head _))
theorem post_below {H : Type} {enc : TypeId × Value → H} {P : Program} {f : Func} {s : ChangeSpec} {apart fresh handsOn again : Bool} {W W' : World} {args : Array Value} {v : Value} {ds gs : List (DataW H)} {before pa pv : List MemPlace}
  (hW : DataW.Whole enc P f.params.toList s.vars apart W args.toList ds gs before) (hb : Below W.heap.size W W')
  (hres : ∀ (b : Nat) (sp : Nat → Bool) (hd : Bool), DataW.TrodAll enc P W' b sp hd f.resultTypes.toList (v.resultList f.resultTypes.size) (s.fn H (ds ++ gs)).results [])
  (hargs : ∀ sp : Nat → Bool, (∀ p ∈ before, sp p.block = true) → DataW.TrodAll enc P W' 0 sp true f.params.toList args.toList (s.fn H (ds ++ gs)).args pa)
  (hvars : ∀ sp : Nat → Bool, (∀ p ∈ before, sp p.block = true) → DataW.TrodVars enc P W' sp s.vars (s.fn H (ds ++ gs)).vars pv)
  (hps : before = pa ++ pv)
  (hok : ∀ (j : Nat) (t : TypeId) (r : Value), f.resultTypes[j]? = some t → (v.resultList f.resultTypes.size)[j]? = some r → Value.okWide P W' .any 0 t r) :
  s.post enc P f apart fresh handsOn again W args v W' := by
 have hold : ∀ p ∈ before, (fun b => decide (b < W.heap.size)) p.block = true := fun p hp => by simpa using hW.lt p hp
 have hlt : ∀ p ∈ before, p.block < W.heap.size := fun p hp => hW.lt p hp
 refine ⟨ds, gs, before, [], pa, pv, hW, hres _ _ _, hargs _ hold, hvars _ hold, World.keptBut_mono (fun p hp => ⟨hp, ?_⟩) (hb.frame _), fun _ => ?_⟩
 ·rw [hps, List.mem_append] at hp
  exact Or.inr hp
 ·obtain ⟨_, _, _, _, _, hz, hn⟩ := hW
  refine ⟨hok, _, _, ([] ++ pa) ++ pv, ⟨[] ++ pa, pv, trodAll_append (hargs _ (fun _ _ => rfl)) (hres _ _ _), hvars _ (fun _ _ => rfl), rfl, ?_, ?_⟩, ?_⟩
  ·intro b off hp
   have hp' : MemPlace.cell b off ∈ before := by rw [hps]; simpa using hp
   rw [hb.frozen (p := ⟨b, off, none⟩) (hlt _ hp')]
   exact hz b off hp'
  ·intro ha
   have := hn ha
   rw [hps] at this
   simpa using this
  ·intro p hp _
   rw [hps]
   simpa using hp
theorem bulk_part {H : Type} {d : DataW H} {l : List (DataW H)} (h : d ∈ l) : Rows.uptoBulk d ≤ Rows.uptoBulkAll l := by
 induction l with
 | nil => cases h
 | cons x r ih =>
  simp only [Rows.uptoBulkAll]
  cases List.mem_cons.1 h with
  | inl e => subst e; omega
  | inr e => have := ih e; omega
theorem bulk_string {H : Type} {l : List (DataW H)} {s : ByteArray} (hk : Rows.uptoSmall H l = true) (h : (DataW.lit (.string s.data.toList)) ∈ l) : s.size ≤ 1048576 := by
 have h1 := bulk_part h
 have h2 : Rows.uptoBulkAll l ≤ 1048576 := by simpa [Rows.uptoSmall] using hk
 have h3 : Rows.uptoBulk (DataW.lit (H := H) (.string s.data.toList)) = s.data.toList.length + 1 := by simp [Rows.uptoBulk]
 have h4 : s.data.toList.length = s.size := by simp
 omega
noncomputable def laidWorld (os : Os) : World :=
 let N := (World.settled Tryd.prog os).heap.size
 let w0 := World.holding Tryd.prog os ⟨#[.cells (Lib.whiteT.map fun (z : Nat) => Value.int .u16 (z : Int)).toArray 158, .cells #[.slice (some ⟨N, 0, none⟩) 7 7, .slice none 0 0, .int .i64 2] 155], #[], []⟩
 let put (h : Array Obj) (g : Nat) (cs : Array Value) : Array Obj := h.modify g fun
  | .cells _ t frozen => .cells cs t frozen
  | o => o
 { w0 with heap := put (put (put (put w0.heap 3 (Lib.asciiSpaceTab.map fun z => Value.int .u8 z).toArray) 1 (Lib.firstTab.map fun z => Value.int .u8 z).toArray)
   2 ((List.range 16).flatMap fun i => [Value.int .u8 (Lib.accLo i), Value.int .u8 (Lib.accHi i)]).toArray) 4 #[.pointer (some ⟨N + 1, 0, none⟩)] }
theorem laid_met (os : Os) (args : Array Value) : laidMet Tryd.prog laids ((laidWorld os).forCall (fun _ _ => 0) ⟨#[], args, []⟩).memory :=
 laidMet_of_run3 10 (by kernel_rfl) (by kernel_rfl) (by kernel_rfl)
end Go.Proofs.YtniihjhlkpjnoaaDoor.Given
end
section
-- Out of this text a program of mine (wip/slim.py) took what this claim does not use.
/- What the rows of the Lex laws need whose input holds lists of ints, tokens or an edit: how these are read among the arguments, and that they read the same behind the call. -/
set_option linter.unusedVariables false
set_option linter.unusedSimpArgs false
namespace Go.Proofs.YtniihjhlkpjnoaaDoor.Given
open Go.ChangeShapes Go.WideShapes Go.ChangeAt Go.RowKit Go.Deep Go.Joins Go.Proofs.YtniihjhlkpjnoaaDoorW.PrintWords Go.Proofs.YtniihjhlkpjnoaaDoorW.PrintLast Go.Proofs.YtniihjhlkpjnoaaDoorW.PrintMore
instance : Inhabited PV.S42 := ⟨⟨0, ⟨#[]⟩, 0, 0, 0⟩⟩
theorem cellsEdit : Tryd.prog.cellsOf 52 = 3 := by kernel_rfl
section
variable {H : Type} {enc : TypeId × Value → H} {w w' : World} {v : Value} {d : DataW H} {ps : List MemPlace} (hb : Below w.heap.size w w') (hlt : ∀ x ∈ ps, x.block < w.heap.size) {sp : Nat → Bool} (hsp : ∀ x ∈ ps, sp x.block = true)
include hb hlt hsp
end
set_option maxRecDepth 100000 in
theorem open_edit {H : Type} {enc : TypeId × Value → H} {w : World} {base : Nat} {spare : Nat → Bool} {held : Bool} {r : Reach} {b0 : Nat} {v : Value} {d : DataW H} {ps : List MemPlace}
  (hv : Value.okWide Tryd.prog w r b0 52 v) (h : DataW.Trod enc Tryd.prog w base spare held 52 v d ps) :
  ∃ (a dr : Int) (s : ByteArray), v = .agg #[.int .i64 a, .int .i64 dr, .string s] ∧ d = .agg [.lit (.int .i64 a), .lit (.int .i64 dr), .lit (.string s.data.toList)] ∧ ps = [] ∧
   (Lit.int .i64 a).wf = true ∧ (Lit.int .i64 dr).wf = true ∧ s.size ≤ maxLen := by
 obtain ⟨c0, c1, c2, y0, y1, y2, m, rfl, rfl, rfl, hy0, hy1, hy2⟩ := open_agg3 Tryd.underlying52 (by kernel_rfl) cellsEdit hv h
 obtain ⟨x, e0, rfl, wx⟩ := DataW.trod_int Tryd.underlying3 hy0
 obtain ⟨y, e1, rfl, wy⟩ := DataW.trod_int Tryd.underlying3 hy1
 obtain ⟨s, e2, rfl, ws⟩ := DataW.trod_string Tryd.underlying9 hy2
 simp at e0 e1 e2
 subst e0 e1 e2
 exact ⟨x, y, s, rfl, rfl, rfl, wx, wy, ws⟩
set_option maxRecDepth 100000 in
theorem shut_edit {H : Type} {enc : TypeId × Value → H} {w : World} {base : Nat} {spare : Nat → Bool} {held : Bool} {a dr : Int} {s : ByteArray} (wa : (Lit.int .i64 a).wf = true) (wd : (Lit.int .i64 dr).wf = true) (ws : s.size ≤ maxLen) :
  DataW.Trod enc Tryd.prog w base spare held 52 (.agg #[.int .i64 a, .int .i64 dr, .string s]) (.agg [.lit (.int .i64 a), .lit (.int .i64 dr), .lit (.string s.data.toList)]) [] := by
 simpa using shut_agg3 (enc := enc) (w := w) (base := base) (spare := spare) (held := held) (y0 := (.lit (.int .i64 a), [])) (y1 := (.lit (.int .i64 dr), [])) (y2 := (.lit (.string s.data.toList), [])) Tryd.underlying52 (by kernel_rfl) cellsEdit
  ⟨1, by simp [DataW.trod, Tryd.underlying3, wa]⟩ ⟨1, by simp [DataW.trod, Tryd.underlying3, wd]⟩ ⟨1, by simp [DataW.trod, Tryd.underlying9, ws]⟩
theorem bulk_edit {H : Type} {l : List (DataW H)} {a dr : Int} {s : ByteArray} (hk : Rows.uptoSmall H l = true) (h : (DataW.agg [.lit (.int .i64 a), .lit (.int .i64 dr), .lit (.string s.data.toList)]) ∈ l) : s.size ≤ 1048576 := by
 have h1 := bulk_part h
 have h2 : Rows.uptoBulkAll l ≤ 1048576 := by simpa [Rows.uptoSmall] using hk
 have h4 : s.data.toList.length = s.size := by simp
 simp only [Rows.uptoBulk, Rows.uptoBulkAll] at h1
 omega
end Go.Proofs.YtniihjhlkpjnoaaDoor.Given
end
section
/- PROVED: 'mjolnerlaw04.LexStays' answers true and leaves its input as it was, on every input of bulk at most 1048576 (the second form's tied card), in the model's Go, its conditions those of the row: the library's tables hold what the program's text lays. -/
set_option linter.unusedVariables false
set_option linter.unusedSimpArgs false
namespace Go.Proofs.YtniihjhlkpjnoaaDoor.lexStays
open Go.ChangeShapes Go.WideShapes Go.ChangeAt Go.RowKit Go.Proofs.YtniihjhlkpjnoaaDoor.Given Go.Proofs.YtniihjhlkpjnoaaDoor.PV
set_option maxRecDepth 100000 in
theorem contract (H : Type) (enc : TypeId × Value → H) (W : World) (base : Nat) (args : Array Value) (ds gs : List (DataW H)) (before : List MemPlace)
  (hval : ∀ (j : Nat) t v, Tryd.f8.params[j]? = some t → args[j]? = some v → Value.okWide Tryd.prog W .any base t v)
  (hW : DataW.Whole enc Tryd.prog Tryd.f8.params.toList Rows.lexStaysSpec.vars false W args.toList ds gs before) (hk : Rows.uptoSmall H (ds ++ gs) = true)
  (hL : laidMetH Tryd.prog Rows.lexStaysUptoRow.laid W) (hs : W.ShapedOpen Tryd.prog) :
  Calls Tryd.prog 8 args W fun e W' => ∃ v, e = .returned v ∧ Rows.lexStaysSpec.post enc Tryd.prog Tryd.f8 false true false false W args v W' := by
 have hG : LaidG W := laidG_of hL hs
 have hW' := hW
 obtain ⟨p, q, hA0, hV, rfl, hfz, hnd⟩ := hW
 have hA : DataW.TrodAll enc Tryd.prog W 0 (fun _ => true) true Tryd.f8.params.toList args.toList ds p := hA0
 rw [Tryd.params8] at hA hval
 obtain ⟨v0, vs0, d0, ds0, p0, q0, hargs, rfl, rfl, h0, r0⟩ := trodAll_cons hA
 obtain ⟨v1, vs1, d1, ds1, p1, q1, rfl, rfl, rfl, h1, r1⟩ := trodAll_cons r0
 obtain ⟨rfl, rfl, rfl⟩ := trodAll_nil r1
 obtain rfl : args = #[v0, v1] := by cases args; simp_all
 obtain ⟨rfl, rfl⟩ := trodVars_none hV
 obtain ⟨x0, rfl, rfl, rfl, hm0⟩ := Go.ChangeMaps.open_string Tryd.underlying9 (hval 0 9 v0 rfl rfl) h0
 obtain ⟨x1a, x1d, x1s, rfl, rfl, rfl, wa1, wd1, hm1⟩ := open_edit (hval 1 52 v1 rfl rfl) h1
 clear hA0
 simp only [List.append_nil, List.nil_append] at hW' hk
 obtain ⟨k, hf⟩ := lexStays_ex x0 x1a x1d x1s (bulk_string hk (by simp)) (bulk_edit (a := x1a) (dr := x1d) hk (by simp))
 refine (mjolnerlaw04_LexStays.calls k x0 x1a x1d x1s true W hG hf rfl).mono fun e W' ⟨he, hb⟩ => ?_
 subst he
 exact ⟨_, rfl, post_below (pa := []) (pv := []) hW' hb (fun _ _ _ => trodAll_cons_mk (shut_bool Tryd.underlying4 _) trodAll_mk0) (fun _ _ => (trodAll_cons_mk (Go.ChangeMaps.shut_string Tryd.underlying9 hm0) (trodAll_cons_mk (shut_edit wa1 wd1 hm1) trodAll_mk0))) (fun _ _ => rfl) rfl (ok_one (by kernel_rfl) rfl (okWide_bool_mk Tryd.underlying4 _))⟩
theorem reads (os : Os) {H : Type} (enc : TypeId × Value → H) : ∃ places, DataW.whole enc Tryd.prog ((laidWorld os).forCall (fun _ _ => 0) ⟨#[], #[.string ⟨#[]⟩, .agg #[.int .i64 0, .int .i64 0, .string ⟨#[]⟩]], []⟩).memory Tryd.f8.params.toList Rows.lexStaysSpec.vars false #[.string ⟨#[]⟩, .agg #[.int .i64 0, .int .i64 0, .string ⟨#[]⟩]].toList 8 = some ([.lit (.string []), .agg [.lit (.int .i64 0), .lit (.int .i64 0), .lit (.string [])]], [], places) :=
 ⟨[], by kernel_rfl⟩
set_option maxRecDepth 100000 in
theorem liftedUpto (os : Os) (started : os.Started) (H : Type) (enc : TypeId × Value → H) (F : Stop.Interp) :
  ReturnsInHanded {} Tryd.checked os 8 .any ((Rows.OpenSpec.upto Rows.lexStaysSpec).preRow enc Tryd.prog Tryd.f8 Rows.lexStaysUptoRow.domain false Rows.lexStaysUptoRow.laid) (((Rows.OpenSpec.upto Rows.lexStaysSpec).at F).post enc Tryd.prog Tryd.f8 false true false false) := by
 obtain ⟨places, hx⟩ := reads os enc
 refine returnsInHanded_of_row (C := Tryd.checked) (s := Rows.OpenSpec.upto Rows.lexStaysSpec) own started (by kernel_rfl) Tryd.func8
  (witness_row_atRef (enc := enc) (C := Tryd.checked) false (laidWorld os) #[.string ⟨#[]⟩, .agg #[.int .i64 0, .int .i64 0, .string ⟨#[]⟩]] rfl (by kernel_rfl) (by kernel_rfl) (by kernel_rfl)
   (OpenSpec.preRow_of_cond 8 hx (by kernel_rfl) (fun k hk => by cases hk; kernel_rfl) (by kernel_rfl) (laid_met os _))) ?_
 intro W base args ds gs before hval hW _ hcond _ hL hsh _
 exact contract H enc W base args ds gs before hval hW (hcond _ rfl) hL hsh
theorem saidUpto : Rows.LexStaysUptoSaid :=
 OpenClaim.holds_of_cond 8 Tryd.f8 rfl rfl rfl rfl rfl rfl rfl ⟨rfl, rfl, rfl, rfl, rfl⟩ rfl rfl rfl rfl rfl (by kernel_rfl) Tryd.func8 (by kernel_rfl)
  (of_decide_eq_true (by kernel_rfl)) (by unfold Func.isWrapper; first | (rw [if_pos (by decide +kernel)]; kernel_rfl) | (rw [if_neg (by decide +kernel)]; exact ⟨rfl, rfl⟩))
  (fun os started H enc _ F => by rw [OpenClaim.pre_eq_preRow]; exact liftedUpto os started H enc F)
theorem plain (f : FuncId) (fn : Func) (hf : Tryd.pinned.checked.prog.funcNamed "mjolner/mjolnerlaw04.LexStays" = some f) (hfn : Tryd.pinned.checked.prog.funcs[f]? = some fn) :
  true = Tryd.pinned.checked.prog.looks [] ∧ ∀ (j : Nat) t, fn.params[j]? = some t → Tryd.pinned.checked.prog.wantsStandIn t = false := by
 obtain rfl : f = 8 := Option.some.inj ((show Tryd.prog.funcNamed "mjolner/mjolnerlaw04.LexStays" = some 8 by kernel_rfl).symm.trans hf) |>.symm
 obtain rfl : fn = Tryd.f8 := (Option.some.inj (Tryd.func8.symm.trans hfn)).symm
 refine ⟨by kernel_rfl, fun j t ht => ?_⟩
 rw [Tryd.params8] at ht
 have ht' := Array.mem_of_getElem? ht
 simp only [List.mem_toArray, List.mem_cons, List.not_mem_nil, or_false] at ht'
 have hwE : Tryd.pinned.checked.prog.wantsStandIn 52 = false := (show Tryd.prog.wantsStandIn 52 = false by kernel_rfl)
 have hwS : Tryd.pinned.checked.prog.wantsStandIn 9 = false := (show Tryd.prog.wantsStandIn 9 = false by kernel_rfl)
 rcases ht' with rfl | rfl
 all_goals first | (with_reducible exact hwE) | (with_reducible exact hwS)
theorem cardUpto : Rows.LexStaysUptoCardSaid :=
 Claim7.holds_tied_plain_at .later [] _ _ _ _ saidUpto (fun _ h => by cases h) (by kernel_rfl) (fun _ h => by cases h) lexStaysUpto_row_tie rfl ⟨rfl, rfl⟩ (by kernel_rfl) rfl plain (by kernel_rfl)
end Go.Proofs.YtniihjhlkpjnoaaDoor.lexStays
end
