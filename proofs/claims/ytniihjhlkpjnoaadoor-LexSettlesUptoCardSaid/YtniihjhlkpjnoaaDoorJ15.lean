-- Out of this text a program of mine (wip/slim.py) took what this claim does not use.
/- What the rows of the Lex laws need: the library's tables and its variable lie in the world as the contracts ask; the bound gives each string's length; what is below the heap's end reads as it did; a world for the witness. -/
import Derived.Test.YtniihjhlkpjnoaaDoorShelf
import Derived.Test.YtniihjhlkpjnoaaDoorFns
import Derived.Test.YtniihjhlkpjnoaaDoorCards
import Derived.Test.YtniihjhlkpjnoaaDoorTie
import Derived.WalkKit
import Derived.ProofKit
import Derived.OpenShut
import Derived.Deep.DeepHandedRow
import Derived.Deep.DeepWitnessRowRef
import Derived.Deep.DeepLaidRun
import Derived.Lib.LaidTab
import Derived.Lib.LaidU8
import Derived.LaidSub
import Derived.Carry
import Derived.Deep.Strs
import Derived.Test.YtniihjhlkpjnoaaDoorJ2
import Derived.Lib.SmallJoins
section
set_option linter.unusedVariables false
set_option linter.unusedSimpArgs false
namespace Go.Proofs.YtniihjhlkpjnoaaDoor.Given
open Go.ChangeShapes Go.WideShapes Go.ChangeAt Go.RowKit
theorem own : ownKnob Tryd.prog.godebug = none := by kernel_rfl
theorem laidOut : laidOutB Tryd.prog = true := by kernel_rfl
theorem gTab : Tryd.prog.globalNamed "strings.asciiSpace" = some 3 := by kernel_rfl
theorem gTabType : (Tryd.prog.globals[3]?).map (·.type) = some 135 := by kernel_rfl
theorem cellsT : Tryd.prog.cellsOf 135 = 256 := by kernel_rfl
theorem cells5 : Tryd.prog.cellsOf 5 = 1 := by kernel_rfl
def laids : List (String × DataW Unit) := [("unicode/utf8.acceptRanges", Rows.laid_unicode_utf8_acceptRanges), ("unicode.White_Space", Rows.laid_unicode_White_Space), ("strings.asciiSpace", Rows.laid_strings_asciiSpace), ("unicode/utf8.first", Rows.laid_unicode_utf8_first)]
theorem e_first : Rows.laid_unicode_utf8_first = Lib.firstData := by kernel_rfl
theorem e_acc : (Rows.laid_unicode_utf8_acceptRanges : DataW Unit) = Lib.acceptData := by kernel_rfl
theorem met_one {l : List (String × DataW Unit)} {W : World} (h : laidMetH Tryd.prog l W) (n : String) (d : DataW Unit) (hl : (l.filter fun x => x.1 == n) = [(n, d)]) : laidMetH Tryd.prog [(n, d)] W := by
 have h2 := h.filter (fun x => x.1 == n)
 rw [hl] at h2
 exact h2
set_option maxRecDepth 100000 in
theorem laidG_of {W : World} (h : laidMetH Tryd.prog laids W) (hs : W.ShapedOpen Tryd.prog) : LaidG W := by
 refine ⟨?_, Go.Proofs.cell_of_shapedOpen_int (zero := #[.int .i64 0]) (t := 3) hs (of_decide_eq_true (by kernel_rfl)) (by kernel_rfl) rfl (by kernel_rfl) (by kernel_rfl) Tryd.underlying3, ?_⟩
 ·exact Lib.tabIs_of_head (rest := []) gTab gTabType Tryd.underlying135 Tryd.underlying5 cells5 cellsT (met_one h "strings.asciiSpace" Rows.laid_strings_asciiSpace (by kernel_rfl))
 ·exact utf8Tabs_of_reads { Tryd.lays260 with } ⟨by kernel_rfl, by kernel_rfl, by kernel_rfl, by kernel_rfl, by kernel_rfl, by kernel_rfl, by kernel_rfl⟩
   (by have hx := met_one h "unicode/utf8.first" Rows.laid_unicode_utf8_first (by kernel_rfl); rw [e_first] at hx; exact Lib.laidMet.reads hx (.head _)) (by have hx := met_one h "unicode/utf8.acceptRanges" Rows.laid_unicode_utf8_acceptRanges (by kernel_rfl); rw [e_acc] at hx; exact Lib.laidMet.reads hx (.head _))
theorem post_below {H : Type} {enc : TypeId × Value → H} {P : Program} {f : Func} {s : ChangeSpec} {apart fresh handsOn again : Bool} {W W' : World} {args : Array Value} {v : Value} {ds gs : List (DataW H)} {before pa pv : List MemPlace}
  (hW : DataW.Whole enc P f.params.toList s.vars apart W args.toList ds gs before) (hb : Below W.heap.size W W')
  (hres : ∀ (b : Nat) (sp : Nat → Bool) (hd : Bool), DataW.TrodAll enc P W' b sp hd f.resultTypes.toList (v.resultList f.resultTypes.size) (s.fn H (ds ++ gs)).results [])
  (hargs : ∀ sp : Nat → Bool, (∀ p ∈ before, sp p.block = true) → DataW.TrodAll enc P W' 0 sp true f.params.toList args.toList (s.fn H (ds ++ gs)).args pa)
  (hvars : ∀ sp : Nat → Bool, (∀ p ∈ before, sp p.block = true) → DataW.TrodVars enc P W' sp s.vars (s.fn H (ds ++ gs)).vars pv)
  (hps : before = pa ++ pv)
  (hok : ∀ (j : Nat) (t : TypeId) (r : Value), f.resultTypes[j]? = some t → (v.resultList f.resultTypes.size)[j]? = some r → Value.okWide P W' .any 0 t r) :
  s.post enc P f apart fresh handsOn again W args v W' := by
 have hold : ∀ p ∈ before, (fun b => decide (b < W.heap.size)) p.block = true := fun p hp => by simpa using hW.lt p hp
 have hlt : ∀ p ∈ before, p.block < W.heap.size := fun p hp => hW.lt p hp
 refine ⟨ds, gs, before, [], pa, pv, hW, hres _ _ _, hargs _ hold, hvars _ hold, World.keptBut_mono (fun p hp => ⟨hp, ?_⟩) (hb.frame _), fun _ => ?_⟩
 ·rw [hps, List.mem_append] at hp
  exact Or.inr hp
 ·obtain ⟨_, _, _, _, _, hz, hn⟩ := hW
  refine ⟨hok, _, _, ([] ++ pa) ++ pv, ⟨[] ++ pa, pv, trodAll_append (hargs _ (fun _ _ => rfl)) (hres _ _ _), hvars _ (fun _ _ => rfl), rfl, ?_, ?_⟩, ?_⟩
  ·intro b off hp
   have hp' : MemPlace.cell b off ∈ before := by rw [hps]; simpa using hp
   rw [hb.frozen (p := ⟨b, off, none⟩) (hlt _ hp')]
   exact hz b off hp'
  ·intro ha
   have := hn ha
   rw [hps] at this
   simpa using this
  ·intro p hp _
   rw [hps]
   simpa using hp
theorem bulk_part {H : Type} {d : DataW H} {l : List (DataW H)} (h : d ∈ l) : Rows.uptoBulk d ≤ Rows.uptoBulkAll l := by
 induction l with
 | nil => cases h
 | cons x r ih =>
  simp only [Rows.uptoBulkAll]
  cases List.mem_cons.1 h with
  | inl e => subst e; omega
  | inr e => have := ih e; omega
theorem bulk_string {H : Type} {l : List (DataW H)} {s : ByteArray} (hk : Rows.uptoSmall H l = true) (h : (DataW.lit (.string s.data.toList)) ∈ l) : s.size ≤ 1048576 := by
 have h1 := bulk_part h
 have h2 : Rows.uptoBulkAll l ≤ 1048576 := by simpa [Rows.uptoSmall] using hk
 have h3 : Rows.uptoBulk (DataW.lit (H := H) (.string s.data.toList)) = s.data.toList.length + 1 := by simp [Rows.uptoBulk]
 have h4 : s.data.toList.length = s.size := by simp
 omega
theorem bulk_one {H : Type} (d : DataW H) : 1 ≤ Rows.uptoBulk d := by
 cases d with
 | lit l => cases l <;> simp [Rows.uptoBulk]
 | _ => simp [Rows.uptoBulk]
theorem bulk_len {H : Type} : ∀ (l : List (DataW H)), l.length ≤ Rows.uptoBulkAll l
 | [] => Nat.zero_le _
 | d :: l => by
  have h1 := bulk_len l
  have h2 := bulk_one d
  simp only [Rows.uptoBulkAll, List.length_cons]
  omega
theorem bulk_small {H : Type} {l : List (DataW H)} {d : DataW H} (hk : Rows.uptoSmall H l = true) (h : d ∈ l) : Rows.uptoBulk d ≤ 1048576 := by
 have h1 := bulk_part h
 have h2 : Rows.uptoBulkAll l ≤ 1048576 := by simpa [Rows.uptoSmall] using hk
 omega
noncomputable def laidWorld (os : Os) : World :=
 let N := (World.settled Tryd.prog os).heap.size
 let w0 := World.holding Tryd.prog os ⟨#[.cells (Lib.whiteT.map fun (z : Nat) => Value.int .u16 (z : Int)).toArray 158, .cells #[.slice (some ⟨N, 0, none⟩) 7 7, .slice none 0 0, .int .i64 2] 155], #[], []⟩
 let put (h : Array Obj) (g : Nat) (cs : Array Value) : Array Obj := h.modify g fun
  | .cells _ t frozen => .cells cs t frozen
  | o => o
 { w0 with heap := put (put (put (put w0.heap 3 (Lib.asciiSpaceTab.map fun z => Value.int .u8 z).toArray) 1 (Lib.firstTab.map fun z => Value.int .u8 z).toArray)
   2 ((List.range 16).flatMap fun i => [Value.int .u8 (Lib.accLo i), Value.int .u8 (Lib.accHi i)]).toArray) 4 #[.pointer (some ⟨N + 1, 0, none⟩)] }
theorem laid_met (os : Os) (args : Array Value) : laidMet Tryd.prog laids ((laidWorld os).forCall (fun _ _ => 0) ⟨#[], args, []⟩).memory :=
 laidMet_of_run3 10 (by kernel_rfl) (by kernel_rfl) (by kernel_rfl)
end Go.Proofs.YtniihjhlkpjnoaaDoor.Given
end
section
-- Out of this text a program of mine (wip/slim.py) took what this claim does not use.
/- What the rows of the Lex laws need whose input holds lists of ints, tokens or an edit: how these are read among the arguments, and that they read the same behind the call. -/
set_option linter.unusedVariables false
set_option linter.unusedSimpArgs false
namespace Go.Proofs.YtniihjhlkpjnoaaDoor.Given
open Go.ChangeShapes Go.WideShapes Go.ChangeAt Go.RowKit Go.Deep Go.Joins Go.Proofs.YtniihjhlkpjnoaaDoorW.PrintWords Go.Proofs.YtniihjhlkpjnoaaDoorW.PrintLast Go.Proofs.YtniihjhlkpjnoaaDoorW.PrintMore
instance : Inhabited PV.S42 := ⟨⟨0, ⟨#[]⟩, 0, 0, 0⟩⟩
theorem cellsTok : Tryd.prog.cellsOf 42 = 5 := by kernel_rfl
theorem cellsInt : Tryd.prog.cellsOf 3 = 1 := by kernel_rfl
theorem cellsStr : Tryd.prog.cellsOf 9 = 1 := by kernel_rfl
theorem rows_of {α : Type} [Inhabited α] {kd : Kd α} {w : World} {x : Addr} {len : Nat} {Sx : Nat → α} (hlen : len ≤ 9223372036854775807) (hS : ∀ i, i < len → ∃ cs, cs.length = kd.sz ∧ kd.K w (Sx i) cs ∧ ∀ j v, cs[j]? = some v → w.cell? ((x.add (i * kd.sz)).add j) = some v) :
  Kd.C kd w (some x) ((List.range len).map Sx).length ((List.range len).map Sx) := by
 have hn : ((List.range len).map Sx).length = len := by simp
 refine ⟨rfl, by rw [hn]; exact hlen, fun h0 => ⟨x, rfl, fun j y hj => ?_⟩⟩
 have hjl : j < len := by
  have := (List.getElem?_eq_some_iff.1 hj).1
  omega
 have hy : Sx j = y := by simpa [hjl] using hj
 subst hy
 obtain ⟨cs, h1, h2, h3⟩ := hS j hjl
 refine ⟨cs, h1, h2, fun i u hu => ?_⟩
 have := h3 i u hu
 rw [Go.Addr.add_add] at this
 exact this
theorem list5 {α : Type} : ∀ {l : List α}, l.length = 5 → ∃ a b c d e, l = [a, b, c, d, e]
 | [a, b, c, d, e], _ => ⟨a, b, c, d, e, rfl⟩
theorem trod_struct5 {H : Type} {enc : TypeId × Value → H} {P : Program} {w : World} {base : Nat} {spare : Nat → Bool} {held : Bool} {t : TypeId} {f0 f1 f2 f3 f4 : Field} {fuel : Nat} {cs : List Value} {x : DataW H × List MemPlace} (ht : P.underlying t = some (.struct #[f0, f1, f2, f3, f4])) (h : DataW.trod enc P w base spare held fuel t cs = some x) :
  ∃ y0 y1 y2 y3 y4 n, x = (.agg [y0.1, y1.1, y2.1, y3.1, y4.1], y0.2 ++ (y1.2 ++ (y2.2 ++ (y3.2 ++ y4.2)))) ∧ cs.length = P.cellsOf t ∧ DataW.trod enc P w base spare held n f0.type ((cs.drop f0.offset).take (P.cellsOf f0.type)) = some y0 ∧
   DataW.trod enc P w base spare held n f1.type ((cs.drop f1.offset).take (P.cellsOf f1.type)) = some y1 ∧ DataW.trod enc P w base spare held n f2.type ((cs.drop f2.offset).take (P.cellsOf f2.type)) = some y2 ∧
   DataW.trod enc P w base spare held n f3.type ((cs.drop f3.offset).take (P.cellsOf f3.type)) = some y3 ∧ DataW.trod enc P w base spare held n f4.type ((cs.drop f4.offset).take (P.cellsOf f4.type)) = some y4 := by
 obtain ⟨xs, n, _, rfl, hl, hlen, hf⟩ := DataW.trod_struct ht h
 match xs, hlen with
 | [y0, y1, y2, y3, y4], _ => exact ⟨y0, y1, y2, y3, y4, n, by simp, hl, by simpa using hf 0 f0 rfl, by simpa using hf 1 f1 rfl, by simpa using hf 2 f2 rfl, by simpa using hf 3 f3 rfl, by simpa using hf 4 f4 rfl⟩
set_option maxRecDepth 100000 in
theorem open_tokC {H : Type} {enc : TypeId × Value → H} {w : World} {base : Nat} {sp : Nat → Bool} {hd : Bool} {n : Nat} {cs : List Value} {x : DataW H × List MemPlace} (h : DataW.trod enc Tryd.prog w base sp hd n 42 cs = some x) :
  ∃ p : PV.S42, cs = [.int .i64 p.f0, .string p.f1, .int .i64 p.f2, .int .i64 p.f3, .int .i64 p.f4] ∧ p.f1.size + 6 ≤ Rows.uptoBulk x.1 := by
 obtain ⟨y0, y1, y2, y3, y4, n, rfl, hl, h0, h1, h2, h3, h4⟩ := trod_struct5 Tryd.underlying42 h
 rw [cellsTok] at hl
 obtain ⟨a, b, c, d, e, rfl⟩ := list5 hl
 obtain ⟨m0, e0, k0, _⟩ := DataW.trod_int Tryd.underlying3 h0
 obtain ⟨m1, e1, k1, _⟩ := DataW.trod_string Tryd.underlying9 h1
 obtain ⟨m2, e2, k2, _⟩ := DataW.trod_int Tryd.underlying3 h2
 obtain ⟨m3, e3, k3, _⟩ := DataW.trod_int Tryd.underlying3 h3
 obtain ⟨m4, e4, k4, _⟩ := DataW.trod_int Tryd.underlying3 h4
 simp only [cellsInt, cellsStr] at e0 e1 e2 e3 e4
 have a0 : a = .int .i64 m0 := by simpa using e0
 have a1 : b = .string m1 := by simpa using e1
 have a2 : c = .int .i64 m2 := by simpa using e2
 have a3 : d = .int .i64 m3 := by simpa using e3
 have a4 : e = .int .i64 m4 := by simpa using e4
 refine ⟨⟨m0, m1, m2, m3, m4⟩, by rw [a0, a1, a2, a3, a4], ?_⟩
 have hz : m1.data.toList.length = m1.size := Array.length_toList
 rw [k0, k1, k2, k3, k4]
 simp only [Rows.uptoBulk, Rows.uptoBulkAll]
 omega
set_option maxRecDepth 100000 in
theorem open_tok {H : Type} {enc : TypeId × Value → H} {w : World} {r : Reach} {b0 : Nat} {v : Value} {d : DataW H} {ps : List MemPlace} (hv : Value.okWide Tryd.prog w r b0 42 v) (h : DataW.Trod enc Tryd.prog w 0 (fun _ => true) true 42 v d ps) :
  ∃ p : PV.S42, v = .agg #[.int .i64 p.f0, .string p.f1, .int .i64 p.f2, .int .i64 p.f3, .int .i64 p.f4] ∧ p.f1.size + 6 ≤ Rows.uptoBulk d ∧ (∀ x ∈ ps, x.block < w.heap.size) := by
 have hlt : ∀ x ∈ ps, x.block < w.heap.size := by
  obtain ⟨m, hm⟩ := h
  exact DataW.trod_lt m _ _ _ hm
 obtain ⟨cs, rfl, hsz⟩ := okWide_struct Tryd.underlying42 hv
 obtain ⟨fuel, hf⟩ := h
 obtain ⟨p, hcs, hp⟩ := open_tokC hf
 have : cs = #[.int .i64 p.f0, .string p.f1, .int .i64 p.f2, .int .i64 p.f3, .int .i64 p.f4] := by
  have h1 : cs.toList = [.int .i64 p.f0, .string p.f1, .int .i64 p.f2, .int .i64 p.f3, .int .i64 p.f4] := by simpa [Value.cells] using hcs
  rw [← h1]
 subst this
 exact ⟨p, rfl, hp, hlt⟩
set_option maxRecDepth 100000 in
theorem open_toks {H : Type} {enc : TypeId × Value → H} {w : World} {r : Reach} {b0 : Nat} {v : Value} {d : DataW H} {ps : List MemPlace} (hv : Value.okWide Tryd.prog w r b0 24 v) (h : DataW.Trod enc Tryd.prog w 0 (fun _ => true) true 24 v d ps) :
  ∃ (A : Option Addr) (c : Nat) (l : List PV.S42), v = .slice A l.length c ∧ l.length ≤ c ∧ Kd.C PV.k42 w A l.length l ∧ l.length ≤ Rows.uptoBulk d ∧ (∀ x ∈ l, x.f1.size + 6 ≤ Rows.uptoBulk d) ∧ (∀ x ∈ ps, x.block < w.heap.size) := by
 obtain ⟨a, len, cap, rfl⟩ := okWide_slice Tryd.underlying24 hv
 have hlt : ∀ x ∈ ps, x.block < w.heap.size := by
  obtain ⟨m, hm⟩ := h
  exact DataW.trod_lt m _ _ _ hm
 obtain ⟨fuel, hf⟩ := h
 rcases open_slice Tryd.underlying24 hf with ⟨hcs, hx⟩ | ⟨x, len', cap', m, n, D, Pl, hcs, _, hl, hm, hmm, hx, hcell⟩
 ·simp [Value.cells] at hcs
  obtain ⟨rfl, rfl, rfl⟩ := hcs
  exact ⟨none, 0, [], rfl, Nat.le_refl _, Kd.C_nil _ _, Nat.zero_le _, (fun x h => by cases h), hlt⟩
 ·simp [Value.cells] at hcs
  obtain ⟨rfl, rfl, rfl⟩ := hcs
  have hlm : len ≤ m := by rw [hmm]; split <;> omega
  have each : ∀ i, i < m → ∃ p : PV.S42, w.cells? 0 (x.add (i * 5)) 5 = some [.int .i64 p.f0, .string p.f1, .int .i64 p.f2, .int .i64 p.f3, .int .i64 p.f4] ∧ p.f1.size + 6 ≤ Rows.uptoBulk (D i) := fun i hi => by
   obtain ⟨cs', h1, h2⟩ := hcell i hi
   rw [cellsTok] at h1
   obtain ⟨p, rfl, hp⟩ := open_tokC h2
   exact ⟨p, h1, hp⟩
  obtain ⟨Sx, hS⟩ := choose_lt each
  have hn : ((List.range len).map Sx).length = len := by simp
  have hd : d = .slice ((List.range len).map D) ((List.range (m - len)).map fun j => D (len + j)) := (Prod.mk.inj hx).1
  have hb : Rows.uptoBulkAll ((List.range len).map D) ≤ Rows.uptoBulk d := by
   rw [hd, Rows.uptoBulk]
   omega
  unfold maxLen at hm
  refine ⟨some x, cap, (List.range len).map Sx, by rw [hn], by rw [hn]; exact hl, rows_of (by omega) (fun i hi => ⟨_, rfl, PV.k42_mk w (Sx i), fun j u hu => ?_⟩), ?_, ?_, hlt⟩
  ·have hc := (World.cells?_some (hS i (by omega)).1).2.2
   have hj5 : j < 5 := by
    have := (List.getElem?_eq_some_iff.1 hu).1
    simpa using this
   exact (hc j hj5).trans hu
  ·rw [hn]
   have := bulk_len ((List.range len).map D)
   simp only [List.length_map, List.length_range] at this
   omega
  ·intro y hy
   simp only [List.mem_map, List.mem_range] at hy
   obtain ⟨i, hi, rfl⟩ := hy
   have h4 := (hS i (by omega)).2
   have h5 := bulk_part (l := (List.range len).map D) (d := D i) (by simp only [List.mem_map, List.mem_range]; exact ⟨i, hi, rfl⟩)
   omega
set_option maxRecDepth 100000 in
theorem open_ints {H : Type} {enc : TypeId × Value → H} {w : World} {r : Reach} {b0 : Nat} {v : Value} {d : DataW H} {ps : List MemPlace} (hv : Value.okWide Tryd.prog w r b0 22 v) (h : DataW.Trod enc Tryd.prog w 0 (fun _ => true) true 22 v d ps) :
  ∃ (A : Option Addr) (c : Nat) (l : List Int), v = .slice A l.length c ∧ l.length ≤ c ∧ Kd.C (Kd.int .i64) w A l.length l ∧ (∀ x ∈ ps, x.block < w.heap.size) := by
 obtain ⟨a, len, cap, rfl⟩ := okWide_slice Tryd.underlying22 hv
 have hlt : ∀ x ∈ ps, x.block < w.heap.size := by
  obtain ⟨m, hm⟩ := h
  exact DataW.trod_lt m _ _ _ hm
 obtain ⟨fuel, hf⟩ := h
 rcases open_slice1 Tryd.underlying22 cellsInt hf with ⟨hcs, hx⟩ | ⟨x, len', cap', m, n, V, D, Pl, hcs, _, hl, hm, hmm, hx, hcell⟩
 ·simp [Value.cells] at hcs
  obtain ⟨rfl, rfl, rfl⟩ := hcs
  exact ⟨none, 0, [], rfl, Nat.le_refl _, Kd.C_nil _ _, hlt⟩
 ·simp [Value.cells] at hcs
  obtain ⟨rfl, rfl, rfl⟩ := hcs
  have hlm : len ≤ m := by rw [hmm]; split <;> omega
  have each : ∀ i, i < m → ∃ p : Int, w.cell? (x.add i) = some (.int .i64 p) := fun i hi => by
   obtain ⟨h1, h2⟩ := hcell i hi
   obtain ⟨p, e, _, k0⟩ := DataW.trod_int Tryd.underlying3 h2
   obtain e1 : V i = .int .i64 p := by simpa using e
   rw [e1] at h1
   exact ⟨p, h1⟩
  obtain ⟨Sx, hS⟩ := choose_lt each
  have hn : ((List.range len).map Sx).length = len := by simp
  unfold maxLen at hm
  refine ⟨some x, cap, (List.range len).map Sx, by rw [hn], by rw [hn]; exact hl, rows_of (by omega) (fun i hi => ⟨[.int .i64 (Sx i)], rfl, rfl, fun j u hu => ?_⟩), hlt⟩
  have hj0 : j = 0 := by
   rcases j with _ | j
   ·rfl
   ·simp at hu
  subst hj0
  obtain rfl : Value.int .i64 (Sx i) = u := by simpa using hu
  have := hS i (by omega)
  show w.cell? ((x.add (i * 1)).add 0) = _
  rw [Nat.mul_one, Go.Addr.add_add, Nat.add_zero]
  exact this
section
variable {H : Type} {enc : TypeId × Value → H} {w w' : World} {v : Value} {d : DataW H} {ps : List MemPlace} (hb : Below w.heap.size w w') (hlt : ∀ x ∈ ps, x.block < w.heap.size) {sp : Nat → Bool} (hsp : ∀ x ∈ ps, sp x.block = true)
include hb hlt hsp
theorem shut_toks (h : DataW.Trod enc Tryd.prog w 0 (fun _ => true) true 24 v d ps) : DataW.Trod enc Tryd.prog w' 0 sp true 24 v d ps :=
 WideElems.Trod_stays laidOut (by kernel_rfl) (of_decide_eq_true (by kernel_rfl)) h (fun x hx => hb.same (hlt x hx)) hsp
theorem shut_ints (h : DataW.Trod enc Tryd.prog w 0 (fun _ => true) true 22 v d ps) : DataW.Trod enc Tryd.prog w' 0 sp true 22 v d ps :=
 WideElems.Trod_stays laidOut (by kernel_rfl) (of_decide_eq_true (by kernel_rfl)) h (fun x hx => hb.same (hlt x hx)) hsp
theorem shut_tok (h : DataW.Trod enc Tryd.prog w 0 (fun _ => true) true 42 v d ps) : DataW.Trod enc Tryd.prog w' 0 sp true 42 v d ps :=
 WideElems.Trod_stays laidOut (by kernel_rfl) (of_decide_eq_true (by kernel_rfl)) h (fun x hx => hb.same (hlt x hx)) hsp
end
end Go.Proofs.YtniihjhlkpjnoaaDoor.Given
end
