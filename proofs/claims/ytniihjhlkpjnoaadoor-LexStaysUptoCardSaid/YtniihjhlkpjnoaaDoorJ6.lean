/- Package lex: texts as lists of bytes; the contracts of run, for what such a function says. -/
import Derived.Test.YtniihjhlkpjnoaaDoorPTx1
import Derived.Test.YtniihjhlkpjnoaaDoorJ5
import Derived.RegionTactic
import Derived.BigRegion
import Derived.ChangeAlike
import Derived.Outline
import Derived.IntWalk
section
set_option linter.unusedVariables false
set_option linter.unusedSimpArgs false
namespace Go.Proofs.YtniihjhlkpjnoaaDoor.Given
open Go.RowKit Go.Proofs.YtniihjhlkpjnoaaDoor.PT Go.Proofs.YtniihjhlkpjnoaaDoorW.PrintWords Go.Proofs.YtniihjhlkpjnoaaDoorW.PrintLast Go.Proofs.YtniihjhlkpjnoaaDoorW.PrintMore
def ba (l : List UInt8) : ByteArray := ⟨l.toArray⟩
theorem ba_size (t : List UInt8) : (ba t).size = t.length := by simp [ba, ByteArray.size]
theorem ba_list (t : List UInt8) : (ba t).data.toList = t := by simp [ba]
theorem ba_of (s : ByteArray) : ba s.data.toList = s := by simp [ba]
theorem ba_extract (t : List UInt8) (i j : Nat) : (ba t).extract i j = ba ((t.take j).drop i) := by
 have h : ((ba t).extract i j).data.toList = ((t.take j).drop i) := by
  simp [ba, List.extract_eq_take_drop, List.drop_take]
 rw [← ba_of ((ba t).extract i j), h]
theorem ba_at (t : List UInt8) (i : Nat) (h : i < (ba t).size) : (((ba t)[i]'h).toNat : Int) = ((t.getD i 0).toNat : Int) := by
 have h2 : i < t.length := by rw [ba_size] at h; exact h
 rw [List.getD_eq_getElem?_getD, List.getElem?_eq_getElem h2]
 simp [ba, ByteArray.getElem_eq_getElem_data]
theorem w64 {a : Int} {n : Nat} (h : a = n) (hn : n ≤ 9223372036854775807) : wrap64 a = n := by rw [IntWalk.wrap64_in _ (by omega)]; exact h
theorem bcell {B : Nat} {W w1 : World} (hb : Below B W w1) {b o : Nat} (h : b < B) : w1.cell? ⟨b, o, none⟩ = W.cell? ⟨b, o, none⟩ := hb.cell (p := ⟨b, o, none⟩) h
theorem bfrozen {B : Nat} {W w1 : World} (hb : Below B W w1) {b o : Nat} (h : b < B) : w1.frozen? ⟨b, o, none⟩ = W.frozen? ⟨b, o, none⟩ := hb.frozen (p := ⟨b, o, none⟩) h
theorem letter_byte (c : UInt8) (w : World) : Calls Tryd.prog 71 #[.int .u8 c.toNat] w fun e w' => e = .returned (.bool (letB c)) ∧ Drawn0 w w' := by
 refine lex_letter.calls _ _ w ?_
 unfold lex_letter.f letB
 by_cases h1 : 97 ≤ c.toNat
 ·rw [if_pos (by omega)]
  by_cases h2 : c.toNat ≤ 122
  ·rw [if_pos (by omega), decide_eq_true h1, decide_eq_true h2]
   rfl
  ·rw [if_neg (by omega), if_pos (by omega), decide_eq_false h2, decide_eq_false (by omega), decide_eq_false (show ¬ c.toNat ≤ 90 by omega)]
   simp
 ·rw [if_neg (by omega), decide_eq_false h1]
  by_cases h3 : 65 ≤ c.toNat
  ·rw [if_pos (by omega), decide_eq_true h3]
   congr 1
   by_cases h4 : c.toNat ≤ 90
   ·rw [decide_eq_true h4, decide_eq_true (by omega)]
    rfl
   ·rw [decide_eq_false h4, decide_eq_false (by omega)]
    rfl
  ·rw [if_neg (by omega), decide_eq_false h3]
   rfl
theorem digit_byte (c : UInt8) (w : World) : Calls Tryd.prog 80 #[.int .u8 c.toNat] w fun e w' => e = .returned (.bool (digB c)) ∧ Drawn0 w w' := by
 refine lex_digit.calls _ _ w ?_
 unfold lex_digit.f digB
 by_cases h1 : 48 ≤ c.toNat
 ·rw [if_pos (by omega), decide_eq_true h1]
  congr 1
  by_cases h4 : c.toNat ≤ 57
  ·rw [decide_eq_true h4, decide_eq_true (by omega)]
   rfl
  ·rw [decide_eq_false h4, decide_eq_false (by omega)]
   rfl
 ·rw [if_neg (by omega), decide_eq_false h1]
  rfl
theorem plain_byte (c : UInt8) (w : World) : Calls Tryd.prog 86 #[.int .u8 c.toNat] w fun e w' => e = .returned (.bool (plnB c)) ∧ Drawn0 w w' := by
 refine lex_plain.calls _ _ w ?_
 unfold lex_plain.f plnB
 by_cases h1 : 32 ≤ c.toNat
 ·rw [if_pos (by omega), decide_eq_true h1]
  congr 1
  by_cases h4 : c.toNat ≤ 126
  ·rw [decide_eq_true h4, decide_eq_true (by omega)]
   rfl
  ·rw [decide_eq_false h4, decide_eq_false (by omega)]
   rfl
 ·rw [if_neg (by omega), decide_eq_false h1]
  rfl
set_option maxRecDepth 100000 in
set_option maxHeartbeats 1000000 in
theorem run_calls (g : Nat) (eg : ∀ args W, (callFunc g args).run Tryd.prog W = .ok (.enter g args) W) (p : UInt8 → Bool) (hg : ∀ (c : UInt8) (W : World), Calls Tryd.prog g #[.int .u8 c.toNat] W fun e W' => e = .returned (.bool (p c)) ∧ Drawn0 W W') (t : List UInt8) (ht : t.length ≤ 1099511627776) (w : World) :
  Calls Tryd.prog 78 #[.string (ba t), .func (.func g) #[] #[]] w fun e w' => e = .returned (.int .i64 (runL p t : Nat)) ∧ Drawn0 w w' := by
 have hsz := ba_size t
 have HG := Aside0.mk hg
 clear hg
 go_enter Tryd.func78, Tryd.ntmps78
 go_wp2
 go_loopw [5] (fun i W => ∃ k : Nat, k ≤ (ba t).size ∧ i = .int .i64 k ∧ Aside0 (Drawn0 w W) ∧ Aside0 (runL p t = k + runL p (t.drop k))) (fun i _ => (ba t).size - (intOf i).toNat)
 case atStart => exact ⟨0, Nat.zero_le _, rfl, ⟨Drawn0.refl _⟩, ⟨by simp⟩⟩
 case round =>
  obtain ⟨k, hk, rfl, hd, hrun⟩ := hrel
  by_cases hlt : k < (ba t).size
  ·have hx := ba_at t k
   have hdrop : t.drop k = t.getD k 0 :: t.drop (k + 1) := by
    have h2 : k < t.length := by omega
    rw [List.drop_eq_getElem_cons h2, List.getD_eq_getElem?_getD, List.getElem?_eq_getElem h2]
    rfl
   have n1 : decide (k < (ba t).size) = true := decide_eq_true hlt
   have n2 : decide ((k : Int) < ((ba t).size : Int)) = true := decide_eq_true (by omega)
   have n3 : (k < (ba t).size) = True := eq_true hlt
   have n4 : ¬ ((ba t).size : Int) ≤ (k : Int) := by omega
   have hb5 : -9223372036854775808 ≤ (k : Int) + 1 ∧ (k : Int) + 1 ≤ 9223372036854775807 := by omega
   generalize t.getD k 0 = c at hx hdrop
   have hgc := HG.out c
   cases hp : p c with
   | true =>
    rw [hp] at hgc
    have HGC := Aside0.mk hgc
    have hrun2 := Aside0.mk (show runL p t = (k + 1) + runL p (t.drop (k + 1)) by
     rw [hrun.out, hdrop]
     show k + (if p c = true then runL p (t.drop (k + 1)) + 1 else 0) = _
     rw [if_pos hp]
     omega)
    have kw : IntKind.i64.wrap ((k : Int) + 1) = (k : Int) + 1 := IntWalk.i64_in _ hb5
    clear hrun hdrop hgc hb5
    go_wp2_with (first | ((with_reducible refine (HGC.out _).mono ?_); rintro e w1 ⟨rfl, hd1⟩; have HD1 := Aside0.mk hd1; clear hd1))
    exact ⟨⟨k + 1, hlt, by first | rfl | simp, ⟨by obtain ⟨⟨a, ha⟩⟩ := HD1.out; rw [ha]; exact hd.out.step a⟩, hrun2⟩, by simp [intOf]; omega⟩
   | false =>
    rw [hp] at hgc
    have HGC := Aside0.mk hgc
    have hrun2 := Aside0.mk (show runL p t = k by
     rw [hrun.out, hdrop]
     show k + (if p c = true then runL p (t.drop (k + 1)) + 1 else 0) = _
     rw [if_neg (by rw [hp]; decide)]
     omega)
    clear hrun hdrop hgc hb5
    go_wp2_with (first | ((with_reducible refine (HGC.out _).mono ?_); rintro e w1 ⟨rfl, hd1⟩; have HD1 := Aside0.mk hd1; clear hd1))
    go_ret
    exact ⟨by rw [hrun2.out]; rfl, by obtain ⟨⟨a, ha⟩⟩ := HD1.out; rw [ha]; exact hd.out.step a⟩
  ·have n1 : decide (k < (ba t).size) = false := decide_eq_false hlt
   have n2 : decide ((k : Int) < ((ba t).size : Int)) = false := decide_eq_false (by omega)
   have hrun2 := Aside0.mk (show runL p t = k by
    rw [hrun.out, List.drop_of_length_le (by omega)]
    rfl)
   clear hrun
   go_wp2
   go_ret
   exact ⟨by rw [hrun2.out]; rfl, hd.out⟩
end Go.Proofs.YtniihjhlkpjnoaaDoor.Given
end
section
-- Out of this text a program of mine (wip/slim.py) took what this claim does not use.
/- Package lex: the contracts of the functions that read one item. -/
set_option linter.unusedVariables false
set_option linter.unusedSimpArgs false
namespace Go.Proofs.YtniihjhlkpjnoaaDoor.Given
open Go.RowKit Go.Proofs.YtniihjhlkpjnoaaDoor.PT Go.Proofs.YtniihjhlkpjnoaaDoorW.PrintWords Go.Proofs.YtniihjhlkpjnoaaDoorW.PrintLast Go.Proofs.YtniihjhlkpjnoaaDoorW.PrintMore
def itemV (x : Itm) (a b : Int) : Value := .agg #[.int .i64 x.kind, .string (ba x.text), .int .i64 x.n, .int .i64 a, .int .i64 b, .int .i64 x.e, .bool x.sure]
theorem token_calls (kind : Int) (t : List UInt8) (n : Nat) (hn : n ≤ t.length) (sure : Bool) (w : World) : Calls Tryd.prog 82 #[.int .i64 kind, .string (ba t), .int .i64 n, .bool sure] w fun e w' => e = .returned (.agg #[.int .i64 kind, .string (ba (t.take n)), .int .i64 0, .int .i64 0, .int .i64 n, .int .i64 0, .bool sure]) ∧ Below w.heap.size w w' :=
 lex_token.calls kind (ba t) n sure kind (ba (t.take n)) 0 0 n 0 sure w (by
  unfold lex_token.f
  rw [if_pos (by omega), if_pos (by rw [ba_size]; omega), ba_extract]
  rfl)
theorem wrong_calls (e0 : Int) (sure : Bool) (w : World) : Calls Tryd.prog 83 #[.int .i64 e0, .bool sure] w fun e w' => e = .returned (.agg #[.int .i64 0, .string ⟨#[]⟩, .int .i64 0, .int .i64 0, .int .i64 0, .int .i64 e0, .bool sure]) ∧ Below w.heap.size w w' :=
 lex_wrong.calls e0 sure 0 ⟨#[]⟩ 0 0 0 e0 sure w rfl
def wI (w : World) : World := w.alloc (.cells #[.int .i64 0, .string ⟨#[]⟩, .int .i64 0, .int .i64 0, .int .i64 0, .int .i64 0, .bool false] 70)
theorem wI_size (w : World) : (wI w).heap.size = w.heap.size + 1 := by simp [wI]
theorem wI_below (w : World) : Below w.heap.size w (wI w) := (Below.refl _ _).alloc (Nat.le_refl _) _
structure Is7 (w W : World) : Prop where
 below : Below w.heap.size w W
 size : w.heap.size < W.heap.size
 c0 : W.cell? ⟨w.heap.size, 0, none⟩ = some (.int .i64 0)
 c1 : W.cell? ⟨w.heap.size, 1, none⟩ = some (.string ⟨#[]⟩)
 c2 : W.cell? ⟨w.heap.size, 2, none⟩ = some (.int .i64 0)
 c3 : W.cell? ⟨w.heap.size, 3, none⟩ = some (.int .i64 0)
 c4 : W.cell? ⟨w.heap.size, 4, none⟩ = some (.int .i64 0)
 c5 : W.cell? ⟨w.heap.size, 5, none⟩ = some (.int .i64 0)
 c6 : W.cell? ⟨w.heap.size, 6, none⟩ = some (.bool false)
 f0 : W.frozen? ⟨w.heap.size, 0, none⟩ = false
 f1 : W.frozen? ⟨w.heap.size, 1, none⟩ = false
 f2 : W.frozen? ⟨w.heap.size, 2, none⟩ = false
 f3 : W.frozen? ⟨w.heap.size, 3, none⟩ = false
 f4 : W.frozen? ⟨w.heap.size, 4, none⟩ = false
 f5 : W.frozen? ⟨w.heap.size, 5, none⟩ = false
 f6 : W.frozen? ⟨w.heap.size, 6, none⟩ = false
theorem Is7.of {w W : World} (hb : Below (w.heap.size + 1) (wI w) W) : Is7 w W := by
 have hz := hb.size
 rw [wI_size] at hz
 refine ⟨(wI_below w).trans (hb.mono (by omega)), hz, ?_, ?_, ?_, ?_, ?_, ?_, ?_, ?_, ?_, ?_, ?_, ?_, ?_, ?_⟩
 all_goals first | refine (bcell hb (Nat.lt_succ_self _)).trans ?_ | refine (bfrozen hb (Nat.lt_succ_self _)).trans ?_
 all_goals simp [wI, go_sem]
theorem Is7.start (w : World) : Is7 w (wI w) := .of (Below.refl _ _)
theorem Is7.keep {w W W' : World} (h : Is7 w W) (hb : Below W.heap.size W W') : Is7 w W' :=
 ⟨h.below.trans (hb.mono h.below.size), Nat.lt_of_lt_of_le h.size hb.size, (bcell hb h.size).trans h.c0, (bcell hb h.size).trans h.c1, (bcell hb h.size).trans h.c2, (bcell hb h.size).trans h.c3, (bcell hb h.size).trans h.c4, (bcell hb h.size).trans h.c5, (bcell hb h.size).trans h.c6,
  (bfrozen hb h.size).trans h.f0, (bfrozen hb h.size).trans h.f1, (bfrozen hb h.size).trans h.f2, (bfrozen hb h.size).trans h.f3, (bfrozen hb h.size).trans h.f4, (bfrozen hb h.size).trans h.f5, (bfrozen hb h.size).trans h.f6⟩
def set7 (W : World) (g : Nat) (v0 v1 v2 v3 v4 v5 v6 : Value) : World :=
 ((((((W.setCell ⟨g, 0, none⟩ v0).setCell ⟨g, 1, none⟩ v1).setCell ⟨g, 2, none⟩ v2).setCell ⟨g, 3, none⟩ v3).setCell ⟨g, 4, none⟩ v4).setCell ⟨g, 5, none⟩ v5).setCell ⟨g, 6, none⟩ v6
theorem Is7.set {w W : World} (h : Is7 w W) (v0 v1 v2 v3 v4 v5 v6 : Value) : Below w.heap.size w (set7 W w.heap.size v0 v1 v2 v3 v4 v5 v6) :=
 ((((((h.below.setCell (p := ⟨w.heap.size, 0, none⟩) (Nat.le_refl _) _).setCell (p := ⟨w.heap.size, 1, none⟩) (Nat.le_refl _) _).setCell (p := ⟨w.heap.size, 2, none⟩) (Nat.le_refl _) _).setCell (p := ⟨w.heap.size, 3, none⟩) (Nat.le_refl _) _).setCell (p := ⟨w.heap.size, 4, none⟩) (Nat.le_refl _) _).setCell (p := ⟨w.heap.size, 5, none⟩) (Nat.le_refl _) _).setCell (p := ⟨w.heap.size, 6, none⟩) (Nat.le_refl _) _
theorem Is7.results {w W : World} (h : Is7 w W) {fn : Func} {s : Tmp} (hr : fn.results = #[.cell s 70]) (tmps : Array Value) (ht : tmps.getD s undef = .pointer (some ⟨w.heap.size, 0, none⟩)) (v0 v1 v2 v3 v4 v5 v6 : Value) :
  (Go.results fn tmps).run Tryd.prog (set7 W w.heap.size v0 v1 v2 v3 v4 v5 v6) = .ok (.agg #[v0, v1, v2, v3, v4, v5, v6]) (set7 W w.heap.size v0 v1 v2 v3 v4 v5 v6) := by
 have hu := Tryd.underlying70
 have hut := Tryd.underlying42
 obtain ⟨_, _, c0, c1, c2, c3, c4, c5, c6, _⟩ := h
 have e2 : tmps[s]?.getD undef = .pointer (some ⟨w.heap.size, 0, none⟩) := by simpa [Array.getD_eq_getD_getElem?] using ht
 simp [Go.results, hr, go_sem, set7, e2, c0, c1, c2, c3, c4, c5, c6, hu, hut]
theorem str_mid (t : List UInt8) (i j : Nat) (hi : i ≤ j) (hj : j ≤ t.length) (W : World) : (Instr.slice 9 (.string (ba t)) (some (.int .i64 i)) (some (.int .i64 j)) none).run Tryd.prog W = .ok (.string (ba ((t.take j).drop i))) W := by
 have hsz := ba_size t
 have h9 := Tryd.underlying9
 have e := ba_extract t i j
 have h1 : (i : Int) ≤ (j : Int) := by omega
 have h2 : (j : Int) ≤ (t.length : Int) := by omega
 simp [go_sem, Instr.slice, h9, hsz, e, hi, hj, h1, h2]
theorem str_low (t : List UInt8) (i : Nat) (hi : i ≤ t.length) (W : World) : (Instr.slice 9 (.string (ba t)) (some (.int .i64 i)) none none).run Tryd.prog W = .ok (.string (ba (t.drop i))) W := by
 have hsz := ba_size t
 have h9 := Tryd.underlying9
 have e : (ba t).extract i t.length = ba (t.drop i) := by rw [ba_extract, List.take_length]
 have h1 : (i : Int) ≤ (t.length : Int) := by omega
 simp [go_sem, Instr.slice, h9, hsz, e, hi, h1]
theorem str_high (t : List UInt8) (j : Nat) (hj : j ≤ t.length) (W : World) : (Instr.slice 9 (.string (ba t)) none (some (.int .i64 j)) none).run Tryd.prog W = .ok (.string (ba (t.take j))) W := by
 have hsz := ba_size t
 have h9 := Tryd.underlying9
 have e : (ba t).extract 0 j = ba (t.take j) := by rw [ba_extract, List.drop_zero]
 have h1 : (j : Int) ≤ (t.length : Int) := by omega
 simp [go_sem, Instr.slice, h9, hsz, e, hj, h1]
end Go.Proofs.YtniihjhlkpjnoaaDoor.Given
end
