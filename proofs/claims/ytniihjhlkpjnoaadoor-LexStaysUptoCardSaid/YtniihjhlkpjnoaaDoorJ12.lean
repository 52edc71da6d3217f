/- What the second print is given: Lex, Spans, Veil, Feed and Finish in the print's own words. -/
import Derived.Test.YtniihjhlkpjnoaaDoorJ3
import Derived.Test.YtniihjhlkpjnoaaDoorLq
import Derived.Test.YtniihjhlkpjnoaaDoorLr
import Derived.Test.YtniihjhlkpjnoaaDoorLu
section
set_option linter.unusedVariables false
set_option linter.unusedSimpArgs false
namespace Go.Proofs.YtniihjhlkpjnoaaDoor.Given
open Go.RowKit Go.Shelf Go.Proofs.YtniihjhlkpjnoaaDoorW.PrintWords Go.Proofs.YtniihjhlkpjnoaaDoorW.PrintLast Go.Proofs.YtniihjhlkpjnoaaDoorW.PrintMore
def byl (s : ByteArray) : List UInt8 := s.data.toList
theorem ba_byl (s : ByteArray) : ba (byl s) = s := ba_of s
theorem byl_length (s : ByteArray) : (byl s).length = s.size := Array.length_toList
theorem reps_map {α β : Type} {R : α → List Value → Prop} {size : Nat} (f : β → α) (c : β → List Value) (hl : ∀ x, (c x).length = size) (hR : ∀ x, R (f x) (c x)) : ∀ xs : List β, Reps R size (xs.map f) (xs.flatMap c)
 | [] => Reps.none R size
 | xs => by
  have key : ∀ (xs pre : List β), Reps R size (pre.map f) (pre.flatMap c) → Reps R size ((pre ++ xs).map f) ((pre ++ xs).flatMap c) := by
   intro xs
   induction xs with
   | nil => intro pre h; simpa using h
   | cons x xs ih =>
    intro pre h
    have := ih (pre ++ [x]) (by
     rw [List.map_append, List.flatMap_append, List.map_cons, List.map_nil, List.flatMap_cons, List.flatMap_nil, List.append_nil]
     exact Reps.snoc h (hR x) (hl x))
    simpa using this
  have := key xs [] (Reps.none R size)
  simpa using this
def tokS (d : Nat) (p : Nat × Itm) : PV.S42 := ⟨p.2.kind, ba p.2.text, p.2.n, ((p.1 + d : Nat) : Int), ((p.1 + p.2.len + d : Nat) : Int)⟩
def spanS (p : Int × Nat × Nat) : PV.S40 := ⟨p.1, (p.2.1 : Int), (p.2.2 : Int)⟩
theorem tok_row {w : World} {base : Nat} {v : Value} {d : Nat} {xs : List (Nat × Itm)} (h : w.ownsRow base 42 5 v xs.length (xs.flatMap (tokCs d))) : Kd.R PV.k42 42 w base (fun _ => True) v (xs.map (tokS d)) :=
 ⟨fun _ _ => trivial, _, by rw [List.length_map]; exact h, reps_map (tokS d) (tokCs d) (fun _ => rfl) (fun x => PV.k42_mkM w base _ (tokS d x)) xs⟩
theorem span_row {w : World} {base : Nat} {v : Value} {xs : List (Int × Nat × Nat)} (h : w.ownsRow base 40 3 v xs.length (xs.flatMap spanCs)) : Kd.R PV.k40 40 w base (fun _ => True) v (xs.map spanS) :=
 ⟨fun _ _ => trivial, _, by rw [List.length_map]; exact h, reps_map spanS spanCs (fun _ => rfl) (fun x => PV.k40_mkM w base _ (spanS x)) xs⟩
def lex_Lex.f (s : ByteArray) : Option (List PV.S42 × Int × Int) := some ((lexR (byl s)).1.map (tokS 0), (lexR (byl s)).2.1, ((lexR (byl s)).2.2 : Int))
theorem lex_Lex.calls (s : ByteArray) (r1 : List PV.S42) (r2 r3 : Int) (w : World) (hG : LaidG w) (h : lex_Lex.f s = some (r1, r2, r3)) :
  Calls Tryd.prog 11 #[.string s] w fun e w' => ∃ v0_ : Value, e = .returned (.tuple #[v0_, .int .i64 r2, .int .i64 r3]) ∧ Kd.R PV.k42 42 w' w.heap.size (fun _ => True) v0_ r1 ∧ Below w.heap.size w w' := by
 have h' := Option.some.inj h
 injection h' with h1 h2
 injection h2 with h2 h3
 subst h1; subst h2; subst h3
 have hc := lex_calls (byl s) w hG
 rw [ba_byl] at hc
 exact hc.mono fun e w' ⟨v, h1, h2, h3⟩ => ⟨v, h1, tok_row h2, h3⟩
def lex_Spans.f (s : ByteArray) : Option (List PV.S40 × Int × Int) := some ((spansR (byl s)).1.map spanS, (spansR (byl s)).2.1, ((spansR (byl s)).2.2 : Int))
theorem lex_Spans.calls (s : ByteArray) (r1 : List PV.S40) (r2 r3 : Int) (w : World) (hG : LaidG w) (h : lex_Spans.f s = some (r1, r2, r3)) :
  Calls Tryd.prog 15 #[.string s] w fun e w' => ∃ v0_ : Value, e = .returned (.tuple #[v0_, .int .i64 r2, .int .i64 r3]) ∧ Kd.R PV.k40 40 w' w.heap.size (fun _ => True) v0_ r1 ∧ Below w.heap.size w w' := by
 have h' := Option.some.inj h
 injection h' with h1 h2
 injection h2 with h2 h3
 subst h1; subst h2; subst h3
 have hc := sp_calls (byl s) w hG
 rw [ba_byl] at hc
 exact hc.mono fun e w' ⟨v, h1, h2, h3⟩ => ⟨v, h1, span_row h2, h3⟩
def lex_Veil.f (s : ByteArray) : Option (ByteArray × Int × Int) := some (ba (veilR (byl s)).1, (veilR (byl s)).2.1, ((veilR (byl s)).2.2 : Int))
theorem lex_Veil.calls (s : ByteArray) (r1 : ByteArray) (r2 r3 : Int) (w : World) (hG : LaidG w) (h : lex_Veil.f s = some (r1, r2, r3)) :
  Calls Tryd.prog 24 #[.string s] w fun e w' => e = .returned (.tuple #[.string r1, .int .i64 r2, .int .i64 r3]) ∧ Below w.heap.size w w' := by
 have h' := Option.some.inj h
 injection h' with h1 h2
 injection h2 with h2 h3
 subst h1; subst h2; subst h3
 have hc := vl_calls (byl s) w hG
 rw [ba_byl] at hc
 exact hc
def lex_Feed.f (a0_0 : Int) (a0_1 : ByteArray) (a0_2 : Int) (more : ByteArray) : Option (List PV.S42 × Int × ByteArray × Int × Int × Int) :=
 if a0_1.size ≤ 2305843009213693952 ∧ more.size ≤ 2305843009213693952 then
  some ((feedR a0_0 (byl a0_1) a0_2 (byl more)).1.map (tokS a0_0.toNat), (feedR a0_0 (byl a0_1) a0_2 (byl more)).2.1.1, ba (feedR a0_0 (byl a0_1) a0_2 (byl more)).2.1.2.1, (feedR a0_0 (byl a0_1) a0_2 (byl more)).2.1.2.2, (feedR a0_0 (byl a0_1) a0_2 (byl more)).2.2.1, (feedR a0_0 (byl a0_1) a0_2 (byl more)).2.2.2)
 else none
theorem lex_Feed.calls (a0_0 : Int) (a0_1 : ByteArray) (a0_2 : Int) (more : ByteArray) (r1 : List PV.S42) (r2 : Int) (r3 : ByteArray) (r4 r5 r6 : Int) (w : World) (hG : LaidG w) (h : lex_Feed.f a0_0 a0_1 a0_2 more = some (r1, r2, r3, r4, r5, r6)) :
  Calls Tryd.prog 26 #[.agg #[.int .i64 a0_0, .string a0_1, .int .i64 a0_2], .string more] w fun e w' => ∃ v0_ : Value, e = .returned (.tuple #[v0_, .agg #[.int .i64 r2, .string r3, .int .i64 r4], .int .i64 r5, .int .i64 r6]) ∧ Kd.R PV.k42 42 w' w.heap.size (fun _ => True) v0_ r1 ∧ Below w.heap.size w w' := by
 unfold lex_Feed.f at h
 split at h
 ·rename_i hs
  have h' := Option.some.inj h
  injection h' with h1 h2
  injection h2 with h2 h3
  injection h3 with h3 h4
  injection h4 with h4 h5
  injection h5 with h5 h6
  subst h1; subst h2; subst h3; subst h4; subst h5; subst h6
  have hc := fd_calls a0_0 (byl a0_1) a0_2 (byl more) (by rw [byl_length]; exact hs.1) (by rw [byl_length]; exact hs.2) w hG
  unfold scanV at hc
  rw [ba_byl, ba_byl] at hc
  exact hc.mono fun e w' ⟨v, h1, h2, h3⟩ => ⟨v, h1, tok_row h2, h3⟩
 ·cases h
def lex_Finish.f (a0_0 : Int) (a0_1 : ByteArray) (a0_2 : Int) : Option (List PV.S42 × Int × Int) :=
 if a0_1.size ≤ 4611686018427387904 then some ((finR a0_0 (byl a0_1) a0_2).1.map (tokS a0_0.toNat), (finR a0_0 (byl a0_1) a0_2).2.1, (finR a0_0 (byl a0_1) a0_2).2.2) else none
theorem lex_Finish.calls (a0_0 : Int) (a0_1 : ByteArray) (a0_2 : Int) (r1 : List PV.S42) (r2 r3 : Int) (w : World) (hG : LaidG w) (h : lex_Finish.f a0_0 a0_1 a0_2 = some (r1, r2, r3)) :
  Calls Tryd.prog 14 #[.agg #[.int .i64 a0_0, .string a0_1, .int .i64 a0_2]] w fun e w' => ∃ v0_ : Value, e = .returned (.tuple #[v0_, .int .i64 r2, .int .i64 r3]) ∧ Kd.R PV.k42 42 w' w.heap.size (fun _ => True) v0_ r1 ∧ Below w.heap.size w w' := by
 unfold lex_Finish.f at h
 split at h
 ·rename_i hs
  have h' := Option.some.inj h
  injection h' with h1 h2
  injection h2 with h2 h3
  subst h1; subst h2; subst h3
  have hc := fin_calls a0_0 (byl a0_1) a0_2 (by rw [byl_length]; exact hs) w hG
  unfold scanV at hc
  rw [ba_byl] at hc
  exact hc.mono fun e w' ⟨v, h1, h2, h3⟩ => ⟨v, h1, tok_row h2, h3⟩
 ·cases h
end Go.Proofs.YtniihjhlkpjnoaaDoor.Given
end
section
/- Package lex: like's closure, slices.EqualFunc with it, like; bytes. -/
set_option linter.unusedVariables false
set_option linter.unusedSimpArgs false
namespace Go.Proofs.YtniihjhlkpjnoaaDoor.Given
open Go.RowKit Go.Shelf Go.Proofs.YtniihjhlkpjnoaaDoorW.PrintWords Go.Proofs.YtniihjhlkpjnoaaDoorW.PrintLast Go.Proofs.YtniihjhlkpjnoaaDoorW.PrintMore
def tokA (x : PV.S42) : Value := .agg #[.int .i64 x.f0, .string x.f1, .int .i64 x.f2, .int .i64 x.f3, .int .i64 x.f4]
def alikeB (a b : PV.S42) : Bool := (a.f0 == b.f0) && ((a.f1.toList == b.f1.toList) && (a.f2 == b.f2))
set_option maxRecDepth 100000 in
set_option maxHeartbeats 0 in
theorem like1_calls (a b : PV.S42) (w : World) : Calls Tryd.prog 57 #[tokA a, tokA b] w fun e w' => e = .returned (.bool (alikeB a b)) ∧ Below w.heap.size w w' := by
 have hut := Tryd.underlying42
 obtain ⟨a0, a1, a2, a3, a4⟩ := a
 obtain ⟨b0, b1, b2, b3, b4⟩ := b
 have hb : Below w.heap.size w ((w.alloc (.cells #[.int .i64 a0, .string a1, .int .i64 a2, .int .i64 a3, .int .i64 a4] 42)).alloc (.cells #[.int .i64 b0, .string b1, .int .i64 b2, .int .i64 b3, .int .i64 b4] 42)) := ((Below.refl _ _).alloc (Nat.le_refl _) _).alloc (by simp) _
 have HB := Aside0.mk hb
 clear hb
 by_cases h1 : a0 = b0
 ·subst h1
  have q1 : (a0 == a0) = true := beq_self_eq_true a0
  by_cases h2 : a1.toList = b1.toList
  ·have q2 : (a1.toList == b1.toList) = true := beq_iff_eq.2 h2
   have HR := Aside0.mk (show alikeB ⟨a0, a1, a2, a3, a4⟩ ⟨a0, b1, b2, b3, b4⟩ = (a2 == b2) by unfold alikeB; simp [h2])
   clear h2
   unfold tokA
   go_enter Tryd.func57, Tryd.ntmps57
   go_wp2
   go_ret
   exact ⟨by rw [HR.out]; rfl, HB.out⟩
  ·have q2 : (a1.toList == b1.toList) = false := beq_eq_false_iff_ne.2 h2
   have HR := Aside0.mk (show alikeB ⟨a0, a1, a2, a3, a4⟩ ⟨a0, b1, b2, b3, b4⟩ = false by unfold alikeB; simp [h2])
   clear h2
   unfold tokA
   go_enter Tryd.func57, Tryd.ntmps57
   go_wp2
   go_ret
   exact ⟨by rw [HR.out]; rfl, HB.out⟩
 ·have q1 : (a0 == b0) = false := beq_eq_false_iff_ne.2 h1
  have q3 : decide (a0 = b0) = false := decide_eq_false h1
  have HR := Aside0.mk (show alikeB ⟨a0, a1, a2, a3, a4⟩ ⟨b0, b1, b2, b3, b4⟩ = false by unfold alikeB; simp [h1])
  clear h1
  unfold tokA
  go_enter Tryd.func57, Tryd.ntmps57
  go_wp2
  go_ret
  exact ⟨by rw [HR.out]; rfl, HB.out⟩
def alikeL : List PV.S42 → List PV.S42 → Bool
 | [], [] => true
 | a :: r, b :: s => alikeB a b && alikeL r s
 | _, _ => false
theorem alikeL_len : ∀ (a b : List PV.S42), a.length ≠ b.length → alikeL a b = false
 | [], [], h => absurd rfl h
 | [], _ :: _, _ => rfl
 | _ :: _, [], _ => rfl
 | x :: r, y :: s, h => by
  rw [alikeL, alikeL_len r s (by simpa using h), Bool.and_false]
theorem alikeL_drop (a b : List PV.S42) (k : Nat) (h : a.length = b.length) (hk : k < a.length) : alikeL (a.drop k) (b.drop k) = (alikeB (PV.rd_T42 a (k : Int)) (PV.rd_T42 b (k : Int)) && alikeL (a.drop (k + 1)) (b.drop (k + 1))) := by
 rw [List.drop_eq_getElem_cons hk, List.drop_eq_getElem_cons (by omega : k < b.length), alikeL]
 unfold PV.rd_T42
 rw [Int.toNat_natCast, List.getD_eq_getElem?_getD, List.getD_eq_getElem?_getD, List.getElem?_eq_getElem hk, List.getElem?_eq_getElem (by omega : k < b.length)]
 rfl
set_option maxRecDepth 100000 in
set_option maxHeartbeats 0 in
theorem equal_calls (A0 : Option Addr) (c0 : Nat) (l0 : List PV.S42) (A1 : Option Addr) (c1 : Nat) (l1 : List PV.S42) (w : World) (hr0 : Kd.C PV.k42 w A0 l0.length l0) (hr1 : Kd.C PV.k42 w A1 l1.length l1) :
  Calls Tryd.prog 56 #[.slice A0 l0.length c0, .slice A1 l1.length c1, .func (.func 57) #[] #[]] w fun e w' => e = .returned (.bool (alikeL l0 l1)) ∧ Below w.heap.size w w' := by
 have hut := Tryd.underlying42
 have hbig : l0.length ≤ 9223372036854775807 := hr0.2.1
 by_cases hl : l0.length = l1.length
 ·have m1 : (((l0.length : Nat) : Int) == ((l1.length : Nat) : Int)) = true := by rw [hl]; exact beq_self_eq_true _
  have m2 : (((l0.length : Nat) : Int) != ((l1.length : Nat) : Int)) = false := by rw [hl]; exact bne_self_eq_false _
  have m3 : decide (l0.length = l1.length) = true := decide_eq_true hl
  have H0 := Aside0.mk hr0
  have H1 := Aside0.mk hr1
  have HL := Aside0.mk hl
  have HBG := Aside0.mk hbig
  clear hr0 hr1 hl hbig
  go_enter Tryd.func56, Tryd.ntmps56
  go_wp2
  go_loopw [17] (fun i W => ∃ k : Nat, k ≤ l0.length ∧ i = .int .i64 k ∧ Aside0 (Below w.heap.size w W) ∧ Aside0 (alikeL l0 l1 = alikeL (l0.drop k) (l1.drop k))) (fun i _ => l0.length - (intOf i).toNat)
  case atStart => exact ⟨0, Nat.zero_le _, rfl, ⟨Below.refl _ _⟩, ⟨rfl⟩⟩
  case round =>
   obtain ⟨k, hk, rfl, hd, hal⟩ := hrel
   by_cases hlt : k < l0.length
   ·have n1 : decide (k < l0.length) = true := decide_eq_true hlt
    have n2 : decide ((k : Int) < (l0.length : Int)) = true := decide_eq_true (by omega)
    have n3 : (k < l0.length) = True := eq_true hlt
    have n4 : ¬ (l0.length : Int) ≤ (k : Int) := by omega
    have hbg := HBG.out
    have kw : IntKind.i64.wrap ((k : Int) + 1) = (k : Int) + 1 := IntWalk.i64_in _ (by omega)
    have n5 : ¬ (l1.length : Int) ≤ (k : Int) := by have := HL.out; omega
    have n6 : (0 : Int) ≤ (k : Int) := by omega
    have n7 : k < l1.length := by have := HL.out; omega
    obtain ⟨ad0, rfl, x0, x1, x2, x3, x4⟩ := PV.at_T42 (Kd.C_below H0.out hd.out) (k : Int) (by omega) (by omega)
    obtain ⟨ad1, rfl, y0, y1, y2, y3, y4⟩ := PV.at_T42 (Kd.C_below H1.out hd.out) (k : Int) (by omega) (by omega)
    rw [Int.toNat_natCast] at x0 x1 x2 x3 x4 y0 y1 y2 y3 y4
    have b1 : (ad1.add (k * 5)).block < wr.heap.size := World.block_lt_of_cell? wr _ y0
    have b2 : ¬ (ad1.add (k * 5)).block = wr.heap.size := by omega
    have b3 : ¬ wr.heap.size = (ad1.add (k * 5)).block := by omega
    have had := alikeL_drop l0 l1 k HL.out hlt
    have HAD := Aside0.mk had
    have HLT := Aside0.mk hlt
    generalize PV.rd_T42 l0 (k : Int) = ta at x0 x1 x2 x3 x4 HAD
    generalize PV.rd_T42 l1 (k : Int) = tb at y0 y1 y2 y3 y4 HAD
    have HLK := Aside0.mk (fun W => like1_calls ta tb W)
    unfold tokA at HLK
    clear hbg hlt had
    cases hab : alikeB ta tb with
    | true =>
     rw [hab] at HLK HAD
     go_wp2_with (first | ((with_reducible refine (HLK.out _).mono ?_); rintro e w1 ⟨rfl, hd1⟩; have HD1 := Aside0.mk hd1; clear hd1))
     have hs := hd.out.size
     have hb := ((hd.out.alloc hs (.cells #[.int .i64 ta.f0, .string ta.f1, .int .i64 ta.f2, .int .i64 ta.f3, .int .i64 ta.f4] 42)).alloc (by simp; omega) (.cells #[.int .i64 tb.f0, .string tb.f1, .int .i64 tb.f2, .int .i64 tb.f3, .int .i64 tb.f4] 42)).trans (HD1.out.mono (by simp; omega))
     have hlt := HLT.out
     exact ⟨⟨k + 1, by omega, by first | rfl | simp, ⟨hb⟩, ⟨by rw [hal.out, HAD.out, Bool.true_and]⟩⟩, by simp [intOf]; omega⟩
    | false =>
     rw [hab] at HLK HAD
     go_wp2_with (first | ((with_reducible refine (HLK.out _).mono ?_); rintro e w1 ⟨rfl, hd1⟩; have HD1 := Aside0.mk hd1; clear hd1))
     have hs := hd.out.size
     have hb := ((hd.out.alloc hs (.cells #[.int .i64 ta.f0, .string ta.f1, .int .i64 ta.f2, .int .i64 ta.f3, .int .i64 ta.f4] 42)).alloc (by simp; omega) (.cells #[.int .i64 tb.f0, .string tb.f1, .int .i64 tb.f2, .int .i64 tb.f3, .int .i64 tb.f4] 42)).trans (HD1.out.mono (by simp; omega))
     go_ret
     exact ⟨by rw [hal.out, HAD.out]; rfl, hb⟩
   ·have n1 : decide (k < l0.length) = false := decide_eq_false hlt
    have n2 : decide ((k : Int) < (l0.length : Int)) = false := decide_eq_false (by omega)
    have HR := Aside0.mk (show alikeL l0 l1 = true by
     have := HL.out
     rw [hal.out, List.drop_of_length_le (by omega), List.drop_of_length_le (by omega)]
     rfl)
    clear hal
    go_wp2
    go_ret
    exact ⟨by rw [HR.out]; rfl, hd.out⟩
 ·have m1 : (((l0.length : Nat) : Int) == ((l1.length : Nat) : Int)) = false := beq_eq_false_iff_ne.2 (by omega)
  have m2 : (((l0.length : Nat) : Int) != ((l1.length : Nat) : Int)) = true := bne_iff_ne.2 (by omega)
  have m3 : decide (l0.length = l1.length) = false := decide_eq_false hl
  have HR := Aside0.mk (alikeL_len l0 l1 hl)
  clear hr0 hr1 hl hbig
  go_enter Tryd.func56, Tryd.ntmps56
  go_wp2
  go_ret
  exact ⟨by rw [HR.out]; rfl, Below.refl _ _⟩
def lex_like.f (s : ByteArray) (l : List PV.S42) : Option Bool := some (decide ((lexR (byl s)).2.1 = 0) && alikeL ((lexR (byl s)).1.map (tokS 0)) l)
set_option maxRecDepth 100000 in
set_option maxHeartbeats 0 in
theorem lex_like.calls (s : ByteArray) (A0 : Option Addr) (c0 : Nat) (l0 : List PV.S42) (r : Bool) (w : World) (hG : LaidG w) (hr0 : Kd.C PV.k42 w A0 l0.length l0) (hc0 : l0.length ≤ c0) (h : lex_like.f s l0 = some r) :
  Calls Tryd.prog 38 #[.string s, .slice A0 l0.length c0] w fun e w' => e = .returned (.bool r) ∧ Below w.heap.size w w' := by
 have h' := Option.some.inj h
 have HLX := Aside0.mk (lex_Lex.calls s _ _ _ w hG rfl)
 by_cases he : (lexR (byl s)).2.1 = 0
 ·have HR := Aside0.mk (show alikeL ((lexR (byl s)).1.map (tokS 0)) l0 = r by rw [← h', decide_eq_true he, Bool.true_and])
  rw [he] at HLX
  have H0 := Aside0.mk hr0
  generalize ((lexR (byl s)).2.2 : Int) = at' at HLX
  generalize (lexR (byl s)).1.map (tokS 0) = m at HLX HR
  clear h h' he hr0 hG
  go_enter Tryd.func38, Tryd.ntmps38
  go_wp2_with (first | (go_at_call 11; refine HLX.out.mono ?_; rintro e w1 ⟨v, rfl, hR, hb⟩; obtain ⟨A1, c1, rfl, hc1, hC1⟩ := Kd.R_reads hR; have HEQ := Aside0.mk (equal_calls A1 c1 m A0 c0 l0 w1 hC1 (Kd.C_below H0.out hb)); have HB := Aside0.mk hb; clear hR hb hC1) | (go_at_call 56; refine HEQ.out.mono ?_; rintro e w2 ⟨rfl, hb2⟩; have HB2 := Aside0.mk (HB.out.trans (hb2.mono HB.out.size)); clear hb2))
  go_ret
  exact ⟨by rw [HR.out]; rfl, HB2.out⟩
 ·have HR := Aside0.mk (show false = r by rw [← h', decide_eq_false he]; rfl)
  have q1 : ((lexR (byl s)).2.1 == 0) = false := beq_eq_false_iff_ne.2 he
  have q3 : decide ((lexR (byl s)).2.1 = 0) = false := decide_eq_false he
  generalize ((lexR (byl s)).2.2 : Int) = at' at HLX
  generalize (lexR (byl s)).2.1 = e0 at HLX q1 q3
  generalize (lexR (byl s)).1.map (tokS 0) = m at HLX
  clear h h' he hr0 hG
  go_enter Tryd.func38, Tryd.ntmps38
  go_wp2_with (first | (go_at_call 11; refine HLX.out.mono ?_; rintro e w1 ⟨v, rfl, hR, hb⟩; obtain ⟨A1, c1, rfl, hc1, hC1⟩ := Kd.R_reads hR; have HB := Aside0.mk hb; clear hR hb hC1))
  go_ret
  exact ⟨by rw [← HR.out]; rfl, HB.out⟩
end Go.Proofs.YtniihjhlkpjnoaaDoor.Given
end
