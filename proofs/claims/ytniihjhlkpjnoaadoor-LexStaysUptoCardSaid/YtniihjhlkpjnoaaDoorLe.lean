/- Package lex: the contracts of Words and Signs, and of the readers of words, names and comments. -/
import Derived.Test.YtniihjhlkpjnoaaDoorLd
import Derived.Test.YtniihjhlkpjnoaaDoorShelf
import Derived.Lib.IndexMore
set_option linter.unusedVariables false
set_option linter.unusedSimpArgs false
namespace Go.Proofs.YtniihjhlkpjnoaaDoor.Given
open Go.RowKit Go.Proofs.YtniihjhlkpjnoaaDoor.PT Go.Proofs.YtniihjhlkpjnoaaDoorW.PrintWords Go.Proofs.YtniihjhlkpjnoaaDoorW.PrintLast Go.Proofs.YtniihjhlkpjnoaaDoorW.PrintMore
theorem ba_toList (x : List UInt8) : (ba x).toList = x := by simp [ba]
def rowV (L : List (List UInt8)) : Obj := .cells (L.map fun l => Value.string (ba l)).toArray 9
set_option maxRecDepth 100000 in
theorem words_calls (w : World) (hG : LaidG w) : Calls Tryd.prog 72 #[] w fun e w' => e = .returned (.slice (some ⟨w.heap.size, 0, none⟩) 33 33) ∧ w' = w.alloc (rowV wordsL) := by
 have HT := Aside0.mk hG.1
 clear hG
 go_enter Tryd.func72, Tryd.ntmps72
 go_wp2_with (first | (go_at_call 99; (with_reducible refine (Tryd.strings_Fields _ _ ?h1 ?h2 HT.out).mono ?_); (case h1 => decide); (case h2 => exact fun j b hb => of_decide_eq_true (List.all_eq_true.1 (show List.all _ (fun b : UInt8 => decide (b.toNat < 128)) = true by kernel_rfl) b (List.mem_of_getElem? hb))); rintro e w1 ⟨rfl, rfl⟩; generalize hL : Lib.fields _ = L; obtain rfl : L = wordsL := (by rw [← hL]; kernel_rfl)))
 go_ret
 exact ⟨rfl, rfl⟩
set_option maxRecDepth 100000 in
theorem signs_calls (w : World) (hG : LaidG w) : Calls Tryd.prog 73 #[] w fun e w' => e = .returned (.slice (some ⟨w.heap.size, 0, none⟩) 35 35) ∧ w' = w.alloc (rowV signsL) := by
 have HT := Aside0.mk hG.1
 clear hG
 go_enter Tryd.func73, Tryd.ntmps73
 go_wp2_with (first | (go_at_call 99; (with_reducible refine (Tryd.strings_Fields _ _ ?h1 ?h2 HT.out).mono ?_); (case h1 => decide); (case h2 => exact fun j b hb => of_decide_eq_true (List.all_eq_true.1 (show List.all _ (fun b : UInt8 => decide (b.toNat < 128)) = true by kernel_rfl) b (List.mem_of_getElem? hb))); rintro e w1 ⟨rfl, rfl⟩; generalize hL : Lib.fields _ = L; obtain rfl : L = signsL := (by rw [← hL]; kernel_rfl)))
 go_ret
 exact ⟨rfl, rfl⟩
theorem index_loop (L : List (List UInt8)) (x : List UInt8) (hl : L.length ≤ 1048576) : ∀ (d i k : Nat), i + d = L.length → d < k → ∃ z, slices_Index_string_string.l0 k (L.map ba) (ba x) (L.length : Int) (i : Int) = some z ∧ decide (z ≥ 0) = decide (x ∈ L.drop i) := by
 intro d
 induction d with
 | zero =>
  intro i k hi hk
  obtain ⟨k, rfl⟩ : ∃ m, k = m + 1 := ⟨k - 1, by omega⟩
  rw [slices_Index_string_string.l0, if_neg (by omega), List.drop_of_length_le (by omega)]
  exact ⟨_, rfl, by simp⟩
 | succ d ih =>
  intro i k hi hk
  obtain ⟨k, rfl⟩ : ∃ m, k = m + 1 := ⟨k - 1, by omega⟩
  have hil : i < L.length := by omega
  have hw : wrap64 ((i : Int) + 1) = ((i + 1 : Nat) : Int) := w64 (by omega) (by omega)
  have hr : rdOf ByteArray.empty (L.map ba) (i : Int) = ba L[i] := by unfold rdOf; simp [hil]
  rw [slices_Index_string_string.l0, if_pos (by omega), if_pos (by omega), if_pos (by rw [List.length_map]; omega), hr, ba_toList, ba_toList, hw, List.drop_eq_getElem_cons hil]
  by_cases h : x = L[i]
  ·rw [if_pos h]
   exact ⟨_, rfl, by rw [decide_eq_true (by omega), decide_eq_true (by rw [h]; exact List.mem_cons_self ..)]⟩
  ·rw [if_neg h]
   obtain ⟨z, h1, h2⟩ := ih (i + 1) k (by omega) (by omega)
   refine ⟨z, h1, h2.trans ?_⟩
   by_cases hm : x ∈ L.drop (i + 1)
   ·rw [decide_eq_true hm, decide_eq_true (List.mem_cons_of_mem _ hm)]
   ·rw [decide_eq_false hm, decide_eq_false (fun h2 => (List.mem_cons.1 h2).elim h hm)]
theorem contains_f (L : List (List UInt8)) (x : List UInt8) (hl : L.length ≤ 1048576) : slices_Contains_string_string.f (L.length + 1) (L.map ba) (ba x) = some (decide (x ∈ L)) := by
 obtain ⟨z, h1, h2⟩ := index_loop L x hl L.length 0 (L.length + 1) (by omega) (by omega)
 unfold slices_Contains_string_string.f slices_Index_string_string.f
 rw [List.length_map]
 rw [show ((0 : Nat) : Int) = 0 from rfl] at h1
 rw [h1, Option.bind_some, h2, List.drop_zero]
def StrRow (W : World) (A : Option Addr) (L : List (List UInt8)) (c : Nat) : Prop := Kd.C Kd.string W A L.length (L.map ba) ∧ L.length ≤ c
theorem StrRow.keep {W W' : World} {A : Option Addr} {L : List (List UInt8)} {c : Nat} (h : StrRow W A L c) (hb : Below W.heap.size W W') : StrRow W' A L c := ⟨Kd.C_below h.1 hb, h.2⟩
theorem contains_quiet (W : World) (A : Option Addr) (L : List (List UInt8)) (c : Nat) (h : StrRow W A L c) (x : List UInt8) (hl : L.length ≤ 1048576) (k : Nat) :
  Calls Tryd.prog 81 #[.slice A L.length c, .string (ba x)] (W.drewN k) fun e w'' => e = .returned (.bool (decide (x ∈ L))) ∧ ∃ m, w'' = W.drewN m := by
 refine Calls.quiet_of ?_
 have h1 := h.1
 have e : L.length = (L.map ba).length := (List.length_map ..).symm
 have hc := slices_Contains_string_string.calls (L.length + 1) A c (L.map ba) (ba x) (decide (x ∈ L)) (W.drewN k) (by rw [← e]; exact Kd.C_drewN h1 k) (by rw [← e]; exact h.2) (contains_f L x hl)
 rw [← e] at hc
 exact hc.mono fun e w' ⟨h1, h2⟩ => ⟨h1, h2.out⟩
set_option maxRecDepth 100000 in
set_option maxHeartbeats 2000000 in
theorem letter_reads (t : List UInt8) (ht : t.length ≤ 1099511627776) (w : World) (b : Nat) (A : Option Addr) (c : Nat) (hb : w.cell? ⟨b, 0, none⟩ = some (.slice A 33 c)) (hr : StrRow w A wordsL c) :
  Calls Tryd.prog 77 #[.string (ba t), .pointer (some ⟨b, 0, none⟩)] w fun e w' => e = .returned (itemV (letterI t) 0 (letterI t).len) ∧ Below w.heap.size w w' := by
 have hsz := ba_size t
 have hu := Tryd.underlying70
 have hut := Tryd.underlying42
 have hle := runL_le alnB t
 have HI := Aside0.mk (Is7.start w)
 have HR := Aside0.mk (run_aln t ht)
 have hbl := World.block_lt_of_cell? w _ hb
 simp only [] at hbl
 have e0 : letterI t = letterN t (runL alnB t) := rfl
 rw [e0]
 generalize runL alnB t = n at hle HR ⊢
 have HQ : Aside0 (∀ W, Below w.heap.size w W → ∀ k, Calls Tryd.prog 81 #[.slice A 33 c, .string (ba (t.take n))] (W.drewN k) fun e w'' => e = .returned (.bool (decide (t.take n ∈ wordsL))) ∧ ∃ m, w'' = W.drewN m) :=
  ⟨fun W hW k => contains_quiet W A wordsL c (hr.keep hW) (t.take n) (by decide) k⟩
 have hsl := fun W => str_high t n hle W
 have HK := Aside0.mk (fun W (hW : Below w.heap.size w W) => (hW.cell (p := ⟨b, 0, none⟩) hbl).trans hb)
 have HT1 := Aside0.mk (token_calls 1 t n hle (decide (n < t.length)))
 have HT2 := Aside0.mk (token_calls 2 t n hle (decide (n < t.length)))
 clear hb hr e0 hbl
 by_cases hw : t.take n ∈ wordsL
 ·have e : letterN t n = tokI 1 t n (decide (n < t.length)) := by unfold letterN; rw [if_pos hw]
  rw [e]
  clear e HT2
  go_enter Tryd.func77, Tryd.ntmps77
  go_upto_region 2 with (first
   | (go_at_call 78; (with_reducible refine (HR.out _).mono ?_); rintro e w1 ⟨rfl, hd1⟩; have HI1 := Aside0.mk (HI.out.keep hd1.below); clear hd1))
  have hbx := HK.out _ HI1.out.below
  have HQ1 := Aside0.mk (HQ.out _ HI1.out.below)
  rw [decide_eq_true hw] at HQ1
  go_quiet ((go_at_call 81; exact HQ1.out _))
  go_wp2_with (first
   | (go_at_call 82; (with_reducible refine (HT1.out _).mono ?_); rintro e w2 ⟨rfl, hb2⟩; have HIz := Aside0.mk ((HI1.out.keep (Drawn0.below ⟨⟨_, rfl⟩⟩)).keep hb2); obtain ⟨_, _, c0, c1, c2, c3, c4, c5, c6, f0, f1, f2, f3, f4, f5, f6⟩ := HIz.out; clear hb2))
  refine bodyPost_ret (HIz.out.results rfl _ rfl _ _ _ _ _ _ _) rfl ⟨rfl, HIz.out.set _ _ _ _ _ _ _⟩
 ·by_cases h16 : 16 < n
  ·have e : letterN t n = badI 2 true := by unfold letterN; rw [if_neg hw, if_pos h16]
   rw [e]
   have n1 : decide (16 < n) = true := decide_eq_true h16
   have n2 : decide ((16 : Int) < (n : Int)) = true := decide_eq_true (by omega)
   clear e HT1 HT2 h16
   go_enter Tryd.func77, Tryd.ntmps77
   go_upto_region 2 with (first
    | (go_at_call 78; (with_reducible refine (HR.out _).mono ?_); rintro e w1 ⟨rfl, hd1⟩; have HI1 := Aside0.mk (HI.out.keep hd1.below); clear hd1))
   have hbx := HK.out _ HI1.out.below
   have HQ1 := Aside0.mk (HQ.out _ HI1.out.below)
   rw [decide_eq_false hw] at HQ1
   go_quiet ((go_at_call 81; exact HQ1.out _))
   go_wp2_with (first
    | (go_at_call 83; (with_reducible refine (wrong_calls _ _ _).mono ?_); rintro e w2 ⟨rfl, hb2⟩; have HIz := Aside0.mk ((HI1.out.keep (Drawn0.below ⟨⟨_, rfl⟩⟩)).keep hb2); obtain ⟨_, _, c0, c1, c2, c3, c4, c5, c6, f0, f1, f2, f3, f4, f5, f6⟩ := HIz.out; clear hb2))
   refine bodyPost_ret (HIz.out.results rfl _ rfl _ _ _ _ _ _ _) rfl ⟨rfl, HIz.out.set _ _ _ _ _ _ _⟩
  ·have e : letterN t n = tokI 2 t n (decide (n < t.length)) := by unfold letterN; rw [if_neg hw, if_neg h16]
   rw [e]
   have n1 : decide (16 < n) = false := decide_eq_false h16
   have n2 : decide ((16 : Int) < (n : Int)) = false := decide_eq_false (by omega)
   clear e HT1 h16
   go_enter Tryd.func77, Tryd.ntmps77
   go_upto_region 2 with (first
    | (go_at_call 78; (with_reducible refine (HR.out _).mono ?_); rintro e w1 ⟨rfl, hd1⟩; have HI1 := Aside0.mk (HI.out.keep hd1.below); clear hd1))
   have hbx := HK.out _ HI1.out.below
   have HQ1 := Aside0.mk (HQ.out _ HI1.out.below)
   rw [decide_eq_false hw] at HQ1
   go_quiet ((go_at_call 81; exact HQ1.out _))
   go_wp2_with (first
    | (go_at_call 82; (with_reducible refine (HT2.out _).mono ?_); rintro e w2 ⟨rfl, hb2⟩; have HIz := Aside0.mk ((HI1.out.keep (Drawn0.below ⟨⟨_, rfl⟩⟩)).keep hb2); obtain ⟨_, _, c0, c1, c2, c3, c4, c5, c6, f0, f1, f2, f3, f4, f5, f6⟩ := HIz.out; clear hb2))
   refine bodyPost_ret (HIz.out.results rfl _ rfl _ _ _ _ _ _ _) rfl ⟨rfl, HIz.out.set _ _ _ _ _ _ _⟩
theorem endL_index : ∀ t : List UInt8, Lib.index t [42, 41] = (match endL t with | none => -1 | some n => (n : Int))
 | [] => rfl
 | c :: r => by
  have ih := endL_index r
  have hp : ([42, 41] : List UInt8).isPrefixOf (c :: r) = decide (c.toNat = 42 ∧ r.head? = some 41) := by
   by_cases hc : c.toNat = 42
   ·obtain rfl : c = 42 := UInt8.toNat_inj.1 hc
    cases r with
    | nil => rfl
    | cons d r =>
     show ((42 : UInt8) == 42 && ((41 : UInt8) == d && _)) = decide ((42 : UInt8).toNat = 42 ∧ some d = some 41)
     by_cases hd : d = 41
     ·subst hd
      rfl
     ·rw [decide_eq_false (fun h => hd (Option.some.inj h.2)), beq_eq_false_iff_ne.2 (fun h => hd h.symm)]
      rfl
   ·rw [decide_eq_false (fun h => hc h.1)]
    show ((42 : UInt8) == c && _) = false
    rw [beq_eq_false_iff_ne.2 (fun h => hc (by rw [← h]; rfl))]
    rfl
  show (if ([42, 41] : List UInt8).isPrefixOf (c :: r) = true then (0 : Int) else if (Lib.index r [42, 41] == -1) = true then -1 else Lib.index r [42, 41] + 1) = (match (if c.toNat = 42 ∧ r.head? = some 41 then some 0 else (endL r).map (fun m : Nat => m + 1)) with | none => (-1 : Int) | some n => (n : Int))
  rw [hp, ih]
  by_cases h : c.toNat = 42 ∧ r.head? = some 41
  ·rw [decide_eq_true h, if_pos rfl, if_pos h]
   rfl
  ·rw [decide_eq_false h, if_neg (by decide), if_neg h]
   cases endL r with
   | none => rfl
   | some n =>
    show (if ((n : Int) == -1) = true then (-1 : Int) else (n : Int) + 1) = ((n + 1 : Nat) : Int)
    rw [if_neg (by rw [beq_iff_eq]; omega)]
    rfl
set_option maxRecDepth 100000 in
set_option maxHeartbeats 2000000 in
theorem note_reads (t : List UInt8) (h2 : 2 ≤ t.length) (ht : t.length ≤ 4000000000) (w : World) (hG : LaidG w) : Calls Tryd.prog 89 #[.string (ba t)] w fun e w' => e = .returned (itemV (noteI t) 0 (noteI t).len) ∧ Below w.heap.size w w' := by
 have hsz := ba_size t
 have hu := Tryd.underlying70
 have hut := Tryd.underlying42
 have hsl : ∀ W, (Instr.slice 9 (.string (ba t)) (some (.int .i64 2)) none none).run Tryd.prog W = .ok (.string (ba (t.drop 2))) W := fun W => str_low t 2 h2 W
 obtain ⟨m, hm⟩ := (hG.keep _ (wI_below w)).2.1
 have HX := Aside0.mk (Tryd.strings_Index (ba (t.drop 2)) ⟨#[42, 41]⟩ m (wI w) (by rw [ba_size, List.length_drop]; omega) hm)
 rw [ba_list, show (⟨#[42, 41]⟩ : ByteArray).data.toList = [42, 41] from rfl, endL_index] at HX
 have HI := Aside0.mk (Is7.start w)
 cases he : endL (t.drop 2) with
 | none =>
  have e : noteI t = badI 7 false := by unfold noteI; rw [he]
  rw [he] at HX
  rw [e]
  clear hG hm he e
  dsimp only at HX
  unfold wI at HX
  go_enter Tryd.func89, Tryd.ntmps89
  go_wp2_with (first
   | (go_at_call 68; (with_reducible refine HX.out.mono ?_); rintro e w1 ⟨rfl, rfl⟩)
   | (go_at_call 83; (with_reducible refine (wrong_calls _ _ _).mono ?_); rintro e w2 ⟨rfl, hb2⟩; have HIz := Aside0.mk (HI.out.keep hb2); obtain ⟨_, _, c0, c1, c2, c3, c4, c5, c6, f0, f1, f2, f3, f4, f5, f6⟩ := HIz.out; clear hb2))
  refine bodyPost_ret (HIz.out.results rfl _ rfl _ _ _ _ _ _ _) rfl ⟨rfl, HIz.out.set _ _ _ _ _ _ _⟩
 | some n =>
  have e : noteI t = ⟨0, [], 0, n + 4, 0, true⟩ := by unfold noteI; rw [he]
  have hn := (endL_app [] _ n he).2
  rw [List.length_drop] at hn
  rw [he] at HX
  rw [e]
  have k1 : IntKind.i64.wrap ((n : Int) + 4) = ((n + 4 : Nat) : Int) := kwI (by omega) (by omega)
  have d1 : decide ((n : Int) < 0) = false := decide_eq_false (by omega)
  clear hG hm he e hn
  dsimp only at HX
  unfold wI at HX
  go_enter Tryd.func89, Tryd.ntmps89
  go_wp2_with (first
   | (go_at_call 68; (with_reducible refine HX.out.mono ?_); rintro e w1 ⟨rfl, hw1⟩; have HIz := Aside0.mk (show Is7 w w1 by rw [hw1]; exact HI.out); obtain ⟨_, _, c0, c1, c2, c3, c4, c5, c6, f0, f1, f2, f3, f4, f5, f6⟩ := HIz.out; clear hw1))
  refine bodyPost_ret (HIz.out.results rfl _ rfl _ _ _ _ _ _ _) rfl ⟨rfl, HIz.out.set _ _ _ _ _ _ _⟩
end Go.Proofs.YtniihjhlkpjnoaaDoor.Given