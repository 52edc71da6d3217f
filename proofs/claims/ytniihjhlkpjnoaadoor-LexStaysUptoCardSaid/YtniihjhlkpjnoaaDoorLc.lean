-- Out of this text a program of mine (wip/slim.py) took what this claim does not use.
/- Package lex: the contracts of the functions that read one item (printed by mklb.py). -/
import Derived.Test.YtniihjhlkpjnoaaDoorJ6
import Derived.Test.YtniihjhlkpjnoaaDoorPTx1
set_option linter.unusedVariables false
set_option linter.unusedSimpArgs false
namespace Go.Proofs.YtniihjhlkpjnoaaDoor.Given
open Go.RowKit Go.Proofs.YtniihjhlkpjnoaaDoor.PT Go.Proofs.YtniihjhlkpjnoaaDoorW.PrintWords Go.Proofs.YtniihjhlkpjnoaaDoorW.PrintLast Go.Proofs.YtniihjhlkpjnoaaDoorW.PrintMore
theorem byte_lt (c : UInt8) : (c.toNat : Int) ≤ 255 := by have := c.toNat_lt; omega
set_option maxRecDepth 100000 in
set_option maxHeartbeats 2000000 in
theorem tick_reads (t : List UInt8) (h0 : t ≠ []) (ht : t.length ≤ 1099511627776) (w : World) : Calls Tryd.prog 85 #[.string (ba t)] w fun e w' => e = .returned (itemV (tickI t) 0 (tickI t).len) ∧ Below w.heap.size w w' := by
 have hsz := ba_size t
 have hu := Tryd.underlying70
 have hut := Tryd.underlying42
 have hl := List.length_pos_iff.2 h0
 have hx1 := ba_at t 1
 have hx2 := ba_at t 2
 have HI := Aside0.mk (Is7.start w)
 by_cases h1 : 1 < t.length
 ·have n1 : decide (1 < t.length) = true := decide_eq_true h1
  have m1 : (1 < (ba t).size) = True := eq_true (by omega)
  have HP := Aside0.mk (plain_byte (t.getD 1 0))
  by_cases hp : plnB (t.getD 1 0) = false
  ·rw [hp] at HP
   have e : tickI t = badI 7 true := by unfold tickI; rw [if_pos (.inl ⟨h1, .inl hp⟩)]
   rw [e]
   clear hp e
   generalize t.getD 1 0 = c1 at hx1 HP
   go_enter Tryd.func85, Tryd.ntmps85
   go_wp2_with (first
    | (go_at_call 86; (with_reducible refine (HP.out _).mono ?_); rintro e w1 ⟨rfl, hd1⟩; have HI0 := HI; clear HI; have HI := Aside0.mk (HI0.out.keep hd1.below); clear HI0 hd1)
    | (go_at_call 83; (with_reducible refine (wrong_calls _ _ _).mono ?_); rintro e w2 ⟨rfl, hb2⟩; have HIz := Aside0.mk (HI.out.keep hb2); obtain ⟨_, _, c0, c1, c2, c3, c4, c5, c6, f0, f1, f2, f3, f4, f5, f6⟩ := HIz.out; clear hb2))
   refine bodyPost_ret (HIz.out.results rfl _ rfl _ _ _ _ _ _ _) rfl ⟨rfl, HIz.out.set _ _ _ _ _ _ _⟩
  ·rw [Bool.not_eq_false] at hp
   rw [hp] at HP
   by_cases hq : (t.getD 1 0).toNat = 39
   ·have e : tickI t = badI 7 true := by unfold tickI; rw [if_pos (.inl ⟨h1, .inr hq⟩)]
    rw [e]
    have q1 : (((t.getD 1 0).toNat : Int) == 39) = true := by rw [hq]; rfl
    have q2 : ((t.getD 1 0).toNat == 39) = true := by rw [hq]; rfl
    clear hp e hq
    generalize t.getD 1 0 = c1 at hx1 HP q1 q2
    go_enter Tryd.func85, Tryd.ntmps85
    go_wp2_with (first
     | (go_at_call 86; (with_reducible refine (HP.out _).mono ?_); rintro e w1 ⟨rfl, hd1⟩; have HI0 := HI; clear HI; have HI := Aside0.mk (HI0.out.keep hd1.below); clear HI0 hd1)
     | (go_at_call 83; (with_reducible refine (wrong_calls _ _ _).mono ?_); rintro e w2 ⟨rfl, hb2⟩; have HIz := Aside0.mk (HI.out.keep hb2); obtain ⟨_, _, c0, c1, c2, c3, c4, c5, c6, f0, f1, f2, f3, f4, f5, f6⟩ := HIz.out; clear hb2))
    refine bodyPost_ret (HIz.out.results rfl _ rfl _ _ _ _ _ _ _) rfl ⟨rfl, HIz.out.set _ _ _ _ _ _ _⟩
   ·have q1 : (((t.getD 1 0).toNat : Int) == 39) = false := by rw [beq_eq_false_iff_ne]; omega
    have q2 : ((t.getD 1 0).toNat == 39) = false := by rw [beq_eq_false_iff_ne]; exact hq
    by_cases h2 : 2 < t.length
    ·have n2 : decide (2 < t.length) = true := decide_eq_true h2
     have n3 : decide (t.length < 3) = false := decide_eq_false (by omega)
     have m2 : (2 < (ba t).size) = True := eq_true (by omega)
     by_cases hr : (t.getD 2 0).toNat = 39
     ·have r1 : (((t.getD 2 0).toNat : Int) != 39) = false := by rw [hr]; rfl
      have r2 : ((t.getD 2 0).toNat != 39) = false := by rw [hr]; rfl
      have e : tickI t = ⟨5, [], (t.getD 1 0).toNat, 3, 0, true⟩ := by
       unfold tickI
       rw [if_neg (fun h => h.elim (fun h => h.2.elim (fun h => by rw [hp] at h; cases h) hq) (fun h => h.2 hr)), if_neg (by omega)]
      rw [e]
      clear hp e hq hr
      have hc := byte_lt (t.getD 1 0)
      generalize t.getD 1 0 = c1 at hx1 HP q1 q2 hc ⊢
      generalize t.getD 2 0 = c2 at hx2 r1 r2
      have kw : IntKind.i64.wrap (c1.toNat : Int) = (c1.toNat : Int) := IntWalk.i64_in _ (by omega)
      clear hc
      obtain ⟨_, _, c0, c1, c2, c3, c4, c5, c6, f0, f1, f2, f3, f4, f5, f6⟩ := HI.out
      go_enter Tryd.func85, Tryd.ntmps85
      go_wp2_with (first
       | (go_at_call 86; (with_reducible refine (HP.out _).mono ?_); rintro e w1 ⟨rfl, hd1⟩; have HIz := Aside0.mk (HI.out.keep hd1.below); obtain ⟨_, _, c0, c1, c2, c3, c4, c5, c6, f0, f1, f2, f3, f4, f5, f6⟩ := HIz.out; clear hd1))
      refine bodyPost_ret (HIz.out.results rfl _ rfl _ _ _ _ _ _ _) rfl ⟨rfl, HIz.out.set _ _ _ _ _ _ _⟩
     ·have r1 : (((t.getD 2 0).toNat : Int) != 39) = true := by rw [bne_iff_ne]; omega
      have r2 : ((t.getD 2 0).toNat != 39) = true := by rw [bne_iff_ne]; exact hr
      have e : tickI t = badI 7 true := by unfold tickI; rw [if_pos (.inr ⟨h2, hr⟩)]
      rw [e]
      clear hp e hq hr
      generalize t.getD 1 0 = c1 at hx1 HP q1 q2
      generalize t.getD 2 0 = c2 at hx2 r1 r2
      go_enter Tryd.func85, Tryd.ntmps85
      go_wp2_with (first
       | (go_at_call 86; (with_reducible refine (HP.out _).mono ?_); rintro e w1 ⟨rfl, hd1⟩; have HI0 := HI; clear HI; have HI := Aside0.mk (HI0.out.keep hd1.below); clear HI0 hd1)
       | (go_at_call 83; (with_reducible refine (wrong_calls _ _ _).mono ?_); rintro e w2 ⟨rfl, hb2⟩; have HIz := Aside0.mk (HI.out.keep hb2); obtain ⟨_, _, c0, c1, c2, c3, c4, c5, c6, f0, f1, f2, f3, f4, f5, f6⟩ := HIz.out; clear hb2))
      refine bodyPost_ret (HIz.out.results rfl _ rfl _ _ _ _ _ _ _) rfl ⟨rfl, HIz.out.set _ _ _ _ _ _ _⟩
    ·have n2 : decide (2 < t.length) = false := decide_eq_false h2
     have n3 : decide (t.length < 3) = true := decide_eq_true (by omega)
     have e : tickI t = badI 7 false := by
      unfold tickI
      rw [if_neg (fun h => h.elim (fun h => h.2.elim (fun h => by rw [hp] at h; cases h) hq) (fun h => h2 h.1)), if_pos (by omega)]
     rw [e]
     clear hp e hq
     generalize t.getD 1 0 = c1 at hx1 HP q1 q2
     go_enter Tryd.func85, Tryd.ntmps85
     go_wp2_with (first
      | (go_at_call 86; (with_reducible refine (HP.out _).mono ?_); rintro e w1 ⟨rfl, hd1⟩; have HI0 := HI; clear HI; have HI := Aside0.mk (HI0.out.keep hd1.below); clear HI0 hd1)
      | (go_at_call 83; (with_reducible refine (wrong_calls _ _ _).mono ?_); rintro e w2 ⟨rfl, hb2⟩; have HIz := Aside0.mk (HI.out.keep hb2); obtain ⟨_, _, c0, c1, c2, c3, c4, c5, c6, f0, f1, f2, f3, f4, f5, f6⟩ := HIz.out; clear hb2))
     refine bodyPost_ret (HIz.out.results rfl _ rfl _ _ _ _ _ _ _) rfl ⟨rfl, HIz.out.set _ _ _ _ _ _ _⟩
 ·have n1 : decide (1 < t.length) = false := decide_eq_false h1
  have n2 : decide (2 < t.length) = false := decide_eq_false (by omega)
  have n3 : decide (t.length < 3) = true := decide_eq_true (by omega)
  have e : tickI t = badI 7 false := by
   unfold tickI
   rw [if_neg (fun h => h.elim (fun h => h1 h.1) (fun h => by omega)), if_pos (by omega)]
  rw [e]
  clear e
  go_enter Tryd.func85, Tryd.ntmps85
  go_wp2_with (first
   | (go_at_call 83; (with_reducible refine (wrong_calls _ _ _).mono ?_); rintro e w2 ⟨rfl, hb2⟩; have HIz := Aside0.mk (HI.out.keep hb2); obtain ⟨_, _, c0, c1, c2, c3, c4, c5, c6, f0, f1, f2, f3, f4, f5, f6⟩ := HIz.out; clear hb2))
  refine bodyPost_ret (HIz.out.results rfl _ rfl _ _ _ _ _ _ _) rfl ⟨rfl, HIz.out.set _ _ _ _ _ _ _⟩
theorem inq_byte (c : UInt8) (w : World) : Calls Tryd.prog 88 #[.int .u8 c.toNat] w fun e w' => e = .returned (.bool (inqB c)) ∧ Drawn0 w w' := by
 have HP := Aside0.mk (plain_byte c)
 by_cases h : c.toNat = 34
 ·have e : inqB c = false := by unfold inqB; rw [decide_eq_true h]; rfl
  have q1 : ((c.toNat : Int) != 34) = false := by rw [h]; rfl
  have q2 : (c.toNat != 34) = false := by rw [h]; rfl
  rw [e]
  clear h e
  go_enter Tryd.func88, Tryd.ntmps88
  go_wp2
  go_ret
  exact ⟨rfl, Drawn0.refl _⟩
 ·have e : inqB c = plnB c := by unfold inqB; rw [decide_eq_false h]; rfl
  have q1 : ((c.toNat : Int) != 34) = true := by rw [bne_iff_ne]; omega
  have q2 : (c.toNat != 34) = true := by rw [bne_iff_ne]; exact h
  rw [e]
  clear h e
  go_enter Tryd.func88, Tryd.ntmps88
  go_wp2_with (first | (go_at_call 86; (with_reducible refine (HP.out _).mono ?_); rintro e w1 ⟨rfl, hd1⟩; have HD := Aside0.mk hd1; clear hd1))
  go_ret
  exact ⟨rfl, HD.out⟩
theorem aln_byte (c : UInt8) (w : World) : Calls Tryd.prog 79 #[.int .u8 c.toNat] w fun e w' => e = .returned (.bool (alnB c)) ∧ Drawn0 w w' := by
 have HL := Aside0.mk (letter_byte c)
 have HG := Aside0.mk (digit_byte c)
 cases h : letB c with
 | true =>
  have e : alnB c = true := by unfold alnB; rw [h]; rfl
  rw [h] at HL
  rw [e]
  clear h e
  go_enter Tryd.func79, Tryd.ntmps79
  go_wp2_with (first | (go_at_call 71; (with_reducible refine (HL.out _).mono ?_); rintro e w1 ⟨rfl, hd1⟩; have HD := Aside0.mk hd1; clear hd1))
  go_ret
  exact ⟨rfl, HD.out⟩
 | false =>
  have e : alnB c = digB c := by unfold alnB; rw [h]; rfl
  rw [h] at HL
  rw [e]
  clear h e
  go_enter Tryd.func79, Tryd.ntmps79
  go_wp2_with (first
   | (go_at_call 71; (with_reducible refine (HL.out _).mono ?_); rintro e w1 ⟨rfl, hd1⟩; have HD := Aside0.mk hd1; clear hd1)
   | (go_at_call 80; (with_reducible refine (HG.out _).mono ?_); rintro e w2 ⟨rfl, hd2⟩; have HD2 := Aside0.mk hd2; clear hd2))
  go_ret
  exact ⟨rfl, by obtain ⟨⟨a, ha⟩⟩ := HD2.out; rw [ha]; exact HD.out.step a⟩
theorem ba_tail (t : List UInt8) (i : Nat) : (ba t).extract i t.length = ba (t.drop i) := by rw [ba_extract, List.take_length]
theorem run_digit (t : List UInt8) (ht : t.length ≤ 1099511627776) (w : World) : Calls Tryd.prog 78 #[.string (ba t), .func (.func 80) #[] #[]] w fun e w' => e = .returned (.int .i64 (runL digB t : Nat)) ∧ Drawn0 w w' :=
 run_calls 80 (enters_of Tryd.func80 (by kernel_rfl) rfl) digB digit_byte t ht w
theorem run_inq (t : List UInt8) (ht : t.length ≤ 1099511627776) (w : World) : Calls Tryd.prog 78 #[.string (ba t), .func (.func 88) #[] #[]] w fun e w' => e = .returned (.int .i64 (runL inqB t : Nat)) ∧ Drawn0 w w' :=
 run_calls 88 (enters_of Tryd.func88 (by kernel_rfl) rfl) inqB inq_byte t ht w
theorem run_aln (t : List UInt8) (ht : t.length ≤ 1099511627776) (w : World) : Calls Tryd.prog 78 #[.string (ba t), .func (.func 79) #[] #[]] w fun e w' => e = .returned (.int .i64 (runL alnB t : Nat)) ∧ Drawn0 w w' :=
 run_calls 79 (enters_of Tryd.func79 (by kernel_rfl) rfl) alnB aln_byte t ht w
set_option maxRecDepth 100000 in
set_option maxHeartbeats 2000000 in
theorem quote_reads (t : List UInt8) (h0 : t ≠ []) (ht : t.length ≤ 1099511627776) (w : World) : Calls Tryd.prog 87 #[.string (ba t)] w fun e w' => e = .returned (itemV (quoteI t) 0 (quoteI t).len) ∧ Below w.heap.size w w' := by
 have hsz := ba_size t
 have hu := Tryd.underlying70
 have hut := Tryd.underlying42
 have hl := List.length_pos_iff.2 h0
 have hle := runL_le inqB (t.drop 1)
 rw [List.length_drop, List.drop_one] at hle
 have HI := Aside0.mk (Is7.start w)
 have HR := Aside0.mk (run_inq (t.drop 1) (by rw [List.length_drop]; omega))
 have hex := ba_tail t 1
 rw [List.drop_one] at hex HR
 have hl1 : ¬ t.length < 1 := by omega
 have hl2 : 1 ≤ t.length := hl
 have e0 : quoteI t = quoteN t (1 + runL inqB t.tail) := by unfold quoteI; rw [List.drop_one]
 rw [e0]
 clear e0
 generalize runL inqB t.tail = r at hle HR ⊢
 obtain ⟨N, hN⟩ : ∃ N, N = 1 + r := ⟨_, rfl⟩
 rw [← hN]
 have hb1 : -9223372036854775808 ≤ 1 + (r : Int) ∧ 1 + (r : Int) ≤ 9223372036854775807 := by omega
 have hb2 : -9223372036854775808 ≤ (N : Int) - 1 ∧ (N : Int) - 1 ≤ 9223372036854775807 := by omega
 have hb3 : -9223372036854775808 ≤ (N : Int) + 1 ∧ (N : Int) + 1 ≤ 9223372036854775807 := by omega
 have g1 : (1 : Int) + (r : Int) = (N : Int) := by omega
 have g2 : (N : Int) - 1 = (r : Int) := by omega
 have hNl : N ≤ t.length := by omega
 have hN1 : 1 ≤ N := by omega
 have hr1 : N - 1 = r := by omega
 clear hle hN hl
 have k1 : IntKind.i64.wrap (1 + (r : Int)) = (N : Int) := (IntWalk.i64_in _ hb1).trans g1
 have k2 : IntKind.i64.wrap ((N : Int) - 1) = (r : Int) := (IntWalk.i64_in _ hb2).trans g2
 have k3 : IntKind.i64.wrap ((N : Int) + 1) = (N : Int) + 1 := IntWalk.i64_in _ hb3
 clear hb1 hb2 hb3 g1 g2
 by_cases h1 : N = t.length
 ·have e : quoteN t N = badI 7 false := by unfold quoteN; rw [if_pos h1]
  rw [e]
  have q1 : ((N : Int) == (t.length : Int)) = true := by rw [h1]; exact beq_self_eq_true _
  have q2 : (N == t.length) = true := by rw [h1]; exact beq_self_eq_true _
  have q3 : decide (N = t.length) = true := decide_eq_true h1
  have q4 : (N = t.length) = True := eq_true h1
  clear e h1
  go_enter Tryd.func87, Tryd.ntmps87
  go_wp2_with (first
   | (go_at_call 78; (with_reducible refine (HR.out _).mono ?_); rintro e w1 ⟨rfl, hd1⟩; have HI0 := HI; clear HI; have HI := Aside0.mk (HI0.out.keep hd1.below); clear HI0 hd1)
   | (go_at_call 83; (with_reducible refine (wrong_calls _ _ _).mono ?_); rintro e w2 ⟨rfl, hb2⟩; have HIz := Aside0.mk (HI.out.keep hb2); obtain ⟨_, _, c0, c1, c2, c3, c4, c5, c6, f0, f1, f2, f3, f4, f5, f6⟩ := HIz.out; clear hb2))
  refine bodyPost_ret (HIz.out.results rfl _ rfl _ _ _ _ _ _ _) rfl ⟨rfl, HIz.out.set _ _ _ _ _ _ _⟩
 ·have q1 : ((N : Int) == (t.length : Int)) = false := by rw [beq_eq_false_iff_ne]; omega
  have q2 : (N == t.length) = false := beq_eq_false_iff_ne.2 h1
  have q3 : decide (N = t.length) = false := decide_eq_false h1
  have q4 : (N = t.length) = False := eq_false h1
  have hlt : N < t.length := Nat.lt_of_le_of_ne hNl h1
  have m1 : (N < (ba t).size) = True := eq_true (by rw [hsz]; exact hlt)
  have hx := ba_at t N
  by_cases h2 : (t.getD N 0).toNat = 34
  ·have r1 : (((t.getD N 0).toNat : Int) != 34) = false := by rw [h2]; rfl
   have r2 : ((t.getD N 0).toNat != 34) = false := by rw [h2]; rfl
   by_cases h3 : 80 < N - 1
   ·have e : quoteN t N = badI 2 true := by unfold quoteN; rw [if_neg h1, if_neg (fun h => h h2), if_pos h3]
    rw [e]
    have s1 : decide (80 < r) = true := decide_eq_true (by rw [← hr1]; exact h3)
    have s2 : decide ((80 : Int) < (r : Int)) = true := decide_eq_true (by rw [hr1] at h3; exact_mod_cast h3)
    clear e h1 h2 h3 hr1
    generalize t.getD N 0 = c at hx r1 r2
    go_enter Tryd.func87, Tryd.ntmps87
    go_wp2_with (first
     | (go_at_call 78; (with_reducible refine (HR.out _).mono ?_); rintro e w1 ⟨rfl, hd1⟩; have HI0 := HI; clear HI; have HI := Aside0.mk (HI0.out.keep hd1.below); clear HI0 hd1)
     | (go_at_call 83; (with_reducible refine (wrong_calls _ _ _).mono ?_); rintro e w2 ⟨rfl, hb2⟩; have HIz := Aside0.mk (HI.out.keep hb2); obtain ⟨_, _, c0, c1, c2, c3, c4, c5, c6, f0, f1, f2, f3, f4, f5, f6⟩ := HIz.out; clear hb2))
    refine bodyPost_ret (HIz.out.results rfl _ rfl _ _ _ _ _ _ _) rfl ⟨rfl, HIz.out.set _ _ _ _ _ _ _⟩
   ·have e : quoteN t N = ⟨6, (t.take N).drop 1, 0, N + 1, 0, true⟩ := by unfold quoteN; rw [if_neg h1, if_neg (fun h => h h2), if_neg h3]
    rw [e]
    have s1 : decide (80 < r) = false := decide_eq_false (by rw [← hr1]; exact h3)
    have s2 : decide ((80 : Int) < (r : Int)) = false := decide_eq_false (by rw [hr1] at h3; exact_mod_cast h3)
    have hsl : ∀ W, (Instr.slice 9 (.string (ba t)) (some (.int .i64 1)) (some (.int .i64 N)) none).run Tryd.prog W = .ok (.string (ba (t.take N).tail)) W := fun W => by rw [← List.drop_one]; exact str_mid t 1 N hN1 hNl W
    rw [List.drop_one]
    clear e h1 h2 h3 hr1
    generalize t.getD N 0 = c at hx r1 r2
    go_enter Tryd.func87, Tryd.ntmps87
    go_wp2_with (first
     | (go_at_call 78; (with_reducible refine (HR.out _).mono ?_); rintro e w1 ⟨rfl, hd1⟩; have HIz := Aside0.mk (HI.out.keep hd1.below); obtain ⟨_, _, c0, c1, c2, c3, c4, c5, c6, f0, f1, f2, f3, f4, f5, f6⟩ := HIz.out; clear hd1))
    refine bodyPost_ret (HIz.out.results rfl _ rfl _ _ _ _ _ _ _) rfl ⟨rfl, HIz.out.set _ _ _ _ _ _ _⟩
  ·have e : quoteN t N = badI 7 true := by unfold quoteN; rw [if_neg h1, if_pos h2]
   rw [e]
   have r1 : (((t.getD N 0).toNat : Int) != 34) = true := by rw [bne_iff_ne]; omega
   have r2 : ((t.getD N 0).toNat != 34) = true := by rw [bne_iff_ne]; exact h2
   clear e h1 h2
   generalize t.getD N 0 = c at hx r1 r2
   go_enter Tryd.func87, Tryd.ntmps87
   go_wp2_with (first
    | (go_at_call 78; (with_reducible refine (HR.out _).mono ?_); rintro e w1 ⟨rfl, hd1⟩; have HI0 := HI; clear HI; have HI := Aside0.mk (HI0.out.keep hd1.below); clear HI0 hd1)
    | (go_at_call 83; (with_reducible refine (wrong_calls _ _ _).mono ?_); rintro e w2 ⟨rfl, hb2⟩; have HIz := Aside0.mk (HI.out.keep hb2); obtain ⟨_, _, c0, c1, c2, c3, c4, c5, c6, f0, f1, f2, f3, f4, f5, f6⟩ := HIz.out; clear hb2))
   refine bodyPost_ret (HIz.out.results rfl _ rfl _ _ _ _ _ _ _) rfl ⟨rfl, HIz.out.set _ _ _ _ _ _ _⟩
end Go.Proofs.YtniihjhlkpjnoaaDoor.Given