/- Package lex: the contract of number (printed by mkld.py: one walk for each way). -/
import Derived.Test.YtniihjhlkpjnoaaDoorLc
set_option linter.unusedVariables false
set_option linter.unusedSimpArgs false
namespace Go.Proofs.YtniihjhlkpjnoaaDoor.Given
open Go.RowKit Go.Proofs.YtniihjhlkpjnoaaDoor.PT Go.Proofs.YtniihjhlkpjnoaaDoorW.PrintWords Go.Proofs.YtniihjhlkpjnoaaDoorW.PrintLast Go.Proofs.YtniihjhlkpjnoaaDoorW.PrintMore
theorem kwI {a : Int} {b : Nat} (h : a = b) (hb : b ≤ 4611686018427387904) : IntKind.i64.wrap a = (b : Int) := by
 rw [IntWalk.i64_in _ (by omega)]
 exact h
theorem beq_int {a b : Nat} (h : a = b) : ((a : Int) == (b : Int)) = true := by rw [h]; exact beq_self_eq_true _
theorem bne_int {a b : Nat} (h : ¬ a = b) : ((a : Int) == (b : Int)) = false := by rw [beq_eq_false_iff_ne]; omega
theorem letB_101 {c : UInt8} (h : c.toNat = 101) : letB c = true := by unfold letB; rw [h]; rfl
theorem letB_46 {c : UInt8} (h : c.toNat = 46) : letB c = false := by unfold letB; rw [h]; rfl
section
variable (t : List UInt8) (ht : t.length ≤ 1099511627776) (w : World)
include ht
set_option maxRecDepth 100000 in
set_option maxHeartbeats 4000000 in
theorem number_way1 {n n1 : Nat} (hn : runL digB t = n) (hle : n ≤ t.length) (hn1 : n1 = n + 1) (h1 : ¬ n < t.length) : Calls Tryd.prog 84 #[.string (ba t)] w fun e w' => e = .returned (itemV (numberI t) 0 (numberI t).len) ∧ Below w.heap.size w w' := by
 have hsz := ba_size t
 have hu := Tryd.underlying70
 have hut := Tryd.underlying42
 have HI := Aside0.mk (Is7.start w)
 have hnum : numL t = (n, 3, false) := by
  unfold numL numN intL
  rw [hn, if_neg (fun h => h1 (by omega)), decide_eq_false h1]
  rfl
 have e : numberI t = tokI 3 t n false := by
  unfold numberI numberX
  rw [hnum]
  dsimp only
  rw [if_neg (fun h => by omega)]
 have HTK := Aside0.mk (token_calls 3 t n (by omega) false)
 rw [e]
 have HR := Aside0.mk (run_digit t ht)
 rw [hn] at HR
 have d1 : decide (n < t.length) = false := decide_eq_false (by omega)
 have d2 : decide (n1 < t.length) = false := decide_eq_false (by omega)
 have kw1 : IntKind.i64.wrap ((n : Int) + 1) = (n1 : Int) := kwI (by omega) (by omega)
 clear hnum e
 clear hn hn1
 go_enter Tryd.func84, Tryd.ntmps84
 go_wp2_with (first
  | (go_at_call 78; (with_reducible refine (HR.out _).mono ?_); rintro e w1 ⟨rfl, hd1⟩; have HI0 := HI; clear HI; have HI := Aside0.mk (HI0.out.keep hd1.below); clear HI0 hd1)
  | (go_at_call 82; (with_reducible refine (HTK.out _).mono ?_); rintro e w2 ⟨rfl, hb2⟩; have HIz := Aside0.mk (HI.out.keep hb2); obtain ⟨_, _, c0, c1, c2, c3, c4, c5, c6, f0, f1, f2, f3, f4, f5, f6⟩ := HIz.out; clear hb2))
 refine bodyPost_ret (HIz.out.results rfl _ rfl _ _ _ _ _ _ _) rfl ⟨rfl, HIz.out.set _ _ _ _ _ _ _⟩
set_option maxRecDepth 100000 in
set_option maxHeartbeats 4000000 in
theorem number_way2 {n n1 : Nat} (hn : runL digB t = n) (hle : n ≤ t.length) (hn1 : n1 = n + 1) {c : UInt8} (hc : t.getD n 0 = c) (h1 : n < t.length) (h46 : ¬ c.toNat = 46) (hx : n1 < t.length) (hL : letB c = true) : Calls Tryd.prog 84 #[.string (ba t)] w fun e w' => e = .returned (itemV (numberI t) 0 (numberI t).len) ∧ Below w.heap.size w w' := by
 have hsz := ba_size t
 have hu := Tryd.underlying70
 have hut := Tryd.underlying42
 have HI := Aside0.mk (Is7.start w)
 have hnum : numL t = (n, 3, true) := by
  unfold numL numN intL
  rw [hn, hc, if_neg (fun h => h46 h.2.1), decide_eq_true h1, decide_eq_false h46]
  rfl
 have HL := Aside0.mk (letter_byte c)
 rw [hL] at HL
 have e : numberI t = badI 7 true := by
  unfold numberI numberX
  rw [hnum]
  dsimp only
  rw [if_pos ⟨by omega, by rw [hc, hL]⟩]
 rw [e]
 have HR := Aside0.mk (run_digit t ht)
 rw [hn] at HR
 have d1 : decide (n < t.length) = true := decide_eq_true (by omega)
 have hPc := ba_at t n
 rw [hc] at hPc
 have mc : (n < (ba t).size) = True := eq_true (by omega)
 have kw1 : IntKind.i64.wrap ((n : Int) + 1) = (n1 : Int) := kwI (by omega) (by omega)
 have d2 : decide (n1 < t.length) = true := decide_eq_true (by omega)
 have qa : ((c.toNat : Int) == 46) = false := by rw [beq_eq_false_iff_ne]; omega
 have qb : (c.toNat == 46) = false := beq_eq_false_iff_ne.2 h46
 have qc : decide (c.toNat = 46) = false := decide_eq_false h46
 clear hnum e h46
 clear hn hn1
 go_enter Tryd.func84, Tryd.ntmps84
 go_wp2_with (first
  | (go_at_call 78; (with_reducible refine (HR.out _).mono ?_); rintro e w1 ⟨rfl, hd1⟩; have HI0 := HI; clear HI; have HI := Aside0.mk (HI0.out.keep hd1.below); clear HI0 hd1)
  | (go_at_call 71; (with_reducible refine (HL.out _).mono ?_); rintro e w1 ⟨rfl, hd1⟩; have HI0 := HI; clear HI; have HI := Aside0.mk (HI0.out.keep hd1.below); clear HI0 hd1)
  | (go_at_call 83; (with_reducible refine (wrong_calls _ _ _).mono ?_); rintro e w2 ⟨rfl, hb2⟩; have HIz := Aside0.mk (HI.out.keep hb2); obtain ⟨_, _, c0, c1, c2, c3, c4, c5, c6, f0, f1, f2, f3, f4, f5, f6⟩ := HIz.out; clear hb2))
 refine bodyPost_ret (HIz.out.results rfl _ rfl _ _ _ _ _ _ _) rfl ⟨rfl, HIz.out.set _ _ _ _ _ _ _⟩
set_option maxRecDepth 100000 in
set_option maxHeartbeats 4000000 in
theorem number_way3 {n n1 : Nat} (hn : runL digB t = n) (hle : n ≤ t.length) (hn1 : n1 = n + 1) {c : UInt8} (hc : t.getD n 0 = c) (h1 : n < t.length) (h46 : ¬ c.toNat = 46) (hx : n1 < t.length) (hL : letB c = false) : Calls Tryd.prog 84 #[.string (ba t)] w fun e w' => e = .returned (itemV (numberI t) 0 (numberI t).len) ∧ Below w.heap.size w w' := by
 have hsz := ba_size t
 have hu := Tryd.underlying70
 have hut := Tryd.underlying42
 have HI := Aside0.mk (Is7.start w)
 have hnum : numL t = (n, 3, true) := by
  unfold numL numN intL
  rw [hn, hc, if_neg (fun h => h46 h.2.1), decide_eq_true h1, decide_eq_false h46]
  rfl
 have HL := Aside0.mk (letter_byte c)
 rw [hL] at HL
 have e : numberI t = tokI 3 t n true := by
  unfold numberI numberX
  rw [hnum]
  dsimp only
  rw [if_neg (fun h => by have := h.2; rw [hc, hL] at this; cases this)]
 have HTK := Aside0.mk (token_calls 3 t n (by omega) true)
 rw [e]
 have HR := Aside0.mk (run_digit t ht)
 rw [hn] at HR
 have d1 : decide (n < t.length) = true := decide_eq_true (by omega)
 have hPc := ba_at t n
 rw [hc] at hPc
 have mc : (n < (ba t).size) = True := eq_true (by omega)
 have kw1 : IntKind.i64.wrap ((n : Int) + 1) = (n1 : Int) := kwI (by omega) (by omega)
 have d2 : decide (n1 < t.length) = true := decide_eq_true (by omega)
 have qa : ((c.toNat : Int) == 46) = false := by rw [beq_eq_false_iff_ne]; omega
 have qb : (c.toNat == 46) = false := beq_eq_false_iff_ne.2 h46
 have qc : decide (c.toNat = 46) = false := decide_eq_false h46
 clear hnum e h46
 clear hn hn1
 go_enter Tryd.func84, Tryd.ntmps84
 go_wp2_with (first
  | (go_at_call 78; (with_reducible refine (HR.out _).mono ?_); rintro e w1 ⟨rfl, hd1⟩; have HI0 := HI; clear HI; have HI := Aside0.mk (HI0.out.keep hd1.below); clear HI0 hd1)
  | (go_at_call 71; (with_reducible refine (HL.out _).mono ?_); rintro e w1 ⟨rfl, hd1⟩; have HI0 := HI; clear HI; have HI := Aside0.mk (HI0.out.keep hd1.below); clear HI0 hd1)
  | (go_at_call 82; (with_reducible refine (HTK.out _).mono ?_); rintro e w2 ⟨rfl, hb2⟩; have HIz := Aside0.mk (HI.out.keep hb2); obtain ⟨_, _, c0, c1, c2, c3, c4, c5, c6, f0, f1, f2, f3, f4, f5, f6⟩ := HIz.out; clear hb2))
 refine bodyPost_ret (HIz.out.results rfl _ rfl _ _ _ _ _ _ _) rfl ⟨rfl, HIz.out.set _ _ _ _ _ _ _⟩
set_option maxRecDepth 100000 in
set_option maxHeartbeats 4000000 in
theorem number_way4 {n n1 : Nat} (hn : runL digB t = n) (hle : n ≤ t.length) (hn1 : n1 = n + 1) {c : UInt8} (hc : t.getD n 0 = c) (h1 : n < t.length) (h46 : ¬ c.toNat = 46) (hx : ¬ n1 < t.length) (hL : letB c = true) : Calls Tryd.prog 84 #[.string (ba t)] w fun e w' => e = .returned (itemV (numberI t) 0 (numberI t).len) ∧ Below w.heap.size w w' := by
 have hsz := ba_size t
 have hu := Tryd.underlying70
 have hut := Tryd.underlying42
 have HI := Aside0.mk (Is7.start w)
 have hnum : numL t = (n, 3, true) := by
  unfold numL numN intL
  rw [hn, hc, if_neg (fun h => h46 h.2.1), decide_eq_true h1, decide_eq_false h46]
  rfl
 have HL := Aside0.mk (letter_byte c)
 rw [hL] at HL
 have e : numberI t = badI 7 true := by
  unfold numberI numberX
  rw [hnum]
  dsimp only
  rw [if_pos ⟨by omega, by rw [hc, hL]⟩]
 rw [e]
 have HR := Aside0.mk (run_digit t ht)
 rw [hn] at HR
 have d1 : decide (n < t.length) = true := decide_eq_true (by omega)
 have hPc := ba_at t n
 rw [hc] at hPc
 have mc : (n < (ba t).size) = True := eq_true (by omega)
 have kw1 : IntKind.i64.wrap ((n : Int) + 1) = (n1 : Int) := kwI (by omega) (by omega)
 have d2 : decide (n1 < t.length) = false := decide_eq_false (by omega)
 have qa : ((c.toNat : Int) == 46) = false := by rw [beq_eq_false_iff_ne]; omega
 have qb : (c.toNat == 46) = false := beq_eq_false_iff_ne.2 h46
 have qc : decide (c.toNat = 46) = false := decide_eq_false h46
 clear hnum e h46
 clear hn hn1
 go_enter Tryd.func84, Tryd.ntmps84
 go_wp2_with (first
  | (go_at_call 78; (with_reducible refine (HR.out _).mono ?_); rintro e w1 ⟨rfl, hd1⟩; have HI0 := HI; clear HI; have HI := Aside0.mk (HI0.out.keep hd1.below); clear HI0 hd1)
  | (go_at_call 71; (with_reducible refine (HL.out _).mono ?_); rintro e w1 ⟨rfl, hd1⟩; have HI0 := HI; clear HI; have HI := Aside0.mk (HI0.out.keep hd1.below); clear HI0 hd1)
  | (go_at_call 83; (with_reducible refine (wrong_calls _ _ _).mono ?_); rintro e w2 ⟨rfl, hb2⟩; have HIz := Aside0.mk (HI.out.keep hb2); obtain ⟨_, _, c0, c1, c2, c3, c4, c5, c6, f0, f1, f2, f3, f4, f5, f6⟩ := HIz.out; clear hb2))
 refine bodyPost_ret (HIz.out.results rfl _ rfl _ _ _ _ _ _ _) rfl ⟨rfl, HIz.out.set _ _ _ _ _ _ _⟩
set_option maxRecDepth 100000 in
set_option maxHeartbeats 4000000 in
theorem number_way5 {n n1 : Nat} (hn : runL digB t = n) (hle : n ≤ t.length) (hn1 : n1 = n + 1) {c : UInt8} (hc : t.getD n 0 = c) (h1 : n < t.length) (h46 : ¬ c.toNat = 46) (hx : ¬ n1 < t.length) (hL : letB c = false) : Calls Tryd.prog 84 #[.string (ba t)] w fun e w' => e = .returned (itemV (numberI t) 0 (numberI t).len) ∧ Below w.heap.size w w' := by
 have hsz := ba_size t
 have hu := Tryd.underlying70
 have hut := Tryd.underlying42
 have HI := Aside0.mk (Is7.start w)
 have hnum : numL t = (n, 3, true) := by
  unfold numL numN intL
  rw [hn, hc, if_neg (fun h => h46 h.2.1), decide_eq_true h1, decide_eq_false h46]
  rfl
 have HL := Aside0.mk (letter_byte c)
 rw [hL] at HL
 have e : numberI t = tokI 3 t n true := by
  unfold numberI numberX
  rw [hnum]
  dsimp only
  rw [if_neg (fun h => by have := h.2; rw [hc, hL] at this; cases this)]
 have HTK := Aside0.mk (token_calls 3 t n (by omega) true)
 rw [e]
 have HR := Aside0.mk (run_digit t ht)
 rw [hn] at HR
 have d1 : decide (n < t.length) = true := decide_eq_true (by omega)
 have hPc := ba_at t n
 rw [hc] at hPc
 have mc : (n < (ba t).size) = True := eq_true (by omega)
 have kw1 : IntKind.i64.wrap ((n : Int) + 1) = (n1 : Int) := kwI (by omega) (by omega)
 have d2 : decide (n1 < t.length) = false := decide_eq_false (by omega)
 have qa : ((c.toNat : Int) == 46) = false := by rw [beq_eq_false_iff_ne]; omega
 have qb : (c.toNat == 46) = false := beq_eq_false_iff_ne.2 h46
 have qc : decide (c.toNat = 46) = false := decide_eq_false h46
 clear hnum e h46
 clear hn hn1
 go_enter Tryd.func84, Tryd.ntmps84
 go_wp2_with (first
  | (go_at_call 78; (with_reducible refine (HR.out _).mono ?_); rintro e w1 ⟨rfl, hd1⟩; have HI0 := HI; clear HI; have HI := Aside0.mk (HI0.out.keep hd1.below); clear HI0 hd1)
  | (go_at_call 71; (with_reducible refine (HL.out _).mono ?_); rintro e w1 ⟨rfl, hd1⟩; have HI0 := HI; clear HI; have HI := Aside0.mk (HI0.out.keep hd1.below); clear HI0 hd1)
  | (go_at_call 82; (with_reducible refine (HTK.out _).mono ?_); rintro e w2 ⟨rfl, hb2⟩; have HIz := Aside0.mk (HI.out.keep hb2); obtain ⟨_, _, c0, c1, c2, c3, c4, c5, c6, f0, f1, f2, f3, f4, f5, f6⟩ := HIz.out; clear hb2))
 refine bodyPost_ret (HIz.out.results rfl _ rfl _ _ _ _ _ _ _) rfl ⟨rfl, HIz.out.set _ _ _ _ _ _ _⟩
set_option maxRecDepth 100000 in
set_option maxHeartbeats 4000000 in
theorem number_way6 {n n1 : Nat} (hn : runL digB t = n) (hle : n ≤ t.length) (hn1 : n1 = n + 1) {c : UInt8} (hc : t.getD n 0 = c) (h1 : n < t.length) (h46 : c.toNat = 46) (hx : n1 = t.length) (hL : letB c = false) : Calls Tryd.prog 84 #[.string (ba t)] w fun e w' => e = .returned (itemV (numberI t) 0 (numberI t).len) ∧ Below w.heap.size w w' := by
 have hsz := ba_size t
 have hu := Tryd.underlying70
 have hut := Tryd.underlying42
 have HI := Aside0.mk (Is7.start w)
 have hnum : numL t = (n, 3, false) := by
  unfold numL numN intL
  rw [hn, hc, if_neg (fun h => by omega), decide_eq_true h1, decide_eq_true h46, decide_eq_true (show n + 1 = t.length by omega)]
  rfl
 have HL := Aside0.mk (letter_byte c)
 rw [hL] at HL
 have e : numberI t = tokI 3 t n false := by
  unfold numberI numberX
  rw [hnum]
  dsimp only
  rw [if_neg (fun h => by have := h.2; rw [hc, hL] at this; cases this)]
 have HTK := Aside0.mk (token_calls 3 t n (by omega) false)
 rw [e]
 have HR := Aside0.mk (run_digit t ht)
 rw [hn] at HR
 have d1 : decide (n < t.length) = true := decide_eq_true (by omega)
 have hPc := ba_at t n
 rw [hc] at hPc
 have mc : (n < (ba t).size) = True := eq_true (by omega)
 have kw1 : IntKind.i64.wrap ((n : Int) + 1) = (n1 : Int) := kwI (by omega) (by omega)
 have d2 : decide (n1 < t.length) = false := decide_eq_false (by omega)
 have za : ((n1 : Int) == (t.length : Int)) = true := beq_int (by omega)
 have zb : (n1 == t.length) = true := beq_iff_eq.2 (by omega)
 have zc : decide (n1 = t.length) = true := decide_eq_true (by omega)
 have qa : ((c.toNat : Int) == 46) = true := by rw [h46]; rfl
 have qb : (c.toNat == 46) = true := by rw [h46]; rfl
 have qc : decide (c.toNat = 46) = true := by rw [h46]; rfl
 clear hnum e h46
 clear hn hn1 hx
 go_enter Tryd.func84, Tryd.ntmps84
 go_wp2_with (first
  | (go_at_call 78; (with_reducible refine (HR.out _).mono ?_); rintro e w1 ⟨rfl, hd1⟩; have HI0 := HI; clear HI; have HI := Aside0.mk (HI0.out.keep hd1.below); clear HI0 hd1)
  | (go_at_call 71; (with_reducible refine (HL.out _).mono ?_); rintro e w1 ⟨rfl, hd1⟩; have HI0 := HI; clear HI; have HI := Aside0.mk (HI0.out.keep hd1.below); clear HI0 hd1)
  | (go_at_call 82; (with_reducible refine (HTK.out _).mono ?_); rintro e w2 ⟨rfl, hb2⟩; have HIz := Aside0.mk (HI.out.keep hb2); obtain ⟨_, _, c0, c1, c2, c3, c4, c5, c6, f0, f1, f2, f3, f4, f5, f6⟩ := HIz.out; clear hb2))
 refine bodyPost_ret (HIz.out.results rfl _ rfl _ _ _ _ _ _ _) rfl ⟨rfl, HIz.out.set _ _ _ _ _ _ _⟩
set_option maxRecDepth 100000 in
set_option maxHeartbeats 4000000 in
theorem number_way7 {n n1 : Nat} (hn : runL digB t = n) (hle : n ≤ t.length) (hn1 : n1 = n + 1) {c : UInt8} (hc : t.getD n 0 = c) (h1 : n < t.length) (h46 : c.toNat = 46) (hx : n1 < t.length) {d : UInt8} (hd : t.getD n1 0 = d) (hD : digB d = false) (hL : letB c = false) : Calls Tryd.prog 84 #[.string (ba t)] w fun e w' => e = .returned (itemV (numberI t) 0 (numberI t).len) ∧ Below w.heap.size w w' := by
 have hsz := ba_size t
 have hu := Tryd.underlying70
 have hut := Tryd.underlying42
 have HI := Aside0.mk (Is7.start w)
 have hnum : numL t = (n, 3, true) := by
  have hd' : t.getD (n + 1) 0 = d := by rw [← hn1]; exact hd
  unfold numL numN intL
  rw [hn, hc, hd', if_neg (fun h => by rw [hD] at h; cases h.2.2), decide_eq_true h1, decide_eq_false (show ¬ n + 1 = t.length by omega)]
  simp
 have HL := Aside0.mk (letter_byte c)
 rw [hL] at HL
 have e : numberI t = tokI 3 t n true := by
  unfold numberI numberX
  rw [hnum]
  dsimp only
  rw [if_neg (fun h => by have := h.2; rw [hc, hL] at this; cases this)]
 have HTK := Aside0.mk (token_calls 3 t n (by omega) true)
 rw [e]
 have HR := Aside0.mk (run_digit t ht)
 rw [hn] at HR
 have d1 : decide (n < t.length) = true := decide_eq_true (by omega)
 have hPc := ba_at t n
 rw [hc] at hPc
 have mc : (n < (ba t).size) = True := eq_true (by omega)
 have kw1 : IntKind.i64.wrap ((n : Int) + 1) = (n1 : Int) := kwI (by omega) (by omega)
 have d2 : decide (n1 < t.length) = true := decide_eq_true (by omega)
 have za : ((n1 : Int) == (t.length : Int)) = false := bne_int (by omega)
 have zb : (n1 == t.length) = false := beq_eq_false_iff_ne.2 (by omega)
 have zc : decide (n1 = t.length) = false := decide_eq_false (by omega)
 have qa : ((c.toNat : Int) == 46) = true := by rw [h46]; rfl
 have qb : (c.toNat == 46) = true := by rw [h46]; rfl
 have qc : decide (c.toNat = 46) = true := by rw [h46]; rfl
 have hPd := ba_at t n1
 rw [hd] at hPd
 have md : (n1 < (ba t).size) = True := eq_true (by omega)
 have HD := Aside0.mk (digit_byte d)
 rw [hD] at HD
 clear hnum e h46
 clear hn hn1
 go_enter Tryd.func84, Tryd.ntmps84
 go_wp2_with (first
  | (go_at_call 78; (with_reducible refine (HR.out _).mono ?_); rintro e w1 ⟨rfl, hd1⟩; have HI0 := HI; clear HI; have HI := Aside0.mk (HI0.out.keep hd1.below); clear HI0 hd1)
  | (go_at_call 80; (with_reducible refine (HD.out _).mono ?_); rintro e w1 ⟨rfl, hd1⟩; have HI0 := HI; clear HI; have HI := Aside0.mk (HI0.out.keep hd1.below); clear HI0 hd1)
  | (go_at_call 71; (with_reducible refine (HL.out _).mono ?_); rintro e w1 ⟨rfl, hd1⟩; have HI0 := HI; clear HI; have HI := Aside0.mk (HI0.out.keep hd1.below); clear HI0 hd1)
  | (go_at_call 82; (with_reducible refine (HTK.out _).mono ?_); rintro e w2 ⟨rfl, hb2⟩; have HIz := Aside0.mk (HI.out.keep hb2); obtain ⟨_, _, c0, c1, c2, c3, c4, c5, c6, f0, f1, f2, f3, f4, f5, f6⟩ := HIz.out; clear hb2))
 refine bodyPost_ret (HIz.out.results rfl _ rfl _ _ _ _ _ _ _) rfl ⟨rfl, HIz.out.set _ _ _ _ _ _ _⟩
set_option maxRecDepth 100000 in
set_option maxHeartbeats 4000000 in
theorem number_way8 {n n1 : Nat} (hn : runL digB t = n) (hle : n ≤ t.length) (hn1 : n1 = n + 1) {c : UInt8} (hc : t.getD n 0 = c) (h1 : n < t.length) (h46 : c.toNat = 46) (hx : n1 < t.length) {d : UInt8} (hd : t.getD n1 0 = d) (hD : digB d = true) {r2 q m : Nat} (hr2 : runL digB (t.drop n1) = r2) (hq : q = 1 + r2) (hm : m = n + q) (hml : m ≤ t.length) (h2 : m = t.length) : Calls Tryd.prog 84 #[.string (ba t)] w fun e w' => e = .returned (itemV (numberI t) 0 (numberI t).len) ∧ Below w.heap.size w w' := by
 have hsz := ba_size t
 have hu := Tryd.underlying70
 have hut := Tryd.underlying42
 have HI := Aside0.mk (Is7.start w)
 have hnum : numL t = (m, 4, false) := by
  have hd' : t.getD (n + 1) 0 = d := by rw [← hn1]; exact hd
  have hr' : runL digB (t.drop (n + 1)) = r2 := by rw [← hn1]; exact hr2
  have hcond : n + 1 < t.length ∧ c.toNat = 46 ∧ digB d = true := ⟨by omega, h46, hD⟩
  unfold numL numN
  rw [hn, hc, hd', if_pos hcond, hr', show n + 1 + r2 = m by omega]
  unfold realL
  rw [if_neg (fun h => by omega), decide_eq_false (by omega)]
 have e : numberI t = tokI 4 t m false := by
  unfold numberI numberX
  rw [hnum]
  dsimp only
  rw [if_neg (fun h => by omega)]
 have HTK := Aside0.mk (token_calls 4 t m (by omega) false)
 rw [e]
 have HR := Aside0.mk (run_digit t ht)
 rw [hn] at HR
 have d1 : decide (n < t.length) = true := decide_eq_true (by omega)
 have hPc := ba_at t n
 rw [hc] at hPc
 have mc : (n < (ba t).size) = True := eq_true (by omega)
 have kw1 : IntKind.i64.wrap ((n : Int) + 1) = (n1 : Int) := kwI (by omega) (by omega)
 have d2 : decide (n1 < t.length) = true := decide_eq_true (by omega)
 have za : ((n1 : Int) == (t.length : Int)) = false := bne_int (by omega)
 have zb : (n1 == t.length) = false := beq_eq_false_iff_ne.2 (by omega)
 have zc : decide (n1 = t.length) = false := decide_eq_false (by omega)
 have qa : ((c.toNat : Int) == 46) = true := by rw [h46]; rfl
 have qb : (c.toNat == 46) = true := by rw [h46]; rfl
 have qc : decide (c.toNat = 46) = true := by rw [h46]; rfl
 have hPd := ba_at t n1
 rw [hd] at hPd
 have md : (n1 < (ba t).size) = True := eq_true (by omega)
 have HD := Aside0.mk (digit_byte d)
 rw [hD] at HD
 have HR2 := Aside0.mk (run_digit (t.drop n1) (by rw [List.length_drop]; omega))
 rw [hr2] at HR2
 have hsl := fun W => str_low t n1 (by omega) W
 have kw2 : IntKind.i64.wrap (1 + (r2 : Int)) = (q : Int) := kwI (by omega) (by omega)
 have kw3 : IntKind.i64.wrap ((n : Int) + (q : Int)) = (m : Int) := kwI (by omega) (by omega)
 have d3 : decide (m < t.length) = false := decide_eq_false (by omega)
 clear hnum e h46
 clear hn hn1 hr2 hq hm h2
 go_enter Tryd.func84, Tryd.ntmps84
 go_wp2_with (first
  | (go_at_call 78; (with_reducible refine (HR.out _).mono ?_); rintro e w1 ⟨rfl, hd1⟩; have HI0 := HI; clear HI; have HI := Aside0.mk (HI0.out.keep hd1.below); clear HI0 hd1)
  | (go_at_call 78; (with_reducible refine (HR2.out _).mono ?_); rintro e w1 ⟨rfl, hd1⟩; have HI0 := HI; clear HI; have HI := Aside0.mk (HI0.out.keep hd1.below); clear HI0 hd1)
  | (go_at_call 80; (with_reducible refine (HD.out _).mono ?_); rintro e w1 ⟨rfl, hd1⟩; have HI0 := HI; clear HI; have HI := Aside0.mk (HI0.out.keep hd1.below); clear HI0 hd1)
  | (go_at_call 82; (with_reducible refine (HTK.out _).mono ?_); rintro e w2 ⟨rfl, hb2⟩; have HIz := Aside0.mk (HI.out.keep hb2); obtain ⟨_, _, c0, c1, c2, c3, c4, c5, c6, f0, f1, f2, f3, f4, f5, f6⟩ := HIz.out; clear hb2))
 refine bodyPost_ret (HIz.out.results rfl _ rfl _ _ _ _ _ _ _) rfl ⟨rfl, HIz.out.set _ _ _ _ _ _ _⟩
set_option maxRecDepth 100000 in
set_option maxHeartbeats 4000000 in
theorem number_way9 {n n1 : Nat} (hn : runL digB t = n) (hle : n ≤ t.length) (hn1 : n1 = n + 1) {c : UInt8} (hc : t.getD n 0 = c) (h1 : n < t.length) (h46 : c.toNat = 46) (hx : n1 < t.length) {d : UInt8} (hd : t.getD n1 0 = d) (hD : digB d = true) {r2 q m : Nat} (hr2 : runL digB (t.drop n1) = r2) (hq : q = 1 + r2) (hm : m = n + q) (hml : m ≤ t.length) (h2 : m < t.length) {x : UInt8} (hxx : t.getD m 0 = x) (h101 : ¬ x.toNat = 101) (hL : letB x = true) : Calls Tryd.prog 84 #[.string (ba t)] w fun e w' => e = .returned (itemV (numberI t) 0 (numberI t).len) ∧ Below w.heap.size w w' := by
 have hsz := ba_size t
 have hu := Tryd.underlying70
 have hut := Tryd.underlying42
 have HI := Aside0.mk (Is7.start w)
 have hnum : numL t = (m, 4, true) := by
  have hd' : t.getD (n + 1) 0 = d := by rw [← hn1]; exact hd
  have hr' : runL digB (t.drop (n + 1)) = r2 := by rw [← hn1]; exact hr2
  have hcond : n + 1 < t.length ∧ c.toNat = 46 ∧ digB d = true := ⟨by omega, h46, hD⟩
  unfold numL numN
  rw [hn, hc, hd', if_pos hcond, hr', show n + 1 + r2 = m by omega]
  unfold realL
  rw [hxx, if_neg (fun h => h101 h.2), decide_eq_true h2]
 have HL := Aside0.mk (letter_byte x)
 rw [hL] at HL
 have e : numberI t = badI 7 true := by
  unfold numberI numberX
  rw [hnum]
  dsimp only
  rw [if_pos ⟨by omega, by rw [hxx, hL]⟩]
 rw [e]
 have HR := Aside0.mk (run_digit t ht)
 rw [hn] at HR
 have d1 : decide (n < t.length) = true := decide_eq_true (by omega)
 have hPc := ba_at t n
 rw [hc] at hPc
 have mc : (n < (ba t).size) = True := eq_true (by omega)
 have kw1 : IntKind.i64.wrap ((n : Int) + 1) = (n1 : Int) := kwI (by omega) (by omega)
 have d2 : decide (n1 < t.length) = true := decide_eq_true (by omega)
 have za : ((n1 : Int) == (t.length : Int)) = false := bne_int (by omega)
 have zb : (n1 == t.length) = false := beq_eq_false_iff_ne.2 (by omega)
 have zc : decide (n1 = t.length) = false := decide_eq_false (by omega)
 have qa : ((c.toNat : Int) == 46) = true := by rw [h46]; rfl
 have qb : (c.toNat == 46) = true := by rw [h46]; rfl
 have qc : decide (c.toNat = 46) = true := by rw [h46]; rfl
 have hPd := ba_at t n1
 rw [hd] at hPd
 have md : (n1 < (ba t).size) = True := eq_true (by omega)
 have HD := Aside0.mk (digit_byte d)
 rw [hD] at HD
 have HR2 := Aside0.mk (run_digit (t.drop n1) (by rw [List.length_drop]; omega))
 rw [hr2] at HR2
 have hsl := fun W => str_low t n1 (by omega) W
 have kw2 : IntKind.i64.wrap (1 + (r2 : Int)) = (q : Int) := kwI (by omega) (by omega)
 have kw3 : IntKind.i64.wrap ((n : Int) + (q : Int)) = (m : Int) := kwI (by omega) (by omega)
 have d3 : decide (m < t.length) = true := decide_eq_true (by omega)
 have hPx := ba_at t m
 rw [hxx] at hPx
 have mx : (m < (ba t).size) = True := eq_true (by omega)
 have pa : ((x.toNat : Int) == 101) = false := by rw [beq_eq_false_iff_ne]; omega
 have pb : (x.toNat == 101) = false := beq_eq_false_iff_ne.2 h101
 have pc : decide (x.toNat = 101) = false := decide_eq_false h101
 clear hnum e h46 h101
 clear hn hn1 hr2 hq hm
 go_enter Tryd.func84, Tryd.ntmps84
 go_wp2_with (first
  | (go_at_call 78; (with_reducible refine (HR.out _).mono ?_); rintro e w1 ⟨rfl, hd1⟩; have HI0 := HI; clear HI; have HI := Aside0.mk (HI0.out.keep hd1.below); clear HI0 hd1)
  | (go_at_call 78; (with_reducible refine (HR2.out _).mono ?_); rintro e w1 ⟨rfl, hd1⟩; have HI0 := HI; clear HI; have HI := Aside0.mk (HI0.out.keep hd1.below); clear HI0 hd1)
  | (go_at_call 80; (with_reducible refine (HD.out _).mono ?_); rintro e w1 ⟨rfl, hd1⟩; have HI0 := HI; clear HI; have HI := Aside0.mk (HI0.out.keep hd1.below); clear HI0 hd1)
  | (go_at_call 71; (with_reducible refine (HL.out _).mono ?_); rintro e w1 ⟨rfl, hd1⟩; have HI0 := HI; clear HI; have HI := Aside0.mk (HI0.out.keep hd1.below); clear HI0 hd1)
  | (go_at_call 83; (with_reducible refine (wrong_calls _ _ _).mono ?_); rintro e w2 ⟨rfl, hb2⟩; have HIz := Aside0.mk (HI.out.keep hb2); obtain ⟨_, _, c0, c1, c2, c3, c4, c5, c6, f0, f1, f2, f3, f4, f5, f6⟩ := HIz.out; clear hb2))
 refine bodyPost_ret (HIz.out.results rfl _ rfl _ _ _ _ _ _ _) rfl ⟨rfl, HIz.out.set _ _ _ _ _ _ _⟩
set_option maxRecDepth 100000 in
set_option maxHeartbeats 4000000 in
theorem number_way10 {n n1 : Nat} (hn : runL digB t = n) (hle : n ≤ t.length) (hn1 : n1 = n + 1) {c : UInt8} (hc : t.getD n 0 = c) (h1 : n < t.length) (h46 : c.toNat = 46) (hx : n1 < t.length) {d : UInt8} (hd : t.getD n1 0 = d) (hD : digB d = true) {r2 q m : Nat} (hr2 : runL digB (t.drop n1) = r2) (hq : q = 1 + r2) (hm : m = n + q) (hml : m ≤ t.length) (h2 : m < t.length) {x : UInt8} (hxx : t.getD m 0 = x) (h101 : ¬ x.toNat = 101) (hL : letB x = false) : Calls Tryd.prog 84 #[.string (ba t)] w fun e w' => e = .returned (itemV (numberI t) 0 (numberI t).len) ∧ Below w.heap.size w w' := by
 have hsz := ba_size t
 have hu := Tryd.underlying70
 have hut := Tryd.underlying42
 have HI := Aside0.mk (Is7.start w)
 have hnum : numL t = (m, 4, true) := by
  have hd' : t.getD (n + 1) 0 = d := by rw [← hn1]; exact hd
  have hr' : runL digB (t.drop (n + 1)) = r2 := by rw [← hn1]; exact hr2
  have hcond : n + 1 < t.length ∧ c.toNat = 46 ∧ digB d = true := ⟨by omega, h46, hD⟩
  unfold numL numN
  rw [hn, hc, hd', if_pos hcond, hr', show n + 1 + r2 = m by omega]
  unfold realL
  rw [hxx, if_neg (fun h => h101 h.2), decide_eq_true h2]
 have HL := Aside0.mk (letter_byte x)
 rw [hL] at HL
 have e : numberI t = tokI 4 t m true := by
  unfold numberI numberX
  rw [hnum]
  dsimp only
  rw [if_neg (fun h => by have := h.2; rw [hxx, hL] at this; cases this)]
 have HTK := Aside0.mk (token_calls 4 t m (by omega) true)
 rw [e]
 have HR := Aside0.mk (run_digit t ht)
 rw [hn] at HR
 have d1 : decide (n < t.length) = true := decide_eq_true (by omega)
 have hPc := ba_at t n
 rw [hc] at hPc
 have mc : (n < (ba t).size) = True := eq_true (by omega)
 have kw1 : IntKind.i64.wrap ((n : Int) + 1) = (n1 : Int) := kwI (by omega) (by omega)
 have d2 : decide (n1 < t.length) = true := decide_eq_true (by omega)
 have za : ((n1 : Int) == (t.length : Int)) = false := bne_int (by omega)
 have zb : (n1 == t.length) = false := beq_eq_false_iff_ne.2 (by omega)
 have zc : decide (n1 = t.length) = false := decide_eq_false (by omega)
 have qa : ((c.toNat : Int) == 46) = true := by rw [h46]; rfl
 have qb : (c.toNat == 46) = true := by rw [h46]; rfl
 have qc : decide (c.toNat = 46) = true := by rw [h46]; rfl
 have hPd := ba_at t n1
 rw [hd] at hPd
 have md : (n1 < (ba t).size) = True := eq_true (by omega)
 have HD := Aside0.mk (digit_byte d)
 rw [hD] at HD
 have HR2 := Aside0.mk (run_digit (t.drop n1) (by rw [List.length_drop]; omega))
 rw [hr2] at HR2
 have hsl := fun W => str_low t n1 (by omega) W
 have kw2 : IntKind.i64.wrap (1 + (r2 : Int)) = (q : Int) := kwI (by omega) (by omega)
 have kw3 : IntKind.i64.wrap ((n : Int) + (q : Int)) = (m : Int) := kwI (by omega) (by omega)
 have d3 : decide (m < t.length) = true := decide_eq_true (by omega)
 have hPx := ba_at t m
 rw [hxx] at hPx
 have mx : (m < (ba t).size) = True := eq_true (by omega)
 have pa : ((x.toNat : Int) == 101) = false := by rw [beq_eq_false_iff_ne]; omega
 have pb : (x.toNat == 101) = false := beq_eq_false_iff_ne.2 h101
 have pc : decide (x.toNat = 101) = false := decide_eq_false h101
 clear hnum e h46 h101
 clear hn hn1 hr2 hq hm
 go_enter Tryd.func84, Tryd.ntmps84
 go_wp2_with (first
  | (go_at_call 78; (with_reducible refine (HR.out _).mono ?_); rintro e w1 ⟨rfl, hd1⟩; have HI0 := HI; clear HI; have HI := Aside0.mk (HI0.out.keep hd1.below); clear HI0 hd1)
  | (go_at_call 78; (with_reducible refine (HR2.out _).mono ?_); rintro e w1 ⟨rfl, hd1⟩; have HI0 := HI; clear HI; have HI := Aside0.mk (HI0.out.keep hd1.below); clear HI0 hd1)
  | (go_at_call 80; (with_reducible refine (HD.out _).mono ?_); rintro e w1 ⟨rfl, hd1⟩; have HI0 := HI; clear HI; have HI := Aside0.mk (HI0.out.keep hd1.below); clear HI0 hd1)
  | (go_at_call 71; (with_reducible refine (HL.out _).mono ?_); rintro e w1 ⟨rfl, hd1⟩; have HI0 := HI; clear HI; have HI := Aside0.mk (HI0.out.keep hd1.below); clear HI0 hd1)
  | (go_at_call 82; (with_reducible refine (HTK.out _).mono ?_); rintro e w2 ⟨rfl, hb2⟩; have HIz := Aside0.mk (HI.out.keep hb2); obtain ⟨_, _, c0, c1, c2, c3, c4, c5, c6, f0, f1, f2, f3, f4, f5, f6⟩ := HIz.out; clear hb2))
 refine bodyPost_ret (HIz.out.results rfl _ rfl _ _ _ _ _ _ _) rfl ⟨rfl, HIz.out.set _ _ _ _ _ _ _⟩
set_option maxRecDepth 100000 in
set_option maxHeartbeats 4000000 in
theorem number_way11 {n n1 : Nat} (hn : runL digB t = n) (hle : n ≤ t.length) (hn1 : n1 = n + 1) {c : UInt8} (hc : t.getD n 0 = c) (h1 : n < t.length) (h46 : c.toNat = 46) (hx : n1 < t.length) {d : UInt8} (hd : t.getD n1 0 = d) (hD : digB d = true) {r2 q m : Nat} (hr2 : runL digB (t.drop n1) = r2) (hq : q = 1 + r2) (hm : m = n + q) (hml : m ≤ t.length) (h2 : m < t.length) {x : UInt8} (hxx : t.getD m 0 = x) (h101 : x.toNat = 101) (hL : letB x = true) {k1 : Nat} (hk1 : k1 = m + 1) (h3 : k1 = t.length) : Calls Tryd.prog 84 #[.string (ba t)] w fun e w' => e = .returned (itemV (numberI t) 0 (numberI t).len) ∧ Below w.heap.size w w' := by
 have hsz := ba_size t
 have hu := Tryd.underlying70
 have hut := Tryd.underlying42
 have HI := Aside0.mk (Is7.start w)
 have hnum : numL t = (m, 4, false) := by
  have hd' : t.getD (n + 1) 0 = d := by rw [← hn1]; exact hd
  have hr' : runL digB (t.drop (n + 1)) = r2 := by rw [← hn1]; exact hr2
  have hcond : n + 1 < t.length ∧ c.toNat = 46 ∧ digB d = true := ⟨by omega, h46, hD⟩
  unfold numL numN
  rw [hn, hc, hd', if_pos hcond, hr', show n + 1 + r2 = m by omega]
  have hcx : m < t.length ∧ x.toNat = 101 := ⟨h2, h101⟩
  unfold realL
  rw [hxx, if_pos hcx]
  unfold expL
  have hat : expAt t m = m + 1 := by
   unfold expAt
   rw [getD_out (by omega), if_neg (by decide)]
  rw [hat]
  unfold expK
  rw [if_neg (by omega)]
 have HL := Aside0.mk (letter_byte x)
 rw [hL] at HL
 have e : numberI t = badI 7 false := by
  unfold numberI numberX
  rw [hnum]
  dsimp only
  rw [if_pos ⟨by omega, by rw [hxx, hL]⟩]
 rw [e]
 have HR := Aside0.mk (run_digit t ht)
 rw [hn] at HR
 have d1 : decide (n < t.length) = true := decide_eq_true (by omega)
 have hPc := ba_at t n
 rw [hc] at hPc
 have mc : (n < (ba t).size) = True := eq_true (by omega)
 have kw1 : IntKind.i64.wrap ((n : Int) + 1) = (n1 : Int) := kwI (by omega) (by omega)
 have d2 : decide (n1 < t.length) = true := decide_eq_true (by omega)
 have za : ((n1 : Int) == (t.length : Int)) = false := bne_int (by omega)
 have zb : (n1 == t.length) = false := beq_eq_false_iff_ne.2 (by omega)
 have zc : decide (n1 = t.length) = false := decide_eq_false (by omega)
 have qa : ((c.toNat : Int) == 46) = true := by rw [h46]; rfl
 have qb : (c.toNat == 46) = true := by rw [h46]; rfl
 have qc : decide (c.toNat = 46) = true := by rw [h46]; rfl
 have hPd := ba_at t n1
 rw [hd] at hPd
 have md : (n1 < (ba t).size) = True := eq_true (by omega)
 have HD := Aside0.mk (digit_byte d)
 rw [hD] at HD
 have HR2 := Aside0.mk (run_digit (t.drop n1) (by rw [List.length_drop]; omega))
 rw [hr2] at HR2
 have hsl := fun W => str_low t n1 (by omega) W
 have kw2 : IntKind.i64.wrap (1 + (r2 : Int)) = (q : Int) := kwI (by omega) (by omega)
 have kw3 : IntKind.i64.wrap ((n : Int) + (q : Int)) = (m : Int) := kwI (by omega) (by omega)
 have d3 : decide (m < t.length) = true := decide_eq_true (by omega)
 have hPx := ba_at t m
 rw [hxx] at hPx
 have mx : (m < (ba t).size) = True := eq_true (by omega)
 have pa : ((x.toNat : Int) == 101) = true := by rw [h101]; rfl
 have pb : (x.toNat == 101) = true := by rw [h101]; rfl
 have pc : decide (x.toNat = 101) = true := by rw [h101]; rfl
 have kw4 : IntKind.i64.wrap ((m : Int) + 1) = (k1 : Int) := kwI (by omega) (by omega)
 have d4 : decide (k1 < t.length) = false := decide_eq_false (by omega)
 clear hnum e h46 h101
 clear hn hn1 hr2 hq hm hk1 h3
 go_enter Tryd.func84, Tryd.ntmps84
 go_wp2_with (first
  | (go_at_call 78; (with_reducible refine (HR.out _).mono ?_); rintro e w1 ⟨rfl, hd1⟩; have HI0 := HI; clear HI; have HI := Aside0.mk (HI0.out.keep hd1.below); clear HI0 hd1)
  | (go_at_call 78; (with_reducible refine (HR2.out _).mono ?_); rintro e w1 ⟨rfl, hd1⟩; have HI0 := HI; clear HI; have HI := Aside0.mk (HI0.out.keep hd1.below); clear HI0 hd1)
  | (go_at_call 80; (with_reducible refine (HD.out _).mono ?_); rintro e w1 ⟨rfl, hd1⟩; have HI0 := HI; clear HI; have HI := Aside0.mk (HI0.out.keep hd1.below); clear HI0 hd1)
  | (go_at_call 71; (with_reducible refine (HL.out _).mono ?_); rintro e w1 ⟨rfl, hd1⟩; have HI0 := HI; clear HI; have HI := Aside0.mk (HI0.out.keep hd1.below); clear HI0 hd1)
  | (go_at_call 83; (with_reducible refine (wrong_calls _ _ _).mono ?_); rintro e w2 ⟨rfl, hb2⟩; have HIz := Aside0.mk (HI.out.keep hb2); obtain ⟨_, _, c0, c1, c2, c3, c4, c5, c6, f0, f1, f2, f3, f4, f5, f6⟩ := HIz.out; clear hb2))
 refine bodyPost_ret (HIz.out.results rfl _ rfl _ _ _ _ _ _ _) rfl ⟨rfl, HIz.out.set _ _ _ _ _ _ _⟩
set_option maxRecDepth 100000 in
set_option maxHeartbeats 4000000 in
theorem number_way12 {n n1 : Nat} (hn : runL digB t = n) (hle : n ≤ t.length) (hn1 : n1 = n + 1) {c : UInt8} (hc : t.getD n 0 = c) (h1 : n < t.length) (h46 : c.toNat = 46) (hx : n1 < t.length) {d : UInt8} (hd : t.getD n1 0 = d) (hD : digB d = true) {r2 q m : Nat} (hr2 : runL digB (t.drop n1) = r2) (hq : q = 1 + r2) (hm : m = n + q) (hml : m ≤ t.length) (h2 : m < t.length) {x : UInt8} (hxx : t.getD m 0 = x) (h101 : x.toNat = 101) (hL : letB x = true) {k1 : Nat} (hk1 : k1 = m + 1) (h3 : k1 < t.length) {y : UInt8} (hy : t.getD k1 0 = y) (h43 : y.toNat = 43) {k2 : Nat} (hk2 : k2 = k1 + 1) (h4 : k2 = t.length) : Calls Tryd.prog 84 #[.string (ba t)] w fun e w' => e = .returned (itemV (numberI t) 0 (numberI t).len) ∧ Below w.heap.size w w' := by
 have hsz := ba_size t
 have hu := Tryd.underlying70
 have hut := Tryd.underlying42
 have HI := Aside0.mk (Is7.start w)
 have hnum : numL t = (m, 4, false) := by
  have hd' : t.getD (n + 1) 0 = d := by rw [← hn1]; exact hd
  have hr' : runL digB (t.drop (n + 1)) = r2 := by rw [← hn1]; exact hr2
  have hcond : n + 1 < t.length ∧ c.toNat = 46 ∧ digB d = true := ⟨by omega, h46, hD⟩
  unfold numL numN
  rw [hn, hc, hd', if_pos hcond, hr', show n + 1 + r2 = m by omega]
  have hcx : m < t.length ∧ x.toNat = 101 := ⟨h2, h101⟩
  unfold realL
  rw [hxx, if_pos hcx]
  unfold expL
  have hy' : t.getD (m + 1) 0 = y := by rw [← hk1]; exact hy
  have hat : expAt t m = k2 := by
   unfold expAt
   rw [hy', if_pos (by omega)]
   omega
  rw [hat]
  unfold expK
  rw [if_neg (by omega)]
 have HL := Aside0.mk (letter_byte x)
 rw [hL] at HL
 have e : numberI t = badI 7 false := by
  unfold numberI numberX
  rw [hnum]
  dsimp only
  rw [if_pos ⟨by omega, by rw [hxx, hL]⟩]
 rw [e]
 have HR := Aside0.mk (run_digit t ht)
 rw [hn] at HR
 have d1 : decide (n < t.length) = true := decide_eq_true (by omega)
 have hPc := ba_at t n
 rw [hc] at hPc
 have mc : (n < (ba t).size) = True := eq_true (by omega)
 have kw1 : IntKind.i64.wrap ((n : Int) + 1) = (n1 : Int) := kwI (by omega) (by omega)
 have d2 : decide (n1 < t.length) = true := decide_eq_true (by omega)
 have za : ((n1 : Int) == (t.length : Int)) = false := bne_int (by omega)
 have zb : (n1 == t.length) = false := beq_eq_false_iff_ne.2 (by omega)
 have zc : decide (n1 = t.length) = false := decide_eq_false (by omega)
 have qa : ((c.toNat : Int) == 46) = true := by rw [h46]; rfl
 have qb : (c.toNat == 46) = true := by rw [h46]; rfl
 have qc : decide (c.toNat = 46) = true := by rw [h46]; rfl
 have hPd := ba_at t n1
 rw [hd] at hPd
 have md : (n1 < (ba t).size) = True := eq_true (by omega)
 have HD := Aside0.mk (digit_byte d)
 rw [hD] at HD
 have HR2 := Aside0.mk (run_digit (t.drop n1) (by rw [List.length_drop]; omega))
 rw [hr2] at HR2
 have hsl := fun W => str_low t n1 (by omega) W
 have kw2 : IntKind.i64.wrap (1 + (r2 : Int)) = (q : Int) := kwI (by omega) (by omega)
 have kw3 : IntKind.i64.wrap ((n : Int) + (q : Int)) = (m : Int) := kwI (by omega) (by omega)
 have d3 : decide (m < t.length) = true := decide_eq_true (by omega)
 have hPx := ba_at t m
 rw [hxx] at hPx
 have mx : (m < (ba t).size) = True := eq_true (by omega)
 have pa : ((x.toNat : Int) == 101) = true := by rw [h101]; rfl
 have pb : (x.toNat == 101) = true := by rw [h101]; rfl
 have pc : decide (x.toNat = 101) = true := by rw [h101]; rfl
 have kw4 : IntKind.i64.wrap ((m : Int) + 1) = (k1 : Int) := kwI (by omega) (by omega)
 have d4 : decide (k1 < t.length) = true := decide_eq_true (by omega)
 have hPy := ba_at t k1
 rw [hy] at hPy
 have my : (k1 < (ba t).size) = True := eq_true (by omega)
 have ua : ((y.toNat : Int) == 43) = true := by rw [h43]; rfl
 have ub : (y.toNat == 43) = true := by rw [h43]; rfl
 have uc : decide (y.toNat = 43) = true := by rw [h43]; rfl
 have kw5 : IntKind.i64.wrap ((k1 : Int) + 1) = (k2 : Int) := kwI (by omega) (by omega)
 have d5 : decide (k2 < t.length) = false := decide_eq_false (by omega)
 clear hnum e h46 h101 h43
 clear hn hn1 hr2 hq hm hk1 hk2 h4
 go_enter Tryd.func84, Tryd.ntmps84
 go_wp2_with (first
  | (go_at_call 78; (with_reducible refine (HR.out _).mono ?_); rintro e w1 ⟨rfl, hd1⟩; have HI0 := HI; clear HI; have HI := Aside0.mk (HI0.out.keep hd1.below); clear HI0 hd1)
  | (go_at_call 78; (with_reducible refine (HR2.out _).mono ?_); rintro e w1 ⟨rfl, hd1⟩; have HI0 := HI; clear HI; have HI := Aside0.mk (HI0.out.keep hd1.below); clear HI0 hd1)
  | (go_at_call 80; (with_reducible refine (HD.out _).mono ?_); rintro e w1 ⟨rfl, hd1⟩; have HI0 := HI; clear HI; have HI := Aside0.mk (HI0.out.keep hd1.below); clear HI0 hd1)
  | (go_at_call 71; (with_reducible refine (HL.out _).mono ?_); rintro e w1 ⟨rfl, hd1⟩; have HI0 := HI; clear HI; have HI := Aside0.mk (HI0.out.keep hd1.below); clear HI0 hd1)
  | (go_at_call 83; (with_reducible refine (wrong_calls _ _ _).mono ?_); rintro e w2 ⟨rfl, hb2⟩; have HIz := Aside0.mk (HI.out.keep hb2); obtain ⟨_, _, c0, c1, c2, c3, c4, c5, c6, f0, f1, f2, f3, f4, f5, f6⟩ := HIz.out; clear hb2))
 refine bodyPost_ret (HIz.out.results rfl _ rfl _ _ _ _ _ _ _) rfl ⟨rfl, HIz.out.set _ _ _ _ _ _ _⟩
set_option maxRecDepth 100000 in
set_option maxHeartbeats 4000000 in
theorem number_way13 {n n1 : Nat} (hn : runL digB t = n) (hle : n ≤ t.length) (hn1 : n1 = n + 1) {c : UInt8} (hc : t.getD n 0 = c) (h1 : n < t.length) (h46 : c.toNat = 46) (hx : n1 < t.length) {d : UInt8} (hd : t.getD n1 0 = d) (hD : digB d = true) {r2 q m : Nat} (hr2 : runL digB (t.drop n1) = r2) (hq : q = 1 + r2) (hm : m = n + q) (hml : m ≤ t.length) (h2 : m < t.length) {x : UInt8} (hxx : t.getD m 0 = x) (h101 : x.toNat = 101) (hL : letB x = true) {k1 : Nat} (hk1 : k1 = m + 1) (h3 : k1 < t.length) {y : UInt8} (hy : t.getD k1 0 = y) (h43 : y.toNat = 43) {k2 : Nat} (hk2 : k2 = k1 + 1) (h4 : k2 < t.length) {z : UInt8} (hz : t.getD k2 0 = z) (hZ : digB z = false) : Calls Tryd.prog 84 #[.string (ba t)] w fun e w' => e = .returned (itemV (numberI t) 0 (numberI t).len) ∧ Below w.heap.size w w' := by
 have hsz := ba_size t
 have hu := Tryd.underlying70
 have hut := Tryd.underlying42
 have HI := Aside0.mk (Is7.start w)
 have hnum : numL t = (m, 4, true) := by
  have hd' : t.getD (n + 1) 0 = d := by rw [← hn1]; exact hd
  have hr' : runL digB (t.drop (n + 1)) = r2 := by rw [← hn1]; exact hr2
  have hcond : n + 1 < t.length ∧ c.toNat = 46 ∧ digB d = true := ⟨by omega, h46, hD⟩
  unfold numL numN
  rw [hn, hc, hd', if_pos hcond, hr', show n + 1 + r2 = m by omega]
  have hcx : m < t.length ∧ x.toNat = 101 := ⟨h2, h101⟩
  unfold realL
  rw [hxx, if_pos hcx]
  unfold expL
  have hy' : t.getD (m + 1) 0 = y := by rw [← hk1]; exact hy
  have hat : expAt t m = k2 := by
   unfold expAt
   rw [hy', if_pos (by omega)]
   omega
  rw [hat]
  unfold expK
  rw [if_pos h4, hz, if_neg (by rw [hZ]; decide)]
 have HL := Aside0.mk (letter_byte x)
 rw [hL] at HL
 have e : numberI t = badI 7 true := by
  unfold numberI numberX
  rw [hnum]
  dsimp only
  rw [if_pos ⟨by omega, by rw [hxx, hL]⟩]
 rw [e]
 have HR := Aside0.mk (run_digit t ht)
 rw [hn] at HR
 have d1 : decide (n < t.length) = true := decide_eq_true (by omega)
 have hPc := ba_at t n
 rw [hc] at hPc
 have mc : (n < (ba t).size) = True := eq_true (by omega)
 have kw1 : IntKind.i64.wrap ((n : Int) + 1) = (n1 : Int) := kwI (by omega) (by omega)
 have d2 : decide (n1 < t.length) = true := decide_eq_true (by omega)
 have za : ((n1 : Int) == (t.length : Int)) = false := bne_int (by omega)
 have zb : (n1 == t.length) = false := beq_eq_false_iff_ne.2 (by omega)
 have zc : decide (n1 = t.length) = false := decide_eq_false (by omega)
 have qa : ((c.toNat : Int) == 46) = true := by rw [h46]; rfl
 have qb : (c.toNat == 46) = true := by rw [h46]; rfl
 have qc : decide (c.toNat = 46) = true := by rw [h46]; rfl
 have hPd := ba_at t n1
 rw [hd] at hPd
 have md : (n1 < (ba t).size) = True := eq_true (by omega)
 have HD := Aside0.mk (digit_byte d)
 rw [hD] at HD
 have HR2 := Aside0.mk (run_digit (t.drop n1) (by rw [List.length_drop]; omega))
 rw [hr2] at HR2
 have hsl := fun W => str_low t n1 (by omega) W
 have kw2 : IntKind.i64.wrap (1 + (r2 : Int)) = (q : Int) := kwI (by omega) (by omega)
 have kw3 : IntKind.i64.wrap ((n : Int) + (q : Int)) = (m : Int) := kwI (by omega) (by omega)
 have d3 : decide (m < t.length) = true := decide_eq_true (by omega)
 have hPx := ba_at t m
 rw [hxx] at hPx
 have mx : (m < (ba t).size) = True := eq_true (by omega)
 have pa : ((x.toNat : Int) == 101) = true := by rw [h101]; rfl
 have pb : (x.toNat == 101) = true := by rw [h101]; rfl
 have pc : decide (x.toNat = 101) = true := by rw [h101]; rfl
 have kw4 : IntKind.i64.wrap ((m : Int) + 1) = (k1 : Int) := kwI (by omega) (by omega)
 have d4 : decide (k1 < t.length) = true := decide_eq_true (by omega)
 have hPy := ba_at t k1
 rw [hy] at hPy
 have my : (k1 < (ba t).size) = True := eq_true (by omega)
 have ua : ((y.toNat : Int) == 43) = true := by rw [h43]; rfl
 have ub : (y.toNat == 43) = true := by rw [h43]; rfl
 have uc : decide (y.toNat = 43) = true := by rw [h43]; rfl
 have kw5 : IntKind.i64.wrap ((k1 : Int) + 1) = (k2 : Int) := kwI (by omega) (by omega)
 have d5 : decide (k2 < t.length) = true := decide_eq_true (by omega)
 have hPz := ba_at t k2
 rw [hz] at hPz
 have mz : (k2 < (ba t).size) = True := eq_true (by omega)
 have HZ := Aside0.mk (digit_byte z)
 rw [hZ] at HZ
 clear hnum e h46 h101 h43
 clear hn hn1 hr2 hq hm hk1 hk2
 go_enter Tryd.func84, Tryd.ntmps84
 go_wp2_with (first
  | (go_at_call 78; (with_reducible refine (HR.out _).mono ?_); rintro e w1 ⟨rfl, hd1⟩; have HI0 := HI; clear HI; have HI := Aside0.mk (HI0.out.keep hd1.below); clear HI0 hd1)
  | (go_at_call 78; (with_reducible refine (HR2.out _).mono ?_); rintro e w1 ⟨rfl, hd1⟩; have HI0 := HI; clear HI; have HI := Aside0.mk (HI0.out.keep hd1.below); clear HI0 hd1)
  | (go_at_call 80; (with_reducible refine (HD.out _).mono ?_); rintro e w1 ⟨rfl, hd1⟩; have HI0 := HI; clear HI; have HI := Aside0.mk (HI0.out.keep hd1.below); clear HI0 hd1)
  | (go_at_call 80; (with_reducible refine (HZ.out _).mono ?_); rintro e w1 ⟨rfl, hd1⟩; have HI0 := HI; clear HI; have HI := Aside0.mk (HI0.out.keep hd1.below); clear HI0 hd1)
  | (go_at_call 71; (with_reducible refine (HL.out _).mono ?_); rintro e w1 ⟨rfl, hd1⟩; have HI0 := HI; clear HI; have HI := Aside0.mk (HI0.out.keep hd1.below); clear HI0 hd1)
  | (go_at_call 83; (with_reducible refine (wrong_calls _ _ _).mono ?_); rintro e w2 ⟨rfl, hb2⟩; have HIz := Aside0.mk (HI.out.keep hb2); obtain ⟨_, _, c0, c1, c2, c3, c4, c5, c6, f0, f1, f2, f3, f4, f5, f6⟩ := HIz.out; clear hb2))
 refine bodyPost_ret (HIz.out.results rfl _ rfl _ _ _ _ _ _ _) rfl ⟨rfl, HIz.out.set _ _ _ _ _ _ _⟩
set_option maxRecDepth 100000 in
set_option maxHeartbeats 4000000 in
theorem number_way14 {n n1 : Nat} (hn : runL digB t = n) (hle : n ≤ t.length) (hn1 : n1 = n + 1) {c : UInt8} (hc : t.getD n 0 = c) (h1 : n < t.length) (h46 : c.toNat = 46) (hx : n1 < t.length) {d : UInt8} (hd : t.getD n1 0 = d) (hD : digB d = true) {r2 q m : Nat} (hr2 : runL digB (t.drop n1) = r2) (hq : q = 1 + r2) (hm : m = n + q) (hml : m ≤ t.length) (h2 : m < t.length) {x : UInt8} (hxx : t.getD m 0 = x) (h101 : x.toNat = 101) (hL : letB x = true) {k1 : Nat} (hk1 : k1 = m + 1) (h3 : k1 < t.length) {y : UInt8} (hy : t.getD k1 0 = y) (h43 : y.toNat = 43) {k2 : Nat} (hk2 : k2 = k1 + 1) (h4 : k2 < t.length) {z : UInt8} (hz : t.getD k2 0 = z) (hZ : digB z = true) {r3 o : Nat} (hr3 : runL digB (t.drop k2) = r3) (ho : o = k2 + r3) (hol : o ≤ t.length) (h5 : o = t.length) : Calls Tryd.prog 84 #[.string (ba t)] w fun e w' => e = .returned (itemV (numberI t) 0 (numberI t).len) ∧ Below w.heap.size w w' := by
 have hsz := ba_size t
 have hu := Tryd.underlying70
 have hut := Tryd.underlying42
 have HI := Aside0.mk (Is7.start w)
 have hnum : numL t = (o, 4, false) := by
  have hd' : t.getD (n + 1) 0 = d := by rw [← hn1]; exact hd
  have hr' : runL digB (t.drop (n + 1)) = r2 := by rw [← hn1]; exact hr2
  have hcond : n + 1 < t.length ∧ c.toNat = 46 ∧ digB d = true := ⟨by omega, h46, hD⟩
  unfold numL numN
  rw [hn, hc, hd', if_pos hcond, hr', show n + 1 + r2 = m by omega]
  have hcx : m < t.length ∧ x.toNat = 101 := ⟨h2, h101⟩
  unfold realL
  rw [hxx, if_pos hcx]
  unfold expL
  have hy' : t.getD (m + 1) 0 = y := by rw [← hk1]; exact hy
  have hat : expAt t m = k2 := by
   unfold expAt
   rw [hy', if_pos (by omega)]
   omega
  rw [hat]
  unfold expK
  rw [if_pos h4, hz, if_pos hZ, hr3, ← ho]
  rw [decide_eq_false (by omega)]
 have e : numberI t = tokI 4 t o false := by
  unfold numberI numberX
  rw [hnum]
  dsimp only
  rw [if_neg (fun h => by omega)]
 have HTK := Aside0.mk (token_calls 4 t o (by omega) false)
 rw [e]
 have HR := Aside0.mk (run_digit t ht)
 rw [hn] at HR
 have d1 : decide (n < t.length) = true := decide_eq_true (by omega)
 have hPc := ba_at t n
 rw [hc] at hPc
 have mc : (n < (ba t).size) = True := eq_true (by omega)
 have kw1 : IntKind.i64.wrap ((n : Int) + 1) = (n1 : Int) := kwI (by omega) (by omega)
 have d2 : decide (n1 < t.length) = true := decide_eq_true (by omega)
 have za : ((n1 : Int) == (t.length : Int)) = false := bne_int (by omega)
 have zb : (n1 == t.length) = false := beq_eq_false_iff_ne.2 (by omega)
 have zc : decide (n1 = t.length) = false := decide_eq_false (by omega)
 have qa : ((c.toNat : Int) == 46) = true := by rw [h46]; rfl
 have qb : (c.toNat == 46) = true := by rw [h46]; rfl
 have qc : decide (c.toNat = 46) = true := by rw [h46]; rfl
 have hPd := ba_at t n1
 rw [hd] at hPd
 have md : (n1 < (ba t).size) = True := eq_true (by omega)
 have HD := Aside0.mk (digit_byte d)
 rw [hD] at HD
 have HR2 := Aside0.mk (run_digit (t.drop n1) (by rw [List.length_drop]; omega))
 rw [hr2] at HR2
 have hsl := fun W => str_low t n1 (by omega) W
 have kw2 : IntKind.i64.wrap (1 + (r2 : Int)) = (q : Int) := kwI (by omega) (by omega)
 have kw3 : IntKind.i64.wrap ((n : Int) + (q : Int)) = (m : Int) := kwI (by omega) (by omega)
 have d3 : decide (m < t.length) = true := decide_eq_true (by omega)
 have hPx := ba_at t m
 rw [hxx] at hPx
 have mx : (m < (ba t).size) = True := eq_true (by omega)
 have pa : ((x.toNat : Int) == 101) = true := by rw [h101]; rfl
 have pb : (x.toNat == 101) = true := by rw [h101]; rfl
 have pc : decide (x.toNat = 101) = true := by rw [h101]; rfl
 have kw4 : IntKind.i64.wrap ((m : Int) + 1) = (k1 : Int) := kwI (by omega) (by omega)
 have d4 : decide (k1 < t.length) = true := decide_eq_true (by omega)
 have hPy := ba_at t k1
 rw [hy] at hPy
 have my : (k1 < (ba t).size) = True := eq_true (by omega)
 have ua : ((y.toNat : Int) == 43) = true := by rw [h43]; rfl
 have ub : (y.toNat == 43) = true := by rw [h43]; rfl
 have uc : decide (y.toNat = 43) = true := by rw [h43]; rfl
 have kw5 : IntKind.i64.wrap ((k1 : Int) + 1) = (k2 : Int) := kwI (by omega) (by omega)
 have d5 : decide (k2 < t.length) = true := decide_eq_true (by omega)
 have hPz := ba_at t k2
 rw [hz] at hPz
 have mz : (k2 < (ba t).size) = True := eq_true (by omega)
 have HZ := Aside0.mk (digit_byte z)
 rw [hZ] at HZ
 have HR3 := Aside0.mk (run_digit (t.drop k2) (by rw [List.length_drop]; omega))
 rw [hr3] at HR3
 have hsl2 := fun W => str_low t k2 (by omega) W
 have kw6 : IntKind.i64.wrap ((k2 : Int) + (r3 : Int)) = (o : Int) := kwI (by omega) (by omega)
 have d6 : decide (o < t.length) = false := decide_eq_false (by omega)
 clear hnum e h46 h101 h43
 clear hn hn1 hr2 hq hm hk1 hk2 hr3 ho h5
 go_enter Tryd.func84, Tryd.ntmps84
 go_wp2_with (first
  | (go_at_call 78; (with_reducible refine (HR.out _).mono ?_); rintro e w1 ⟨rfl, hd1⟩; have HI0 := HI; clear HI; have HI := Aside0.mk (HI0.out.keep hd1.below); clear HI0 hd1)
  | (go_at_call 78; (with_reducible refine (HR2.out _).mono ?_); rintro e w1 ⟨rfl, hd1⟩; have HI0 := HI; clear HI; have HI := Aside0.mk (HI0.out.keep hd1.below); clear HI0 hd1)
  | (go_at_call 78; (with_reducible refine (HR3.out _).mono ?_); rintro e w1 ⟨rfl, hd1⟩; have HI0 := HI; clear HI; have HI := Aside0.mk (HI0.out.keep hd1.below); clear HI0 hd1)
  | (go_at_call 80; (with_reducible refine (HD.out _).mono ?_); rintro e w1 ⟨rfl, hd1⟩; have HI0 := HI; clear HI; have HI := Aside0.mk (HI0.out.keep hd1.below); clear HI0 hd1)
  | (go_at_call 80; (with_reducible refine (HZ.out _).mono ?_); rintro e w1 ⟨rfl, hd1⟩; have HI0 := HI; clear HI; have HI := Aside0.mk (HI0.out.keep hd1.below); clear HI0 hd1)
  | (go_at_call 82; (with_reducible refine (HTK.out _).mono ?_); rintro e w2 ⟨rfl, hb2⟩; have HIz := Aside0.mk (HI.out.keep hb2); obtain ⟨_, _, c0, c1, c2, c3, c4, c5, c6, f0, f1, f2, f3, f4, f5, f6⟩ := HIz.out; clear hb2))
 refine bodyPost_ret (HIz.out.results rfl _ rfl _ _ _ _ _ _ _) rfl ⟨rfl, HIz.out.set _ _ _ _ _ _ _⟩
set_option maxRecDepth 100000 in
set_option maxHeartbeats 4000000 in
theorem number_way15 {n n1 : Nat} (hn : runL digB t = n) (hle : n ≤ t.length) (hn1 : n1 = n + 1) {c : UInt8} (hc : t.getD n 0 = c) (h1 : n < t.length) (h46 : c.toNat = 46) (hx : n1 < t.length) {d : UInt8} (hd : t.getD n1 0 = d) (hD : digB d = true) {r2 q m : Nat} (hr2 : runL digB (t.drop n1) = r2) (hq : q = 1 + r2) (hm : m = n + q) (hml : m ≤ t.length) (h2 : m < t.length) {x : UInt8} (hxx : t.getD m 0 = x) (h101 : x.toNat = 101) (hL : letB x = true) {k1 : Nat} (hk1 : k1 = m + 1) (h3 : k1 < t.length) {y : UInt8} (hy : t.getD k1 0 = y) (h43 : y.toNat = 43) {k2 : Nat} (hk2 : k2 = k1 + 1) (h4 : k2 < t.length) {z : UInt8} (hz : t.getD k2 0 = z) (hZ : digB z = true) {r3 o : Nat} (hr3 : runL digB (t.drop k2) = r3) (ho : o = k2 + r3) (hol : o ≤ t.length) (h5 : o < t.length) {g : UInt8} (hg : t.getD o 0 = g) (hG : letB g = true) : Calls Tryd.prog 84 #[.string (ba t)] w fun e w' => e = .returned (itemV (numberI t) 0 (numberI t).len) ∧ Below w.heap.size w w' := by
 have hsz := ba_size t
 have hu := Tryd.underlying70
 have hut := Tryd.underlying42
 have HI := Aside0.mk (Is7.start w)
 have hnum : numL t = (o, 4, true) := by
  have hd' : t.getD (n + 1) 0 = d := by rw [← hn1]; exact hd
  have hr' : runL digB (t.drop (n + 1)) = r2 := by rw [← hn1]; exact hr2
  have hcond : n + 1 < t.length ∧ c.toNat = 46 ∧ digB d = true := ⟨by omega, h46, hD⟩
  unfold numL numN
  rw [hn, hc, hd', if_pos hcond, hr', show n + 1 + r2 = m by omega]
  have hcx : m < t.length ∧ x.toNat = 101 := ⟨h2, h101⟩
  unfold realL
  rw [hxx, if_pos hcx]
  unfold expL
  have hy' : t.getD (m + 1) 0 = y := by rw [← hk1]; exact hy
  have hat : expAt t m = k2 := by
   unfold expAt
   rw [hy', if_pos (by omega)]
   omega
  rw [hat]
  unfold expK
  rw [if_pos h4, hz, if_pos hZ, hr3, ← ho]
  rw [decide_eq_true h5]
 have HL := Aside0.mk (letter_byte g)
 rw [hG] at HL
 have e : numberI t = badI 7 true := by
  unfold numberI numberX
  rw [hnum]
  dsimp only
  rw [if_pos ⟨by omega, by rw [hg, hG]⟩]
 rw [e]
 have HR := Aside0.mk (run_digit t ht)
 rw [hn] at HR
 have d1 : decide (n < t.length) = true := decide_eq_true (by omega)
 have hPc := ba_at t n
 rw [hc] at hPc
 have mc : (n < (ba t).size) = True := eq_true (by omega)
 have kw1 : IntKind.i64.wrap ((n : Int) + 1) = (n1 : Int) := kwI (by omega) (by omega)
 have d2 : decide (n1 < t.length) = true := decide_eq_true (by omega)
 have za : ((n1 : Int) == (t.length : Int)) = false := bne_int (by omega)
 have zb : (n1 == t.length) = false := beq_eq_false_iff_ne.2 (by omega)
 have zc : decide (n1 = t.length) = false := decide_eq_false (by omega)
 have qa : ((c.toNat : Int) == 46) = true := by rw [h46]; rfl
 have qb : (c.toNat == 46) = true := by rw [h46]; rfl
 have qc : decide (c.toNat = 46) = true := by rw [h46]; rfl
 have hPd := ba_at t n1
 rw [hd] at hPd
 have md : (n1 < (ba t).size) = True := eq_true (by omega)
 have HD := Aside0.mk (digit_byte d)
 rw [hD] at HD
 have HR2 := Aside0.mk (run_digit (t.drop n1) (by rw [List.length_drop]; omega))
 rw [hr2] at HR2
 have hsl := fun W => str_low t n1 (by omega) W
 have kw2 : IntKind.i64.wrap (1 + (r2 : Int)) = (q : Int) := kwI (by omega) (by omega)
 have kw3 : IntKind.i64.wrap ((n : Int) + (q : Int)) = (m : Int) := kwI (by omega) (by omega)
 have d3 : decide (m < t.length) = true := decide_eq_true (by omega)
 have hPx := ba_at t m
 rw [hxx] at hPx
 have mx : (m < (ba t).size) = True := eq_true (by omega)
 have pa : ((x.toNat : Int) == 101) = true := by rw [h101]; rfl
 have pb : (x.toNat == 101) = true := by rw [h101]; rfl
 have pc : decide (x.toNat = 101) = true := by rw [h101]; rfl
 have kw4 : IntKind.i64.wrap ((m : Int) + 1) = (k1 : Int) := kwI (by omega) (by omega)
 have d4 : decide (k1 < t.length) = true := decide_eq_true (by omega)
 have hPy := ba_at t k1
 rw [hy] at hPy
 have my : (k1 < (ba t).size) = True := eq_true (by omega)
 have ua : ((y.toNat : Int) == 43) = true := by rw [h43]; rfl
 have ub : (y.toNat == 43) = true := by rw [h43]; rfl
 have uc : decide (y.toNat = 43) = true := by rw [h43]; rfl
 have kw5 : IntKind.i64.wrap ((k1 : Int) + 1) = (k2 : Int) := kwI (by omega) (by omega)
 have d5 : decide (k2 < t.length) = true := decide_eq_true (by omega)
 have hPz := ba_at t k2
 rw [hz] at hPz
 have mz : (k2 < (ba t).size) = True := eq_true (by omega)
 have HZ := Aside0.mk (digit_byte z)
 rw [hZ] at HZ
 have HR3 := Aside0.mk (run_digit (t.drop k2) (by rw [List.length_drop]; omega))
 rw [hr3] at HR3
 have hsl2 := fun W => str_low t k2 (by omega) W
 have kw6 : IntKind.i64.wrap ((k2 : Int) + (r3 : Int)) = (o : Int) := kwI (by omega) (by omega)
 have d6 : decide (o < t.length) = true := decide_eq_true (by omega)
 have hPg := ba_at t o
 rw [hg] at hPg
 have mg : (o < (ba t).size) = True := eq_true (by omega)
 clear hnum e h46 h101 h43
 clear hn hn1 hr2 hq hm hk1 hk2 hr3 ho
 go_enter Tryd.func84, Tryd.ntmps84
 go_wp2_with (first
  | (go_at_call 78; (with_reducible refine (HR.out _).mono ?_); rintro e w1 ⟨rfl, hd1⟩; have HI0 := HI; clear HI; have HI := Aside0.mk (HI0.out.keep hd1.below); clear HI0 hd1)
  | (go_at_call 78; (with_reducible refine (HR2.out _).mono ?_); rintro e w1 ⟨rfl, hd1⟩; have HI0 := HI; clear HI; have HI := Aside0.mk (HI0.out.keep hd1.below); clear HI0 hd1)
  | (go_at_call 78; (with_reducible refine (HR3.out _).mono ?_); rintro e w1 ⟨rfl, hd1⟩; have HI0 := HI; clear HI; have HI := Aside0.mk (HI0.out.keep hd1.below); clear HI0 hd1)
  | (go_at_call 80; (with_reducible refine (HD.out _).mono ?_); rintro e w1 ⟨rfl, hd1⟩; have HI0 := HI; clear HI; have HI := Aside0.mk (HI0.out.keep hd1.below); clear HI0 hd1)
  | (go_at_call 80; (with_reducible refine (HZ.out _).mono ?_); rintro e w1 ⟨rfl, hd1⟩; have HI0 := HI; clear HI; have HI := Aside0.mk (HI0.out.keep hd1.below); clear HI0 hd1)
  | (go_at_call 71; (with_reducible refine (HL.out _).mono ?_); rintro e w1 ⟨rfl, hd1⟩; have HI0 := HI; clear HI; have HI := Aside0.mk (HI0.out.keep hd1.below); clear HI0 hd1)
  | (go_at_call 83; (with_reducible refine (wrong_calls _ _ _).mono ?_); rintro e w2 ⟨rfl, hb2⟩; have HIz := Aside0.mk (HI.out.keep hb2); obtain ⟨_, _, c0, c1, c2, c3, c4, c5, c6, f0, f1, f2, f3, f4, f5, f6⟩ := HIz.out; clear hb2))
 refine bodyPost_ret (HIz.out.results rfl _ rfl _ _ _ _ _ _ _) rfl ⟨rfl, HIz.out.set _ _ _ _ _ _ _⟩
set_option maxRecDepth 100000 in
set_option maxHeartbeats 4000000 in
theorem number_way16 {n n1 : Nat} (hn : runL digB t = n) (hle : n ≤ t.length) (hn1 : n1 = n + 1) {c : UInt8} (hc : t.getD n 0 = c) (h1 : n < t.length) (h46 : c.toNat = 46) (hx : n1 < t.length) {d : UInt8} (hd : t.getD n1 0 = d) (hD : digB d = true) {r2 q m : Nat} (hr2 : runL digB (t.drop n1) = r2) (hq : q = 1 + r2) (hm : m = n + q) (hml : m ≤ t.length) (h2 : m < t.length) {x : UInt8} (hxx : t.getD m 0 = x) (h101 : x.toNat = 101) (hL : letB x = true) {k1 : Nat} (hk1 : k1 = m + 1) (h3 : k1 < t.length) {y : UInt8} (hy : t.getD k1 0 = y) (h43 : y.toNat = 43) {k2 : Nat} (hk2 : k2 = k1 + 1) (h4 : k2 < t.length) {z : UInt8} (hz : t.getD k2 0 = z) (hZ : digB z = true) {r3 o : Nat} (hr3 : runL digB (t.drop k2) = r3) (ho : o = k2 + r3) (hol : o ≤ t.length) (h5 : o < t.length) {g : UInt8} (hg : t.getD o 0 = g) (hG : letB g = false) : Calls Tryd.prog 84 #[.string (ba t)] w fun e w' => e = .returned (itemV (numberI t) 0 (numberI t).len) ∧ Below w.heap.size w w' := by
 have hsz := ba_size t
 have hu := Tryd.underlying70
 have hut := Tryd.underlying42
 have HI := Aside0.mk (Is7.start w)
 have hnum : numL t = (o, 4, true) := by
  have hd' : t.getD (n + 1) 0 = d := by rw [← hn1]; exact hd
  have hr' : runL digB (t.drop (n + 1)) = r2 := by rw [← hn1]; exact hr2
  have hcond : n + 1 < t.length ∧ c.toNat = 46 ∧ digB d = true := ⟨by omega, h46, hD⟩
  unfold numL numN
  rw [hn, hc, hd', if_pos hcond, hr', show n + 1 + r2 = m by omega]
  have hcx : m < t.length ∧ x.toNat = 101 := ⟨h2, h101⟩
  unfold realL
  rw [hxx, if_pos hcx]
  unfold expL
  have hy' : t.getD (m + 1) 0 = y := by rw [← hk1]; exact hy
  have hat : expAt t m = k2 := by
   unfold expAt
   rw [hy', if_pos (by omega)]
   omega
  rw [hat]
  unfold expK
  rw [if_pos h4, hz, if_pos hZ, hr3, ← ho]
  rw [decide_eq_true h5]
 have HL := Aside0.mk (letter_byte g)
 rw [hG] at HL
 have e : numberI t = tokI 4 t o true := by
  unfold numberI numberX
  rw [hnum]
  dsimp only
  rw [if_neg (fun h => by have := h.2; rw [hg, hG] at this; cases this)]
 have HTK := Aside0.mk (token_calls 4 t o (by omega) true)
 rw [e]
 have HR := Aside0.mk (run_digit t ht)
 rw [hn] at HR
 have d1 : decide (n < t.length) = true := decide_eq_true (by omega)
 have hPc := ba_at t n
 rw [hc] at hPc
 have mc : (n < (ba t).size) = True := eq_true (by omega)
 have kw1 : IntKind.i64.wrap ((n : Int) + 1) = (n1 : Int) := kwI (by omega) (by omega)
 have d2 : decide (n1 < t.length) = true := decide_eq_true (by omega)
 have za : ((n1 : Int) == (t.length : Int)) = false := bne_int (by omega)
 have zb : (n1 == t.length) = false := beq_eq_false_iff_ne.2 (by omega)
 have zc : decide (n1 = t.length) = false := decide_eq_false (by omega)
 have qa : ((c.toNat : Int) == 46) = true := by rw [h46]; rfl
 have qb : (c.toNat == 46) = true := by rw [h46]; rfl
 have qc : decide (c.toNat = 46) = true := by rw [h46]; rfl
 have hPd := ba_at t n1
 rw [hd] at hPd
 have md : (n1 < (ba t).size) = True := eq_true (by omega)
 have HD := Aside0.mk (digit_byte d)
 rw [hD] at HD
 have HR2 := Aside0.mk (run_digit (t.drop n1) (by rw [List.length_drop]; omega))
 rw [hr2] at HR2
 have hsl := fun W => str_low t n1 (by omega) W
 have kw2 : IntKind.i64.wrap (1 + (r2 : Int)) = (q : Int) := kwI (by omega) (by omega)
 have kw3 : IntKind.i64.wrap ((n : Int) + (q : Int)) = (m : Int) := kwI (by omega) (by omega)
 have d3 : decide (m < t.length) = true := decide_eq_true (by omega)
 have hPx := ba_at t m
 rw [hxx] at hPx
 have mx : (m < (ba t).size) = True := eq_true (by omega)
 have pa : ((x.toNat : Int) == 101) = true := by rw [h101]; rfl
 have pb : (x.toNat == 101) = true := by rw [h101]; rfl
 have pc : decide (x.toNat = 101) = true := by rw [h101]; rfl
 have kw4 : IntKind.i64.wrap ((m : Int) + 1) = (k1 : Int) := kwI (by omega) (by omega)
 have d4 : decide (k1 < t.length) = true := decide_eq_true (by omega)
 have hPy := ba_at t k1
 rw [hy] at hPy
 have my : (k1 < (ba t).size) = True := eq_true (by omega)
 have ua : ((y.toNat : Int) == 43) = true := by rw [h43]; rfl
 have ub : (y.toNat == 43) = true := by rw [h43]; rfl
 have uc : decide (y.toNat = 43) = true := by rw [h43]; rfl
 have kw5 : IntKind.i64.wrap ((k1 : Int) + 1) = (k2 : Int) := kwI (by omega) (by omega)
 have d5 : decide (k2 < t.length) = true := decide_eq_true (by omega)
 have hPz := ba_at t k2
 rw [hz] at hPz
 have mz : (k2 < (ba t).size) = True := eq_true (by omega)
 have HZ := Aside0.mk (digit_byte z)
 rw [hZ] at HZ
 have HR3 := Aside0.mk (run_digit (t.drop k2) (by rw [List.length_drop]; omega))
 rw [hr3] at HR3
 have hsl2 := fun W => str_low t k2 (by omega) W
 have kw6 : IntKind.i64.wrap ((k2 : Int) + (r3 : Int)) = (o : Int) := kwI (by omega) (by omega)
 have d6 : decide (o < t.length) = true := decide_eq_true (by omega)
 have hPg := ba_at t o
 rw [hg] at hPg
 have mg : (o < (ba t).size) = True := eq_true (by omega)
 clear hnum e h46 h101 h43
 clear hn hn1 hr2 hq hm hk1 hk2 hr3 ho
 go_enter Tryd.func84, Tryd.ntmps84
 go_wp2_with (first
  | (go_at_call 78; (with_reducible refine (HR.out _).mono ?_); rintro e w1 ⟨rfl, hd1⟩; have HI0 := HI; clear HI; have HI := Aside0.mk (HI0.out.keep hd1.below); clear HI0 hd1)
  | (go_at_call 78; (with_reducible refine (HR2.out _).mono ?_); rintro e w1 ⟨rfl, hd1⟩; have HI0 := HI; clear HI; have HI := Aside0.mk (HI0.out.keep hd1.below); clear HI0 hd1)
  | (go_at_call 78; (with_reducible refine (HR3.out _).mono ?_); rintro e w1 ⟨rfl, hd1⟩; have HI0 := HI; clear HI; have HI := Aside0.mk (HI0.out.keep hd1.below); clear HI0 hd1)
  | (go_at_call 80; (with_reducible refine (HD.out _).mono ?_); rintro e w1 ⟨rfl, hd1⟩; have HI0 := HI; clear HI; have HI := Aside0.mk (HI0.out.keep hd1.below); clear HI0 hd1)
  | (go_at_call 80; (with_reducible refine (HZ.out _).mono ?_); rintro e w1 ⟨rfl, hd1⟩; have HI0 := HI; clear HI; have HI := Aside0.mk (HI0.out.keep hd1.below); clear HI0 hd1)
  | (go_at_call 71; (with_reducible refine (HL.out _).mono ?_); rintro e w1 ⟨rfl, hd1⟩; have HI0 := HI; clear HI; have HI := Aside0.mk (HI0.out.keep hd1.below); clear HI0 hd1)
  | (go_at_call 82; (with_reducible refine (HTK.out _).mono ?_); rintro e w2 ⟨rfl, hb2⟩; have HIz := Aside0.mk (HI.out.keep hb2); obtain ⟨_, _, c0, c1, c2, c3, c4, c5, c6, f0, f1, f2, f3, f4, f5, f6⟩ := HIz.out; clear hb2))
 refine bodyPost_ret (HIz.out.results rfl _ rfl _ _ _ _ _ _ _) rfl ⟨rfl, HIz.out.set _ _ _ _ _ _ _⟩
set_option maxRecDepth 100000 in
set_option maxHeartbeats 4000000 in
theorem number_way17 {n n1 : Nat} (hn : runL digB t = n) (hle : n ≤ t.length) (hn1 : n1 = n + 1) {c : UInt8} (hc : t.getD n 0 = c) (h1 : n < t.length) (h46 : c.toNat = 46) (hx : n1 < t.length) {d : UInt8} (hd : t.getD n1 0 = d) (hD : digB d = true) {r2 q m : Nat} (hr2 : runL digB (t.drop n1) = r2) (hq : q = 1 + r2) (hm : m = n + q) (hml : m ≤ t.length) (h2 : m < t.length) {x : UInt8} (hxx : t.getD m 0 = x) (h101 : x.toNat = 101) (hL : letB x = true) {k1 : Nat} (hk1 : k1 = m + 1) (h3 : k1 < t.length) {y : UInt8} (hy : t.getD k1 0 = y) (h43 : ¬ y.toNat = 43) (h45 : y.toNat = 45) {k2 : Nat} (hk2 : k2 = k1 + 1) (h4 : k2 = t.length) : Calls Tryd.prog 84 #[.string (ba t)] w fun e w' => e = .returned (itemV (numberI t) 0 (numberI t).len) ∧ Below w.heap.size w w' := by
 have hsz := ba_size t
 have hu := Tryd.underlying70
 have hut := Tryd.underlying42
 have HI := Aside0.mk (Is7.start w)
 have hnum : numL t = (m, 4, false) := by
  have hd' : t.getD (n + 1) 0 = d := by rw [← hn1]; exact hd
  have hr' : runL digB (t.drop (n + 1)) = r2 := by rw [← hn1]; exact hr2
  have hcond : n + 1 < t.length ∧ c.toNat = 46 ∧ digB d = true := ⟨by omega, h46, hD⟩
  unfold numL numN
  rw [hn, hc, hd', if_pos hcond, hr', show n + 1 + r2 = m by omega]
  have hcx : m < t.length ∧ x.toNat = 101 := ⟨h2, h101⟩
  unfold realL
  rw [hxx, if_pos hcx]
  unfold expL
  have hy' : t.getD (m + 1) 0 = y := by rw [← hk1]; exact hy
  have hat : expAt t m = k2 := by
   unfold expAt
   rw [hy', if_pos (by omega)]
   omega
  rw [hat]
  unfold expK
  rw [if_neg (by omega)]
 have HL := Aside0.mk (letter_byte x)
 rw [hL] at HL
 have e : numberI t = badI 7 false := by
  unfold numberI numberX
  rw [hnum]
  dsimp only
  rw [if_pos ⟨by omega, by rw [hxx, hL]⟩]
 rw [e]
 have HR := Aside0.mk (run_digit t ht)
 rw [hn] at HR
 have d1 : decide (n < t.length) = true := decide_eq_true (by omega)
 have hPc := ba_at t n
 rw [hc] at hPc
 have mc : (n < (ba t).size) = True := eq_true (by omega)
 have kw1 : IntKind.i64.wrap ((n : Int) + 1) = (n1 : Int) := kwI (by omega) (by omega)
 have d2 : decide (n1 < t.length) = true := decide_eq_true (by omega)
 have za : ((n1 : Int) == (t.length : Int)) = false := bne_int (by omega)
 have zb : (n1 == t.length) = false := beq_eq_false_iff_ne.2 (by omega)
 have zc : decide (n1 = t.length) = false := decide_eq_false (by omega)
 have qa : ((c.toNat : Int) == 46) = true := by rw [h46]; rfl
 have qb : (c.toNat == 46) = true := by rw [h46]; rfl
 have qc : decide (c.toNat = 46) = true := by rw [h46]; rfl
 have hPd := ba_at t n1
 rw [hd] at hPd
 have md : (n1 < (ba t).size) = True := eq_true (by omega)
 have HD := Aside0.mk (digit_byte d)
 rw [hD] at HD
 have HR2 := Aside0.mk (run_digit (t.drop n1) (by rw [List.length_drop]; omega))
 rw [hr2] at HR2
 have hsl := fun W => str_low t n1 (by omega) W
 have kw2 : IntKind.i64.wrap (1 + (r2 : Int)) = (q : Int) := kwI (by omega) (by omega)
 have kw3 : IntKind.i64.wrap ((n : Int) + (q : Int)) = (m : Int) := kwI (by omega) (by omega)
 have d3 : decide (m < t.length) = true := decide_eq_true (by omega)
 have hPx := ba_at t m
 rw [hxx] at hPx
 have mx : (m < (ba t).size) = True := eq_true (by omega)
 have pa : ((x.toNat : Int) == 101) = true := by rw [h101]; rfl
 have pb : (x.toNat == 101) = true := by rw [h101]; rfl
 have pc : decide (x.toNat = 101) = true := by rw [h101]; rfl
 have kw4 : IntKind.i64.wrap ((m : Int) + 1) = (k1 : Int) := kwI (by omega) (by omega)
 have d4 : decide (k1 < t.length) = true := decide_eq_true (by omega)
 have hPy := ba_at t k1
 rw [hy] at hPy
 have my : (k1 < (ba t).size) = True := eq_true (by omega)
 have ua : ((y.toNat : Int) == 43) = false := by rw [beq_eq_false_iff_ne]; omega
 have ub : (y.toNat == 43) = false := beq_eq_false_iff_ne.2 h43
 have uc : decide (y.toNat = 43) = false := decide_eq_false h43
 have va : ((y.toNat : Int) == 45) = true := by rw [h45]; rfl
 have vb : (y.toNat == 45) = true := by rw [h45]; rfl
 have vc : decide (y.toNat = 45) = true := by rw [h45]; rfl
 have kw5 : IntKind.i64.wrap ((k1 : Int) + 1) = (k2 : Int) := kwI (by omega) (by omega)
 have d5 : decide (k2 < t.length) = false := decide_eq_false (by omega)
 clear hnum e h46 h101 h43 h45
 clear hn hn1 hr2 hq hm hk1 hk2 h4
 go_enter Tryd.func84, Tryd.ntmps84
 go_wp2_with (first
  | (go_at_call 78; (with_reducible refine (HR.out _).mono ?_); rintro e w1 ⟨rfl, hd1⟩; have HI0 := HI; clear HI; have HI := Aside0.mk (HI0.out.keep hd1.below); clear HI0 hd1)
  | (go_at_call 78; (with_reducible refine (HR2.out _).mono ?_); rintro e w1 ⟨rfl, hd1⟩; have HI0 := HI; clear HI; have HI := Aside0.mk (HI0.out.keep hd1.below); clear HI0 hd1)
  | (go_at_call 80; (with_reducible refine (HD.out _).mono ?_); rintro e w1 ⟨rfl, hd1⟩; have HI0 := HI; clear HI; have HI := Aside0.mk (HI0.out.keep hd1.below); clear HI0 hd1)
  | (go_at_call 71; (with_reducible refine (HL.out _).mono ?_); rintro e w1 ⟨rfl, hd1⟩; have HI0 := HI; clear HI; have HI := Aside0.mk (HI0.out.keep hd1.below); clear HI0 hd1)
  | (go_at_call 83; (with_reducible refine (wrong_calls _ _ _).mono ?_); rintro e w2 ⟨rfl, hb2⟩; have HIz := Aside0.mk (HI.out.keep hb2); obtain ⟨_, _, c0, c1, c2, c3, c4, c5, c6, f0, f1, f2, f3, f4, f5, f6⟩ := HIz.out; clear hb2))
 refine bodyPost_ret (HIz.out.results rfl _ rfl _ _ _ _ _ _ _) rfl ⟨rfl, HIz.out.set _ _ _ _ _ _ _⟩
set_option maxRecDepth 100000 in
set_option maxHeartbeats 4000000 in
theorem number_way18 {n n1 : Nat} (hn : runL digB t = n) (hle : n ≤ t.length) (hn1 : n1 = n + 1) {c : UInt8} (hc : t.getD n 0 = c) (h1 : n < t.length) (h46 : c.toNat = 46) (hx : n1 < t.length) {d : UInt8} (hd : t.getD n1 0 = d) (hD : digB d = true) {r2 q m : Nat} (hr2 : runL digB (t.drop n1) = r2) (hq : q = 1 + r2) (hm : m = n + q) (hml : m ≤ t.length) (h2 : m < t.length) {x : UInt8} (hxx : t.getD m 0 = x) (h101 : x.toNat = 101) (hL : letB x = true) {k1 : Nat} (hk1 : k1 = m + 1) (h3 : k1 < t.length) {y : UInt8} (hy : t.getD k1 0 = y) (h43 : ¬ y.toNat = 43) (h45 : y.toNat = 45) {k2 : Nat} (hk2 : k2 = k1 + 1) (h4 : k2 < t.length) {z : UInt8} (hz : t.getD k2 0 = z) (hZ : digB z = false) : Calls Tryd.prog 84 #[.string (ba t)] w fun e w' => e = .returned (itemV (numberI t) 0 (numberI t).len) ∧ Below w.heap.size w w' := by
 have hsz := ba_size t
 have hu := Tryd.underlying70
 have hut := Tryd.underlying42
 have HI := Aside0.mk (Is7.start w)
 have hnum : numL t = (m, 4, true) := by
  have hd' : t.getD (n + 1) 0 = d := by rw [← hn1]; exact hd
  have hr' : runL digB (t.drop (n + 1)) = r2 := by rw [← hn1]; exact hr2
  have hcond : n + 1 < t.length ∧ c.toNat = 46 ∧ digB d = true := ⟨by omega, h46, hD⟩
  unfold numL numN
  rw [hn, hc, hd', if_pos hcond, hr', show n + 1 + r2 = m by omega]
  have hcx : m < t.length ∧ x.toNat = 101 := ⟨h2, h101⟩
  unfold realL
  rw [hxx, if_pos hcx]
  unfold expL
  have hy' : t.getD (m + 1) 0 = y := by rw [← hk1]; exact hy
  have hat : expAt t m = k2 := by
   unfold expAt
   rw [hy', if_pos (by omega)]
   omega
  rw [hat]
  unfold expK
  rw [if_pos h4, hz, if_neg (by rw [hZ]; decide)]
 have HL := Aside0.mk (letter_byte x)
 rw [hL] at HL
 have e : numberI t = badI 7 true := by
  unfold numberI numberX
  rw [hnum]
  dsimp only
  rw [if_pos ⟨by omega, by rw [hxx, hL]⟩]
 rw [e]
 have HR := Aside0.mk (run_digit t ht)
 rw [hn] at HR
 have d1 : decide (n < t.length) = true := decide_eq_true (by omega)
 have hPc := ba_at t n
 rw [hc] at hPc
 have mc : (n < (ba t).size) = True := eq_true (by omega)
 have kw1 : IntKind.i64.wrap ((n : Int) + 1) = (n1 : Int) := kwI (by omega) (by omega)
 have d2 : decide (n1 < t.length) = true := decide_eq_true (by omega)
 have za : ((n1 : Int) == (t.length : Int)) = false := bne_int (by omega)
 have zb : (n1 == t.length) = false := beq_eq_false_iff_ne.2 (by omega)
 have zc : decide (n1 = t.length) = false := decide_eq_false (by omega)
 have qa : ((c.toNat : Int) == 46) = true := by rw [h46]; rfl
 have qb : (c.toNat == 46) = true := by rw [h46]; rfl
 have qc : decide (c.toNat = 46) = true := by rw [h46]; rfl
 have hPd := ba_at t n1
 rw [hd] at hPd
 have md : (n1 < (ba t).size) = True := eq_true (by omega)
 have HD := Aside0.mk (digit_byte d)
 rw [hD] at HD
 have HR2 := Aside0.mk (run_digit (t.drop n1) (by rw [List.length_drop]; omega))
 rw [hr2] at HR2
 have hsl := fun W => str_low t n1 (by omega) W
 have kw2 : IntKind.i64.wrap (1 + (r2 : Int)) = (q : Int) := kwI (by omega) (by omega)
 have kw3 : IntKind.i64.wrap ((n : Int) + (q : Int)) = (m : Int) := kwI (by omega) (by omega)
 have d3 : decide (m < t.length) = true := decide_eq_true (by omega)
 have hPx := ba_at t m
 rw [hxx] at hPx
 have mx : (m < (ba t).size) = True := eq_true (by omega)
 have pa : ((x.toNat : Int) == 101) = true := by rw [h101]; rfl
 have pb : (x.toNat == 101) = true := by rw [h101]; rfl
 have pc : decide (x.toNat = 101) = true := by rw [h101]; rfl
 have kw4 : IntKind.i64.wrap ((m : Int) + 1) = (k1 : Int) := kwI (by omega) (by omega)
 have d4 : decide (k1 < t.length) = true := decide_eq_true (by omega)
 have hPy := ba_at t k1
 rw [hy] at hPy
 have my : (k1 < (ba t).size) = True := eq_true (by omega)
 have ua : ((y.toNat : Int) == 43) = false := by rw [beq_eq_false_iff_ne]; omega
 have ub : (y.toNat == 43) = false := beq_eq_false_iff_ne.2 h43
 have uc : decide (y.toNat = 43) = false := decide_eq_false h43
 have va : ((y.toNat : Int) == 45) = true := by rw [h45]; rfl
 have vb : (y.toNat == 45) = true := by rw [h45]; rfl
 have vc : decide (y.toNat = 45) = true := by rw [h45]; rfl
 have kw5 : IntKind.i64.wrap ((k1 : Int) + 1) = (k2 : Int) := kwI (by omega) (by omega)
 have d5 : decide (k2 < t.length) = true := decide_eq_true (by omega)
 have hPz := ba_at t k2
 rw [hz] at hPz
 have mz : (k2 < (ba t).size) = True := eq_true (by omega)
 have HZ := Aside0.mk (digit_byte z)
 rw [hZ] at HZ
 clear hnum e h46 h101 h43 h45
 clear hn hn1 hr2 hq hm hk1 hk2
 go_enter Tryd.func84, Tryd.ntmps84
 go_wp2_with (first
  | (go_at_call 78; (with_reducible refine (HR.out _).mono ?_); rintro e w1 ⟨rfl, hd1⟩; have HI0 := HI; clear HI; have HI := Aside0.mk (HI0.out.keep hd1.below); clear HI0 hd1)
  | (go_at_call 78; (with_reducible refine (HR2.out _).mono ?_); rintro e w1 ⟨rfl, hd1⟩; have HI0 := HI; clear HI; have HI := Aside0.mk (HI0.out.keep hd1.below); clear HI0 hd1)
  | (go_at_call 80; (with_reducible refine (HD.out _).mono ?_); rintro e w1 ⟨rfl, hd1⟩; have HI0 := HI; clear HI; have HI := Aside0.mk (HI0.out.keep hd1.below); clear HI0 hd1)
  | (go_at_call 80; (with_reducible refine (HZ.out _).mono ?_); rintro e w1 ⟨rfl, hd1⟩; have HI0 := HI; clear HI; have HI := Aside0.mk (HI0.out.keep hd1.below); clear HI0 hd1)
  | (go_at_call 71; (with_reducible refine (HL.out _).mono ?_); rintro e w1 ⟨rfl, hd1⟩; have HI0 := HI; clear HI; have HI := Aside0.mk (HI0.out.keep hd1.below); clear HI0 hd1)
  | (go_at_call 83; (with_reducible refine (wrong_calls _ _ _).mono ?_); rintro e w2 ⟨rfl, hb2⟩; have HIz := Aside0.mk (HI.out.keep hb2); obtain ⟨_, _, c0, c1, c2, c3, c4, c5, c6, f0, f1, f2, f3, f4, f5, f6⟩ := HIz.out; clear hb2))
 refine bodyPost_ret (HIz.out.results rfl _ rfl _ _ _ _ _ _ _) rfl ⟨rfl, HIz.out.set _ _ _ _ _ _ _⟩
set_option maxRecDepth 100000 in
set_option maxHeartbeats 4000000 in
theorem number_way19 {n n1 : Nat} (hn : runL digB t = n) (hle : n ≤ t.length) (hn1 : n1 = n + 1) {c : UInt8} (hc : t.getD n 0 = c) (h1 : n < t.length) (h46 : c.toNat = 46) (hx : n1 < t.length) {d : UInt8} (hd : t.getD n1 0 = d) (hD : digB d = true) {r2 q m : Nat} (hr2 : runL digB (t.drop n1) = r2) (hq : q = 1 + r2) (hm : m = n + q) (hml : m ≤ t.length) (h2 : m < t.length) {x : UInt8} (hxx : t.getD m 0 = x) (h101 : x.toNat = 101) (hL : letB x = true) {k1 : Nat} (hk1 : k1 = m + 1) (h3 : k1 < t.length) {y : UInt8} (hy : t.getD k1 0 = y) (h43 : ¬ y.toNat = 43) (h45 : y.toNat = 45) {k2 : Nat} (hk2 : k2 = k1 + 1) (h4 : k2 < t.length) {z : UInt8} (hz : t.getD k2 0 = z) (hZ : digB z = true) {r3 o : Nat} (hr3 : runL digB (t.drop k2) = r3) (ho : o = k2 + r3) (hol : o ≤ t.length) (h5 : o = t.length) : Calls Tryd.prog 84 #[.string (ba t)] w fun e w' => e = .returned (itemV (numberI t) 0 (numberI t).len) ∧ Below w.heap.size w w' := by
 have hsz := ba_size t
 have hu := Tryd.underlying70
 have hut := Tryd.underlying42
 have HI := Aside0.mk (Is7.start w)
 have hnum : numL t = (o, 4, false) := by
  have hd' : t.getD (n + 1) 0 = d := by rw [← hn1]; exact hd
  have hr' : runL digB (t.drop (n + 1)) = r2 := by rw [← hn1]; exact hr2
  have hcond : n + 1 < t.length ∧ c.toNat = 46 ∧ digB d = true := ⟨by omega, h46, hD⟩
  unfold numL numN
  rw [hn, hc, hd', if_pos hcond, hr', show n + 1 + r2 = m by omega]
  have hcx : m < t.length ∧ x.toNat = 101 := ⟨h2, h101⟩
  unfold realL
  rw [hxx, if_pos hcx]
  unfold expL
  have hy' : t.getD (m + 1) 0 = y := by rw [← hk1]; exact hy
  have hat : expAt t m = k2 := by
   unfold expAt
   rw [hy', if_pos (by omega)]
   omega
  rw [hat]
  unfold expK
  rw [if_pos h4, hz, if_pos hZ, hr3, ← ho]
  rw [decide_eq_false (by omega)]
 have e : numberI t = tokI 4 t o false := by
  unfold numberI numberX
  rw [hnum]
  dsimp only
  rw [if_neg (fun h => by omega)]
 have HTK := Aside0.mk (token_calls 4 t o (by omega) false)
 rw [e]
 have HR := Aside0.mk (run_digit t ht)
 rw [hn] at HR
 have d1 : decide (n < t.length) = true := decide_eq_true (by omega)
 have hPc := ba_at t n
 rw [hc] at hPc
 have mc : (n < (ba t).size) = True := eq_true (by omega)
 have kw1 : IntKind.i64.wrap ((n : Int) + 1) = (n1 : Int) := kwI (by omega) (by omega)
 have d2 : decide (n1 < t.length) = true := decide_eq_true (by omega)
 have za : ((n1 : Int) == (t.length : Int)) = false := bne_int (by omega)
 have zb : (n1 == t.length) = false := beq_eq_false_iff_ne.2 (by omega)
 have zc : decide (n1 = t.length) = false := decide_eq_false (by omega)
 have qa : ((c.toNat : Int) == 46) = true := by rw [h46]; rfl
 have qb : (c.toNat == 46) = true := by rw [h46]; rfl
 have qc : decide (c.toNat = 46) = true := by rw [h46]; rfl
 have hPd := ba_at t n1
 rw [hd] at hPd
 have md : (n1 < (ba t).size) = True := eq_true (by omega)
 have HD := Aside0.mk (digit_byte d)
 rw [hD] at HD
 have HR2 := Aside0.mk (run_digit (t.drop n1) (by rw [List.length_drop]; omega))
 rw [hr2] at HR2
 have hsl := fun W => str_low t n1 (by omega) W
 have kw2 : IntKind.i64.wrap (1 + (r2 : Int)) = (q : Int) := kwI (by omega) (by omega)
 have kw3 : IntKind.i64.wrap ((n : Int) + (q : Int)) = (m : Int) := kwI (by omega) (by omega)
 have d3 : decide (m < t.length) = true := decide_eq_true (by omega)
 have hPx := ba_at t m
 rw [hxx] at hPx
 have mx : (m < (ba t).size) = True := eq_true (by omega)
 have pa : ((x.toNat : Int) == 101) = true := by rw [h101]; rfl
 have pb : (x.toNat == 101) = true := by rw [h101]; rfl
 have pc : decide (x.toNat = 101) = true := by rw [h101]; rfl
 have kw4 : IntKind.i64.wrap ((m : Int) + 1) = (k1 : Int) := kwI (by omega) (by omega)
 have d4 : decide (k1 < t.length) = true := decide_eq_true (by omega)
 have hPy := ba_at t k1
 rw [hy] at hPy
 have my : (k1 < (ba t).size) = True := eq_true (by omega)
 have ua : ((y.toNat : Int) == 43) = false := by rw [beq_eq_false_iff_ne]; omega
 have ub : (y.toNat == 43) = false := beq_eq_false_iff_ne.2 h43
 have uc : decide (y.toNat = 43) = false := decide_eq_false h43
 have va : ((y.toNat : Int) == 45) = true := by rw [h45]; rfl
 have vb : (y.toNat == 45) = true := by rw [h45]; rfl
 have vc : decide (y.toNat = 45) = true := by rw [h45]; rfl
 have kw5 : IntKind.i64.wrap ((k1 : Int) + 1) = (k2 : Int) := kwI (by omega) (by omega)
 have d5 : decide (k2 < t.length) = true := decide_eq_true (by omega)
 have hPz := ba_at t k2
 rw [hz] at hPz
 have mz : (k2 < (ba t).size) = True := eq_true (by omega)
 have HZ := Aside0.mk (digit_byte z)
 rw [hZ] at HZ
 have HR3 := Aside0.mk (run_digit (t.drop k2) (by rw [List.length_drop]; omega))
 rw [hr3] at HR3
 have hsl2 := fun W => str_low t k2 (by omega) W
 have kw6 : IntKind.i64.wrap ((k2 : Int) + (r3 : Int)) = (o : Int) := kwI (by omega) (by omega)
 have d6 : decide (o < t.length) = false := decide_eq_false (by omega)
 clear hnum e h46 h101 h43 h45
 clear hn hn1 hr2 hq hm hk1 hk2 hr3 ho h5
 go_enter Tryd.func84, Tryd.ntmps84
 go_wp2_with (first
  | (go_at_call 78; (with_reducible refine (HR.out _).mono ?_); rintro e w1 ⟨rfl, hd1⟩; have HI0 := HI; clear HI; have HI := Aside0.mk (HI0.out.keep hd1.below); clear HI0 hd1)
  | (go_at_call 78; (with_reducible refine (HR2.out _).mono ?_); rintro e w1 ⟨rfl, hd1⟩; have HI0 := HI; clear HI; have HI := Aside0.mk (HI0.out.keep hd1.below); clear HI0 hd1)
  | (go_at_call 78; (with_reducible refine (HR3.out _).mono ?_); rintro e w1 ⟨rfl, hd1⟩; have HI0 := HI; clear HI; have HI := Aside0.mk (HI0.out.keep hd1.below); clear HI0 hd1)
  | (go_at_call 80; (with_reducible refine (HD.out _).mono ?_); rintro e w1 ⟨rfl, hd1⟩; have HI0 := HI; clear HI; have HI := Aside0.mk (HI0.out.keep hd1.below); clear HI0 hd1)
  | (go_at_call 80; (with_reducible refine (HZ.out _).mono ?_); rintro e w1 ⟨rfl, hd1⟩; have HI0 := HI; clear HI; have HI := Aside0.mk (HI0.out.keep hd1.below); clear HI0 hd1)
  | (go_at_call 82; (with_reducible refine (HTK.out _).mono ?_); rintro e w2 ⟨rfl, hb2⟩; have HIz := Aside0.mk (HI.out.keep hb2); obtain ⟨_, _, c0, c1, c2, c3, c4, c5, c6, f0, f1, f2, f3, f4, f5, f6⟩ := HIz.out; clear hb2))
 refine bodyPost_ret (HIz.out.results rfl _ rfl _ _ _ _ _ _ _) rfl ⟨rfl, HIz.out.set _ _ _ _ _ _ _⟩
set_option maxRecDepth 100000 in
set_option maxHeartbeats 4000000 in
theorem number_way20 {n n1 : Nat} (hn : runL digB t = n) (hle : n ≤ t.length) (hn1 : n1 = n + 1) {c : UInt8} (hc : t.getD n 0 = c) (h1 : n < t.length) (h46 : c.toNat = 46) (hx : n1 < t.length) {d : UInt8} (hd : t.getD n1 0 = d) (hD : digB d = true) {r2 q m : Nat} (hr2 : runL digB (t.drop n1) = r2) (hq : q = 1 + r2) (hm : m = n + q) (hml : m ≤ t.length) (h2 : m < t.length) {x : UInt8} (hxx : t.getD m 0 = x) (h101 : x.toNat = 101) (hL : letB x = true) {k1 : Nat} (hk1 : k1 = m + 1) (h3 : k1 < t.length) {y : UInt8} (hy : t.getD k1 0 = y) (h43 : ¬ y.toNat = 43) (h45 : y.toNat = 45) {k2 : Nat} (hk2 : k2 = k1 + 1) (h4 : k2 < t.length) {z : UInt8} (hz : t.getD k2 0 = z) (hZ : digB z = true) {r3 o : Nat} (hr3 : runL digB (t.drop k2) = r3) (ho : o = k2 + r3) (hol : o ≤ t.length) (h5 : o < t.length) {g : UInt8} (hg : t.getD o 0 = g) (hG : letB g = true) : Calls Tryd.prog 84 #[.string (ba t)] w fun e w' => e = .returned (itemV (numberI t) 0 (numberI t).len) ∧ Below w.heap.size w w' := by
 have hsz := ba_size t
 have hu := Tryd.underlying70
 have hut := Tryd.underlying42
 have HI := Aside0.mk (Is7.start w)
 have hnum : numL t = (o, 4, true) := by
  have hd' : t.getD (n + 1) 0 = d := by rw [← hn1]; exact hd
  have hr' : runL digB (t.drop (n + 1)) = r2 := by rw [← hn1]; exact hr2
  have hcond : n + 1 < t.length ∧ c.toNat = 46 ∧ digB d = true := ⟨by omega, h46, hD⟩
  unfold numL numN
  rw [hn, hc, hd', if_pos hcond, hr', show n + 1 + r2 = m by omega]
  have hcx : m < t.length ∧ x.toNat = 101 := ⟨h2, h101⟩
  unfold realL
  rw [hxx, if_pos hcx]
  unfold expL
  have hy' : t.getD (m + 1) 0 = y := by rw [← hk1]; exact hy
  have hat : expAt t m = k2 := by
   unfold expAt
   rw [hy', if_pos (by omega)]
   omega
  rw [hat]
  unfold expK
  rw [if_pos h4, hz, if_pos hZ, hr3, ← ho]
  rw [decide_eq_true h5]
 have HL := Aside0.mk (letter_byte g)
 rw [hG] at HL
 have e : numberI t = badI 7 true := by
  unfold numberI numberX
  rw [hnum]
  dsimp only
  rw [if_pos ⟨by omega, by rw [hg, hG]⟩]
 rw [e]
 have HR := Aside0.mk (run_digit t ht)
 rw [hn] at HR
 have d1 : decide (n < t.length) = true := decide_eq_true (by omega)
 have hPc := ba_at t n
 rw [hc] at hPc
 have mc : (n < (ba t).size) = True := eq_true (by omega)
 have kw1 : IntKind.i64.wrap ((n : Int) + 1) = (n1 : Int) := kwI (by omega) (by omega)
 have d2 : decide (n1 < t.length) = true := decide_eq_true (by omega)
 have za : ((n1 : Int) == (t.length : Int)) = false := bne_int (by omega)
 have zb : (n1 == t.length) = false := beq_eq_false_iff_ne.2 (by omega)
 have zc : decide (n1 = t.length) = false := decide_eq_false (by omega)
 have qa : ((c.toNat : Int) == 46) = true := by rw [h46]; rfl
 have qb : (c.toNat == 46) = true := by rw [h46]; rfl
 have qc : decide (c.toNat = 46) = true := by rw [h46]; rfl
 have hPd := ba_at t n1
 rw [hd] at hPd
 have md : (n1 < (ba t).size) = True := eq_true (by omega)
 have HD := Aside0.mk (digit_byte d)
 rw [hD] at HD
 have HR2 := Aside0.mk (run_digit (t.drop n1) (by rw [List.length_drop]; omega))
 rw [hr2] at HR2
 have hsl := fun W => str_low t n1 (by omega) W
 have kw2 : IntKind.i64.wrap (1 + (r2 : Int)) = (q : Int) := kwI (by omega) (by omega)
 have kw3 : IntKind.i64.wrap ((n : Int) + (q : Int)) = (m : Int) := kwI (by omega) (by omega)
 have d3 : decide (m < t.length) = true := decide_eq_true (by omega)
 have hPx := ba_at t m
 rw [hxx] at hPx
 have mx : (m < (ba t).size) = True := eq_true (by omega)
 have pa : ((x.toNat : Int) == 101) = true := by rw [h101]; rfl
 have pb : (x.toNat == 101) = true := by rw [h101]; rfl
 have pc : decide (x.toNat = 101) = true := by rw [h101]; rfl
 have kw4 : IntKind.i64.wrap ((m : Int) + 1) = (k1 : Int) := kwI (by omega) (by omega)
 have d4 : decide (k1 < t.length) = true := decide_eq_true (by omega)
 have hPy := ba_at t k1
 rw [hy] at hPy
 have my : (k1 < (ba t).size) = True := eq_true (by omega)
 have ua : ((y.toNat : Int) == 43) = false := by rw [beq_eq_false_iff_ne]; omega
 have ub : (y.toNat == 43) = false := beq_eq_false_iff_ne.2 h43
 have uc : decide (y.toNat = 43) = false := decide_eq_false h43
 have va : ((y.toNat : Int) == 45) = true := by rw [h45]; rfl
 have vb : (y.toNat == 45) = true := by rw [h45]; rfl
 have vc : decide (y.toNat = 45) = true := by rw [h45]; rfl
 have kw5 : IntKind.i64.wrap ((k1 : Int) + 1) = (k2 : Int) := kwI (by omega) (by omega)
 have d5 : decide (k2 < t.length) = true := decide_eq_true (by omega)
 have hPz := ba_at t k2
 rw [hz] at hPz
 have mz : (k2 < (ba t).size) = True := eq_true (by omega)
 have HZ := Aside0.mk (digit_byte z)
 rw [hZ] at HZ
 have HR3 := Aside0.mk (run_digit (t.drop k2) (by rw [List.length_drop]; omega))
 rw [hr3] at HR3
 have hsl2 := fun W => str_low t k2 (by omega) W
 have kw6 : IntKind.i64.wrap ((k2 : Int) + (r3 : Int)) = (o : Int) := kwI (by omega) (by omega)
 have d6 : decide (o < t.length) = true := decide_eq_true (by omega)
 have hPg := ba_at t o
 rw [hg] at hPg
 have mg : (o < (ba t).size) = True := eq_true (by omega)
 clear hnum e h46 h101 h43 h45
 clear hn hn1 hr2 hq hm hk1 hk2 hr3 ho
 go_enter Tryd.func84, Tryd.ntmps84
 go_wp2_with (first
  | (go_at_call 78; (with_reducible refine (HR.out _).mono ?_); rintro e w1 ⟨rfl, hd1⟩; have HI0 := HI; clear HI; have HI := Aside0.mk (HI0.out.keep hd1.below); clear HI0 hd1)
  | (go_at_call 78; (with_reducible refine (HR2.out _).mono ?_); rintro e w1 ⟨rfl, hd1⟩; have HI0 := HI; clear HI; have HI := Aside0.mk (HI0.out.keep hd1.below); clear HI0 hd1)
  | (go_at_call 78; (with_reducible refine (HR3.out _).mono ?_); rintro e w1 ⟨rfl, hd1⟩; have HI0 := HI; clear HI; have HI := Aside0.mk (HI0.out.keep hd1.below); clear HI0 hd1)
  | (go_at_call 80; (with_reducible refine (HD.out _).mono ?_); rintro e w1 ⟨rfl, hd1⟩; have HI0 := HI; clear HI; have HI := Aside0.mk (HI0.out.keep hd1.below); clear HI0 hd1)
  | (go_at_call 80; (with_reducible refine (HZ.out _).mono ?_); rintro e w1 ⟨rfl, hd1⟩; have HI0 := HI; clear HI; have HI := Aside0.mk (HI0.out.keep hd1.below); clear HI0 hd1)
  | (go_at_call 71; (with_reducible refine (HL.out _).mono ?_); rintro e w1 ⟨rfl, hd1⟩; have HI0 := HI; clear HI; have HI := Aside0.mk (HI0.out.keep hd1.below); clear HI0 hd1)
  | (go_at_call 83; (with_reducible refine (wrong_calls _ _ _).mono ?_); rintro e w2 ⟨rfl, hb2⟩; have HIz := Aside0.mk (HI.out.keep hb2); obtain ⟨_, _, c0, c1, c2, c3, c4, c5, c6, f0, f1, f2, f3, f4, f5, f6⟩ := HIz.out; clear hb2))
 refine bodyPost_ret (HIz.out.results rfl _ rfl _ _ _ _ _ _ _) rfl ⟨rfl, HIz.out.set _ _ _ _ _ _ _⟩
set_option maxRecDepth 100000 in
set_option maxHeartbeats 4000000 in
theorem number_way21 {n n1 : Nat} (hn : runL digB t = n) (hle : n ≤ t.length) (hn1 : n1 = n + 1) {c : UInt8} (hc : t.getD n 0 = c) (h1 : n < t.length) (h46 : c.toNat = 46) (hx : n1 < t.length) {d : UInt8} (hd : t.getD n1 0 = d) (hD : digB d = true) {r2 q m : Nat} (hr2 : runL digB (t.drop n1) = r2) (hq : q = 1 + r2) (hm : m = n + q) (hml : m ≤ t.length) (h2 : m < t.length) {x : UInt8} (hxx : t.getD m 0 = x) (h101 : x.toNat = 101) (hL : letB x = true) {k1 : Nat} (hk1 : k1 = m + 1) (h3 : k1 < t.length) {y : UInt8} (hy : t.getD k1 0 = y) (h43 : ¬ y.toNat = 43) (h45 : y.toNat = 45) {k2 : Nat} (hk2 : k2 = k1 + 1) (h4 : k2 < t.length) {z : UInt8} (hz : t.getD k2 0 = z) (hZ : digB z = true) {r3 o : Nat} (hr3 : runL digB (t.drop k2) = r3) (ho : o = k2 + r3) (hol : o ≤ t.length) (h5 : o < t.length) {g : UInt8} (hg : t.getD o 0 = g) (hG : letB g = false) : Calls Tryd.prog 84 #[.string (ba t)] w fun e w' => e = .returned (itemV (numberI t) 0 (numberI t).len) ∧ Below w.heap.size w w' := by
 have hsz := ba_size t
 have hu := Tryd.underlying70
 have hut := Tryd.underlying42
 have HI := Aside0.mk (Is7.start w)
 have hnum : numL t = (o, 4, true) := by
  have hd' : t.getD (n + 1) 0 = d := by rw [← hn1]; exact hd
  have hr' : runL digB (t.drop (n + 1)) = r2 := by rw [← hn1]; exact hr2
  have hcond : n + 1 < t.length ∧ c.toNat = 46 ∧ digB d = true := ⟨by omega, h46, hD⟩
  unfold numL numN
  rw [hn, hc, hd', if_pos hcond, hr', show n + 1 + r2 = m by omega]
  have hcx : m < t.length ∧ x.toNat = 101 := ⟨h2, h101⟩
  unfold realL
  rw [hxx, if_pos hcx]
  unfold expL
  have hy' : t.getD (m + 1) 0 = y := by rw [← hk1]; exact hy
  have hat : expAt t m = k2 := by
   unfold expAt
   rw [hy', if_pos (by omega)]
   omega
  rw [hat]
  unfold expK
  rw [if_pos h4, hz, if_pos hZ, hr3, ← ho]
  rw [decide_eq_true h5]
 have HL := Aside0.mk (letter_byte g)
 rw [hG] at HL
 have e : numberI t = tokI 4 t o true := by
  unfold numberI numberX
  rw [hnum]
  dsimp only
  rw [if_neg (fun h => by have := h.2; rw [hg, hG] at this; cases this)]
 have HTK := Aside0.mk (token_calls 4 t o (by omega) true)
 rw [e]
 have HR := Aside0.mk (run_digit t ht)
 rw [hn] at HR
 have d1 : decide (n < t.length) = true := decide_eq_true (by omega)
 have hPc := ba_at t n
 rw [hc] at hPc
 have mc : (n < (ba t).size) = True := eq_true (by omega)
 have kw1 : IntKind.i64.wrap ((n : Int) + 1) = (n1 : Int) := kwI (by omega) (by omega)
 have d2 : decide (n1 < t.length) = true := decide_eq_true (by omega)
 have za : ((n1 : Int) == (t.length : Int)) = false := bne_int (by omega)
 have zb : (n1 == t.length) = false := beq_eq_false_iff_ne.2 (by omega)
 have zc : decide (n1 = t.length) = false := decide_eq_false (by omega)
 have qa : ((c.toNat : Int) == 46) = true := by rw [h46]; rfl
 have qb : (c.toNat == 46) = true := by rw [h46]; rfl
 have qc : decide (c.toNat = 46) = true := by rw [h46]; rfl
 have hPd := ba_at t n1
 rw [hd] at hPd
 have md : (n1 < (ba t).size) = True := eq_true (by omega)
 have HD := Aside0.mk (digit_byte d)
 rw [hD] at HD
 have HR2 := Aside0.mk (run_digit (t.drop n1) (by rw [List.length_drop]; omega))
 rw [hr2] at HR2
 have hsl := fun W => str_low t n1 (by omega) W
 have kw2 : IntKind.i64.wrap (1 + (r2 : Int)) = (q : Int) := kwI (by omega) (by omega)
 have kw3 : IntKind.i64.wrap ((n : Int) + (q : Int)) = (m : Int) := kwI (by omega) (by omega)
 have d3 : decide (m < t.length) = true := decide_eq_true (by omega)
 have hPx := ba_at t m
 rw [hxx] at hPx
 have mx : (m < (ba t).size) = True := eq_true (by omega)
 have pa : ((x.toNat : Int) == 101) = true := by rw [h101]; rfl
 have pb : (x.toNat == 101) = true := by rw [h101]; rfl
 have pc : decide (x.toNat = 101) = true := by rw [h101]; rfl
 have kw4 : IntKind.i64.wrap ((m : Int) + 1) = (k1 : Int) := kwI (by omega) (by omega)
 have d4 : decide (k1 < t.length) = true := decide_eq_true (by omega)
 have hPy := ba_at t k1
 rw [hy] at hPy
 have my : (k1 < (ba t).size) = True := eq_true (by omega)
 have ua : ((y.toNat : Int) == 43) = false := by rw [beq_eq_false_iff_ne]; omega
 have ub : (y.toNat == 43) = false := beq_eq_false_iff_ne.2 h43
 have uc : decide (y.toNat = 43) = false := decide_eq_false h43
 have va : ((y.toNat : Int) == 45) = true := by rw [h45]; rfl
 have vb : (y.toNat == 45) = true := by rw [h45]; rfl
 have vc : decide (y.toNat = 45) = true := by rw [h45]; rfl
 have kw5 : IntKind.i64.wrap ((k1 : Int) + 1) = (k2 : Int) := kwI (by omega) (by omega)
 have d5 : decide (k2 < t.length) = true := decide_eq_true (by omega)
 have hPz := ba_at t k2
 rw [hz] at hPz
 have mz : (k2 < (ba t).size) = True := eq_true (by omega)
 have HZ := Aside0.mk (digit_byte z)
 rw [hZ] at HZ
 have HR3 := Aside0.mk (run_digit (t.drop k2) (by rw [List.length_drop]; omega))
 rw [hr3] at HR3
 have hsl2 := fun W => str_low t k2 (by omega) W
 have kw6 : IntKind.i64.wrap ((k2 : Int) + (r3 : Int)) = (o : Int) := kwI (by omega) (by omega)
 have d6 : decide (o < t.length) = true := decide_eq_true (by omega)
 have hPg := ba_at t o
 rw [hg] at hPg
 have mg : (o < (ba t).size) = True := eq_true (by omega)
 clear hnum e h46 h101 h43 h45
 clear hn hn1 hr2 hq hm hk1 hk2 hr3 ho
 go_enter Tryd.func84, Tryd.ntmps84
 go_wp2_with (first
  | (go_at_call 78; (with_reducible refine (HR.out _).mono ?_); rintro e w1 ⟨rfl, hd1⟩; have HI0 := HI; clear HI; have HI := Aside0.mk (HI0.out.keep hd1.below); clear HI0 hd1)
  | (go_at_call 78; (with_reducible refine (HR2.out _).mono ?_); rintro e w1 ⟨rfl, hd1⟩; have HI0 := HI; clear HI; have HI := Aside0.mk (HI0.out.keep hd1.below); clear HI0 hd1)
  | (go_at_call 78; (with_reducible refine (HR3.out _).mono ?_); rintro e w1 ⟨rfl, hd1⟩; have HI0 := HI; clear HI; have HI := Aside0.mk (HI0.out.keep hd1.below); clear HI0 hd1)
  | (go_at_call 80; (with_reducible refine (HD.out _).mono ?_); rintro e w1 ⟨rfl, hd1⟩; have HI0 := HI; clear HI; have HI := Aside0.mk (HI0.out.keep hd1.below); clear HI0 hd1)
  | (go_at_call 80; (with_reducible refine (HZ.out _).mono ?_); rintro e w1 ⟨rfl, hd1⟩; have HI0 := HI; clear HI; have HI := Aside0.mk (HI0.out.keep hd1.below); clear HI0 hd1)
  | (go_at_call 71; (with_reducible refine (HL.out _).mono ?_); rintro e w1 ⟨rfl, hd1⟩; have HI0 := HI; clear HI; have HI := Aside0.mk (HI0.out.keep hd1.below); clear HI0 hd1)
  | (go_at_call 82; (with_reducible refine (HTK.out _).mono ?_); rintro e w2 ⟨rfl, hb2⟩; have HIz := Aside0.mk (HI.out.keep hb2); obtain ⟨_, _, c0, c1, c2, c3, c4, c5, c6, f0, f1, f2, f3, f4, f5, f6⟩ := HIz.out; clear hb2))
 refine bodyPost_ret (HIz.out.results rfl _ rfl _ _ _ _ _ _ _) rfl ⟨rfl, HIz.out.set _ _ _ _ _ _ _⟩
set_option maxRecDepth 100000 in
set_option maxHeartbeats 4000000 in
theorem number_way22 {n n1 : Nat} (hn : runL digB t = n) (hle : n ≤ t.length) (hn1 : n1 = n + 1) {c : UInt8} (hc : t.getD n 0 = c) (h1 : n < t.length) (h46 : c.toNat = 46) (hx : n1 < t.length) {d : UInt8} (hd : t.getD n1 0 = d) (hD : digB d = true) {r2 q m : Nat} (hr2 : runL digB (t.drop n1) = r2) (hq : q = 1 + r2) (hm : m = n + q) (hml : m ≤ t.length) (h2 : m < t.length) {x : UInt8} (hxx : t.getD m 0 = x) (h101 : x.toNat = 101) (hL : letB x = true) {k1 : Nat} (hk1 : k1 = m + 1) (h3 : k1 < t.length) {y : UInt8} (hy : t.getD k1 0 = y) (h43 : ¬ y.toNat = 43) (h45 : ¬ y.toNat = 45) (hY : digB y = false) : Calls Tryd.prog 84 #[.string (ba t)] w fun e w' => e = .returned (itemV (numberI t) 0 (numberI t).len) ∧ Below w.heap.size w w' := by
 have hsz := ba_size t
 have hu := Tryd.underlying70
 have hut := Tryd.underlying42
 have HI := Aside0.mk (Is7.start w)
 have hnum : numL t = (m, 4, true) := by
  have hd' : t.getD (n + 1) 0 = d := by rw [← hn1]; exact hd
  have hr' : runL digB (t.drop (n + 1)) = r2 := by rw [← hn1]; exact hr2
  have hcond : n + 1 < t.length ∧ c.toNat = 46 ∧ digB d = true := ⟨by omega, h46, hD⟩
  unfold numL numN
  rw [hn, hc, hd', if_pos hcond, hr', show n + 1 + r2 = m by omega]
  have hcx : m < t.length ∧ x.toNat = 101 := ⟨h2, h101⟩
  unfold realL
  rw [hxx, if_pos hcx]
  unfold expL
  have hy' : t.getD (m + 1) 0 = y := by rw [← hk1]; exact hy
  have hat : expAt t m = k1 := by
   unfold expAt
   rw [hy', if_neg (by omega)]
   omega
  rw [hat]
  unfold expK
  rw [if_pos h3, hy, if_neg (by rw [hY]; decide)]
 have HL := Aside0.mk (letter_byte x)
 rw [hL] at HL
 have e : numberI t = badI 7 true := by
  unfold numberI numberX
  rw [hnum]
  dsimp only
  rw [if_pos ⟨by omega, by rw [hxx, hL]⟩]
 rw [e]
 have HR := Aside0.mk (run_digit t ht)
 rw [hn] at HR
 have d1 : decide (n < t.length) = true := decide_eq_true (by omega)
 have hPc := ba_at t n
 rw [hc] at hPc
 have mc : (n < (ba t).size) = True := eq_true (by omega)
 have kw1 : IntKind.i64.wrap ((n : Int) + 1) = (n1 : Int) := kwI (by omega) (by omega)
 have d2 : decide (n1 < t.length) = true := decide_eq_true (by omega)
 have za : ((n1 : Int) == (t.length : Int)) = false := bne_int (by omega)
 have zb : (n1 == t.length) = false := beq_eq_false_iff_ne.2 (by omega)
 have zc : decide (n1 = t.length) = false := decide_eq_false (by omega)
 have qa : ((c.toNat : Int) == 46) = true := by rw [h46]; rfl
 have qb : (c.toNat == 46) = true := by rw [h46]; rfl
 have qc : decide (c.toNat = 46) = true := by rw [h46]; rfl
 have hPd := ba_at t n1
 rw [hd] at hPd
 have md : (n1 < (ba t).size) = True := eq_true (by omega)
 have HD := Aside0.mk (digit_byte d)
 rw [hD] at HD
 have HR2 := Aside0.mk (run_digit (t.drop n1) (by rw [List.length_drop]; omega))
 rw [hr2] at HR2
 have hsl := fun W => str_low t n1 (by omega) W
 have kw2 : IntKind.i64.wrap (1 + (r2 : Int)) = (q : Int) := kwI (by omega) (by omega)
 have kw3 : IntKind.i64.wrap ((n : Int) + (q : Int)) = (m : Int) := kwI (by omega) (by omega)
 have d3 : decide (m < t.length) = true := decide_eq_true (by omega)
 have hPx := ba_at t m
 rw [hxx] at hPx
 have mx : (m < (ba t).size) = True := eq_true (by omega)
 have pa : ((x.toNat : Int) == 101) = true := by rw [h101]; rfl
 have pb : (x.toNat == 101) = true := by rw [h101]; rfl
 have pc : decide (x.toNat = 101) = true := by rw [h101]; rfl
 have kw4 : IntKind.i64.wrap ((m : Int) + 1) = (k1 : Int) := kwI (by omega) (by omega)
 have d4 : decide (k1 < t.length) = true := decide_eq_true (by omega)
 have hPy := ba_at t k1
 rw [hy] at hPy
 have my : (k1 < (ba t).size) = True := eq_true (by omega)
 have ua : ((y.toNat : Int) == 43) = false := by rw [beq_eq_false_iff_ne]; omega
 have ub : (y.toNat == 43) = false := beq_eq_false_iff_ne.2 h43
 have uc : decide (y.toNat = 43) = false := decide_eq_false h43
 have va : ((y.toNat : Int) == 45) = false := by rw [beq_eq_false_iff_ne]; omega
 have vb : (y.toNat == 45) = false := beq_eq_false_iff_ne.2 h45
 have vc : decide (y.toNat = 45) = false := decide_eq_false h45
 have HY := Aside0.mk (digit_byte y)
 rw [hY] at HY
 clear hnum e h46 h101 h43 h45
 clear hn hn1 hr2 hq hm hk1
 go_enter Tryd.func84, Tryd.ntmps84
 go_wp2_with (first
  | (go_at_call 78; (with_reducible refine (HR.out _).mono ?_); rintro e w1 ⟨rfl, hd1⟩; have HI0 := HI; clear HI; have HI := Aside0.mk (HI0.out.keep hd1.below); clear HI0 hd1)
  | (go_at_call 78; (with_reducible refine (HR2.out _).mono ?_); rintro e w1 ⟨rfl, hd1⟩; have HI0 := HI; clear HI; have HI := Aside0.mk (HI0.out.keep hd1.below); clear HI0 hd1)
  | (go_at_call 80; (with_reducible refine (HD.out _).mono ?_); rintro e w1 ⟨rfl, hd1⟩; have HI0 := HI; clear HI; have HI := Aside0.mk (HI0.out.keep hd1.below); clear HI0 hd1)
  | (go_at_call 80; (with_reducible refine (HY.out _).mono ?_); rintro e w1 ⟨rfl, hd1⟩; have HI0 := HI; clear HI; have HI := Aside0.mk (HI0.out.keep hd1.below); clear HI0 hd1)
  | (go_at_call 71; (with_reducible refine (HL.out _).mono ?_); rintro e w1 ⟨rfl, hd1⟩; have HI0 := HI; clear HI; have HI := Aside0.mk (HI0.out.keep hd1.below); clear HI0 hd1)
  | (go_at_call 83; (with_reducible refine (wrong_calls _ _ _).mono ?_); rintro e w2 ⟨rfl, hb2⟩; have HIz := Aside0.mk (HI.out.keep hb2); obtain ⟨_, _, c0, c1, c2, c3, c4, c5, c6, f0, f1, f2, f3, f4, f5, f6⟩ := HIz.out; clear hb2))
 refine bodyPost_ret (HIz.out.results rfl _ rfl _ _ _ _ _ _ _) rfl ⟨rfl, HIz.out.set _ _ _ _ _ _ _⟩
set_option maxRecDepth 100000 in
set_option maxHeartbeats 4000000 in
theorem number_way23 {n n1 : Nat} (hn : runL digB t = n) (hle : n ≤ t.length) (hn1 : n1 = n + 1) {c : UInt8} (hc : t.getD n 0 = c) (h1 : n < t.length) (h46 : c.toNat = 46) (hx : n1 < t.length) {d : UInt8} (hd : t.getD n1 0 = d) (hD : digB d = true) {r2 q m : Nat} (hr2 : runL digB (t.drop n1) = r2) (hq : q = 1 + r2) (hm : m = n + q) (hml : m ≤ t.length) (h2 : m < t.length) {x : UInt8} (hxx : t.getD m 0 = x) (h101 : x.toNat = 101) (hL : letB x = true) {k1 : Nat} (hk1 : k1 = m + 1) (h3 : k1 < t.length) {y : UInt8} (hy : t.getD k1 0 = y) (h43 : ¬ y.toNat = 43) (h45 : ¬ y.toNat = 45) (hY : digB y = true) {r3 o : Nat} (hr3 : runL digB (t.drop k1) = r3) (ho : o = k1 + r3) (hol : o ≤ t.length) (h5 : o = t.length) : Calls Tryd.prog 84 #[.string (ba t)] w fun e w' => e = .returned (itemV (numberI t) 0 (numberI t).len) ∧ Below w.heap.size w w' := by
 have hsz := ba_size t
 have hu := Tryd.underlying70
 have hut := Tryd.underlying42
 have HI := Aside0.mk (Is7.start w)
 have hnum : numL t = (o, 4, false) := by
  have hd' : t.getD (n + 1) 0 = d := by rw [← hn1]; exact hd
  have hr' : runL digB (t.drop (n + 1)) = r2 := by rw [← hn1]; exact hr2
  have hcond : n + 1 < t.length ∧ c.toNat = 46 ∧ digB d = true := ⟨by omega, h46, hD⟩
  unfold numL numN
  rw [hn, hc, hd', if_pos hcond, hr', show n + 1 + r2 = m by omega]
  have hcx : m < t.length ∧ x.toNat = 101 := ⟨h2, h101⟩
  unfold realL
  rw [hxx, if_pos hcx]
  unfold expL
  have hy' : t.getD (m + 1) 0 = y := by rw [← hk1]; exact hy
  have hat : expAt t m = k1 := by
   unfold expAt
   rw [hy', if_neg (by omega)]
   omega
  rw [hat]
  unfold expK
  rw [if_pos h3, hy, if_pos hY, hr3, ← ho]
  rw [decide_eq_false (by omega)]
 have e : numberI t = tokI 4 t o false := by
  unfold numberI numberX
  rw [hnum]
  dsimp only
  rw [if_neg (fun h => by omega)]
 have HTK := Aside0.mk (token_calls 4 t o (by omega) false)
 rw [e]
 have HR := Aside0.mk (run_digit t ht)
 rw [hn] at HR
 have d1 : decide (n < t.length) = true := decide_eq_true (by omega)
 have hPc := ba_at t n
 rw [hc] at hPc
 have mc : (n < (ba t).size) = True := eq_true (by omega)
 have kw1 : IntKind.i64.wrap ((n : Int) + 1) = (n1 : Int) := kwI (by omega) (by omega)
 have d2 : decide (n1 < t.length) = true := decide_eq_true (by omega)
 have za : ((n1 : Int) == (t.length : Int)) = false := bne_int (by omega)
 have zb : (n1 == t.length) = false := beq_eq_false_iff_ne.2 (by omega)
 have zc : decide (n1 = t.length) = false := decide_eq_false (by omega)
 have qa : ((c.toNat : Int) == 46) = true := by rw [h46]; rfl
 have qb : (c.toNat == 46) = true := by rw [h46]; rfl
 have qc : decide (c.toNat = 46) = true := by rw [h46]; rfl
 have hPd := ba_at t n1
 rw [hd] at hPd
 have md : (n1 < (ba t).size) = True := eq_true (by omega)
 have HD := Aside0.mk (digit_byte d)
 rw [hD] at HD
 have HR2 := Aside0.mk (run_digit (t.drop n1) (by rw [List.length_drop]; omega))
 rw [hr2] at HR2
 have hsl := fun W => str_low t n1 (by omega) W
 have kw2 : IntKind.i64.wrap (1 + (r2 : Int)) = (q : Int) := kwI (by omega) (by omega)
 have kw3 : IntKind.i64.wrap ((n : Int) + (q : Int)) = (m : Int) := kwI (by omega) (by omega)
 have d3 : decide (m < t.length) = true := decide_eq_true (by omega)
 have hPx := ba_at t m
 rw [hxx] at hPx
 have mx : (m < (ba t).size) = True := eq_true (by omega)
 have pa : ((x.toNat : Int) == 101) = true := by rw [h101]; rfl
 have pb : (x.toNat == 101) = true := by rw [h101]; rfl
 have pc : decide (x.toNat = 101) = true := by rw [h101]; rfl
 have kw4 : IntKind.i64.wrap ((m : Int) + 1) = (k1 : Int) := kwI (by omega) (by omega)
 have d4 : decide (k1 < t.length) = true := decide_eq_true (by omega)
 have hPy := ba_at t k1
 rw [hy] at hPy
 have my : (k1 < (ba t).size) = True := eq_true (by omega)
 have ua : ((y.toNat : Int) == 43) = false := by rw [beq_eq_false_iff_ne]; omega
 have ub : (y.toNat == 43) = false := beq_eq_false_iff_ne.2 h43
 have uc : decide (y.toNat = 43) = false := decide_eq_false h43
 have va : ((y.toNat : Int) == 45) = false := by rw [beq_eq_false_iff_ne]; omega
 have vb : (y.toNat == 45) = false := beq_eq_false_iff_ne.2 h45
 have vc : decide (y.toNat = 45) = false := decide_eq_false h45
 have HY := Aside0.mk (digit_byte y)
 rw [hY] at HY
 have HR3 := Aside0.mk (run_digit (t.drop k1) (by rw [List.length_drop]; omega))
 rw [hr3] at HR3
 have hsl2 := fun W => str_low t k1 (by omega) W
 have kw6 : IntKind.i64.wrap ((k1 : Int) + (r3 : Int)) = (o : Int) := kwI (by omega) (by omega)
 have d6 : decide (o < t.length) = false := decide_eq_false (by omega)
 clear hnum e h46 h101 h43 h45
 clear hn hn1 hr2 hq hm hk1 hr3 ho h5
 go_enter Tryd.func84, Tryd.ntmps84
 go_wp2_with (first
  | (go_at_call 78; (with_reducible refine (HR.out _).mono ?_); rintro e w1 ⟨rfl, hd1⟩; have HI0 := HI; clear HI; have HI := Aside0.mk (HI0.out.keep hd1.below); clear HI0 hd1)
  | (go_at_call 78; (with_reducible refine (HR2.out _).mono ?_); rintro e w1 ⟨rfl, hd1⟩; have HI0 := HI; clear HI; have HI := Aside0.mk (HI0.out.keep hd1.below); clear HI0 hd1)
  | (go_at_call 78; (with_reducible refine (HR3.out _).mono ?_); rintro e w1 ⟨rfl, hd1⟩; have HI0 := HI; clear HI; have HI := Aside0.mk (HI0.out.keep hd1.below); clear HI0 hd1)
  | (go_at_call 80; (with_reducible refine (HD.out _).mono ?_); rintro e w1 ⟨rfl, hd1⟩; have HI0 := HI; clear HI; have HI := Aside0.mk (HI0.out.keep hd1.below); clear HI0 hd1)
  | (go_at_call 80; (with_reducible refine (HY.out _).mono ?_); rintro e w1 ⟨rfl, hd1⟩; have HI0 := HI; clear HI; have HI := Aside0.mk (HI0.out.keep hd1.below); clear HI0 hd1)
  | (go_at_call 82; (with_reducible refine (HTK.out _).mono ?_); rintro e w2 ⟨rfl, hb2⟩; have HIz := Aside0.mk (HI.out.keep hb2); obtain ⟨_, _, c0, c1, c2, c3, c4, c5, c6, f0, f1, f2, f3, f4, f5, f6⟩ := HIz.out; clear hb2))
 refine bodyPost_ret (HIz.out.results rfl _ rfl _ _ _ _ _ _ _) rfl ⟨rfl, HIz.out.set _ _ _ _ _ _ _⟩
set_option maxRecDepth 100000 in
set_option maxHeartbeats 4000000 in
theorem number_way24 {n n1 : Nat} (hn : runL digB t = n) (hle : n ≤ t.length) (hn1 : n1 = n + 1) {c : UInt8} (hc : t.getD n 0 = c) (h1 : n < t.length) (h46 : c.toNat = 46) (hx : n1 < t.length) {d : UInt8} (hd : t.getD n1 0 = d) (hD : digB d = true) {r2 q m : Nat} (hr2 : runL digB (t.drop n1) = r2) (hq : q = 1 + r2) (hm : m = n + q) (hml : m ≤ t.length) (h2 : m < t.length) {x : UInt8} (hxx : t.getD m 0 = x) (h101 : x.toNat = 101) (hL : letB x = true) {k1 : Nat} (hk1 : k1 = m + 1) (h3 : k1 < t.length) {y : UInt8} (hy : t.getD k1 0 = y) (h43 : ¬ y.toNat = 43) (h45 : ¬ y.toNat = 45) (hY : digB y = true) {r3 o : Nat} (hr3 : runL digB (t.drop k1) = r3) (ho : o = k1 + r3) (hol : o ≤ t.length) (h5 : o < t.length) {g : UInt8} (hg : t.getD o 0 = g) (hG : letB g = true) : Calls Tryd.prog 84 #[.string (ba t)] w fun e w' => e = .returned (itemV (numberI t) 0 (numberI t).len) ∧ Below w.heap.size w w' := by
 have hsz := ba_size t
 have hu := Tryd.underlying70
 have hut := Tryd.underlying42
 have HI := Aside0.mk (Is7.start w)
 have hnum : numL t = (o, 4, true) := by
  have hd' : t.getD (n + 1) 0 = d := by rw [← hn1]; exact hd
  have hr' : runL digB (t.drop (n + 1)) = r2 := by rw [← hn1]; exact hr2
  have hcond : n + 1 < t.length ∧ c.toNat = 46 ∧ digB d = true := ⟨by omega, h46, hD⟩
  unfold numL numN
  rw [hn, hc, hd', if_pos hcond, hr', show n + 1 + r2 = m by omega]
  have hcx : m < t.length ∧ x.toNat = 101 := ⟨h2, h101⟩
  unfold realL
  rw [hxx, if_pos hcx]
  unfold expL
  have hy' : t.getD (m + 1) 0 = y := by rw [← hk1]; exact hy
  have hat : expAt t m = k1 := by
   unfold expAt
   rw [hy', if_neg (by omega)]
   omega
  rw [hat]
  unfold expK
  rw [if_pos h3, hy, if_pos hY, hr3, ← ho]
  rw [decide_eq_true h5]
 have HL := Aside0.mk (letter_byte g)
 rw [hG] at HL
 have e : numberI t = badI 7 true := by
  unfold numberI numberX
  rw [hnum]
  dsimp only
  rw [if_pos ⟨by omega, by rw [hg, hG]⟩]
 rw [e]
 have HR := Aside0.mk (run_digit t ht)
 rw [hn] at HR
 have d1 : decide (n < t.length) = true := decide_eq_true (by omega)
 have hPc := ba_at t n
 rw [hc] at hPc
 have mc : (n < (ba t).size) = True := eq_true (by omega)
 have kw1 : IntKind.i64.wrap ((n : Int) + 1) = (n1 : Int) := kwI (by omega) (by omega)
 have d2 : decide (n1 < t.length) = true := decide_eq_true (by omega)
 have za : ((n1 : Int) == (t.length : Int)) = false := bne_int (by omega)
 have zb : (n1 == t.length) = false := beq_eq_false_iff_ne.2 (by omega)
 have zc : decide (n1 = t.length) = false := decide_eq_false (by omega)
 have qa : ((c.toNat : Int) == 46) = true := by rw [h46]; rfl
 have qb : (c.toNat == 46) = true := by rw [h46]; rfl
 have qc : decide (c.toNat = 46) = true := by rw [h46]; rfl
 have hPd := ba_at t n1
 rw [hd] at hPd
 have md : (n1 < (ba t).size) = True := eq_true (by omega)
 have HD := Aside0.mk (digit_byte d)
 rw [hD] at HD
 have HR2 := Aside0.mk (run_digit (t.drop n1) (by rw [List.length_drop]; omega))
 rw [hr2] at HR2
 have hsl := fun W => str_low t n1 (by omega) W
 have kw2 : IntKind.i64.wrap (1 + (r2 : Int)) = (q : Int) := kwI (by omega) (by omega)
 have kw3 : IntKind.i64.wrap ((n : Int) + (q : Int)) = (m : Int) := kwI (by omega) (by omega)
 have d3 : decide (m < t.length) = true := decide_eq_true (by omega)
 have hPx := ba_at t m
 rw [hxx] at hPx
 have mx : (m < (ba t).size) = True := eq_true (by omega)
 have pa : ((x.toNat : Int) == 101) = true := by rw [h101]; rfl
 have pb : (x.toNat == 101) = true := by rw [h101]; rfl
 have pc : decide (x.toNat = 101) = true := by rw [h101]; rfl
 have kw4 : IntKind.i64.wrap ((m : Int) + 1) = (k1 : Int) := kwI (by omega) (by omega)
 have d4 : decide (k1 < t.length) = true := decide_eq_true (by omega)
 have hPy := ba_at t k1
 rw [hy] at hPy
 have my : (k1 < (ba t).size) = True := eq_true (by omega)
 have ua : ((y.toNat : Int) == 43) = false := by rw [beq_eq_false_iff_ne]; omega
 have ub : (y.toNat == 43) = false := beq_eq_false_iff_ne.2 h43
 have uc : decide (y.toNat = 43) = false := decide_eq_false h43
 have va : ((y.toNat : Int) == 45) = false := by rw [beq_eq_false_iff_ne]; omega
 have vb : (y.toNat == 45) = false := beq_eq_false_iff_ne.2 h45
 have vc : decide (y.toNat = 45) = false := decide_eq_false h45
 have HY := Aside0.mk (digit_byte y)
 rw [hY] at HY
 have HR3 := Aside0.mk (run_digit (t.drop k1) (by rw [List.length_drop]; omega))
 rw [hr3] at HR3
 have hsl2 := fun W => str_low t k1 (by omega) W
 have kw6 : IntKind.i64.wrap ((k1 : Int) + (r3 : Int)) = (o : Int) := kwI (by omega) (by omega)
 have d6 : decide (o < t.length) = true := decide_eq_true (by omega)
 have hPg := ba_at t o
 rw [hg] at hPg
 have mg : (o < (ba t).size) = True := eq_true (by omega)
 clear hnum e h46 h101 h43 h45
 clear hn hn1 hr2 hq hm hk1 hr3 ho
 go_enter Tryd.func84, Tryd.ntmps84
 go_wp2_with (first
  | (go_at_call 78; (with_reducible refine (HR.out _).mono ?_); rintro e w1 ⟨rfl, hd1⟩; have HI0 := HI; clear HI; have HI := Aside0.mk (HI0.out.keep hd1.below); clear HI0 hd1)
  | (go_at_call 78; (with_reducible refine (HR2.out _).mono ?_); rintro e w1 ⟨rfl, hd1⟩; have HI0 := HI; clear HI; have HI := Aside0.mk (HI0.out.keep hd1.below); clear HI0 hd1)
  | (go_at_call 78; (with_reducible refine (HR3.out _).mono ?_); rintro e w1 ⟨rfl, hd1⟩; have HI0 := HI; clear HI; have HI := Aside0.mk (HI0.out.keep hd1.below); clear HI0 hd1)
  | (go_at_call 80; (with_reducible refine (HD.out _).mono ?_); rintro e w1 ⟨rfl, hd1⟩; have HI0 := HI; clear HI; have HI := Aside0.mk (HI0.out.keep hd1.below); clear HI0 hd1)
  | (go_at_call 80; (with_reducible refine (HY.out _).mono ?_); rintro e w1 ⟨rfl, hd1⟩; have HI0 := HI; clear HI; have HI := Aside0.mk (HI0.out.keep hd1.below); clear HI0 hd1)
  | (go_at_call 71; (with_reducible refine (HL.out _).mono ?_); rintro e w1 ⟨rfl, hd1⟩; have HI0 := HI; clear HI; have HI := Aside0.mk (HI0.out.keep hd1.below); clear HI0 hd1)
  | (go_at_call 83; (with_reducible refine (wrong_calls _ _ _).mono ?_); rintro e w2 ⟨rfl, hb2⟩; have HIz := Aside0.mk (HI.out.keep hb2); obtain ⟨_, _, c0, c1, c2, c3, c4, c5, c6, f0, f1, f2, f3, f4, f5, f6⟩ := HIz.out; clear hb2))
 refine bodyPost_ret (HIz.out.results rfl _ rfl _ _ _ _ _ _ _) rfl ⟨rfl, HIz.out.set _ _ _ _ _ _ _⟩
set_option maxRecDepth 100000 in
set_option maxHeartbeats 4000000 in
theorem number_way25 {n n1 : Nat} (hn : runL digB t = n) (hle : n ≤ t.length) (hn1 : n1 = n + 1) {c : UInt8} (hc : t.getD n 0 = c) (h1 : n < t.length) (h46 : c.toNat = 46) (hx : n1 < t.length) {d : UInt8} (hd : t.getD n1 0 = d) (hD : digB d = true) {r2 q m : Nat} (hr2 : runL digB (t.drop n1) = r2) (hq : q = 1 + r2) (hm : m = n + q) (hml : m ≤ t.length) (h2 : m < t.length) {x : UInt8} (hxx : t.getD m 0 = x) (h101 : x.toNat = 101) (hL : letB x = true) {k1 : Nat} (hk1 : k1 = m + 1) (h3 : k1 < t.length) {y : UInt8} (hy : t.getD k1 0 = y) (h43 : ¬ y.toNat = 43) (h45 : ¬ y.toNat = 45) (hY : digB y = true) {r3 o : Nat} (hr3 : runL digB (t.drop k1) = r3) (ho : o = k1 + r3) (hol : o ≤ t.length) (h5 : o < t.length) {g : UInt8} (hg : t.getD o 0 = g) (hG : letB g = false) : Calls Tryd.prog 84 #[.string (ba t)] w fun e w' => e = .returned (itemV (numberI t) 0 (numberI t).len) ∧ Below w.heap.size w w' := by
 have hsz := ba_size t
 have hu := Tryd.underlying70
 have hut := Tryd.underlying42
 have HI := Aside0.mk (Is7.start w)
 have hnum : numL t = (o, 4, true) := by
  have hd' : t.getD (n + 1) 0 = d := by rw [← hn1]; exact hd
  have hr' : runL digB (t.drop (n + 1)) = r2 := by rw [← hn1]; exact hr2
  have hcond : n + 1 < t.length ∧ c.toNat = 46 ∧ digB d = true := ⟨by omega, h46, hD⟩
  unfold numL numN
  rw [hn, hc, hd', if_pos hcond, hr', show n + 1 + r2 = m by omega]
  have hcx : m < t.length ∧ x.toNat = 101 := ⟨h2, h101⟩
  unfold realL
  rw [hxx, if_pos hcx]
  unfold expL
  have hy' : t.getD (m + 1) 0 = y := by rw [← hk1]; exact hy
  have hat : expAt t m = k1 := by
   unfold expAt
   rw [hy', if_neg (by omega)]
   omega
  rw [hat]
  unfold expK
  rw [if_pos h3, hy, if_pos hY, hr3, ← ho]
  rw [decide_eq_true h5]
 have HL := Aside0.mk (letter_byte g)
 rw [hG] at HL
 have e : numberI t = tokI 4 t o true := by
  unfold numberI numberX
  rw [hnum]
  dsimp only
  rw [if_neg (fun h => by have := h.2; rw [hg, hG] at this; cases this)]
 have HTK := Aside0.mk (token_calls 4 t o (by omega) true)
 rw [e]
 have HR := Aside0.mk (run_digit t ht)
 rw [hn] at HR
 have d1 : decide (n < t.length) = true := decide_eq_true (by omega)
 have hPc := ba_at t n
 rw [hc] at hPc
 have mc : (n < (ba t).size) = True := eq_true (by omega)
 have kw1 : IntKind.i64.wrap ((n : Int) + 1) = (n1 : Int) := kwI (by omega) (by omega)
 have d2 : decide (n1 < t.length) = true := decide_eq_true (by omega)
 have za : ((n1 : Int) == (t.length : Int)) = false := bne_int (by omega)
 have zb : (n1 == t.length) = false := beq_eq_false_iff_ne.2 (by omega)
 have zc : decide (n1 = t.length) = false := decide_eq_false (by omega)
 have qa : ((c.toNat : Int) == 46) = true := by rw [h46]; rfl
 have qb : (c.toNat == 46) = true := by rw [h46]; rfl
 have qc : decide (c.toNat = 46) = true := by rw [h46]; rfl
 have hPd := ba_at t n1
 rw [hd] at hPd
 have md : (n1 < (ba t).size) = True := eq_true (by omega)
 have HD := Aside0.mk (digit_byte d)
 rw [hD] at HD
 have HR2 := Aside0.mk (run_digit (t.drop n1) (by rw [List.length_drop]; omega))
 rw [hr2] at HR2
 have hsl := fun W => str_low t n1 (by omega) W
 have kw2 : IntKind.i64.wrap (1 + (r2 : Int)) = (q : Int) := kwI (by omega) (by omega)
 have kw3 : IntKind.i64.wrap ((n : Int) + (q : Int)) = (m : Int) := kwI (by omega) (by omega)
 have d3 : decide (m < t.length) = true := decide_eq_true (by omega)
 have hPx := ba_at t m
 rw [hxx] at hPx
 have mx : (m < (ba t).size) = True := eq_true (by omega)
 have pa : ((x.toNat : Int) == 101) = true := by rw [h101]; rfl
 have pb : (x.toNat == 101) = true := by rw [h101]; rfl
 have pc : decide (x.toNat = 101) = true := by rw [h101]; rfl
 have kw4 : IntKind.i64.wrap ((m : Int) + 1) = (k1 : Int) := kwI (by omega) (by omega)
 have d4 : decide (k1 < t.length) = true := decide_eq_true (by omega)
 have hPy := ba_at t k1
 rw [hy] at hPy
 have my : (k1 < (ba t).size) = True := eq_true (by omega)
 have ua : ((y.toNat : Int) == 43) = false := by rw [beq_eq_false_iff_ne]; omega
 have ub : (y.toNat == 43) = false := beq_eq_false_iff_ne.2 h43
 have uc : decide (y.toNat = 43) = false := decide_eq_false h43
 have va : ((y.toNat : Int) == 45) = false := by rw [beq_eq_false_iff_ne]; omega
 have vb : (y.toNat == 45) = false := beq_eq_false_iff_ne.2 h45
 have vc : decide (y.toNat = 45) = false := decide_eq_false h45
 have HY := Aside0.mk (digit_byte y)
 rw [hY] at HY
 have HR3 := Aside0.mk (run_digit (t.drop k1) (by rw [List.length_drop]; omega))
 rw [hr3] at HR3
 have hsl2 := fun W => str_low t k1 (by omega) W
 have kw6 : IntKind.i64.wrap ((k1 : Int) + (r3 : Int)) = (o : Int) := kwI (by omega) (by omega)
 have d6 : decide (o < t.length) = true := decide_eq_true (by omega)
 have hPg := ba_at t o
 rw [hg] at hPg
 have mg : (o < (ba t).size) = True := eq_true (by omega)
 clear hnum e h46 h101 h43 h45
 clear hn hn1 hr2 hq hm hk1 hr3 ho
 go_enter Tryd.func84, Tryd.ntmps84
 go_wp2_with (first
  | (go_at_call 78; (with_reducible refine (HR.out _).mono ?_); rintro e w1 ⟨rfl, hd1⟩; have HI0 := HI; clear HI; have HI := Aside0.mk (HI0.out.keep hd1.below); clear HI0 hd1)
  | (go_at_call 78; (with_reducible refine (HR2.out _).mono ?_); rintro e w1 ⟨rfl, hd1⟩; have HI0 := HI; clear HI; have HI := Aside0.mk (HI0.out.keep hd1.below); clear HI0 hd1)
  | (go_at_call 78; (with_reducible refine (HR3.out _).mono ?_); rintro e w1 ⟨rfl, hd1⟩; have HI0 := HI; clear HI; have HI := Aside0.mk (HI0.out.keep hd1.below); clear HI0 hd1)
  | (go_at_call 80; (with_reducible refine (HD.out _).mono ?_); rintro e w1 ⟨rfl, hd1⟩; have HI0 := HI; clear HI; have HI := Aside0.mk (HI0.out.keep hd1.below); clear HI0 hd1)
  | (go_at_call 80; (with_reducible refine (HY.out _).mono ?_); rintro e w1 ⟨rfl, hd1⟩; have HI0 := HI; clear HI; have HI := Aside0.mk (HI0.out.keep hd1.below); clear HI0 hd1)
  | (go_at_call 71; (with_reducible refine (HL.out _).mono ?_); rintro e w1 ⟨rfl, hd1⟩; have HI0 := HI; clear HI; have HI := Aside0.mk (HI0.out.keep hd1.below); clear HI0 hd1)
  | (go_at_call 82; (with_reducible refine (HTK.out _).mono ?_); rintro e w2 ⟨rfl, hb2⟩; have HIz := Aside0.mk (HI.out.keep hb2); obtain ⟨_, _, c0, c1, c2, c3, c4, c5, c6, f0, f1, f2, f3, f4, f5, f6⟩ := HIz.out; clear hb2))
 refine bodyPost_ret (HIz.out.results rfl _ rfl _ _ _ _ _ _ _) rfl ⟨rfl, HIz.out.set _ _ _ _ _ _ _⟩
end
theorem number_reads (t : List UInt8) (ht : t.length ≤ 1099511627776) (w : World) : Calls Tryd.prog 84 #[.string (ba t)] w fun e w' => e = .returned (itemV (numberI t) 0 (numberI t).len) ∧ Below w.heap.size w w' := by
 have hle := runL_le digB t
 by_cases h1 : runL digB t < t.length
 ·by_cases h46 : (t.getD (runL digB t) 0).toNat = 46
  ·rcases Nat.lt_trichotomy (runL digB t + 1) t.length with hx | hx | hx
   ·by_cases hD : digB (t.getD (runL digB t + 1) 0) = true
    ·have hle2 := runL_le digB (t.drop (runL digB t + 1))
     rw [List.length_drop] at hle2
     obtain ⟨m, hm⟩ : ∃ m, m = runL digB t + (1 + runL digB (t.drop (runL digB t + 1))) := ⟨_, rfl⟩
     have hml : m ≤ t.length := by omega
     by_cases h2 : m < t.length
     ·by_cases h101 : (t.getD m 0).toNat = 101
      ·by_cases h3 : m + 1 < t.length
       ·by_cases h43 : (t.getD (m + 1) 0).toNat = 43
        ·by_cases h4 : m + 1 + 1 < t.length
         ·by_cases hZ : digB (t.getD (m + 1 + 1) 0) = true
          ·have hle3 := runL_le digB (t.drop (m + 1 + 1))
           rw [List.length_drop] at hle3
           by_cases h5 : m + 1 + 1 + runL digB (t.drop (m + 1 + 1)) < t.length
           ·cases hG : letB (t.getD (m + 1 + 1 + runL digB (t.drop (m + 1 + 1))) 0) with
            | true => exact number_way15 t ht w rfl hle rfl rfl h1 h46 hx rfl hD rfl rfl hm hml h2 rfl h101 (letB_101 h101) rfl h3 rfl h43 rfl h4 rfl hZ rfl rfl (by omega) h5 rfl hG
            | false => exact number_way16 t ht w rfl hle rfl rfl h1 h46 hx rfl hD rfl rfl hm hml h2 rfl h101 (letB_101 h101) rfl h3 rfl h43 rfl h4 rfl hZ rfl rfl (by omega) h5 rfl hG
           ·exact number_way14 t ht w rfl hle rfl rfl h1 h46 hx rfl hD rfl rfl hm hml h2 rfl h101 (letB_101 h101) rfl h3 rfl h43 rfl h4 rfl hZ rfl rfl (by omega) (by omega)
          ·exact number_way13 t ht w rfl hle rfl rfl h1 h46 hx rfl hD rfl rfl hm hml h2 rfl h101 (letB_101 h101) rfl h3 rfl h43 rfl h4 rfl (by simpa using hZ)
         ·exact number_way12 t ht w rfl hle rfl rfl h1 h46 hx rfl hD rfl rfl hm hml h2 rfl h101 (letB_101 h101) rfl h3 rfl h43 rfl (by omega)
        ·by_cases h45 : (t.getD (m + 1) 0).toNat = 45
         ·by_cases h4 : m + 1 + 1 < t.length
          ·by_cases hZ : digB (t.getD (m + 1 + 1) 0) = true
           ·have hle3 := runL_le digB (t.drop (m + 1 + 1))
            rw [List.length_drop] at hle3
            by_cases h5 : m + 1 + 1 + runL digB (t.drop (m + 1 + 1)) < t.length
            ·cases hG : letB (t.getD (m + 1 + 1 + runL digB (t.drop (m + 1 + 1))) 0) with
             | true => exact number_way20 t ht w rfl hle rfl rfl h1 h46 hx rfl hD rfl rfl hm hml h2 rfl h101 (letB_101 h101) rfl h3 rfl h43 h45 rfl h4 rfl hZ rfl rfl (by omega) h5 rfl hG
             | false => exact number_way21 t ht w rfl hle rfl rfl h1 h46 hx rfl hD rfl rfl hm hml h2 rfl h101 (letB_101 h101) rfl h3 rfl h43 h45 rfl h4 rfl hZ rfl rfl (by omega) h5 rfl hG
            ·exact number_way19 t ht w rfl hle rfl rfl h1 h46 hx rfl hD rfl rfl hm hml h2 rfl h101 (letB_101 h101) rfl h3 rfl h43 h45 rfl h4 rfl hZ rfl rfl (by omega) (by omega)
           ·exact number_way18 t ht w rfl hle rfl rfl h1 h46 hx rfl hD rfl rfl hm hml h2 rfl h101 (letB_101 h101) rfl h3 rfl h43 h45 rfl h4 rfl (by simpa using hZ)
          ·exact number_way17 t ht w rfl hle rfl rfl h1 h46 hx rfl hD rfl rfl hm hml h2 rfl h101 (letB_101 h101) rfl h3 rfl h43 h45 rfl (by omega)
         ·by_cases hY : digB (t.getD (m + 1) 0) = true
          ·have hle3 := runL_le digB (t.drop (m + 1))
           rw [List.length_drop] at hle3
           by_cases h5 : m + 1 + runL digB (t.drop (m + 1)) < t.length
           ·cases hG : letB (t.getD (m + 1 + runL digB (t.drop (m + 1))) 0) with
            | true => exact number_way24 t ht w rfl hle rfl rfl h1 h46 hx rfl hD rfl rfl hm hml h2 rfl h101 (letB_101 h101) rfl h3 rfl h43 h45 hY rfl rfl (by omega) h5 rfl hG
            | false => exact number_way25 t ht w rfl hle rfl rfl h1 h46 hx rfl hD rfl rfl hm hml h2 rfl h101 (letB_101 h101) rfl h3 rfl h43 h45 hY rfl rfl (by omega) h5 rfl hG
           ·exact number_way23 t ht w rfl hle rfl rfl h1 h46 hx rfl hD rfl rfl hm hml h2 rfl h101 (letB_101 h101) rfl h3 rfl h43 h45 hY rfl rfl (by omega) (by omega)
          ·exact number_way22 t ht w rfl hle rfl rfl h1 h46 hx rfl hD rfl rfl hm hml h2 rfl h101 (letB_101 h101) rfl h3 rfl h43 h45 (by simpa using hY)
       ·exact number_way11 t ht w rfl hle rfl rfl h1 h46 hx rfl hD rfl rfl hm hml h2 rfl h101 (letB_101 h101) rfl (by omega)
      ·cases hL : letB (t.getD m 0) with
       | true => exact number_way9 t ht w rfl hle rfl rfl h1 h46 hx rfl hD rfl rfl hm hml h2 rfl h101 hL
       | false => exact number_way10 t ht w rfl hle rfl rfl h1 h46 hx rfl hD rfl rfl hm hml h2 rfl h101 hL
     ·exact number_way8 t ht w rfl hle rfl rfl h1 h46 hx rfl hD rfl rfl hm hml (by omega)
    ·exact number_way7 t ht w rfl hle rfl rfl h1 h46 hx rfl (by simpa using hD) (letB_46 h46)
   ·exact number_way6 t ht w rfl hle rfl rfl h1 h46 hx (letB_46 h46)
   ·omega
  ·by_cases hx : runL digB t + 1 < t.length
   ·cases hL : letB (t.getD (runL digB t) 0) with
    | true => exact number_way2 t ht w rfl hle rfl rfl h1 h46 hx hL
    | false => exact number_way3 t ht w rfl hle rfl rfl h1 h46 hx hL
   ·cases hL : letB (t.getD (runL digB t) 0) with
    | true => exact number_way4 t ht w rfl hle rfl rfl h1 h46 hx hL
    | false => exact number_way5 t ht w rfl hle rfl rfl h1 h46 hx hL
 ·exact number_way1 t ht w rfl hle rfl h1
end Go.Proofs.YtniihjhlkpjnoaaDoor.Given