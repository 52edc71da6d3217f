/- Package text: the contract of Apply (its failures: need, caught, proper, dropped), and of strings.Count of one byte. -/
import Derived.Test.YtniihjhlkpjnoaaDoorJ2
import Derived.Test.YtniihjhlkpjnoaaDoorJ4
import Derived.Test.YtniihjhlkpjnoaaDoorJ8
import Derived.Test.YtniihjhlkpjnoaaDoorShelf
import Derived.RegionTactic
import Derived.BigRegion
import Derived.ChangeAlike
import Derived.Outline
import Derived.StillTailTactics
import Derived.Test.YtniihjhlkpjnoaaDoorJ7
section
set_option linter.unusedVariables false
set_option linter.unusedSimpArgs false
namespace Go.Proofs.YtniihjhlkpjnoaaDoor.Given
open Go.RowKit Go.Proofs.YtniihjhlkpjnoaaDoorW.PrintWords Go.Proofs.YtniihjhlkpjnoaaDoorW.PrintLast Go.Proofs.YtniihjhlkpjnoaaDoorW.PrintMore
def properE (at' drop : Int) : Bool := decide (0 ≤ at') && decide (at' ≤ 1048576) && decide (0 ≤ drop) && decide (drop ≤ 1048576)
def text_Apply.f (s : ByteArray) (a d : Int) (p : ByteArray) : Option (ByteArray × Int) :=
 if properE a d = false then some (⟨#[]⟩, 1) else if (s.size : Int) < a + d then some (⟨#[]⟩, 3)
 else if s.size ≤ 1000000000000 ∧ p.size ≤ 1000000000000 then some (s.extract 0 a.toNat ++ p ++ s.extract (a + d).toNat s.size, 0) else none
def tfailV (c : Int) : Value := .iface 129 (.agg #[.int .i64 c])
theorem need_true (c : Int) (w : World) : Calls Tryd.prog 92 #[.bool true, .int .i64 c] w fun e w' => e = .returned (.tuple #[]) ∧ w = w' := by
 go_enter Tryd.func92, Tryd.ntmps92
 go_wp2
 go_end0
 exact ⟨rfl, rfl⟩
theorem need_false (c : Int) (w : World) : Calls Tryd.prog 92 #[.bool false, .int .i64 c] w fun e w' => e = .panicked [{ v := tfailV c, recovered := false }] ∧ w = w' := by
 have hu95 := Tryd.underlying129
 go_enter Tryd.func92, Tryd.ntmps92
 go_wp2
 exact ⟨rfl, rfl, rfl⟩
theorem tcaught_idle (po pe : Addr) (w : World) :
  CallsD Tryd.prog 59 #[.pointer (some po), .pointer (some pe)] .returning w fun e u' w' => u' = .returning ∧ (e = .returned (.tuple #[]) ∧ w = w') := by
 refine callsD_of_recover Tryd.func59 rfl ?_
 simp only [recovers, Tryd.ntmps59, List.size_toArray, List.length_cons, List.length_nil, Nat.reduceAdd, Nat.reduceSub, Array.replicate_succ, Array.replicate_zero, List.push_toArray, List.append_toArray, List.nil_append, List.cons_append, List.setIfInBounds_toArray, List.set_cons_zero, List.set_cons_succ]
 go_wp2
 go_end0
 exact ⟨rfl, rfl⟩
set_option maxRecDepth 100000 in
theorem tcaught_fails (bo be : Nat) (c : Int) (x y : Value) (w : World) (h1 : w.cell? ⟨bo, 0, none⟩ = some x) (h2 : w.cell? ⟨be, 0, none⟩ = some y) (hf1 : w.frozen? ⟨bo, 0, none⟩ = false) (hf2 : w.frozen? ⟨be, 0, none⟩ = false) (hne : ¬ bo = be) :
  CallsD Tryd.prog 59 #[.pointer (some ⟨bo, 0, none⟩), .pointer (some ⟨be, 0, none⟩)] (.panicking [{ v := tfailV c, recovered := false }]) w fun e u' w' => u' = .panicking [{ v := tfailV c, recovered := true }] ∧ (e = .returned (.tuple #[]) ∧
   (((w.setCell ⟨bo, 0, none⟩ (.string ⟨#[]⟩)).setCell ⟨be, 0, none⟩ (.int .i64 c)).alloc (.cells #[.int .i64 c] 129)).drew = w') := by
 have hb1 := World.block_lt_of_cell? w _ h1
 have hb2 := World.block_lt_of_cell? w _ h2
 simp only [] at hb1 hb2
 have hu95 := Tryd.underlying129
 have hta : ∀ (v : Value) (W : World), (Instr.typeAssert (.iface 129 v) 20 129 true).run Tryd.prog W = .ok (.tuple #[v, .bool true]) W := fun v W => by rfl
 have hbo : ¬ bo = w.heap.size := by omega
 have hbe : ¬ be = w.heap.size := by omega
 have hbo' : ¬ w.heap.size = bo := by omega
 have hbe' : ¬ w.heap.size = be := by omega
 have hne' : ¬ be = bo := fun e => hne e.symm
 refine callsD_of_recover Tryd.func59 rfl ?_
 simp only [tfailV, recovers, Tryd.ntmps59, List.size_toArray, List.length_cons, List.length_nil, Nat.reduceAdd, Nat.reduceSub, Array.replicate_succ, Array.replicate_zero, List.push_toArray, List.append_toArray, List.nil_append, List.cons_append, List.setIfInBounds_toArray, List.set_cons_zero, List.set_cons_succ]
 go_wp2
 go_region
 all_goals go_end0
 all_goals exact ⟨rfl, rfl⟩
set_option maxRecDepth 100000 in
set_option maxHeartbeats 1000000 in
theorem proper_calls (a d : Int) (p : ByteArray) (w : World) :
  Calls Tryd.prog 93 #[.agg #[.int .i64 a, .int .i64 d, .string p]] w fun e w' => e = .returned (.bool (properE a d)) ∧ Below w.heap.size w w' := by
 have hu47 := Tryd.underlying52
 go_enter Tryd.func93, Tryd.ntmps93
 go_wp2
 all_goals go_ret
 all_goals refine ⟨?_, (Below.refl _ _).alloc (Nat.le_refl _) _⟩
 all_goals refine congrArg (fun b => Ending.returned (Value.bool b)) ?_
 all_goals (simp [properE, *]; try omega)
set_option maxRecDepth 100000 in
set_option maxHeartbeats 1000000 in
theorem dropped_arg (s : ByteArray) (a d : Int) (p : ByteArray) (w : World) (h : properE a d = false) :
  Calls Tryd.prog 60 #[.string s, .agg #[.int .i64 a, .int .i64 d, .string p]] w fun e w' => e = .panicked [{ v := tfailV 1, recovered := false }] ∧ Below w.heap.size w w' := by
 have hu47 := Tryd.underlying52
 go_enter Tryd.func60, Tryd.ntmps60
 go_wp2_with (first | (go_at_call 93; refine (proper_calls _ _ _ _).mono ?_; rintro e w1 ⟨rfl, hb⟩; rw [h]) | (go_at_call 92; refine (need_false _ _).mono ?_; rintro e w' ⟨rfl, rfl⟩))
 exact ⟨rfl, rfl, ((Below.refl _ _).alloc (Nat.le_refl _) _).trans (hb.mono (by simp))⟩
set_option maxRecDepth 100000 in
set_option maxHeartbeats 1000000 in
theorem dropped_range (s : ByteArray) (a d : Int) (p : ByteArray) (w : World) (h : properE a d = true) (hr : (s.size : Int) < a + d) :
  Calls Tryd.prog 60 #[.string s, .agg #[.int .i64 a, .int .i64 d, .string p]] w fun e w' => e = .panicked [{ v := tfailV 3, recovered := false }] ∧ Below w.heap.size w w' := by
 have hu47 := Tryd.underlying52
 have h0 : 0 ≤ a ∧ a ≤ 1048576 ∧ 0 ≤ d ∧ d ≤ 1048576 := by simp [properE] at h; omega
 obtain ⟨ha0, ha1, hd0, hd1⟩ := h0
 have hdec : decide (a + d ≤ (s.size : Int)) = false := decide_eq_false (by omega)
 go_enter Tryd.func60, Tryd.ntmps60
 go_wp2_with (first | (go_at_call 93; refine (proper_calls _ _ _ _).mono ?_; rintro e w1 ⟨rfl, hb⟩; rw [h]; have hc0 : w1.cell? ⟨w.heap.size, 0, none⟩ = some (.int .i64 a) := (hb.cell (p := ⟨w.heap.size, 0, none⟩) (by simp)).trans (by simp [go_sem]); have hc1 : w1.cell? ⟨w.heap.size, 1, none⟩ = some (.int .i64 d) := (hb.cell (p := ⟨w.heap.size, 1, none⟩) (by simp)).trans (by simp [go_sem])) | (go_at_call 92; (with_reducible refine (need_true _ _).mono ?_); rintro e w' ⟨rfl, rfl⟩) | (go_at_call 92; (with_reducible refine (need_false _ _).mono ?_); rintro e w' ⟨rfl, rfl⟩))
 exact ⟨rfl, rfl, ((Below.refl _ _).alloc (Nat.le_refl _) _).trans (hb.mono (by simp))⟩
set_option maxRecDepth 100000 in
set_option maxHeartbeats 1000000 in
theorem dropped_ok (s : ByteArray) (a d : Int) (p : ByteArray) (w : World) (h : properE a d = true) (hr : a + d ≤ (s.size : Int)) :
  Calls Tryd.prog 60 #[.string s, .agg #[.int .i64 a, .int .i64 d, .string p]] w fun e w' => e = .returned (.string (s.extract a.toNat (a + d).toNat)) ∧ Below w.heap.size w w' := by
 have hu47 := Tryd.underlying52
 have h0 : 0 ≤ a ∧ a ≤ 1048576 ∧ 0 ≤ d ∧ d ≤ 1048576 := by simp [properE] at h; omega
 obtain ⟨ha0, ha1, hd0, hd1⟩ := h0
 have hdec : decide (a + d ≤ (s.size : Int)) = true := decide_eq_true (by omega)
 go_enter Tryd.func60, Tryd.ntmps60
 go_wp2_with (first | (go_at_call 93; refine (proper_calls _ _ _ _).mono ?_; rintro e w1 ⟨rfl, hb⟩; rw [h]; have hc0 : w1.cell? ⟨w.heap.size, 0, none⟩ = some (.int .i64 a) := (hb.cell (p := ⟨w.heap.size, 0, none⟩) (by simp)).trans (by simp [go_sem]); have hc1 : w1.cell? ⟨w.heap.size, 1, none⟩ = some (.int .i64 d) := (hb.cell (p := ⟨w.heap.size, 1, none⟩) (by simp)).trans (by simp [go_sem])) | (go_at_call 92; (with_reducible refine (need_true _ _).mono ?_); rintro e w' ⟨rfl, rfl⟩) | (go_at_call 92; (with_reducible refine (need_false _ _).mono ?_); rintro e w' ⟨rfl, rfl⟩))
 go_ret
 exact ⟨rfl, ((Below.refl _ _).alloc (Nat.le_refl _) _).trans (hb.mono (by simp))⟩
def wA (a d : Int) (p : ByteArray) (w : World) : World := ((w.alloc (.cells #[.int .i64 a, .int .i64 d, .string p] 52)).alloc (.cells #[.string ⟨#[]⟩] 9)).alloc (.cells #[.int .i64 0] 25)
theorem wA_size (a d : Int) (p : ByteArray) (w : World) : (wA a d p w).heap.size = w.heap.size + 3 := by simp [wA]
theorem wA_below (a d : Int) (p : ByteArray) (w : World) : Below w.heap.size w (wA a d p w) :=
 (((Below.refl _ _).alloc (Nat.le_refl _) _).alloc (by simp) _).alloc (by simp; omega) _
theorem wp_region_tail {P : Program} {id : Nat} {Q : Exit → Act → World → Prop} {a : Act} {w : World} {l : List Oper} (n : Nat) (hm : P.follows .mixedOrders = true) (hB : Region.lexTailB .any l.toArray n = true)
  (h : ∀ w2 : World, w2 = w.drew → wpStill P l.toArray w2 (fun a' => wpList P l.toArray Q (l.drop n) a' w2) (l.take n) a) : (Code.region id l.toArray true).wp P Q a w :=
 wp_region_still_tail n hm hB (h _ rfl)
set_option maxRecDepth 100000 in
set_option maxHeartbeats 1000000 in
theorem apply_door (s : ByteArray) (a d : Int) (p : ByteArray) (w : World) (c : Int)
  (hd : Calls Tryd.prog 60 #[.string s, .agg #[.int .i64 a, .int .i64 d, .string p]] (wA a d p w) fun e w' => e = .panicked [{ v := tfailV c, recovered := false }] ∧ Below (wA a d p w).heap.size (wA a d p w) w') :
  Calls Tryd.prog 44 #[.string s, .agg #[.int .i64 a, .int .i64 d, .string p]] w fun e w' => e = .returned (.tuple #[.string ⟨#[]⟩, .int .i64 c]) ∧ Below w.heap.size w w' := by
 have hu47 := Tryd.underlying52
 have hu9 := Tryd.underlying9
 have hu22 := Tryd.underlying25
 have HD := Aside0.mk hd
 clear hd
 go_enter_defers Tryd.func44, Tryd.ntmps44
 go_wp2_with (first | (go_at_call 60; refine HD.out.mono ?_; rintro e w1 ⟨rfl, hb⟩))
 have hsz := hb.size
 rw [wA_size] at hb hsz
 have c1 : w1.cell? ⟨w.heap.size + 1, 0, none⟩ = some (.string ⟨#[]⟩) := (bcell hb (by omega)).trans (by simp [wA, go_sem])
 have c2 : w1.cell? ⟨w.heap.size + 1 + 1, 0, none⟩ = some (.int .i64 0) := (bcell hb (by omega)).trans (by simp [wA, go_sem])
 have f1 : w1.frozen? ⟨w.heap.size + 1, 0, none⟩ = false := (bfrozen hb (by omega)).trans (by simp [wA, go_sem])
 have f2 : w1.frozen? ⟨w.heap.size + 1 + 1, 0, none⟩ = false := (bfrozen hb (by omega)).trans (by simp [wA, go_sem])
 have hB : Below w.heap.size w w1 := (wA_below a d p w).trans (hb.mono (by omega))
 refine leaves_cons (f := 59) (args := #[.pointer (some ⟨w.heap.size + 1, 0, none⟩), .pointer (some ⟨w.heap.size + 1 + 1, 0, none⟩)]) (by simp) (by simp [go_sem]) ?_
 refine (tcaught_fails (w.heap.size + 1) (w.heap.size + 1 + 1) c _ _ w1 c1 c2 f1 f2 (by omega)).mono ?_
 rintro e u' w'' ⟨rfl, rfl, rfl⟩
 have hBf := below_drew (((hB.setCell (p := ⟨w.heap.size + 1, 0, none⟩) (by simp) (.string ⟨#[]⟩)).setCell (p := ⟨w.heap.size + 1 + 1, 0, none⟩) (by simp; omega) (.int .i64 c)).alloc (by simp; omega) (.cells #[.int .i64 c] 129))
 have s1 : w.heap.size + 1 < w1.heap.size := by omega
 have s2 : w.heap.size + 1 + 1 < w1.heap.size := by omega
 have n1 : ¬ w.heap.size + 1 = w1.heap.size := by omega
 have n2 : ¬ w.heap.size + 1 + 1 = w1.heap.size := by omega
 have n3 : ¬ w1.heap.size = w.heap.size + 1 := by omega
 have n4 : ¬ w1.heap.size = w.heap.size + 1 + 1 := by omega
 simp [Leaves, settle, results, Tryd.results44, go_sem, c1, c2, s1, s2, n3, n4]
 exact hBf
set_option linter.unusedSimpArgs false
set_option maxRecDepth 100000 in
set_option maxHeartbeats 400000 in
theorem apply_ok (s : ByteArray) (a d : Int) (p : ByteArray) (w : World) (h : properE a d = true) (hr : a + d ≤ (s.size : Int)) (hs : s.size ≤ 1000000000000) (hp : p.size ≤ 1000000000000) :
  Calls Tryd.prog 44 #[.string s, .agg #[.int .i64 a, .int .i64 d, .string p]] w fun e w' => e = .returned (.tuple #[.string (s.extract 0 a.toNat ++ p ++ s.extract (a + d).toNat s.size), .int .i64 0]) ∧ Below w.heap.size w w' := by
 have hu47 := Tryd.underlying52
 have hu9 := Tryd.underlying9
 have hu22 := Tryd.underlying25
 have h0 : 0 ≤ a ∧ a ≤ 1048576 ∧ 0 ≤ d ∧ d ≤ 1048576 := by simp [properE] at h; omega
 obtain ⟨ha0, ha1, hd0, hd1⟩ := h0
 have HD := Aside0.mk (dropped_ok s a d p (wA a d p w) h hr)
 clear h
 go_enter_defers Tryd.func44, Tryd.ntmps44
 go_wp2_with (first | (go_at_call 60; refine HD.out.mono ?_; rintro e w1 ⟨rfl, hb⟩))
 have hsz := hb.size
 rw [wA_size] at hb hsz
 have k0 : w1.cell? ⟨w.heap.size, 0, none⟩ = some (.int .i64 a) := (bcell hb (by omega)).trans (by simp [wA, go_sem])
 have k1 : w1.cell? ⟨w.heap.size, 1, none⟩ = some (.int .i64 d) := (bcell hb (by omega)).trans (by simp [wA, go_sem])
 have k2 : w1.cell? ⟨w.heap.size, 2, none⟩ = some (.string p) := (bcell hb (by omega)).trans (by simp [wA, go_sem])
 have c1 : w1.cell? ⟨w.heap.size + 1, 0, none⟩ = some (.string ⟨#[]⟩) := (bcell hb (by omega)).trans (by simp [wA, go_sem])
 have c2 : w1.cell? ⟨w.heap.size + 1 + 1, 0, none⟩ = some (.int .i64 0) := (bcell hb (by omega)).trans (by simp [wA, go_sem])
 have f1 : w1.frozen? ⟨w.heap.size + 1, 0, none⟩ = false := (bfrozen hb (by omega)).trans (by simp [wA, go_sem])
 have f2 : w1.frozen? ⟨w.heap.size + 1 + 1, 0, none⟩ = false := (bfrozen hb (by omega)).trans (by simp [wA, go_sem])
 have hB := Aside0.mk ((wA_below a d p w).trans (hb.mono (by omega)))
 have s1 : w.heap.size + 1 < w1.heap.size := by omega
 have s2 : w.heap.size + 1 + 1 < w1.heap.size := by omega
 have q1 : a ≤ (s.size : Int) := by omega
 have q2 : 0 ≤ a + d := by omega
 have z3 : ¬ 9223372036854775807 < a.toNat + p.size := by omega
 have z4 : ¬ 9223372036854775807 < a.toNat + p.size + (s.size - (a + d).toNat) := by omega
 have w64 : IntKind.i64.wrap (a + d) = a + d := IntWalk.i64_in _ (by omega)
 clear hb
 refine wp_region_tail 15 (by kernel_rfl) (by kernel_rfl) ?_
 intro w2 hw2
 replace k0 : w2.cell? ⟨w.heap.size, 0, none⟩ = some (.int .i64 a) := by rw [hw2]; exact k0
 replace k1 : w2.cell? ⟨w.heap.size, 1, none⟩ = some (.int .i64 d) := by rw [hw2]; exact k1
 replace k2 : w2.cell? ⟨w.heap.size, 2, none⟩ = some (.string p) := by rw [hw2]; exact k2
 replace c1 : w2.cell? ⟨w.heap.size + 1, 0, none⟩ = some (.string ⟨#[]⟩) := by rw [hw2]; exact c1
 replace c2 : w2.cell? ⟨w.heap.size + 1 + 1, 0, none⟩ = some (.int .i64 0) := by rw [hw2]; exact c2
 replace f1 : w2.frozen? ⟨w.heap.size + 1, 0, none⟩ = false := by rw [hw2]; exact f1
 replace f2 : w2.frozen? ⟨w.heap.size + 1 + 1, 0, none⟩ = false := by rw [hw2]; exact f2
 replace s1 : w.heap.size + 1 < w2.heap.size := by rw [hw2]; exact s1
 replace s2 : w.heap.size + 1 + 1 < w2.heap.size := by rw [hw2]; exact s2
 replace hB : Aside0 (Below w.heap.size w w2) := by rw [hw2]; exact ⟨below_drew hB.out⟩
 clear hw2
 simp only [List.take_succ_cons, List.take_zero, List.drop_succ_cons, List.drop_zero]
 repeat still_step
 refine wpStill_nil ?_
 clear w64
 go_wp2
 refine leaves_cons (f := 59) (args := #[.pointer (some ⟨w.heap.size + 1, 0, none⟩), .pointer (some ⟨w.heap.size + 1 + 1, 0, none⟩)]) (by simp) (by simp [go_sem]) ?_
 refine (tcaught_idle _ _ _).mono ?_
 rintro e u' w'' ⟨rfl, rfl, rfl⟩
 have hBf := (hB.out.setCell (p := ⟨w.heap.size + 1, 0, none⟩) (by simp) (.string (s.extract 0 a.toNat ++ p ++ s.extract (a + d).toNat s.size))).setCell (p := ⟨w.heap.size + 1 + 1, 0, none⟩) (by simp; omega) (.int .i64 0)
 simp [Leaves, settle, results, Tryd.results44, go_sem, c1, c2]
 exact hBf
theorem text_Apply.calls (a0 : ByteArray) (a1_0 : Int) (a1_1 : Int) (a1_2 : ByteArray) (r1 : ByteArray) (r2 : Int) (w : World) (h : text_Apply.f a0 a1_0 a1_1 a1_2 = some (r1, r2)) :
  Calls Tryd.prog 44 #[.string a0, .agg #[.int .i64 a1_0, .int .i64 a1_1, .string a1_2]] w fun e w' => e = .returned (.tuple #[.string r1, .int .i64 r2]) ∧ Below w.heap.size w w' := by
 unfold text_Apply.f at h
 split at h
 ·cases h; exact apply_door _ _ _ _ _ 1 (dropped_arg _ _ _ _ _ (by assumption))
 ·rename_i hp
  have hp' : properE a1_0 a1_1 = true := by simpa using hp
  split at h
  ·cases h; exact apply_door _ _ _ _ _ 3 (dropped_range _ _ _ _ _ hp' (by assumption))
  ·split at h
   ·rename_i h1 h2
    cases h; exact apply_ok _ _ _ _ _ hp' (by omega) h2.1 h2.2
   ·cases h
def strings_Count.f (s sub : ByteArray) : Option Int := if sub.size = 1 then some (Lib.countByte s.data.toList (sub.data.toList.getD 0 0)) else none
theorem one_byte (s : ByteArray) (h : s.size = 1) : s = ⟨#[s.data.toList.getD 0 0]⟩ := by
 obtain ⟨⟨l⟩⟩ := s
 match l, h with
 | [b], _ => rfl
theorem strings_Count.calls (a0 a1 : ByteArray) (r : Int) (w : World) (h : strings_Count.f a0 a1 = some r) :
  Calls Tryd.prog 49 #[.string a0, .string a1] w fun e w' => e = .returned (.int .i64 r) ∧ Below w.heap.size w w' := by
 unfold strings_Count.f at h
 split at h
 ·rename_i h1
  cases h
  have h2 := Tryd.strings_Count_one a0 (a1.data.toList.getD 0 0) w
  rw [← one_byte a1 h1] at h2
  exact h2.mono fun e w' ⟨he, hw⟩ => ⟨he, hw ▸ Below.refl _ _⟩
 ·cases h
end Go.Proofs.YtniihjhlkpjnoaaDoor.Given
end
section
-- Out of this text a program of mine (wip/slim.py) took what this claim does not use.
/- Plain: a separator behind a text changes nothing of its first item; what a token's own bytes are; reading without errors as a relation. -/
set_option linter.unusedVariables false
set_option linter.unusedSimpArgs false
namespace Go.Proofs.YtniihjhlkpjnoaaDoor.Given
theorem number_sure1 (t : List UInt8) (he : (numberI t).e = 0) (hl : (numberI t).len < t.length) (hs : (numberI t).sure = false) :
  ¬ (runL digB t + 1 < t.length ∧ (t.getD (runL digB t) 0).toNat = 46 ∧ digB (t.getD (runL digB t + 1) 0) = true) ∧ runL digB t + 1 = t.length ∧ (t.getD (runL digB t) 0).toNat = 46 := by
 unfold numberI at he hl hs
 rw [numberX_sure] at hs
 have hx : ¬ ((numL t).1 < t.length ∧ letB (t.getD (numL t).1 0) = true) := fun h => by
  unfold numberX at he
  rw [if_pos h] at he
  cases he
 have hn : (numL t).1 < t.length := by
  unfold numberX at hl
  rw [if_neg hx] at hl
  exact hl
 clear he hl
 unfold numL numN at hx hn hs
 split at hs
 ·rename_i hc
  exfalso
  rw [if_pos hc] at hx hn
  generalize runL digB t + 1 + runL digB (t.drop (runL digB t + 1)) = m at hx hn hs
  unfold realL at hx hn hs
  split at hs
  ·rename_i hm
   rw [if_pos hm] at hx hn
   dsimp only at hx hn hs
   unfold expL expK at hx hn hs
   split at hs
   ·rename_i hk2
    rw [if_pos hk2] at hx hn
    split at hs
    ·rename_i hd
     rw [if_pos hd] at hx hn
     exact of_decide_eq_false hs hn
    ·cases hs
   ·rename_i hk2
    rw [if_neg hk2] at hx
    exact absurd ⟨hm.1, let101 hm.2⟩ hx
  ·rename_i hm
   rw [if_neg hm] at hn
   exact of_decide_eq_false hs hn
 ·rename_i hc
  rw [if_neg hc] at hn
  have hn : runL digB t < t.length := hn
  unfold intL at hs
  dsimp only at hs
  rw [decide_eq_true hn, Bool.true_and, Bool.not_eq_false', Bool.and_eq_true, decide_eq_true_eq, decide_eq_true_eq] at hs
  exact ⟨hc, hs.2, hs.1⟩
theorem number_sep1 (t : List UInt8) (c : UInt8) (r : List UInt8) (hs : sepB c = true) (he : (numberI t).e = 0) (hl : (numberI t).len < t.length) : core (numberI (t ++ c :: r)) = core (numberI t) := by
 obtain ⟨s1, s2, s3, s4, s5, s6⟩ := sep_facts c hs
 cases hsu : (numberI t).sure with
 | true => rw [number_stable t _ hsu]
 | false =>
  obtain ⟨h1, h2, h3⟩ := number_sure1 t he hl hsu
  have h4 : runL digB t < t.length := by omega
  have hl46 : letB (t.getD (runL digB t) 0) = false := by
   have : t.getD (runL digB t) 0 = 46 := UInt8.toNat_inj.1 h3
   rw [this]
   decide
  have e1 : numL t = intL t (runL digB t) := by
   unfold numL numN
   rw [if_neg h1]
  have e2 : numL (t ++ c :: r) = intL (t ++ c :: r) (runL digB t) := by
   unfold numL numN
   rw [runL_app digB _ t h4, if_neg]
   rintro ⟨g1, g2, g3⟩
   rw [h2, getD_end, s2] at g3
   cases g3
  unfold numberI
  rw [e1, e2]
  unfold numberX intL
  dsimp only
  rw [getD_app h4, hl46, if_neg (fun h => by cases h.2), if_neg (fun h => by cases h.2)]
  simp only [core, tokI, take_app (Nat.le_of_lt h4)]
theorem tick_sure (t : List UInt8) (he : (tickI t).e = 0) : (tickI t).sure = true := by
 unfold tickI at he ⊢
 split
 ·rfl
 ·rename_i h1
  rw [if_neg h1] at he
  split
  ·rename_i h2
   rw [if_pos h2] at he
   cases he
  ·rfl
theorem quote_sure (t : List UInt8) (he : (quoteI t).e = 0) : (quoteI t).sure = true := by
 unfold quoteI quoteN at he ⊢
 split
 ·rename_i h1
  rw [if_pos h1] at he
  cases he
 ·split
  ·rfl
  ·split
   ·rfl
   ·rfl
theorem note_sure (t : List UInt8) (he : (noteI t).e = 0) : (noteI t).sure = true := by
 unfold noteI at he ⊢
 cases hn : endL (t.drop 2) with
 | none => rw [hn] at he; cases he
 | some n => rfl
theorem sign_sep1 (t : List UInt8) (c : UInt8) (r : List UInt8) (hs : sepB c = true) (he : (signI t).e = 0) (hl : (signI t).len < t.length) : core (signI (t ++ c :: r)) = core (signI t) := by
 obtain ⟨a, b, d⟩ := signL_spec t (min 3 t.length)
 unfold signI at he hl ⊢
 generalize signL t (min 3 t.length) = n at he hl a b d ⊢
 have hz : n ≠ 0 := fun h => by
  unfold signN at he
  rw [if_pos h] at he
  cases he
 have hn : n < t.length := by
  unfold signN at hl
  rw [if_neg hz] at hl
  exact hl
 have e : signL (t ++ c :: r) (min 3 (t ++ c :: r).length) = n := by
  refine signL_unique _ _ _ (by rw [List.length_append]; omega) ?_ ?_
  ·exact b.imp id fun h => by rw [take_app (by omega)]; exact h
  ·intro i h1 h2 hm
   by_cases hi : i ≤ t.length
   ·rw [take_app hi] at hm
    exact d i h1 (by omega) hm
   ·have := sep_signs _ hm t.length (by rw [List.length_take]; rw [List.length_append] at h2 ⊢; simp only [List.length_cons] at h2 ⊢; omega) (by omega)
    rw [List.getD_eq_getElem?_getD, List.getElem?_take_of_lt (by omega), ← List.getD_eq_getElem?_getD, getD_end, hs] at this
    cases this
 rw [e]
 unfold signN
 rw [if_neg hz, if_neg hz]
 simp only [core, tokI, take_app (Nat.le_of_lt hn)]
theorem item_sep' (t : List UInt8) (c : UInt8) (r : List UInt8) (hs : sepB c = true) (h0 : t ≠ []) (he : (itemL (classL t) t).e = 0) (hb : classL t ≠ 6) :
  classL (t ++ c :: r) = classL t ∧ core (itemL (classL (t ++ c :: r)) (t ++ c :: r)) = core (itemL (classL t) t) := by
 have hle := (item_len t h0 he hb).2
 by_cases hl : (itemL (classL t) t).len = t.length
 ·exact item_sep t c r hs h0 he hb hl
 have hl : (itemL (classL t) t).len < t.length := by omega
 obtain ⟨s1, s2, s3, s4, s5, s6⟩ := sep_facts c hs
 have hc : classL (t ++ c :: r) = classL t := by
  by_cases h : t = [40]
  ·subst h
   have : ¬ (some c = some (42 : UInt8)) := fun h => s6 (Option.some.inj h)
   have c1 : ¬ ((40 : UInt8).toNat = 40 ∧ (c :: r).head? = some 42) := fun h => this h.2
   have c2 : ¬ ((40 : UInt8).toNat = 40 ∧ ([] : List UInt8).head? = some 42) := fun h => by cases h.2
   show classL (40 :: c :: r) = classL [40]
   rw [class_cons, class_cons, if_neg c1, if_neg c2]
  ·exact class_app t _ h0 h
 refine ⟨hc, ?_⟩
 rw [hc]
 generalize classL t = k at he hb hl
 clear hc hle
 unfold itemL at he hl ⊢
 by_cases c1 : k = 1
 ·rw [if_pos c1] at he hl ⊢
  rw [if_pos c1]
  have : (letterI t).sure = true := by
   unfold letterI letterN at he hl ⊢
   split
   ·rename_i h
    rw [if_pos h] at hl
    exact decide_eq_true hl
   ·rename_i h
    rw [if_neg h] at hl he
    split
    ·rfl
    ·rename_i h2
     rw [if_neg h2] at hl
     exact decide_eq_true hl
  rw [letter_stable t _ this]
 ·rw [if_neg c1] at he hl ⊢
  rw [if_neg c1]
  by_cases c2 : k = 2
  ·rw [if_pos c2] at he hl ⊢
   rw [if_pos c2]
   exact number_sep1 t c r hs he hl
  ·rw [if_neg c2] at he hl ⊢
   rw [if_neg c2]
   by_cases c3 : k = 3
   ·rw [if_pos c3] at he hl ⊢
    rw [if_pos c3]
    rw [tick_stable t _ (tick_sure t he)]
   ·rw [if_neg c3] at he hl ⊢
    rw [if_neg c3]
    by_cases c4 : k = 4
    ·rw [if_pos c4] at he hl ⊢
     rw [if_pos c4]
     rw [quote_stable t _ h0 (quote_sure t he)]
    ·rw [if_neg c4] at he hl ⊢
     rw [if_neg c4]
     by_cases c5 : k = 5
     ·rw [if_pos c5] at he hl ⊢
      rw [if_pos c5]
      rw [note_stable t _ (note_sure t he)]
     ·rw [if_neg c5] at he hl ⊢
      rw [if_neg c5]
      exact sign_sep1 t c r hs he hl
abbrev Core := Int × List UInt8 × Int × Nat × Int
def itm (t : List UInt8) : Core := core (itemL (classL t) t)
def cLen (x : Core) : Nat := x.2.2.2.1
def cE (x : Core) : Int := x.2.2.2.2
def tk (p : Nat × Itm) : Nat × Core := (p.1, core p.2)
inductive Rd : List UInt8 → Nat → Int → List (Nat × Core) → Prop
 | nil (a : Nat) (m : Int) : Rd [] a m []
 | blank (c : UInt8) (r : List UInt8) (a : Nat) (m : Int) (xs : List (Nat × Core)) (hb : classL (c :: r) = 6) (h : Rd r (a + 1) m xs) : Rd (c :: r) a m xs
 | item (t : List UInt8) (a : Nat) (m : Int) (xs : List (Nat × Core)) (h0 : t ≠ []) (hb : classL t ≠ 6) (ho : overB false t m = false) (he : cE (itm t) = 0)
   (h : Rd (t.drop (cLen (itm t))) (a + cLen (itm t)) (if (itm t).1 = 0 then m else m + 1) xs) : Rd t a m ((a, itm t) :: xs)
theorem rd_of : ∀ (k : Nat) (t : List UInt8) (a : Nat) (m : Int) (ys : List (Nat × Itm)), t.length < k → itemsL false k t a m = (ys, none) → Rd t a m (ys.map tk)
 | 0, t, _, _, _, h, _ => by omega
 | k + 1, [], a, m, ys, _, h => by
  have : ys = [] := (congrArg Prod.fst h).symm
  subst this
  exact .nil a m
 | k + 1, c :: r, a, m, ys, hk, h => by
  rw [items_cons] at h
  split at h
  ·rename_i hb
   exact .blank c r a m _ hb (rd_of k r (a + 1) m ys (by simpa using hk) h)
  ·rename_i hb
   split at h
   ·cases congrArg Prod.snd h
   ·rename_i ho
    split at h
    ·rename_i hm
     cases hm.1
    ·split at h
     ·cases congrArg Prod.snd h
     ·rename_i he
      have he : (itemL (classL (c :: r)) (c :: r)).e = 0 := by simpa using he
      obtain ⟨g1, g2⟩ := item_len (c :: r) (by simp) he hb
      have h1 := congrArg Prod.fst h
      have h2 := congrArg Prod.snd h
      dsimp only at h1 h2
      subst h1
      refine .item (c :: r) a m _ (by simp) hb (by simpa using ho) he ?_
      refine rd_of k _ _ _ _ ?_ (Prod.ext rfl h2)
      rw [List.length_drop]
      show (c :: r).length - (itemL (classL (c :: r)) (c :: r)).len < k
      omega
theorem rd_to {t : List UInt8} {a : Nat} {m : Int} {xs : List (Nat × Core)} (h : Rd t a m xs) : ∀ k, t.length < k → ∃ ys, itemsL false k t a m = (ys, none) ∧ ys.map tk = xs := by
 induction h with
 | nil a m =>
  intro k hk
  obtain ⟨k, rfl⟩ : ∃ j, k = j + 1 := ⟨k - 1, by simp at hk; omega⟩
  exact ⟨[], rfl, rfl⟩
 | blank c r a m xs hb h ih =>
  intro k hk
  obtain ⟨k, rfl⟩ : ∃ j, k = j + 1 := ⟨k - 1, by simp at hk; omega⟩
  obtain ⟨ys, h1, h2⟩ := ih k (by simpa using hk)
  exact ⟨ys, by rw [items_cons, if_pos hb, h1], h2⟩
 | item t a m xs h0 hb ho he h ih =>
  intro k hk
  obtain ⟨k, rfl⟩ : ∃ j, k = j + 1 := ⟨k - 1, by omega⟩
  have he' : (itemL (classL t) t).e = 0 := he
  obtain ⟨g1, g2⟩ := item_len t h0 he' hb
  obtain ⟨ys, h1, h2⟩ := ih k (by
   rw [List.length_drop]
   show t.length - (itemL (classL t) t).len < k
   omega)
  have h1 : itemsL false k (t.drop (itemL (classL t) t).len) (a + (itemL (classL t) t).len) (if (itemL (classL t) t).kind = 0 then m else m + 1) = (ys, none) := h1
  cases t with
  | nil => exact absurd rfl h0
  | cons c r =>
   refine ⟨(a, itemL (classL (c :: r)) (c :: r)) :: ys, ?_, ?_⟩
   ·rw [items_cons, if_neg hb, if_neg (by rw [ho]; decide), if_neg (fun h => by cases h.1), if_neg (fun h => h he'), h1]
   ·rw [List.map_cons, h2]
    rfl
theorem lexR_of_rd {t : List UInt8} {xs : List (Nat × Core)} (h : Rd t 0 0 xs) (hl : t.length ≤ 1048576) : ∃ ys, itemsL false (t.length + 1) t 0 0 = (ys, none) ∧ ys.map tk = xs ∧ lexR t = (toksL ys, 0, 0) := by
 obtain ⟨ys, h1, h2⟩ := rd_to h (t.length + 1) (by omega)
 refine ⟨ys, h1, h2, ?_⟩
 unfold lexR
 rw [if_neg (by omega), h1]
theorem rd_of_lexR (t : List UInt8) (h : (lexR t).2.1 = 0) : t.length ≤ 1048576 ∧ (itemsL false (t.length + 1) t 0 0).2 = none ∧ Rd t 0 0 ((itemsL false (t.length + 1) t 0 0).1.map tk) ∧ lexR t = (toksL (itemsL false (t.length + 1) t 0 0).1, 0, 0) := by
 have herr := items_err false (t.length + 1) t 0 0
 unfold lexR at h ⊢
 split at h
 ·cases h
 ·rename_i hl
  rw [if_neg hl]
  cases hn : (itemsL false (t.length + 1) t 0 0).2 with
  | none => exact ⟨by omega, rfl, rd_of _ _ _ _ _ (by omega) (Prod.ext rfl hn), rfl⟩
  | some p =>
   rw [hn] at h
   exact absurd h (herr p hn)
def OwnB (x : Core) (b : List UInt8) : Prop :=
 (x.1 = 6 ∧ b = [34] ++ x.2.1 ++ [34] ∧ x.2.2.1 = 0) ∨ (x.1 = 5 ∧ x.2.1 = [] ∧ 0 ≤ x.2.2.1 ∧ x.2.2.1 ≤ 255 ∧ b = [39] ++ [UInt8.ofNat (x.2.2.1 % 256).toNat] ++ [39]) ∨ (x.1 ≠ 6 ∧ x.1 ≠ 5 ∧ b = x.2.1 ∧ x.2.2.1 = 0)
theorem getD_cons_drop (t : List UInt8) (n : Nat) (h : n < t.length) : t.take (n + 1) = t.take n ++ [t.getD n 0] := by
 rw [List.take_add_one, List.getD_eq_getElem?_getD, List.getElem?_eq_getElem h]
 rfl
theorem item_text (t : List UInt8) (h0 : t ≠ []) (hb : classL t ≠ 6) (he : cE (itm t) = 0) (hk : (itm t).1 ≠ 0) : OwnB (itm t) (t.take (cLen (itm t))) := by
 unfold itm at he hk ⊢
 have hhead : ∀ c r, t = c :: r → (classL t = 3 → c.toNat = 39) ∧ (classL t = 4 → c.toNat = 34) := by
  intro c r e
  subst e
  rw [class_cons]
  constructor
  ·intro h
   repeat' split at h
   all_goals first | assumption | (exact absurd h (by decide)) | skip
  ·intro h
   repeat' split at h
   all_goals first | assumption | (exact absurd h (by decide)) | skip
 have hpos : 1 ≤ t.length := List.length_pos_iff.2 h0
 generalize hcl : classL t = c at he hb hk hhead
 unfold itemL at he hk ⊢
 by_cases c1 : c = 1
 ·rw [if_pos c1] at he hk ⊢
  unfold letterI letterN at he hk ⊢
  split
  ·exact .inr (.inr ⟨(show (1 : Int) ≠ 6 by decide), (show (1 : Int) ≠ 5 by decide), rfl, rfl⟩)
  ·rename_i h
   rw [if_neg h] at he
   split
   ·rename_i h2
    rw [if_pos h2] at he
    cases he
   ·exact .inr (.inr ⟨(show (2 : Int) ≠ 6 by decide), (show (2 : Int) ≠ 5 by decide), rfl, rfl⟩)
 ·rw [if_neg c1] at he hk ⊢
  by_cases c2 : c = 2
  ·rw [if_pos c2] at he hk ⊢
   unfold numberI numberX at he hk ⊢
   split
   ·rename_i h
    rw [if_pos h] at he
    cases he
   ·have : (numL t).2.1 = 3 ∨ (numL t).2.1 = 4 := by
     unfold numL numN
     split
     ·unfold realL
      split
      ·exact .inr rfl
      ·exact .inr rfl
     ·exact .inl rfl
    refine .inr (.inr ⟨?_, ?_, rfl, rfl⟩)
    ·show (numL t).2.1 ≠ 6
     omega
    ·show (numL t).2.1 ≠ 5
     omega
  ·rw [if_neg c2] at he hk ⊢
   by_cases c3 : c = 3
   ·rw [if_pos c3] at he hk ⊢
    unfold tickI at he hk ⊢
    split
    ·rename_i h
     rw [if_pos h] at he
     cases he
    ·rename_i h
     rw [if_neg h] at he
     split
     ·rename_i h2
      rw [if_pos h2] at he
      cases he
     ·rename_i h2
      have hlt := (t.getD 1 0).toNat_lt
      refine .inr (.inl ⟨rfl, rfl, ?_, ?_, ?_⟩)
      ·show (0 : Int) ≤ ((t.getD 1 0).toNat : Int)
       omega
      ·show ((t.getD 1 0).toNat : Int) ≤ 255
       omega
      ·show t.take 3 = [39] ++ [UInt8.ofNat (((t.getD 1 0).toNat : Int) % 256).toNat] ++ [39]
       rw [getD_cons_drop t 2 (by omega), getD_cons_drop t 1 (by omega), getD_cons_drop t 0 (by omega)]
       have e0 : t.getD 0 0 = 39 := by
        cases t with
        | nil => exact absurd rfl h0
        | cons d r => exact UInt8.toNat_inj.1 ((hhead d r rfl).1 c3)
       have e2 : t.getD 2 0 = 39 := by
        have : ¬ (2 < t.length ∧ ¬ (t.getD 2 0).toNat = 39) := fun g => h (.inr g)
        exact UInt8.toNat_inj.1 (Classical.not_not.1 fun g => this ⟨by omega, g⟩)
       have e3 : UInt8.ofNat (((t.getD 1 0).toNat : Int) % 256).toNat = t.getD 1 0 := by
        have : (((t.getD 1 0).toNat : Int) % 256).toNat = (t.getD 1 0).toNat := by omega
        rw [this, UInt8.ofNat_toNat]
       rw [e0, e2, e3]
       rfl
   ·rw [if_neg c3] at he hk ⊢
    by_cases c4 : c = 4
    ·rw [if_pos c4] at he hk ⊢
     unfold quoteI quoteN at he hk ⊢
     have hr := runL_le inqB (t.drop 1)
     rw [List.length_drop] at hr
     generalize hn : 1 + runL inqB (t.drop 1) = n at he hk ⊢
     split
     ·rename_i h
      rw [if_pos h] at he
      cases he
     ·rename_i h
      rw [if_neg h] at he
      split
      ·rename_i h2
       rw [if_pos h2] at he
       cases he
      ·rename_i h2
       rw [if_neg h2] at he
       split
       ·rename_i h3
        rw [if_pos h3] at he
        cases he
       ·have e0 : t.getD 0 0 = 34 := by
         cases t with
         | nil => exact absurd rfl h0
         | cons d r => exact UInt8.toNat_inj.1 ((hhead d r rfl).2 c4)
        refine .inl ⟨rfl, ?_, rfl⟩
        show t.take (n + 1) = [34] ++ (t.take n).drop 1 ++ [34]
        rw [getD_cons_drop t n (by omega)]
        have e1 : t.getD n 0 = 34 := UInt8.toNat_inj.1 (Classical.not_not.1 h2)
        rw [e1]
        congr 1
        obtain ⟨j, rfl⟩ : ∃ j, n = j + 1 := ⟨n - 1, by omega⟩
        cases t with
        | nil => exact absurd rfl h0
        | cons d r =>
         have e0 : d = 34 := e0
         subst e0
         simp
    ·rw [if_neg c4] at he hk ⊢
     by_cases c5 : c = 5
     ·rw [if_pos c5] at he hk ⊢
      exfalso
      unfold noteI at he hk
      cases hn : endL (t.drop 2) with
      | none => rw [hn] at hk; exact hk rfl
      | some n => rw [hn] at hk; exact hk rfl
     ·rw [if_neg c5] at he hk ⊢
      unfold signI signN at he hk ⊢
      split
      ·rename_i h
       rw [if_pos h] at he
       cases he
      ·exact .inr (.inr ⟨(show (7 : Int) ≠ 6 by decide), (show (7 : Int) ≠ 5 by decide), rfl, rfl⟩)
end Go.Proofs.YtniihjhlkpjnoaaDoor.Given
end
