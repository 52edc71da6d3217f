/- Package text: the contract of Apply (its failures: need, caught, proper, dropped), and of strings.Count of one byte. -/
import Derived.Test.YtniihjhlkpjnoaaDoorJ3
import Derived.Test.YtniihjhlkpjnoaaDoorJ6
import Derived.Test.YtniihjhlkpjnoaaDoorJ9
import Derived.Test.YtniihjhlkpjnoaaDoorShelf
import Derived.RegionTactic
import Derived.BigRegion
import Derived.ChangeAlike
import Derived.Outline
import Derived.StillTailTactics
set_option linter.unusedVariables false
set_option linter.unusedSimpArgs false
namespace Go.Proofs.YtniihjhlkpjnoaaDoor.Given
open Go.RowKit Go.Proofs.YtniihjhlkpjnoaaDoorW.PrintWords Go.Proofs.YtniihjhlkpjnoaaDoorW.PrintLast Go.Proofs.YtniihjhlkpjnoaaDoorW.PrintMore
def properE (at' drop : Int) : Bool := decide (0 ≤ at') && decide (at' ≤ 1048576) && decide (0 ≤ drop) && decide (drop ≤ 1048576)
def text_Apply.f (s : ByteArray) (a d : Int) (p : ByteArray) : Option (ByteArray × Int) :=
 if properE a d = false then some (⟨#[]⟩, 1) else if (s.size : Int) < a + d then some (⟨#[]⟩, 3)
 else if s.size ≤ 1000000000000 ∧ p.size ≤ 1000000000000 then some (s.extract 0 a.toNat ++ p ++ s.extract (a + d).toNat s.size, 0) else none
def tfailV (c : Int) : Value := .iface 129 (.agg #[.int .i64 c])
theorem need_true (c : Int) (w : World) : Calls Tryd.prog 92 #[.bool true, .int .i64 c] w fun e w' => e = .returned (.tuple #[]) ∧ w = w' := by
 go_enter Tryd.func92, Tryd.ntmps92
 go_wp2
 go_end0
 exact ⟨rfl, rfl⟩
theorem need_false (c : Int) (w : World) : Calls Tryd.prog 92 #[.bool false, .int .i64 c] w fun e w' => e = .panicked [{ v := tfailV c, recovered := false }] ∧ w = w' := by
 have hu95 := Tryd.underlying129
 go_enter Tryd.func92, Tryd.ntmps92
 go_wp2
 exact ⟨rfl, rfl, rfl⟩
theorem tcaught_idle (po pe : Addr) (w : World) :
  CallsD Tryd.prog 59 #[.pointer (some po), .pointer (some pe)] .returning w fun e u' w' => u' = .returning ∧ (e = .returned (.tuple #[]) ∧ w = w') := by
 refine callsD_of_recover Tryd.func59 rfl ?_
 simp only [recovers, Tryd.ntmps59, List.size_toArray, List.length_cons, List.length_nil, Nat.reduceAdd, Nat.reduceSub, Array.replicate_succ, Array.replicate_zero, List.push_toArray, List.append_toArray, List.nil_append, List.cons_append, List.setIfInBounds_toArray, List.set_cons_zero, List.set_cons_succ]
 go_wp2
 go_end0
 exact ⟨rfl, rfl⟩
set_option maxRecDepth 100000 in
theorem tcaught_fails (bo be : Nat) (c : Int) (x y : Value) (w : World) (h1 : w.cell? ⟨bo, 0, none⟩ = some x) (h2 : w.cell? ⟨be, 0, none⟩ = some y) (hf1 : w.frozen? ⟨bo, 0, none⟩ = false) (hf2 : w.frozen? ⟨be, 0, none⟩ = false) (hne : ¬ bo = be) :
  CallsD Tryd.prog 59 #[.pointer (some ⟨bo, 0, none⟩), .pointer (some ⟨be, 0, none⟩)] (.panicking [{ v := tfailV c, recovered := false }]) w fun e u' w' => u' = .panicking [{ v := tfailV c, recovered := true }] ∧ (e = .returned (.tuple #[]) ∧
   (((w.setCell ⟨bo, 0, none⟩ (.string ⟨#[]⟩)).setCell ⟨be, 0, none⟩ (.int .i64 c)).alloc (.cells #[.int .i64 c] 129)).drew = w') := by
 have hb1 := World.block_lt_of_cell? w _ h1
 have hb2 := World.block_lt_of_cell? w _ h2
 simp only [] at hb1 hb2
 have hu95 := Tryd.underlying129
 have hta : ∀ (v : Value) (W : World), (Instr.typeAssert (.iface 129 v) 20 129 true).run Tryd.prog W = .ok (.tuple #[v, .bool true]) W := fun v W => by rfl
 have hbo : ¬ bo = w.heap.size := by omega
 have hbe : ¬ be = w.heap.size := by omega
 have hbo' : ¬ w.heap.size = bo := by omega
 have hbe' : ¬ w.heap.size = be := by omega
 have hne' : ¬ be = bo := fun e => hne e.symm
 refine callsD_of_recover Tryd.func59 rfl ?_
 simp only [tfailV, recovers, Tryd.ntmps59, List.size_toArray, List.length_cons, List.length_nil, Nat.reduceAdd, Nat.reduceSub, Array.replicate_succ, Array.replicate_zero, List.push_toArray, List.append_toArray, List.nil_append, List.cons_append, List.setIfInBounds_toArray, List.set_cons_zero, List.set_cons_succ]
 go_wp2
 go_region
 all_goals go_end0
 all_goals exact ⟨rfl, rfl⟩
set_option maxRecDepth 100000 in
set_option maxHeartbeats 1000000 in
theorem proper_calls (a d : Int) (p : ByteArray) (w : World) :
  Calls Tryd.prog 93 #[.agg #[.int .i64 a, .int .i64 d, .string p]] w fun e w' => e = .returned (.bool (properE a d)) ∧ Below w.heap.size w w' := by
 have hu47 := Tryd.underlying52
 go_enter Tryd.func93, Tryd.ntmps93
 go_wp2
 all_goals go_ret
 all_goals refine ⟨?_, (Below.refl _ _).alloc (Nat.le_refl _) _⟩
 all_goals refine congrArg (fun b => Ending.returned (Value.bool b)) ?_
 all_goals (simp [properE, *]; try omega)
set_option maxRecDepth 100000 in
set_option maxHeartbeats 1000000 in
theorem dropped_arg (s : ByteArray) (a d : Int) (p : ByteArray) (w : World) (h : properE a d = false) :
  Calls Tryd.prog 60 #[.string s, .agg #[.int .i64 a, .int .i64 d, .string p]] w fun e w' => e = .panicked [{ v := tfailV 1, recovered := false }] ∧ Below w.heap.size w w' := by
 have hu47 := Tryd.underlying52
 go_enter Tryd.func60, Tryd.ntmps60
 go_wp2_with (first | (go_at_call 93; refine (proper_calls _ _ _ _).mono ?_; rintro e w1 ⟨rfl, hb⟩; rw [h]) | (go_at_call 92; refine (need_false _ _).mono ?_; rintro e w' ⟨rfl, rfl⟩))
 exact ⟨rfl, rfl, ((Below.refl _ _).alloc (Nat.le_refl _) _).trans (hb.mono (by simp))⟩
set_option maxRecDepth 100000 in
set_option maxHeartbeats 1000000 in
theorem dropped_range (s : ByteArray) (a d : Int) (p : ByteArray) (w : World) (h : properE a d = true) (hr : (s.size : Int) < a + d) :
  Calls Tryd.prog 60 #[.string s, .agg #[.int .i64 a, .int .i64 d, .string p]] w fun e w' => e = .panicked [{ v := tfailV 3, recovered := false }] ∧ Below w.heap.size w w' := by
 have hu47 := Tryd.underlying52
 have h0 : 0 ≤ a ∧ a ≤ 1048576 ∧ 0 ≤ d ∧ d ≤ 1048576 := by simp [properE] at h; omega
 obtain ⟨ha0, ha1, hd0, hd1⟩ := h0
 have hdec : decide (a + d ≤ (s.size : Int)) = false := decide_eq_false (by omega)
 go_enter Tryd.func60, Tryd.ntmps60
 go_wp2_with (first | (go_at_call 93; refine (proper_calls _ _ _ _).mono ?_; rintro e w1 ⟨rfl, hb⟩; rw [h]; have hc0 : w1.cell? ⟨w.heap.size, 0, none⟩ = some (.int .i64 a) := (hb.cell (p := ⟨w.heap.size, 0, none⟩) (by simp)).trans (by simp [go_sem]); have hc1 : w1.cell? ⟨w.heap.size, 1, none⟩ = some (.int .i64 d) := (hb.cell (p := ⟨w.heap.size, 1, none⟩) (by simp)).trans (by simp [go_sem])) | (go_at_call 92; (with_reducible refine (need_true _ _).mono ?_); rintro e w' ⟨rfl, rfl⟩) | (go_at_call 92; (with_reducible refine (need_false _ _).mono ?_); rintro e w' ⟨rfl, rfl⟩))
 exact ⟨rfl, rfl, ((Below.refl _ _).alloc (Nat.le_refl _) _).trans (hb.mono (by simp))⟩
set_option maxRecDepth 100000 in
set_option maxHeartbeats 1000000 in
theorem dropped_ok (s : ByteArray) (a d : Int) (p : ByteArray) (w : World) (h : properE a d = true) (hr : a + d ≤ (s.size : Int)) :
  Calls Tryd.prog 60 #[.string s, .agg #[.int .i64 a, .int .i64 d, .string p]] w fun e w' => e = .returned (.string (s.extract a.toNat (a + d).toNat)) ∧ Below w.heap.size w w' := by
 have hu47 := Tryd.underlying52
 have h0 : 0 ≤ a ∧ a ≤ 1048576 ∧ 0 ≤ d ∧ d ≤ 1048576 := by simp [properE] at h; omega
 obtain ⟨ha0, ha1, hd0, hd1⟩ := h0
 have hdec : decide (a + d ≤ (s.size : Int)) = true := decide_eq_true (by omega)
 go_enter Tryd.func60, Tryd.ntmps60
 go_wp2_with (first | (go_at_call 93; refine (proper_calls _ _ _ _).mono ?_; rintro e w1 ⟨rfl, hb⟩; rw [h]; have hc0 : w1.cell? ⟨w.heap.size, 0, none⟩ = some (.int .i64 a) := (hb.cell (p := ⟨w.heap.size, 0, none⟩) (by simp)).trans (by simp [go_sem]); have hc1 : w1.cell? ⟨w.heap.size, 1, none⟩ = some (.int .i64 d) := (hb.cell (p := ⟨w.heap.size, 1, none⟩) (by simp)).trans (by simp [go_sem])) | (go_at_call 92; (with_reducible refine (need_true _ _).mono ?_); rintro e w' ⟨rfl, rfl⟩) | (go_at_call 92; (with_reducible refine (need_false _ _).mono ?_); rintro e w' ⟨rfl, rfl⟩))
 go_ret
 exact ⟨rfl, ((Below.refl _ _).alloc (Nat.le_refl _) _).trans (hb.mono (by simp))⟩
def wA (a d : Int) (p : ByteArray) (w : World) : World := ((w.alloc (.cells #[.int .i64 a, .int .i64 d, .string p] 52)).alloc (.cells #[.string ⟨#[]⟩] 9)).alloc (.cells #[.int .i64 0] 25)
theorem wA_size (a d : Int) (p : ByteArray) (w : World) : (wA a d p w).heap.size = w.heap.size + 3 := by simp [wA]
theorem wA_below (a d : Int) (p : ByteArray) (w : World) : Below w.heap.size w (wA a d p w) :=
 (((Below.refl _ _).alloc (Nat.le_refl _) _).alloc (by simp) _).alloc (by simp; omega) _
theorem wp_region_tail {P : Program} {id : Nat} {Q : Exit → Act → World → Prop} {a : Act} {w : World} {l : List Oper} (n : Nat) (hm : P.follows .mixedOrders = true) (hB : Region.lexTailB .any l.toArray n = true)
  (h : ∀ w2 : World, w2 = w.drew → wpStill P l.toArray w2 (fun a' => wpList P l.toArray Q (l.drop n) a' w2) (l.take n) a) : (Code.region id l.toArray true).wp P Q a w :=
 wp_region_still_tail n hm hB (h _ rfl)
set_option maxRecDepth 100000 in
set_option maxHeartbeats 1000000 in
theorem apply_door (s : ByteArray) (a d : Int) (p : ByteArray) (w : World) (c : Int)
  (hd : Calls Tryd.prog 60 #[.string s, .agg #[.int .i64 a, .int .i64 d, .string p]] (wA a d p w) fun e w' => e = .panicked [{ v := tfailV c, recovered := false }] ∧ Below (wA a d p w).heap.size (wA a d p w) w') :
  Calls Tryd.prog 44 #[.string s, .agg #[.int .i64 a, .int .i64 d, .string p]] w fun e w' => e = .returned (.tuple #[.string ⟨#[]⟩, .int .i64 c]) ∧ Below w.heap.size w w' := by
 have hu47 := Tryd.underlying52
 have hu9 := Tryd.underlying9
 have hu22 := Tryd.underlying25
 have HD := Aside0.mk hd
 clear hd
 go_enter_defers Tryd.func44, Tryd.ntmps44
 go_wp2_with (first | (go_at_call 60; refine HD.out.mono ?_; rintro e w1 ⟨rfl, hb⟩))
 have hsz := hb.size
 rw [wA_size] at hb hsz
 have c1 : w1.cell? ⟨w.heap.size + 1, 0, none⟩ = some (.string ⟨#[]⟩) := (bcell hb (by omega)).trans (by simp [wA, go_sem])
 have c2 : w1.cell? ⟨w.heap.size + 1 + 1, 0, none⟩ = some (.int .i64 0) := (bcell hb (by omega)).trans (by simp [wA, go_sem])
 have f1 : w1.frozen? ⟨w.heap.size + 1, 0, none⟩ = false := (bfrozen hb (by omega)).trans (by simp [wA, go_sem])
 have f2 : w1.frozen? ⟨w.heap.size + 1 + 1, 0, none⟩ = false := (bfrozen hb (by omega)).trans (by simp [wA, go_sem])
 have hB : Below w.heap.size w w1 := (wA_below a d p w).trans (hb.mono (by omega))
 refine leaves_cons (f := 59) (args := #[.pointer (some ⟨w.heap.size + 1, 0, none⟩), .pointer (some ⟨w.heap.size + 1 + 1, 0, none⟩)]) (by simp) (by simp [go_sem]) ?_
 refine (tcaught_fails (w.heap.size + 1) (w.heap.size + 1 + 1) c _ _ w1 c1 c2 f1 f2 (by omega)).mono ?_
 rintro e u' w'' ⟨rfl, rfl, rfl⟩
 have hBf := below_drew (((hB.setCell (p := ⟨w.heap.size + 1, 0, none⟩) (by simp) (.string ⟨#[]⟩)).setCell (p := ⟨w.heap.size + 1 + 1, 0, none⟩) (by simp; omega) (.int .i64 c)).alloc (by simp; omega) (.cells #[.int .i64 c] 129))
 have s1 : w.heap.size + 1 < w1.heap.size := by omega
 have s2 : w.heap.size + 1 + 1 < w1.heap.size := by omega
 have n1 : ¬ w.heap.size + 1 = w1.heap.size := by omega
 have n2 : ¬ w.heap.size + 1 + 1 = w1.heap.size := by omega
 have n3 : ¬ w1.heap.size = w.heap.size + 1 := by omega
 have n4 : ¬ w1.heap.size = w.heap.size + 1 + 1 := by omega
 simp [Leaves, settle, results, Tryd.results44, go_sem, c1, c2, s1, s2, n3, n4]
 exact hBf
set_option linter.unusedSimpArgs false
set_option maxRecDepth 100000 in
set_option maxHeartbeats 400000 in
theorem apply_ok (s : ByteArray) (a d : Int) (p : ByteArray) (w : World) (h : properE a d = true) (hr : a + d ≤ (s.size : Int)) (hs : s.size ≤ 1000000000000) (hp : p.size ≤ 1000000000000) :
  Calls Tryd.prog 44 #[.string s, .agg #[.int .i64 a, .int .i64 d, .string p]] w fun e w' => e = .returned (.tuple #[.string (s.extract 0 a.toNat ++ p ++ s.extract (a + d).toNat s.size), .int .i64 0]) ∧ Below w.heap.size w w' := by
 have hu47 := Tryd.underlying52
 have hu9 := Tryd.underlying9
 have hu22 := Tryd.underlying25
 have h0 : 0 ≤ a ∧ a ≤ 1048576 ∧ 0 ≤ d ∧ d ≤ 1048576 := by simp [properE] at h; omega
 obtain ⟨ha0, ha1, hd0, hd1⟩ := h0
 have HD := Aside0.mk (dropped_ok s a d p (wA a d p w) h hr)
 clear h
 go_enter_defers Tryd.func44, Tryd.ntmps44
 go_wp2_with (first | (go_at_call 60; refine HD.out.mono ?_; rintro e w1 ⟨rfl, hb⟩))
 have hsz := hb.size
 rw [wA_size] at hb hsz
 have k0 : w1.cell? ⟨w.heap.size, 0, none⟩ = some (.int .i64 a) := (bcell hb (by omega)).trans (by simp [wA, go_sem])
 have k1 : w1.cell? ⟨w.heap.size, 1, none⟩ = some (.int .i64 d) := (bcell hb (by omega)).trans (by simp [wA, go_sem])
 have k2 : w1.cell? ⟨w.heap.size, 2, none⟩ = some (.string p) := (bcell hb (by omega)).trans (by simp [wA, go_sem])
 have c1 : w1.cell? ⟨w.heap.size + 1, 0, none⟩ = some (.string ⟨#[]⟩) := (bcell hb (by omega)).trans (by simp [wA, go_sem])
 have c2 : w1.cell? ⟨w.heap.size + 1 + 1, 0, none⟩ = some (.int .i64 0) := (bcell hb (by omega)).trans (by simp [wA, go_sem])
 have f1 : w1.frozen? ⟨w.heap.size + 1, 0, none⟩ = false := (bfrozen hb (by omega)).trans (by simp [wA, go_sem])
 have f2 : w1.frozen? ⟨w.heap.size + 1 + 1, 0, none⟩ = false := (bfrozen hb (by omega)).trans (by simp [wA, go_sem])
 have hB := Aside0.mk ((wA_below a d p w).trans (hb.mono (by omega)))
 have s1 : w.heap.size + 1 < w1.heap.size := by omega
 have s2 : w.heap.size + 1 + 1 < w1.heap.size := by omega
 have q1 : a ≤ (s.size : Int) := by omega
 have q2 : 0 ≤ a + d := by omega
 have z3 : ¬ 9223372036854775807 < a.toNat + p.size := by omega
 have z4 : ¬ 9223372036854775807 < a.toNat + p.size + (s.size - (a + d).toNat) := by omega
 have w64 : IntKind.i64.wrap (a + d) = a + d := IntWalk.i64_in _ (by omega)
 clear hb
 refine wp_region_tail 15 (by kernel_rfl) (by kernel_rfl) ?_
 intro w2 hw2
 replace k0 : w2.cell? ⟨w.heap.size, 0, none⟩ = some (.int .i64 a) := by rw [hw2]; exact k0
 replace k1 : w2.cell? ⟨w.heap.size, 1, none⟩ = some (.int .i64 d) := by rw [hw2]; exact k1
 replace k2 : w2.cell? ⟨w.heap.size, 2, none⟩ = some (.string p) := by rw [hw2]; exact k2
 replace c1 : w2.cell? ⟨w.heap.size + 1, 0, none⟩ = some (.string ⟨#[]⟩) := by rw [hw2]; exact c1
 replace c2 : w2.cell? ⟨w.heap.size + 1 + 1, 0, none⟩ = some (.int .i64 0) := by rw [hw2]; exact c2
 replace f1 : w2.frozen? ⟨w.heap.size + 1, 0, none⟩ = false := by rw [hw2]; exact f1
 replace f2 : w2.frozen? ⟨w.heap.size + 1 + 1, 0, none⟩ = false := by rw [hw2]; exact f2
 replace s1 : w.heap.size + 1 < w2.heap.size := by rw [hw2]; exact s1
 replace s2 : w.heap.size + 1 + 1 < w2.heap.size := by rw [hw2]; exact s2
 replace hB : Aside0 (Below w.heap.size w w2) := by rw [hw2]; exact ⟨below_drew hB.out⟩
 clear hw2
 simp only [List.take_succ_cons, List.take_zero, List.drop_succ_cons, List.drop_zero]
 repeat still_step
 refine wpStill_nil ?_
 clear w64
 go_wp2
 refine leaves_cons (f := 59) (args := #[.pointer (some ⟨w.heap.size + 1, 0, none⟩), .pointer (some ⟨w.heap.size + 1 + 1, 0, none⟩)]) (by simp) (by simp [go_sem]) ?_
 refine (tcaught_idle _ _ _).mono ?_
 rintro e u' w'' ⟨rfl, rfl, rfl⟩
 have hBf := (hB.out.setCell (p := ⟨w.heap.size + 1, 0, none⟩) (by simp) (.string (s.extract 0 a.toNat ++ p ++ s.extract (a + d).toNat s.size))).setCell (p := ⟨w.heap.size + 1 + 1, 0, none⟩) (by simp; omega) (.int .i64 0)
 simp [Leaves, settle, results, Tryd.results44, go_sem, c1, c2]
 exact hBf
theorem text_Apply.calls (a0 : ByteArray) (a1_0 : Int) (a1_1 : Int) (a1_2 : ByteArray) (r1 : ByteArray) (r2 : Int) (w : World) (h : text_Apply.f a0 a1_0 a1_1 a1_2 = some (r1, r2)) :
  Calls Tryd.prog 44 #[.string a0, .agg #[.int .i64 a1_0, .int .i64 a1_1, .string a1_2]] w fun e w' => e = .returned (.tuple #[.string r1, .int .i64 r2]) ∧ Below w.heap.size w w' := by
 unfold text_Apply.f at h
 split at h
 ·cases h; exact apply_door _ _ _ _ _ 1 (dropped_arg _ _ _ _ _ (by assumption))
 ·rename_i hp
  have hp' : properE a1_0 a1_1 = true := by simpa using hp
  split at h
  ·cases h; exact apply_door _ _ _ _ _ 3 (dropped_range _ _ _ _ _ hp' (by assumption))
  ·split at h
   ·rename_i h1 h2
    cases h; exact apply_ok _ _ _ _ _ hp' (by omega) h2.1 h2.2
   ·cases h
def strings_Count.f (s sub : ByteArray) : Option Int := if sub.size = 1 then some (Lib.countByte s.data.toList (sub.data.toList.getD 0 0)) else none
theorem one_byte (s : ByteArray) (h : s.size = 1) : s = ⟨#[s.data.toList.getD 0 0]⟩ := by
 obtain ⟨⟨l⟩⟩ := s
 match l, h with
 | [b], _ => rfl
theorem strings_Count.calls (a0 a1 : ByteArray) (r : Int) (w : World) (h : strings_Count.f a0 a1 = some r) :
  Calls Tryd.prog 49 #[.string a0, .string a1] w fun e w' => e = .returned (.int .i64 r) ∧ Below w.heap.size w w' := by
 unfold strings_Count.f at h
 split at h
 ·rename_i h1
  cases h
  have h2 := Tryd.strings_Count_one a0 (a1.data.toList.getD 0 0) w
  rw [← one_byte a1 h1] at h2
  exact h2.mono fun e w' ⟨he, hw⟩ => ⟨he, hw ▸ Below.refl _ _⟩
 ·cases h
end Go.Proofs.YtniihjhlkpjnoaaDoor.Given