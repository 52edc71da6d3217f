/- Package lex: bytes. -/
import Derived.Test.YtniihjhlkpjnoaaDoorJ6
import Derived.Test.YtniihjhlkpjnoaaDoorHeld
import Derived.Sort.CutIn
import Derived.Sort.QuietIn
import Derived.WalkSmall
import Derived.TacticsInMore
import Derived.Test.YtniihjhlkpjnoaaDoorJ3
import Derived.Laws.BytesArg
import Derived.Deep.RegionHeld3
set_option linter.unusedVariables false
set_option linter.unusedSimpArgs false
namespace Go.Proofs.YtniihjhlkpjnoaaDoor.Given
open Go.RowKit Go.Shelf Go.Proofs.YtniihjhlkpjnoaaDoorW.PrintWords Go.Proofs.YtniihjhlkpjnoaaDoorW.PrintLast Go.Proofs.YtniihjhlkpjnoaaDoorW.PrintMore
attribute [local go_sem] Oper.semAt_some
attribute [local irreducible] wpOpIn wpAnyHIn
def bytesL (k : Int) (t : List UInt8) (n : Int) : List UInt8 × Bool :=
 if k = 6 then ([34] ++ t ++ [34], true) else if k = 5 then ([39] ++ [UInt8.ofNat (n % 256).toNat] ++ [39], decide (0 ≤ n) && decide (n ≤ 255)) else (t, true)
theorem ba_plus (a b : List UInt8) : ba a ++ ba b = ba (a ++ b) := by
 apply ByteArray.ext
 simp [ba]
set_option maxRecDepth 100000 in
set_option maxHeartbeats 0 in
theorem bytes_text (t : List UInt8) (ht : t.length ≤ 4611686018427387904) (k n x3 x4 : Int) (hk : k = 6) (w : World) : Calls Tryd.prog 37 #[.agg #[.int .i64 k, .string (ba t), .int .i64 n, .int .i64 x3, .int .i64 x4]] w fun e w' => e = .returned (.tuple #[.string (ba (bytesL k t n).1), .bool (bytesL k t n).2]) ∧ Below w.heap.size w w' := by
 have hsz := ba_size t
 have hut := Tryd.underlying42
 have HR := Aside0.mk (show bytesL k t n = ([34] ++ t ++ [34], true) from if_pos hk)
 have HB := Aside0.mk ((Below.refl w.heap.size w).alloc (Nat.le_refl _) (.cells #[.int .i64 k, .string (ba t), .int .i64 n, .int .i64 x3, .int .i64 x4] 42))
 have h34 : (⟨#[34]⟩ : ByteArray) = ba [34] := rfl
 have e1 := ba_plus [34] t
 have e2 := ba_plus ([34] ++ t) [34]
 have z1 := ba_size [34]
 have z2 := ba_size ([34] ++ t)
 have g1 : ¬ 9223372036854775807 < 1 + t.length := by omega
 have g2 : ¬ 9223372036854775807 < t.length + 1 + 1 := by omega
 have g3 : ¬ 9223372036854775807 < 1 + t.length + 1 := by omega
 have q1 : (k == 6) = true := beq_iff_eq.2 hk
 have q2 : decide (k = 6) = true := decide_eq_true hk
 have H34 := Aside0.mk h34
 clear hk ht h34
 go_enter Tryd.func37, Tryd.ntmps37
 go_wp2
 go_ret2
 exact ⟨by rw [HR.out, ← e2, ← e1]; rfl, HB.out⟩
set_option maxRecDepth 100000 in
set_option maxHeartbeats 0 in
theorem bytes_plain (t : List UInt8) (k n x3 x4 : Int) (hk6 : k ≠ 6) (hk : k ≠ 5) (w : World) : Calls Tryd.prog 37 #[.agg #[.int .i64 k, .string (ba t), .int .i64 n, .int .i64 x3, .int .i64 x4]] w fun e w' => e = .returned (.tuple #[.string (ba (bytesL k t n).1), .bool (bytesL k t n).2]) ∧ Below w.heap.size w w' := by
 have hut := Tryd.underlying42
 have HR := Aside0.mk (show bytesL k t n = (t, true) from by unfold bytesL; rw [if_neg hk6, if_neg hk])
 have HB := Aside0.mk ((Below.refl w.heap.size w).alloc (Nat.le_refl _) (.cells #[.int .i64 k, .string (ba t), .int .i64 n, .int .i64 x3, .int .i64 x4] 42))
 have q1 : (k == 6) = false := beq_eq_false_iff_ne.2 hk6
 have q2 : decide (k = 6) = false := decide_eq_false hk6
 have q3 : (k == 5) = false := beq_eq_false_iff_ne.2 hk
 have q4 : decide (k = 5) = false := decide_eq_false hk
 clear hk hk6
 go_enter Tryd.func37, Tryd.ntmps37
 go_wp2
 go_ret2
 exact ⟨by rw [HR.out]; rfl, HB.out⟩
set_option maxRecDepth 100000 in
set_option maxHeartbeats 0 in
theorem bytes_char (t : List UInt8) (k n x3 x4 : Int) (hk : k = 5) (w : World) : CallsIn Fence.wide 6 Tryd.prog 37 #[.agg #[.int .i64 k, .string (ba t), .int .i64 n, .int .i64 x3, .int .i64 x4]] w fun e w' => e = .returned (.tuple #[.string (ba (bytesL k t n).1), .bool (bytesL k t n).2]) ∧ Below w.heap.size w w' := by
 have hut := Tryd.underlying42
 have HR := Aside0.mk (show bytesL k t n = ([39] ++ [UInt8.ofNat (n % 256).toNat] ++ [39], decide (0 ≤ n) && decide (n ≤ 255)) from by unfold bytesL; rw [if_neg (by omega), if_pos hk])
 have q1 : (k == 6) = false := beq_eq_false_iff_ne.2 (by omega)
 have q2 : decide (k = 6) = false := decide_eq_false (by omega)
 have q3 : (k == 5) = true := beq_iff_eq.2 hk
 have q4 : decide (k = 5) = true := decide_eq_true hk
 clear hk
 refine callsIn_of_wp Tryd.func37 rfl trivial ?_ rfl
 simp only [Tryd.ntmps37, List.size_toArray, List.length_cons, List.length_nil, Nat.reduceAdd, Nat.reduceSub, Array.replicate_succ, Array.replicate_zero, List.push_toArray, List.append_toArray, List.nil_append, List.cons_append]
 gi_wp2
 have hB : Below w.heap.size w (w.alloc (.cells #[.int .i64 k, .string (ba t), .int .i64 n, .int .i64 x3, .int .i64 x4] 42)).drew := below_drew ((Below.refl _ _).alloc (Nat.le_refl _) _)
 have c2 : (w.alloc (.cells #[.int .i64 k, .string (ba t), .int .i64 n, .int .i64 x3, .int .i64 x4] 42)).drew.cell? ⟨w.heap.size, 2, none⟩ = some (.int .i64 n) := by simp [go_sem]
 refine wpIn_mono (Q := NoPanic _) ?_ NoPanic.imp
 refine wpIn_region_held 16 (S := fun W => W.cell? ⟨w.heap.size, 2, none⟩ = some (.int .i64 n)) (by kernel_rfl) ?_
 change wpAnyHIn _ _ _ _ _ _ _ _ _ _ _ (w.alloc (.cells #[.int .i64 k, .string (ba t), .int .i64 n, .int .i64 x3, .int .i64 x4] 42)).drew
 generalize (w.alloc (.cells #[.int .i64 k, .string (ba t), .int .i64 n, .int .i64 x3, .int .i64 x4] 42)).drew = W at hB c2 ⊢
 have hwr : IntKind.u8.wrap n = n % 256 := rfl
 have HWR := Aside0.mk hwr
 have HS := Aside0.mk c2
 have HB := Aside0.mk hB
 clear hwr
 clear c2 hB
 by_cases hn : 0 ≤ n
 ·have n1 : decide (0 ≤ n) = true := decide_eq_true hn
  clear hn
  refine wpAnyHIn_take (i := 0) (v := .pointer (some ⟨w.heap.size, 2, none⟩)) (by kernel_rfl) (by kernel_rfl) rfl (by kernel_rfl) (by kernel_rfl) (by kernel_rfl) (fun _ _ _ h => h) (fun _ => by rfl) (.inl ⟨by kernel_rfl, fun w' hw' => by go_simp⟩) HS.out ?_
  simp only [Act.put, List.setIfInBounds_toArray, List.set_cons_zero, List.set_cons_succ]
  refine wpAnyHIn_take (i := 1) (v := .int .i64 n) (by kernel_rfl) (by kernel_rfl) rfl (by kernel_rfl) (by kernel_rfl) (by kernel_rfl) (fun _ _ _ h => h) (fun _ => by rfl) (.inl ⟨by kernel_rfl, fun w' hw' => by have c2 := hw'; go_simp⟩) HS.out ?_
  simp only [Act.put, List.setIfInBounds_toArray, List.set_cons_zero, List.set_cons_succ]
  refine wpAnyHIn_take (i := 2) (v := .int .u8 (IntKind.u8.wrap n)) (by kernel_rfl) (by kernel_rfl) rfl (by kernel_rfl) (by kernel_rfl) (by kernel_rfl) (fun _ _ _ h => h) (fun _ => by rfl) (.inl ⟨by kernel_rfl, fun w' hw' => by go_simp⟩) HS.out ?_
  simp only [Act.put, List.setIfInBounds_toArray, List.set_cons_zero, List.set_cons_succ]
  refine wpAnyHIn_take (i := 7) (v := .pointer (some ⟨w.heap.size, 2, none⟩)) (by kernel_rfl) (by kernel_rfl) rfl (by kernel_rfl) (by kernel_rfl) (by kernel_rfl) (fun _ _ _ h => h) (fun _ => by rfl) (.inl ⟨by kernel_rfl, fun w' hw' => by go_simp⟩) HS.out ?_
  simp only [Act.put, List.setIfInBounds_toArray, List.set_cons_zero, List.set_cons_succ]
  refine wpAnyHIn_take (i := 8) (v := .int .i64 n) (by kernel_rfl) (by kernel_rfl) rfl (by kernel_rfl) (by kernel_rfl) (by kernel_rfl) (fun _ _ _ h => h) (fun _ => by rfl) (.inl ⟨by kernel_rfl, fun w' hw' => by have c2 := hw'; go_simp⟩) HS.out ?_
  simp only [Act.put, List.setIfInBounds_toArray, List.set_cons_zero, List.set_cons_succ]
  refine wpAnyHIn_take (i := 9) (v := .bool true) (by kernel_rfl) (by kernel_rfl) rfl (by kernel_rfl) (by kernel_rfl) (by kernel_rfl) (fun _ _ _ h => h) (fun _ => by rfl) (.inl ⟨by kernel_rfl, fun w' hw' => by go_simp⟩) HS.out ?_
  simp only [Act.put, List.setIfInBounds_toArray, List.set_cons_zero, List.set_cons_succ]
  refine wpAnyHIn_take (i := 10) (v := .bool true) (by kernel_rfl) (by kernel_rfl) rfl (by kernel_rfl) (by kernel_rfl) (by kernel_rfl) (fun _ _ _ h => h) (fun _ => by rfl) (.inl ⟨by kernel_rfl, fun w' hw' => by go_simp⟩) HS.out ?_
  simp only [Act.put, List.setIfInBounds_toArray, List.set_cons_zero, List.set_cons_succ]
  refine wpAnyHIn_take (i := 11) (v := .pointer (some ⟨w.heap.size, 2, none⟩)) (by kernel_rfl) (by kernel_rfl) rfl (by kernel_rfl) (by kernel_rfl) (by kernel_rfl) (fun _ _ _ h => h) (fun _ => by rfl) (.inl ⟨by kernel_rfl, fun w' hw' => by go_simp⟩) HS.out ?_
  simp only [Act.put, List.setIfInBounds_toArray, List.set_cons_zero, List.set_cons_succ]
  refine wpAnyHIn_take (i := 12) (v := .int .i64 n) (by kernel_rfl) (by kernel_rfl) rfl (by kernel_rfl) (by kernel_rfl) (by kernel_rfl) (fun _ _ _ h => h) (fun _ => by rfl) (.inl ⟨by kernel_rfl, fun w' hw' => by have c2 := hw'; go_simp⟩) HS.out ?_
  simp only [Act.put, List.setIfInBounds_toArray, List.set_cons_zero, List.set_cons_succ]
  refine wpAnyHIn_take (i := 13) (v := .bool (decide (n ≤ 255))) (by kernel_rfl) (by kernel_rfl) rfl (by kernel_rfl) (by kernel_rfl) (by kernel_rfl) (fun _ _ _ h => h) (fun _ => by rfl) (.inl ⟨by kernel_rfl, fun w' hw' => by go_simp⟩) HS.out ?_
  simp only [Act.put, List.setIfInBounds_toArray, List.set_cons_zero, List.set_cons_succ]
  refine wpAnyHIn_take (i := 14) (v := .bool (decide (n ≤ 255))) (by kernel_rfl) (by kernel_rfl) rfl (by kernel_rfl) (by kernel_rfl) (by kernel_rfl) (fun _ _ _ h => h) (fun _ => by rfl) (.inl ⟨by kernel_rfl, fun w' hw' => by go_simp⟩) HS.out ?_
  simp only [Act.put, List.setIfInBounds_toArray, List.set_cons_zero, List.set_cons_succ]
  refine wpAnyHIn_one (i := 3) (by kernel_rfl) ?_
  refine wpOpIn_of rfl (by kernel_rfl) ?_
  go_simp
  have HS1 : Aside0 ((W.alloc (.cells #[.int .u8 (IntKind.u8.wrap n)] 5)).cell? ⟨w.heap.size, 2, none⟩ = some (.int .i64 n)) := ⟨(bcell ((Below.refl W.heap.size W).alloc (Nat.le_refl _) _) (World.block_lt_of_cell? W _ HS.out)).trans HS.out⟩
  have HB1 := Aside0.mk (HB.out.alloc HB.out.size (.cells #[.int .u8 (IntKind.u8.wrap n)] 5))
  have hcell0 : ∀ j, j < 1 → (W.alloc (.cells #[.int .u8 (IntKind.u8.wrap n)] 5)).cell? ⟨W.heap.size, 0 + j, none⟩ = some (.int .u8 ([IntKind.u8.wrap n].getD j 0)) := by
   intro j hj
   obtain rfl : j = 0 := by omega
   simp [go_sem]
  have hcb := run_convert_bytes_arg (P := Tryd.prog) (W.alloc (.cells #[.int .u8 (IntKind.u8.wrap n)] 5)) 84 5 Tryd.underlying84 Tryd.underlying5 W.heap.size 0 1 1 [IntKind.u8.wrap n] rfl hcell0 9 Tryd.underlying9
  refine ⟨HS1.out, ?_⟩
  try simp only [Act.put, List.setIfInBounds_toArray, List.set_cons_zero, List.set_cons_succ]
  have HCB := Aside0.mk hcb
  clear hcb hcell0
  generalize W.alloc (.cells #[.int .u8 (IntKind.u8.wrap n)] 5) = W1 at HS1 HB1 HCB ⊢
  have hcb := HCB.out
  refine wpAnyHIn_one (i := 4) (by kernel_rfl) ?_
  refine wpOpIn_of rfl (by kernel_rfl) ?_
  go_simp
  refine ⟨HS1.out, ?_⟩
  try simp only [Act.put, List.setIfInBounds_toArray, List.set_cons_zero, List.set_cons_succ]
  have hst : strOfNums [IntKind.u8.wrap n] = ba [UInt8.ofNat (n % 256).toNat] := by rw [← HWR.out]; rfl
  have hss : (strOfNums [IntKind.u8.wrap n]).size = 1 := by rw [hst, ba_size]; rfl
  have HST := Aside0.mk hst
  clear hcb HCB hst
  generalize strOfNums [IntKind.u8.wrap n] = cs at hss HST ⊢
  refine wpAnyHIn_one (i := 5) (by kernel_rfl) ?_
  refine wpOpIn_of rfl (by kernel_rfl) ?_
  go_simp
  refine ⟨HS1.out, ?_⟩
  try simp only [Act.put, List.setIfInBounds_toArray, List.set_cons_zero, List.set_cons_succ]
  refine wpAnyHIn_one (i := 6) (by kernel_rfl) ?_
  refine wpOpIn_of rfl (by kernel_rfl) ?_
  go_simp
  refine ⟨HS1.out, ?_⟩
  try simp only [Act.put, List.setIfInBounds_toArray, List.set_cons_zero, List.set_cons_succ]
  refine wpAnyHIn_one (i := 15) (by kernel_rfl) ?_
  refine wpOpIn_of rfl (by kernel_rfl) ?_
  go_simp
  refine ⟨HS1.out, ?_⟩
  try simp only [Act.put, List.setIfInBounds_toArray, List.set_cons_zero, List.set_cons_succ]
  refine wpAnyHIn_one (i := 16) (by kernel_rfl) ?_
  refine wpOpIn_of rfl (by kernel_rfl) ?_
  go_simp
  refine wpAnyHIn_done (by kernel_rfl) (NoPanic.normal ?_) _
  change Exit.then _ _ _ _ _
  gi_wp2
  go_ret2
  exact ⟨by rw [HR.out, HST.out, n1, ← ba_plus, ← ba_plus]; rfl, HB1.out⟩
 ·have n1 : decide (0 ≤ n) = false := decide_eq_false hn
  clear hn
  refine wpAnyHIn_take (i := 0) (v := .pointer (some ⟨w.heap.size, 2, none⟩)) (by kernel_rfl) (by kernel_rfl) rfl (by kernel_rfl) (by kernel_rfl) (by kernel_rfl) (fun _ _ _ h => h) (fun _ => by rfl) (.inl ⟨by kernel_rfl, fun w' hw' => by go_simp⟩) HS.out ?_
  simp only [Act.put, List.setIfInBounds_toArray, List.set_cons_zero, List.set_cons_succ]
  refine wpAnyHIn_take (i := 1) (v := .int .i64 n) (by kernel_rfl) (by kernel_rfl) rfl (by kernel_rfl) (by kernel_rfl) (by kernel_rfl) (fun _ _ _ h => h) (fun _ => by rfl) (.inl ⟨by kernel_rfl, fun w' hw' => by have c2 := hw'; go_simp⟩) HS.out ?_
  simp only [Act.put, List.setIfInBounds_toArray, List.set_cons_zero, List.set_cons_succ]
  refine wpAnyHIn_take (i := 2) (v := .int .u8 (IntKind.u8.wrap n)) (by kernel_rfl) (by kernel_rfl) rfl (by kernel_rfl) (by kernel_rfl) (by kernel_rfl) (fun _ _ _ h => h) (fun _ => by rfl) (.inl ⟨by kernel_rfl, fun w' hw' => by go_simp⟩) HS.out ?_
  simp only [Act.put, List.setIfInBounds_toArray, List.set_cons_zero, List.set_cons_succ]
  refine wpAnyHIn_take (i := 7) (v := .pointer (some ⟨w.heap.size, 2, none⟩)) (by kernel_rfl) (by kernel_rfl) rfl (by kernel_rfl) (by kernel_rfl) (by kernel_rfl) (fun _ _ _ h => h) (fun _ => by rfl) (.inl ⟨by kernel_rfl, fun w' hw' => by go_simp⟩) HS.out ?_
  simp only [Act.put, List.setIfInBounds_toArray, List.set_cons_zero, List.set_cons_succ]
  refine wpAnyHIn_take (i := 8) (v := .int .i64 n) (by kernel_rfl) (by kernel_rfl) rfl (by kernel_rfl) (by kernel_rfl) (by kernel_rfl) (fun _ _ _ h => h) (fun _ => by rfl) (.inl ⟨by kernel_rfl, fun w' hw' => by have c2 := hw'; go_simp⟩) HS.out ?_
  simp only [Act.put, List.setIfInBounds_toArray, List.set_cons_zero, List.set_cons_succ]
  refine wpAnyHIn_take (i := 9) (v := .bool false) (by kernel_rfl) (by kernel_rfl) rfl (by kernel_rfl) (by kernel_rfl) (by kernel_rfl) (fun _ _ _ h => h) (fun _ => by rfl) (.inl ⟨by kernel_rfl, fun w' hw' => by go_simp⟩) HS.out ?_
  simp only [Act.put, List.setIfInBounds_toArray, List.set_cons_zero, List.set_cons_succ]
  refine wpAnyHIn_take (i := 10) (v := .bool false) (by kernel_rfl) (by kernel_rfl) rfl (by kernel_rfl) (by kernel_rfl) (by kernel_rfl) (fun _ _ _ h => h) (fun _ => by rfl) (.inl ⟨by kernel_rfl, fun w' hw' => by go_simp⟩) HS.out ?_
  simp only [Act.put, List.setIfInBounds_toArray, List.set_cons_zero, List.set_cons_succ]
  refine wpAnyHIn_take (i := 11) (v := undef) (by kernel_rfl) (by kernel_rfl) rfl (by kernel_rfl) (by kernel_rfl) (by kernel_rfl) (fun _ _ _ h => h) (fun _ => by rfl) (.inr ⟨by kernel_rfl, rfl⟩) HS.out ?_
  simp only [Act.put, List.setIfInBounds_toArray, List.set_cons_zero, List.set_cons_succ]
  refine wpAnyHIn_take (i := 12) (v := undef) (by kernel_rfl) (by kernel_rfl) rfl (by kernel_rfl) (by kernel_rfl) (by kernel_rfl) (fun _ _ _ h => h) (fun _ => by rfl) (.inr ⟨by kernel_rfl, rfl⟩) HS.out ?_
  simp only [Act.put, List.setIfInBounds_toArray, List.set_cons_zero, List.set_cons_succ]
  refine wpAnyHIn_take (i := 13) (v := undef) (by kernel_rfl) (by kernel_rfl) rfl (by kernel_rfl) (by kernel_rfl) (by kernel_rfl) (fun _ _ _ h => h) (fun _ => by rfl) (.inr ⟨by kernel_rfl, rfl⟩) HS.out ?_
  simp only [Act.put, List.setIfInBounds_toArray, List.set_cons_zero, List.set_cons_succ]
  refine wpAnyHIn_take (i := 14) (v := .bool false) (by kernel_rfl) (by kernel_rfl) rfl (by kernel_rfl) (by kernel_rfl) (by kernel_rfl) (fun _ _ _ h => h) (fun _ => by rfl) (.inl ⟨by kernel_rfl, fun w' hw' => by go_simp⟩) HS.out ?_
  simp only [Act.put, List.setIfInBounds_toArray, List.set_cons_zero, List.set_cons_succ]
  refine wpAnyHIn_one (i := 3) (by kernel_rfl) ?_
  refine wpOpIn_of rfl (by kernel_rfl) ?_
  go_simp
  have HS1 : Aside0 ((W.alloc (.cells #[.int .u8 (IntKind.u8.wrap n)] 5)).cell? ⟨w.heap.size, 2, none⟩ = some (.int .i64 n)) := ⟨(bcell ((Below.refl W.heap.size W).alloc (Nat.le_refl _) _) (World.block_lt_of_cell? W _ HS.out)).trans HS.out⟩
  have HB1 := Aside0.mk (HB.out.alloc HB.out.size (.cells #[.int .u8 (IntKind.u8.wrap n)] 5))
  have hcell0 : ∀ j, j < 1 → (W.alloc (.cells #[.int .u8 (IntKind.u8.wrap n)] 5)).cell? ⟨W.heap.size, 0 + j, none⟩ = some (.int .u8 ([IntKind.u8.wrap n].getD j 0)) := by
   intro j hj
   obtain rfl : j = 0 := by omega
   simp [go_sem]
  have hcb := run_convert_bytes_arg (P := Tryd.prog) (W.alloc (.cells #[.int .u8 (IntKind.u8.wrap n)] 5)) 84 5 Tryd.underlying84 Tryd.underlying5 W.heap.size 0 1 1 [IntKind.u8.wrap n] rfl hcell0 9 Tryd.underlying9
  refine ⟨HS1.out, ?_⟩
  try simp only [Act.put, List.setIfInBounds_toArray, List.set_cons_zero, List.set_cons_succ]
  have HCB := Aside0.mk hcb
  clear hcb hcell0
  generalize W.alloc (.cells #[.int .u8 (IntKind.u8.wrap n)] 5) = W1 at HS1 HB1 HCB ⊢
  have hcb := HCB.out
  refine wpAnyHIn_one (i := 4) (by kernel_rfl) ?_
  refine wpOpIn_of rfl (by kernel_rfl) ?_
  go_simp
  refine ⟨HS1.out, ?_⟩
  try simp only [Act.put, List.setIfInBounds_toArray, List.set_cons_zero, List.set_cons_succ]
  have hst : strOfNums [IntKind.u8.wrap n] = ba [UInt8.ofNat (n % 256).toNat] := by rw [← HWR.out]; rfl
  have hss : (strOfNums [IntKind.u8.wrap n]).size = 1 := by rw [hst, ba_size]; rfl
  have HST := Aside0.mk hst
  clear hcb HCB hst
  generalize strOfNums [IntKind.u8.wrap n] = cs at hss HST ⊢
  refine wpAnyHIn_one (i := 5) (by kernel_rfl) ?_
  refine wpOpIn_of rfl (by kernel_rfl) ?_
  go_simp
  refine ⟨HS1.out, ?_⟩
  try simp only [Act.put, List.setIfInBounds_toArray, List.set_cons_zero, List.set_cons_succ]
  refine wpAnyHIn_one (i := 6) (by kernel_rfl) ?_
  refine wpOpIn_of rfl (by kernel_rfl) ?_
  go_simp
  refine ⟨HS1.out, ?_⟩
  try simp only [Act.put, List.setIfInBounds_toArray, List.set_cons_zero, List.set_cons_succ]
  refine wpAnyHIn_one (i := 15) (by kernel_rfl) ?_
  refine wpOpIn_of rfl (by kernel_rfl) ?_
  go_simp
  refine ⟨HS1.out, ?_⟩
  try simp only [Act.put, List.setIfInBounds_toArray, List.set_cons_zero, List.set_cons_succ]
  refine wpAnyHIn_one (i := 16) (by kernel_rfl) ?_
  refine wpOpIn_of rfl (by kernel_rfl) ?_
  go_simp
  refine wpAnyHIn_done (by kernel_rfl) (NoPanic.normal ?_) _
  change Exit.then _ _ _ _ _
  gi_wp2
  go_ret2
  exact ⟨by rw [HR.out, HST.out, n1, ← ba_plus, ← ba_plus]; rfl, HB1.out⟩
def lex_bytes.f (a0_0 : Int) (a0_1 : ByteArray) (a0_2 : Int) (a0_3 : Int) (a0_4 : Int) : Option (ByteArray × Bool) :=
 if a0_1.size ≤ 4611686018427387904 then some (ba (bytesL a0_0 a0_1.data.toList a0_2).1, (bytesL a0_0 a0_1.data.toList a0_2).2) else none
theorem lex_bytes.calls (a0_0 : Int) (a0_1 : ByteArray) (a0_2 : Int) (a0_3 : Int) (a0_4 : Int) (r1 : ByteArray) (r2 : Bool) (w : World) (h : lex_bytes.f a0_0 a0_1 a0_2 a0_3 a0_4 = some (r1, r2)) :
  Calls Tryd.prog 37 #[.agg #[.int .i64 a0_0, .string a0_1, .int .i64 a0_2, .int .i64 a0_3, .int .i64 a0_4]] w fun e w' => e = .returned (.tuple #[.string r1, .bool r2]) ∧ Below w.heap.size w w' := by
 unfold lex_bytes.f at h
 split at h
 ·rename_i hs
  have h' := Option.some.inj h
  injection h' with h1 h2
  subst h1; subst h2
  have hb : ba a0_1.data.toList = a0_1 := ba_of a0_1
  have key : Calls Tryd.prog 37 #[.agg #[.int .i64 a0_0, .string (ba a0_1.data.toList), .int .i64 a0_2, .int .i64 a0_3, .int .i64 a0_4]] w fun e w' => e = .returned (.tuple #[.string (ba (bytesL a0_0 a0_1.data.toList a0_2).1), .bool (bytesL a0_0 a0_1.data.toList a0_2).2]) ∧ Below w.heap.size w w' := by
   by_cases h6 : a0_0 = 6
   ·exact bytes_text _ (by rw [Array.length_toList]; exact hs) _ _ _ _ h6 w
   ·by_cases h5 : a0_0 = 5
    ·exact callsIn_wide.1 (bytes_char _ _ _ _ _ h5 w)
    ·exact bytes_plain _ _ _ _ _ h6 h5 w
  rw [hb] at key
  exact key
 ·cases h
end Go.Proofs.YtniihjhlkpjnoaaDoor.Given