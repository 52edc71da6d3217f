/- The contract of text.Find, where it finds and where it does not; the iterator of text.occurrences; the contract of text.split. -/
import Derived.Test.YtdcemnmbfblmiaaDoorGk
import Derived.Lib.IndexMore
set_option linter.unusedVariables false
set_option linter.unusedSimpArgs false
namespace Go.Proofs.YtdcemnmbfblmiaaDoor.Given
open Go.RowKit Go.Shelf Go.Proofs.YtdcemnmbfblmiaaDoorW.PrintWords Go.Proofs.YtdcemnmbfblmiaaDoorW.PrintLast Go.Proofs.YtdcemnmbfblmiaaDoorW.PrintMore
attribute [local go_sem] Oper.semAt_some

/-! ### Find -/
theorem tail_list (s : ByteArray) (a : Nat) (ha : a ≤ s.size) : (s.extract a s.size).data.toList = s.data.toList.drop a := by
  simp
  exact List.take_of_length_le (by simp)
set_option maxRecDepth 100000 in
set_option maxHeartbeats 1000000 in
theorem find_none (s part : ByteArray) (a : Nat) (m : Int) (w : World) (ha : a ≤ s.size) (hs : s.size < 4294967281) (hm : w.cell? ⟨1, 0, none⟩ = some (.int .i64 m)) (h : Lib.index (s.data.toList.drop a) part.data.toList < 0) :
    Calls Tryd.prog 27 #[.string s, .string part, .int .i64 a] w fun e w' => e = .returned (.tuple #[.int .i64 0, .int .i64 5]) ∧ w' = w := by
  have HI := Aside0.mk (Tryd.strings_Index (s.extract a s.size) part m w (by simp; omega) hm)
  rw [tail_list s a ha] at HI
  generalize Lib.index (s.data.toList.drop a) part.data.toList = i at HI h
  have h1 : decide (i < 0) = true := decide_eq_true h
  have h2 : decide ((a : Int) < 0) = false := decide_eq_false (by omega)
  have h3 : decide ((s.size : Int) < (a : Int)) = false := decide_eq_false (by omega)
  have h4 : decide (s.size < a) = false := decide_eq_false (by omega)
  clear hm h
  go_enter Tryd.func27, Tryd.ntmps27
  go_wp2_with (first | (go_at_call 59; refine HI.out.mono ?_; rintro e w' ⟨rfl, rfl⟩))
  go_ret2
  exact ⟨rfl, rfl⟩
set_option maxRecDepth 100000 in
set_option maxHeartbeats 1000000 in
theorem find_some (s part : ByteArray) (a i : Nat) (m : Int) (w : World) (ha : a ≤ s.size) (hs : s.size < 4294967281) (hm : w.cell? ⟨1, 0, none⟩ = some (.int .i64 m)) (h : Lib.index (s.data.toList.drop a) part.data.toList = i) (hi : a + i ≤ s.size) :
    Calls Tryd.prog 27 #[.string s, .string part, .int .i64 a] w fun e w' => e = .returned (.tuple #[.int .i64 ((a + i : Nat) : Int), .int .i64 0]) ∧ w' = w := by
  have HI := Aside0.mk (Tryd.strings_Index (s.extract a s.size) part m w (by simp; omega) hm)
  rw [tail_list s a ha, h] at HI
  have h1 : decide ((i : Int) < 0) = false := decide_eq_false (by omega)
  have h2 : decide ((a : Int) < 0) = false := decide_eq_false (by omega)
  have h3 : decide ((s.size : Int) < (a : Int)) = false := decide_eq_false (by omega)
  have h4 : decide (s.size < a) = false := decide_eq_false (by omega)
  clear hm h
  go_enter Tryd.func27, Tryd.ntmps27
  go_wp2_with (first | (go_at_call 59; refine HI.out.mono ?_; rintro e w' ⟨rfl, rfl⟩))
  go_ret2
  exact ⟨rfl, rfl⟩
/-! ### the occurrences -/
def occs (sep : List UInt8) : Nat → List UInt8 → Nat → List Int
  | 0, _, _ => []
  | k + 1, r, a => if Lib.index r sep < 0 then [] else ((a + (Lib.index r sep).toNat : Nat) : Int) :: occs sep k (r.drop ((Lib.index r sep).toNat + sep.length)) (a + (Lib.index r sep).toNat + sep.length)
theorem index_nil {sep : List UInt8} (h : sep ≠ []) : Lib.index [] sep < 0 := by
  rcases Lib.index_spec [] sep with ⟨h1, _⟩ | ⟨i, h1, h2, h3, _⟩
  · rw [h1]; decide
  · rcases Lib.occAt_room h3 with h4 | h4
    · have : sep.length = 0 := by simp only [List.length_nil] at h4; omega
      exact absurd (List.eq_nil_of_length_eq_zero this) h
    · exact absurd h4 h
theorem occs_none {sep r : List UInt8} {k a : Nat} (h : Lib.index r sep < 0) : occs sep k r a = [] := by
  cases k with
  | zero => rfl
  | succ k => unfold occs; rw [if_pos h]
theorem occs_some {sep r : List UInt8} {k a i : Nat} (h : Lib.index r sep = i) : occs sep (k + 1) r a = ((a + i : Nat) : Int) :: occs sep k (r.drop (i + sep.length)) (a + i + sep.length) := by
  conv => lhs; unfold occs
  rw [if_neg (by omega), h]
  simp
set_option maxRecDepth 100000 in
set_option maxHeartbeats 1000000 in
theorem occ_in (n : Nat) (hn : 1 ≤ n) (l b4 b5 : Nat) (s sep : ByteArray) (hsep : sep.data.toList ≠ []) (hs : s.size ≤ 1000000000) (hp : sep.size ≤ 1000000000) (J : List Int → World → Prop)
    (hC : ∀ pre W1, J pre W1 → W1.cell? ⟨b4, 0, none⟩ = some (.string s) ∧ W1.cell? ⟨b5, 0, none⟩ = some (.string sep) ∧ ∃ m : Int, W1.cell? ⟨1, 0, none⟩ = some (.int .i64 m))
    (hY : ∀ pre x W1, (∃ t, pre ++ [x] ++ t = occs sep.data.toList s.size s.data.toList 0) → J pre W1 → YieldAt Fence.wide (n - 1) Tryd.prog l #[.int .i64 x] W1 fun e W' => e = .returned (.bool true) ∧ J (pre ++ [x]) W')
    (W : World) (h0 : J [] W) :
    CallsIn Fence.wide n Tryd.prog 97 #[.func (.yield l) #[] #[], .pointer (some ⟨b4, 0, none⟩), .pointer (some ⟨b5, 0, none⟩)] W fun e W' => (∃ v, e = .returned v) ∧ J (occs sep.data.toList s.size s.data.toList 0) W' := by
  have hF27 : Fence.wide.fn 27 := trivial
  have hsl : sep.data.toList.length = sep.size := by simp
  have hsl2 : s.data.toList.length = s.size := by simp
  refine callsIn_of_wp Tryd.func97 rfl trivial ?_ rfl
  simp only [Tryd.ntmps97, List.size_toArray, List.length_cons, List.length_nil, Nat.reduceAdd, Nat.reduceSub, Array.replicate_succ, Array.replicate_zero, List.push_toArray, List.append_toArray, List.nil_append, List.cons_append]
  gi_wp2
  gi_loopw [4] (fun p wr => ∃ (pre : List Int) (a k : Nat), p = .int .i64 a ∧ a ≤ s.size ∧ s.size - a ≤ k ∧ Aside0 (pre ++ occs sep.data.toList k (s.data.toList.drop a) a = occs sep.data.toList s.size s.data.toList 0) ∧ Aside0 (J pre wr))
    (fun p _ => s.size - (intOf p).toNat)
  case atStart => exact ⟨[], 0, s.size, rfl, Nat.zero_le _, by omega, ⟨by simp⟩, ⟨h0⟩⟩
  case round =>
    obtain ⟨pre, a, k, rfl, ha, hk, hO, hJ⟩ := hrel
    obtain ⟨c4, c5, m, hm⟩ := hC pre wr hJ.out
    by_cases hi : Lib.index (s.data.toList.drop a) sep.data.toList < 0
    · have HF := Aside0.mk (find_none s sep a m wr ha (by omega) hm hi)
      have hJ2 := Aside0.mk (show J (occs sep.data.toList s.size s.data.toList 0) wr by have := hO.out; rw [occs_none hi, List.append_nil] at this; rw [← this]; exact hJ.out)
      clear hi hm
      gi_wp2_with (gi_at_call 27; refine (callsIn_wide.2 HF.out).mono ?_; rintro e w' ⟨rfl, rfl⟩)
      all_goals (refine ⟨fun _ h => (by cases h), ?_⟩; gi_wp2; refine bodyPost_ret (results_none rfl _ _ _) rfl ?_; exact ⟨⟨_, rfl⟩, hJ2.out⟩)
    · obtain ⟨i, hi2⟩ : ∃ i : Nat, Lib.index (s.data.toList.drop a) sep.data.toList = i := ⟨(Lib.index (s.data.toList.drop a) sep.data.toList).toNat, by omega⟩
      have hroom := Lib.index_room (s.data.toList.drop a) sep.data.toList (by omega)
      rw [hi2, List.length_drop, hsl, hsl2] at hroom
      have hs1 : 1 ≤ sep.size := by
        rcases Nat.eq_zero_or_pos sep.size with h | h
        · rw [h] at hsl; exact absurd (List.eq_nil_of_length_eq_zero hsl) hsep
        · exact h
      obtain ⟨k', rfl⟩ : ∃ k', k = k' + 1 := by
        cases k with
        | zero => omega
        | succ k' => exact ⟨k', rfl⟩
      have HF := Aside0.mk (find_some s sep a i m wr ha (by omega) hm hi2 (by omega))
      have hO2 : (pre ++ [((a + i : Nat) : Int)]) ++ occs sep.data.toList k' (s.data.toList.drop (a + i + sep.size)) (a + i + sep.size) = occs sep.data.toList s.size s.data.toList 0 := by
        have := hO.out
        rw [occs_some hi2, List.drop_drop, hsl] at this
        rw [← this, show a + (i + sep.size) = a + i + sep.size by omega]
        simp
      have HO2 := Aside0.mk hO2
      obtain ⟨fn, tmps, assign, body, hy, hR⟩ := hY pre _ wr ⟨_, hO2⟩ hJ.out
      have HR := Aside0.mk hR
      have hw1 : IntKind.i64.wrap (((a + i : Nat) : Int) + (sep.size : Int)) = ((a + i + sep.size : Nat) : Int) := by rw [IntWalk.i64_in _ (by omega)]; omega
      have haq : a + i + sep.size ≤ s.size := by omega
      have hkq : s.size - (a + i + sep.size) ≤ k' := by omega
      have hmq : s.size - (a + i + sep.size) < s.size - a := by omega
      clear hi hi2 hroom hm hO2 hR hO
      generalize hq : a + i = q at HF HO2 hy HR hw1 haq hkq hmq
      clear hq
      gi_wp2_with (gi_at_call 27; refine (callsIn_wide.2 HF.out).mono ?_; rintro e w' ⟨rfl, rfl⟩)
      refine HR.out.mono ?_
      rintro e W3 ⟨rfl, hJ3⟩
      obtain ⟨c4', c5', _⟩ := hC _ _ hJ3
      have HJ3 := Aside0.mk hJ3
      clear hJ3 hy HF HR c4 c5
      gi_wp2
      exact ⟨⟨pre ++ [(q : Int)], q + sep.size, k', by first | rfl | simp, haq, hkq, HO2, HJ3⟩, by simp only [intOf, Int.toNat_natCast]; first | exact hmq | (rw [show ((q : Int) + (sep.size : Int)).toNat = q + sep.size by omega]; exact hmq)⟩
end Go.Proofs.YtdcemnmbfblmiaaDoor.Given
