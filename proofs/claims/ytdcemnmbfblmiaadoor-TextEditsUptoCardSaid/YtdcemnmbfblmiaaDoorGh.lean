/- The contract of text.digit: the value of a digit, or a failure. -/
import Derived.Test.YtdcemnmbfblmiaaDoorGg
set_option linter.unusedVariables false
set_option linter.unusedSimpArgs false
namespace Go.Proofs.YtdcemnmbfblmiaaDoor.Given
open Go.RowKit Go.Proofs.YtdcemnmbfblmiaaDoorW.PrintWords Go.Proofs.YtdcemnmbfblmiaaDoorW.PrintLast Go.Proofs.YtdcemnmbfblmiaaDoorW.PrintMore

theorem digs_len : digs.length = 16 := rfl
theorem idxOf_first {α : Type} [BEq α] [LawfulBEq α] (b : α) : ∀ (l : List α) (k : Nat), k < l.length → (∀ j x, j < k → l[j]? = some x → x ≠ b) → l[k]? = some b → l.idxOf b = k
  | [], k, h, _, _ => by simp at h
  | x :: r, 0, _, _, h => by simp at h; subst h; simp
  | x :: r, k + 1, h, hj, hk => by
    have h1 : x ≠ b := hj 0 x (by omega) rfl
    have h2 := idxOf_first b r k (by simpa using h) (fun j y hlt hy => hj (j + 1) y (by omega) (by simpa using hy)) (by simpa using hk)
    rw [List.idxOf_cons]
    have h3 : (x == b) = false := by simpa using h1
    simp [h3, h2]
theorem digB_at (b : UInt8) (k : Nat) (hk : k < 16) (hj : ∀ j, j < k → b ≠ digs.getD j 0) (h : b = digs.getD k 0) : digB b = k := by
  refine idxOf_first b digs k hk (fun j x hlt hx => ?_) ?_
  · intro e
    subst e
    exact hj j hlt (by simp [List.getD_eq_getElem?_getD, hx])
  · have : k < digs.length := hk
    rw [h]
    simp [List.getD_eq_getElem?_getD, this]
theorem digB_none (b : UInt8) (hj : ∀ j, j < 16 → b ≠ digs.getD j 0) : ¬ digB b < 16 := by
  intro h
  have h1 : digs[digs.idxOf b]'h = b := List.getElem_idxOf h
  refine hj (digB b) h ?_
  have h2 : digB b < digs.length := h
  rw [List.getD_eq_getElem?_getD, List.getElem?_eq_getElem h2]
  exact h1.symm
theorem digB_le (b : UInt8) : digB b ≤ 16 := by
  have := List.idxOf_le_length (a := b) (l := digs)
  exact this
def digI (b : UInt8) : Int := if digB b < 16 then (digB b : Int) else -1
theorem digI_at {b : UInt8} {k : Nat} (h : digB b = k) (hk : k < 16) : digI b = k := by unfold digI; rw [h, if_pos hk]
theorem digI_none {b : UInt8} (h : ¬ digB b < 16) : digI b = -1 := by unfold digI; rw [if_neg h]
set_option maxRecDepth 100000 in
set_option maxHeartbeats 1000000 in
theorem idx_calls (b : UInt8) (w : World) (hG : LaidG w) :
    Calls Tryd.prog 86 #[.slice (some ⟨0, 0, none⟩) 16 16, .int .u8 b.toNat] w fun e w' => e = .returned (.int .i64 (digI b)) ∧ w = w' := by
  have HG := Aside0.mk hG
  clear hG
  go_enter Tryd.func86, Tryd.ntmps86
  go_wp2
  go_loop [8] (fun v8 => ∃ k : Nat, k ≤ 16 ∧ v8 = .int .i64 k ∧ Aside0 (∀ j, j < k → b ≠ digs.getD j 0)) (fun v8 => 16 - (intOf v8).toNat)
  case atStart => exact ⟨0, Nat.zero_le _, rfl, ⟨fun j hj => absurd hj (by omega)⟩⟩
  case round =>
    obtain ⟨k, hk, rfl, hA⟩ := hrel
    by_cases hlt : k < 16
    · have hc := HG.out.1 k hlt
      by_cases hb : b = digs.getD k 0
      · have hv := Aside0.mk (digI_at (digB_at b k hlt hA.out hb) hlt)
        have hq : ((digs.getD k 0).toNat : Int) = (b.toNat : Int) := by rw [← hb]
        rw [hq] at hc
        clear hb hq
        go_wp2
        go_ret
        exact ⟨by rw [hv.out]; rfl, rfl⟩
      · have hA2 := Aside0.mk (show ∀ j, j < k + 1 → b ≠ digs.getD j 0 from fun j hj => by
          rcases Nat.lt_or_ge j k with h | h
          · exact hA.out j h
          · obtain rfl : j = k := by omega
            exact hb)
        have hne : ¬ (b.toNat : Int) = ((digs.getD k 0).toNat : Int) := fun e => hb (UInt8.toNat_inj.1 (by exact_mod_cast e))
        generalize digs.getD k 0 = y at hc hne
        have hd : ((b.toNat : Int) == (y.toNat : Int)) = false := by simpa using hne
        clear hb hne
        go_wp2
        go_round
        case rel => exact ⟨k + 1, by omega, by go_num, hA2⟩
        case measure => simp [intOf]; omega
    · have hke : k = 16 := by omega
      have hn := Aside0.mk (digI_none (digB_none b (hke ▸ hA.out)))
      clear hke
      go_wp2
      go_ret
      exact ⟨by rw [hn.out]; rfl, rfl⟩

theorem globals_slice (W : World) : (Instr.sliceAt 82 (.pointer (some ⟨0, 0, none⟩)) none none none).run Tryd.prog W = .ok (.slice (some ⟨0, 0, none⟩) 16 16) W := by
  have h1 : Tryd.prog.arrayLen 82 = 16 := by kernel_rfl
  have hu := Tryd.underlying82
  simp [go_sem, h1, hu]
set_option maxRecDepth 100000 in
set_option maxHeartbeats 1000000 in
theorem digit_ok (b : UInt8) (w : World) (hG : LaidG w) (h : digB b < 16) :
    Calls Tryd.prog 69 #[.int .u8 b.toNat] w fun e w' => e = .returned (.int .u8 (digB b)) ∧ w = w' := by
  have HI := Aside0.mk (idx_calls b w hG)
  rw [show digI b = (digB b : Int) from if_pos h] at HI
  generalize digB b = k at HI h
  have hw : IntKind.u8.wrap (k : Int) = (k : Int) := IntWalk.u8_in _ (by omega)
  clear hG
  go_enter Tryd.func69, Tryd.ntmps69
  go_wp2_with (first | (go_at_call 86; refine HI.out.mono ?_; rintro e w' ⟨rfl, rfl⟩) | (go_at_call 68; refine (need_true _ _).mono ?_; rintro e w' ⟨rfl, rfl⟩))
  go_ret
  exact ⟨rfl, rfl⟩
set_option maxRecDepth 100000 in
set_option maxHeartbeats 1000000 in
theorem digit_fails (b : UInt8) (w : World) (hG : LaidG w) (h : ¬ digB b < 16) :
    Calls Tryd.prog 69 #[.int .u8 b.toNat] w fun e w' => e = .panicked [{ v := failV 7, recovered := false }] ∧ w = w' := by
  have HI := Aside0.mk (idx_calls b w hG)
  rw [show digI b = -1 from if_neg h] at HI
  clear hG
  go_enter Tryd.func69, Tryd.ntmps69
  go_wp2_with (first | (go_at_call 86; refine HI.out.mono ?_; rintro e w' ⟨rfl, rfl⟩) | (go_at_call 68; refine (need_false _ _).mono ?_; rintro e w' ⟨rfl, rfl⟩))
  exact ⟨rfl, rfl, rfl⟩
end Go.Proofs.YtdcemnmbfblmiaaDoor.Given
