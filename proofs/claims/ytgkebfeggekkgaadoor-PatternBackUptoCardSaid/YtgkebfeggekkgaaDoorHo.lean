/- The contract of number: it reads at most 18 digits, without unnecessary zeros. -/
import Derived.Test.YtgkebfeggekkgaaDoorHm
import Derived.Lib.ConvBytes
set_option linter.unusedVariables false
set_option linter.unusedSimpArgs false
namespace Go.Proofs.YtgkebfeggekkgaaDoor.Given
open Go.RowKit Go.Proofs.YtgkebfeggekkgaaDoor.PT Go.Proofs.YtgkebfeggekkgaaDoorW.PrintWords Go.Proofs.YtgkebfeggekkgaaDoorW.PrintLast Go.Proofs.YtgkebfeggekkgaaDoorW.PrintMore

/-- a digit -/
def digB (b : UInt8) : Bool := decide (48 ≤ b.toNat) && decide (b.toNat ≤ 57)
/-- the number of digits, behind a number so far -/
def digV : Nat → List UInt8 → Option Nat
  | n, [] => some n
  | n, b :: r => if digB b = true then digV (10 * n + (b.toNat - 48)) r else none
/-- what number reads -/
def numV (l : List UInt8) : Option Nat := if l = [] ∨ 18 < l.length ∨ (1 < l.length ∧ l.head? = some 48) then none else digV 0 l
def NumPost (r : Option Nat) (w : World) (e : Ending) (w' : World) : Prop := (match r with | some n => e = .returned (.int .i64 (n : Int)) | none => e = .panicked (failE 7)) ∧ Below w.heap.size w w'
theorem below_bytesW (w : World) (s : ByteArray) : Below w.heap.size w (Lib.bytesWorld w 5 s) :=
  ⟨rfl, rfl, rfl, by rw [Lib.bytesWorld_size]; omega, fun j hj => Lib.bytesWorld_at_old w 5 s j hj⟩
theorem digV_cons (n : Nat) (b : UInt8) (r : List UInt8) : digV n (b :: r) = if digB b = true then digV (10 * n + (b.toNat - 48)) r else none := rfl
theorem pow17 (k n : Nat) (hk : k < 18) (h : n < 10 ^ k) : n < 100000000000000000 :=
  Nat.lt_of_lt_of_le h (Nat.le_trans (Nat.pow_le_pow_right (by decide) (show k ≤ 17 by omega)) (by decide))
theorem pow_step (k n d : Nat) (hd : d ≤ 9) (h : n < 10 ^ k) : 10 * n + d < 10 ^ (k + 1) := by
  rw [Nat.pow_succ]
  omega
set_option maxRecDepth 100000 in
set_option maxHeartbeats 1000000 in
theorem number_loop (s : ByteArray) (w : World) (h0 : 0 < s.size) (h18 : s.size ≤ 18) (hz : s.size = 1 ∨ (1 < s.size ∧ s[0] ≠ 48)) :
    Calls Tryd.prog 82 #[.string s] w (NumPost (digV 0 s.data.toList) w) := by
  obtain ⟨w1, c1, hconv, hb1, hsz1, hcell1⟩ : ∃ w1 c1, (convert 9 119 (.string s)).run Tryd.prog w = .ok (.slice (some ⟨w.heap.size, 0, none⟩) s.size c1) w1 ∧ Aside0 (Below w.heap.size w w1) ∧ w1.heap.size = w.heap.size + 1 ∧
      Aside0 (∀ j < s.size, w1.cell? ⟨w.heap.size, j, none⟩ = some (.int .u8 (s.data.toList.getD j 0).toNat)) :=
    ⟨_, _, Lib.run_convert_string_bytes w 9 119 5 s Tryd.underlying9 Tryd.underlying119 Tryd.underlying5, ⟨below_bytesW w s⟩, Lib.bytesWorld_size w 5 s, ⟨fun j hj => Lib.bytesWorld_cell w 5 s j hj⟩⟩
  have hne : s.toList.isEmpty = false := by
    rw [List.isEmpty_eq_false_iff, ← List.length_pos_iff, ByteArray.toList_eq]
    simpa using h0
  have hsl : s.data.toList.length = s.size := by simp
  have d18 : decide (18 < (s.size : Int)) = false := decide_eq_false (by omega)
  have hd : decide (1 < (s.size : Int)) = false ∨ (decide (1 < (s.size : Int)) = true ∧ ((s[0].toNat : Int) == 48) = false) := by
    rcases hz with hz | ⟨hz, hx⟩
    · exact .inl (decide_eq_false (by omega))
    · refine .inr ⟨decide_eq_true (by omega), ?_⟩
      rw [beq_eq_false_iff_ne]
      intro h
      have h48 : (48 : UInt8).toNat = 48 := rfl
      exact hx (UInt8.toNat_inj.1 (by omega))
  clear hz
  rcases hd with d1 | ⟨d1, d0⟩
  all_goals
    go_enter Tryd.func82, Tryd.ntmps82
    go_wp2_with (first | (go_at_call 51; (with_reducible refine (fail_false _ _).mono ?_); rintro e w2 ⟨rfl, rfl⟩))
    go_loopw [3, 27] (fun v i wr => ∃ k n : Nat, k ≤ s.size ∧ i = .int .i64 k ∧ v = .int .i64 n ∧ Aside0 (digV 0 s.data.toList = digV n (s.data.toList.drop k)) ∧ Aside0 (n < 10 ^ k) ∧ Aside0 (Below (w.heap.size + 1) w1 wr)) (fun _ i _ => s.size - (intOf i).toNat)
    case atStart => exact ⟨0, 0, Nat.zero_le _, rfl, rfl, ⟨rfl⟩, ⟨by decide⟩, ⟨Below.refl _ _⟩⟩
    case round =>
      obtain ⟨k, n, hk, rfl, rfl, hdv, hpw, hbel⟩ := hrel
      have hBl := Aside0.mk (hb1.out.trans (hbel.out.mono (by omega)))
      by_cases hlt : k < s.size
      · have hc : wr.cell? ⟨w.heap.size, k, none⟩ = some (.int .u8 (s.data.toList.getD k 0).toNat) := (bcell hbel.out (by omega)).trans (hcell1.out k hlt)
        have hdr : s.data.toList.drop k = s.data.toList.getD k 0 :: s.data.toList.drop (k + 1) := by
          rw [List.drop_eq_getElem_cons (by omega), List.getD_eq_getElem?_getD, List.getElem?_eq_getElem (by omega)]
          rfl
        have hdv2 := Aside0.mk (hdv.out.trans (by rw [hdr, digV_cons]))
        have hn17 := pow17 k n (by omega) hpw.out
        have hsz := hbel.out.size
        generalize s.data.toList.getD k 0 = b at hc hdv2
        have hb256 := b.toNat_lt
        clear hdr hdv
        by_cases hdg : 48 ≤ b.toNat ∧ b.toNat ≤ 57
        · have hdB : digB b = true := by unfold digB; rw [decide_eq_true hdg.1, decide_eq_true hdg.2]; rfl
          have hdv3 := Aside0.mk (hdv2.out.trans (if_pos hdB))
          have hpw3 := Aside0.mk (pow_step k n (b.toNat - 48) (by omega) hpw.out)
          clear hdv2 hdB
          generalize b.toNat = x at hc hdv3 hpw3 hb256 hdg
          have e1 : decide ((x : Int) < 48) = false := decide_eq_false (by omega)
          have e2 : decide (57 < (x : Int)) = false := decide_eq_false (by omega)
          have e3 : IntKind.u8.wrap ((x : Int) - 48) = ((x - 48 : Nat) : Int) := by rw [IntWalk.u8_in _ (by omega)]; omega
          have e4 : IntKind.i64.wrap (10 * (n : Int)) = ((10 * n : Nat) : Int) := by rw [IntWalk.i64_in _ (by omega)]; omega
          have e5 : IntKind.i64.wrap (((10 * n : Nat) : Int) + ((x - 48 : Nat) : Int)) = ((10 * n + (x - 48) : Nat) : Int) := by rw [IntWalk.i64_in _ (by omega)]; omega
          go_wp2_with (first | (go_at_call 51; (with_reducible refine (fail_false _ _).mono ?_); rintro e w2 ⟨rfl, rfl⟩))
          exact ⟨⟨k + 1, 10 * n + (x - 48), by omega, by first | rfl | simp, by first | rfl | simp, hdv3, hpw3, hbel⟩, by simp [intOf]; omega⟩
        · have hdB : ¬ digB b = true := by
            unfold digB
            rw [Bool.and_eq_true, decide_eq_true_iff, decide_eq_true_iff]
            exact hdg
          have hdv3 := Aside0.mk (hdv2.out.trans (if_neg hdB))
          clear hdv2 hdB
          generalize b.toNat = x at hc hb256 hdg
          by_cases hd1 : 48 ≤ x
          · have e1 : decide ((x : Int) < 48) = false := decide_eq_false (by omega)
            have e2 : decide (57 < (x : Int)) = true := decide_eq_true (by omega)
            clear hdg hd1
            go_wp2_with (first | (go_at_call 51; (with_reducible refine (fail_true _ _).mono ?_); rintro e w2 ⟨rfl, rfl⟩))
            exact ⟨rfl, by rw [hdv3.out], hBl.out⟩
          · have e1 : decide ((x : Int) < 48) = true := decide_eq_true (by omega)
            clear hdg hd1
            go_wp2_with (first | (go_at_call 51; (with_reducible refine (fail_true _ _).mono ?_); rintro e w2 ⟨rfl, rfl⟩))
            exact ⟨rfl, by rw [hdv3.out], hBl.out⟩
      · have hdv2 := Aside0.mk (show digV 0 s.data.toList = some n from hdv.out.trans (by rw [List.drop_of_length_le (by omega), digV]))
        go_wp2_with (first | (go_at_call 51; (with_reducible refine (fail_false _ _).mono ?_); rintro e w2 ⟨rfl, rfl⟩))
        go_ret
        exact ⟨by rw [hdv2.out]; exact rfl, hBl.out⟩
set_option maxRecDepth 100000 in
theorem number_empty (w : World) : Calls Tryd.prog 82 #[.string ⟨#[]⟩] w (NumPost none w) := by
  go_enter Tryd.func82, Tryd.ntmps82
  go_wp2_with (first | (go_at_call 51; (with_reducible refine (fail_true _ _).mono ?_); rintro e w2 ⟨rfl, rfl⟩))
  exact ⟨rfl, rfl, Below.refl _ _⟩
set_option maxRecDepth 100000 in
theorem number_long (s : ByteArray) (w : World) (h18 : 18 < s.size) : Calls Tryd.prog 82 #[.string s] w (NumPost none w) := by
  have hne : s.toList.isEmpty = false := by
    rw [List.isEmpty_eq_false_iff, ← List.length_pos_iff, ByteArray.toList_eq]
    simp
    omega
  have d18 : decide (18 < (s.size : Int)) = true := decide_eq_true (by omega)
  clear h18
  go_enter Tryd.func82, Tryd.ntmps82
  go_wp2_with (first | (go_at_call 51; (with_reducible refine (fail_true _ _).mono ?_); rintro e w2 ⟨rfl, rfl⟩))
  exact ⟨rfl, rfl, Below.refl _ _⟩
set_option maxRecDepth 100000 in
theorem number_zero (s : ByteArray) (w : World) (h0 : 0 < s.size) (h18 : s.size ≤ 18) (h1 : 1 < s.size) (hx : s[0] = 48) : Calls Tryd.prog 82 #[.string s] w (NumPost none w) := by
  have hne : s.toList.isEmpty = false := by
    rw [List.isEmpty_eq_false_iff, ← List.length_pos_iff, ByteArray.toList_eq]
    simpa using h0
  have d18 : decide (18 < (s.size : Int)) = false := decide_eq_false (by omega)
  have d1 : decide (1 < (s.size : Int)) = true := decide_eq_true (by omega)
  have d0 : ((s[0].toNat : Int) == 48) = true := by rw [hx]; rfl
  clear h18 h1 hx
  go_enter Tryd.func82, Tryd.ntmps82
  go_wp2_with (first | (go_at_call 51; (with_reducible refine (fail_true _ _).mono ?_); rintro e w2 ⟨rfl, rfl⟩))
  exact ⟨rfl, rfl, Below.refl _ _⟩
theorem number_calls (s : ByteArray) (w : World) : Calls Tryd.prog 82 #[.string s] w (NumPost (numV s.data.toList) w) := by
  have hsl : s.data.toList.length = s.size := by simp
  unfold numV
  by_cases h0 : s.size = 0
  · have : s = ⟨#[]⟩ := by
      obtain ⟨⟨l⟩⟩ := s
      cases l with
      | nil => rfl
      | cons a b => simp [ByteArray.size] at h0
    subst this
    rw [if_pos (.inl rfl)]
    exact number_empty w
  · have hne : s.data.toList ≠ [] := by rw [← List.length_pos_iff]; omega
    by_cases h18 : 18 < s.size
    · rw [if_pos (.inr (.inl (by omega)))]
      exact number_long s w h18
    · have hh : s.data.toList.head? = some (s[0]'(by omega)) := by
        rw [List.head?_eq_getElem?, List.getElem?_eq_getElem (by omega)]
        rfl
      by_cases h1 : 1 < s.size ∧ s[0]'(by omega) = 48
      · rw [if_pos (.inr (.inr ⟨by omega, by rw [hh, h1.2]⟩))]
        exact number_zero s w (by omega) (by omega) h1.1 h1.2
      · rw [if_neg]
        · exact number_loop s w (by omega) (by omega) (by
            by_cases h2 : s.size = 1
            · exact .inl h2
            · exact .inr ⟨by omega, fun h => h1 ⟨by omega, h⟩⟩)
        · rintro (h | h | ⟨h, h'⟩)
          · exact hne h
          · omega
          · rw [hh] at h'
            exact h1 ⟨by omega, Option.some.inj h'⟩
end Go.Proofs.YtgkebfeggekkgaaDoor.Given
