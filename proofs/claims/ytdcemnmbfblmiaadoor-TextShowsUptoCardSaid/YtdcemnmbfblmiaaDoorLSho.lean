/- The plain law behind TextShows: for every text, what the printed function computes is true. -/
import Derived.Test.YtdcemnmbfblmiaaDoorPTx20
import Derived.Test.YtdcemnmbfblmiaaDoorLBack
import Derived.Test.YtdcemnmbfblmiaaDoorLFnd
set_option linter.unusedVariables false
set_option linter.unusedSimpArgs false
namespace Go.Proofs.YtdcemnmbfblmiaaDoor.PT
open Go.RowKit Go.Proofs.YtdcemnmbfblmiaaDoor.Given Go.Proofs.YtdcemnmbfblmiaaDoorW.PrintWords Go.Proofs.YtdcemnmbfblmiaaDoorW.PrintLast Go.Proofs.YtdcemnmbfblmiaaDoorW.PrintMore

/-- what the reference reads before it looks whether it is shown so -/
def lenL : List UInt8 → Option (List UInt8)
  | [] => some []
  | b :: r =>
    if b = 37 then
      match r with
      | c :: d :: r' => if digB c < 16 ∧ digB d < 16 then (lenL r').map (UInt8.ofNat (16 * digB c + digB d) :: ·) else none
      | _ => none
    else (lenL r).map (b :: ·)
theorem lenL_cons (b : UInt8) (r : List UInt8) : lenL (b :: r) = if b = 37 then
      match r with
      | c :: d :: r' => if digB c < 16 ∧ digB d < 16 then (lenL r').map (UInt8.ofNat (16 * digB c + digB d) :: ·) else none
      | _ => none
    else (lenL r).map (b :: ·) := by
  cases r with
  | nil => rfl
  | cons c r => cases r <;> rfl
theorem len_of_read : ∀ (n : Nat) (a c : List UInt8), a.length ≤ n → readL a = some c → lenL a = some c
  | _, [], c, _, h => h
  | 0, b :: r, _, hn, _ => by simp at hn
  | n + 1, b :: r, c, hn, h => by
    simp only [List.length_cons] at hn
    rw [readL_cons] at h
    rw [lenL_cons]
    split at h
    · rename_i hp
      have h37 : b ≠ 37 := by rintro rfl; revert hp; decide
      rw [if_neg h37]
      cases hr : readL r with
      | none => rw [hr] at h; cases h
      | some c' =>
        rw [hr] at h
        rw [len_of_read n r c' (by omega) hr]
        exact h
    · split at h
      · rename_i h37
        rw [if_pos h37]
        split at h
        · rename_i x y r'
          split at h
          · rename_i hd
            obtain ⟨d1, d2, d3⟩ := hd
            show (if digB x < 16 ∧ digB y < 16 then (lenL r').map (UInt8.ofNat (16 * digB x + digB y) :: ·) else none) = some c
            rw [if_pos ⟨d1, d2⟩]
            cases hr : readL r' with
            | none => rw [hr] at h; cases h
            | some c' =>
              rw [hr] at h
              rw [len_of_read n r' c' (by simp only [List.length_cons] at hn; omega) hr]
              exact h
          · cases h
        · cases h
      · cases h
theorem rdigit_one (k : Nat) (a : Int) : mjolnerref03_digit.f (k + 1) a = mjolnerref03_digit.f 1 a := rfl
theorem rdigit_all : ∀ x : Fin 256, mjolnerref03_digit.f 1 ((x.val : Nat) : Int) = some (if digB (UInt8.ofNat x.val) < 16 then (digB (UInt8.ofNat x.val) : Int) else -1) := by decide +kernel
theorem rdigit_f (k : Nat) (c : UInt8) : mjolnerref03_digit.f (k + 1) (c.toNat : Int) = some (if digB c < 16 then (digB c : Int) else -1) := by
  have h := rdigit_all ⟨c.toNat, c.toNat_lt⟩
  rw [rdigit_one]
  simpa using h
/-- bytes as the reference keeps them -/
def ints (l : List UInt8) : List Int := l.map fun b => (b.toNat : Int)
theorem ints_str (l : List UInt8) : strOfNums (ints l) = ba l := by
  apply ext_list
  rw [strOfNums_data, ba_list']
  unfold ints
  rw [List.map_map]
  conv => rhs; rw [← List.map_id l]
  apply List.map_congr_left
  intro b _
  simp
theorem ints_snoc (l : List UInt8) (c : UInt8) : ints l ++ [(c.toNat : Int)] = ints (l ++ [c]) := by simp [ints]
theorem ints_len (l : List UInt8) : (ints l).length = l.length := by simp [ints]
def finR (S o : List UInt8) : Option (ByteArray × Int) := if showL o = S then some (ba o, 0) else some (⟨#[]⟩, 7)
def readR (S o : List UInt8) (i : Nat) : Option (ByteArray × Int) := match lenL (S.drop i) with | none => some (⟨#[]⟩, 7) | some c => finR S (o ++ c)
theorem rread_loop (s : ByteArray) (hs : s.size ≤ 1048576) : ∀ (d i k : Nat) (o : List UInt8), i + d = s.size → 2 * d + 2 < k → o.length ≤ i → mjolnerref03_Read.l0 k s (ints o) (i : Int) = readR s.data.toList o i := by
  have hl := len_list s
  intro d
  induction d using Nat.strongRecOn with
  | _ d ih =>
  intro i k o hi hk ho
  obtain ⟨k, rfl⟩ : ∃ m, k = m + 1 + 1 + 1 := ⟨k - 3, by omega⟩
  unfold readR
  by_cases hlt : i < s.size
  · have hdrop := readL_at (l := s.data.toList) (k := i) (by omega)
    rw [mjolnerref03_Read.l0, if_pos (by omega), if_pos (by omega), bt_list s i hlt, hdrop, lenL_cons]
    by_cases h37 : s.data.toList.getD i 0 = 37
    · rw [if_pos (show ((s.data.toList.getD i 0).toNat : Int) = 37 by rw [h37]; rfl), if_pos h37]
      by_cases h3 : i + 3 ≤ s.size
      · have hd1 := readL_at (l := s.data.toList) (k := i + 1) (by omega)
        have hd2 := readL_at (l := s.data.toList) (k := i + 1 + 1) (by omega)
        rw [if_neg (by rw [IntWalk.wrap64_in _ (by omega)]; omega), w64 (n := i + 1) (by omega) (by omega), w64 (n := i + 2) (by omega) (by omega), if_pos (by omega), if_pos (by omega), bt_list s (i + 1) (by omega), rdigit_f, hd1, hd2]
        simp only [Option.bind_some]
        have hc := digB_le (s.data.toList.getD (i + 1) 0)
        have hdd := digB_le (s.data.toList.getD (i + 1 + 1) 0)
        by_cases q1 : digB (s.data.toList.getD (i + 1) 0) < 16
        · rw [if_pos q1, if_neg (by omega), if_pos (by omega), if_pos (by omega), bt_list s (i + 2) (by omega), rdigit_f]
          simp only [Option.bind_some]
          by_cases q2 : digB (s.data.toList.getD (i + 1 + 1) 0) < 16
          · have e2 : (if digB (s.data.toList.getD (i + 2) 0) < 16 then (digB (s.data.toList.getD (i + 2) 0) : Int) else -1) = (digB (s.data.toList.getD (i + 2) 0) : Int) := if_pos q2
            have q2' : digB (s.data.toList.getD (i + 2) 0) < 16 := q2
            rw [e2, show decide ((digB (s.data.toList.getD (i + 2) 0) : Int) < 0) = false from decide_eq_false (by omega), mjolnerref03_Read.j1, if_neg (by decide), w64 (n := i + 1) (by omega) (by omega), w64 (n := i + 2) (by omega) (by omega), if_pos (by omega), if_pos (by omega), bt_list s (i + 1) (by omega), rdigit_f, if_pos q1]
            simp only [Option.bind_some]
            rw [if_pos (by omega), if_pos (by omega), bt_list s (i + 2) (by omega), rdigit_f, if_pos q2']
            simp only [Option.bind_some]
            have e3 : wrap64 (wrap64 (16 * (digB (s.data.toList.getD (i + 1) 0) : Int)) + (digB (s.data.toList.getD (i + 2) 0) : Int)) % 256 = ((UInt8.ofNat (16 * digB (s.data.toList.getD (i + 1) 0) + digB (s.data.toList.getD (i + 1 + 1) 0))).toNat : Int) := by
              rw [IntWalk.wrap64_in (16 * _) (by omega), IntWalk.wrap64_in _ (by omega), UInt8.toNat_ofNat', show i + 1 + 1 = i + 2 from rfl]
              omega
            rw [if_pos (by rw [ints_len]; omega), e3, ints_snoc, w64 (n := i + 3) (by omega) (by omega), ih (d - 3) (by omega) (i + 3) (k + 1) _ (by omega) (by omega) (by simp; omega), if_pos ⟨q1, q2⟩]
            unfold readR
            rw [show i + 1 + 1 + 1 = i + 3 from rfl]
            cases lenL (s.data.toList.drop (i + 3)) with
            | none => rfl
            | some c => simp [List.append_assoc]
          · have e2 : (if digB (s.data.toList.getD (i + 2) 0) < 16 then (digB (s.data.toList.getD (i + 2) 0) : Int) else -1) = -1 := if_neg q2
            rw [e2, show decide ((-1 : Int) < 0) = true from rfl, mjolnerref03_Read.j1, if_pos rfl, if_neg (fun h => q2 h.2)]
        · rw [if_neg q1, if_pos (by decide), mjolnerref03_Read.j1, if_pos rfl, if_neg (fun h => q1 h.1)]
      · rw [if_pos (by rw [IntWalk.wrap64_in _ (by omega)]; omega), mjolnerref03_Read.j1, if_pos rfl]
        by_cases h2 : i + 2 ≤ s.size
        · rw [readL_at (l := s.data.toList) (k := i + 1) (by omega), List.drop_of_length_le (show s.data.toList.length ≤ i + 1 + 1 by omega)]
        · rw [List.drop_of_length_le (show s.data.toList.length ≤ i + 1 by omega)]
    · rw [if_neg (ne37 h37), if_neg h37, if_pos (by rw [ints_len]; omega), ints_snoc, w64 (n := i + 1) (by omega) (by omega), ih (d - 1) (by omega) (i + 1) (k + 1 + 1) _ (by omega) (by omega) (by simp; omega)]
      unfold readR
      cases lenL (s.data.toList.drop (i + 1)) with
      | none => rfl
      | some c => simp [List.append_assoc]
  · rw [mjolnerref03_Read.l0, if_neg (by omega), List.drop_of_length_le (show s.data.toList.length ≤ i by omega), ints_str]
    unfold mjolnerref03_Show.f text_Show.f
    rw [if_pos (by rw [ba_size']; omega)]
    simp only [Option.bind_some, lenL, List.append_nil]
    rw [ByteArray.toList_eq, ByteArray.toList_eq]
    rfl
theorem rread_f (s : ByteArray) (hs : s.size ≤ 1048576) (k : Nat) (hk : 2 * s.size + 3 ≤ k) : mjolnerref03_Read.f k s = text_Read.f s := by
  have h := rread_loop s hs s.size 0 k [] (by omega) (by omega) (Nat.le_refl _)
  unfold mjolnerref03_Read.f
  rw [show ([] : List Int) = ints [] from rfl, show (0 : Int) = ((0 : Nat) : Int) from rfl, h]
  unfold readR text_Read.f finR
  rw [if_pos (by omega), List.drop_zero]
  cases hr : readL s.data.toList with
  | some c =>
    rw [len_of_read _ _ c (Nat.le_refl _) hr]
    simp only [List.nil_append]
    rw [if_pos (show_read _ _ _ (Nat.le_refl _) hr)]
  | none =>
    cases hc : lenL s.data.toList with
    | none => rfl
    | some c =>
      simp only [List.nil_append]
      rw [if_neg (fun e => by rw [← e, read_shown] at hr; cases hr)]
theorem TextShows_any (s : ByteArray) (hs : s.size ≤ 1048576) (k : Nat) (hk : 2 * s.size + 3 ≤ k) : mjolnerlaw03_TextShows.f k s = some true := by
  have h1 : ∃ x e, text_Read.f s = some (x, e) := by
    unfold text_Read.f
    rw [if_pos (by omega)]
    split <;> exact ⟨_, _, rfl⟩
  obtain ⟨x, e, h1⟩ := h1
  unfold mjolnerlaw03_TextShows.f mjolnerlaw03_sane.f mjolnerref03_Show.f text_Show.f
  rw [rread_f s hs k hk, h1, if_pos (by omega)]
  simp
theorem TextShows_law (s : ByteArray) (hs : s.size ≤ 1048576) : ∃ k, mjolnerlaw03_TextShows.f k s = some true := ⟨_, TextShows_any s hs _ (Nat.le_refl _)⟩
end Go.Proofs.YtdcemnmbfblmiaaDoor.PT
