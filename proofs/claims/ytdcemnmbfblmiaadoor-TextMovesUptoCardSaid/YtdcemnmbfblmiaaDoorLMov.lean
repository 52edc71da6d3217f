/- The plain law behind TextMoves: for every text, edit and two places, what the printed function computes is true. -/
import Derived.Test.YtdcemnmbfblmiaaDoorPTx39
import Derived.Test.YtdcemnmbfblmiaaDoorLEdit
set_option linter.unusedSimpArgs false
namespace Go.Proofs.YtdcemnmbfblmiaaDoor.PT
open Go.RowKit Go.Proofs.YtdcemnmbfblmiaaDoor.Given Go.Proofs.YtdcemnmbfblmiaaDoorW.PrintWords Go.Proofs.YtdcemnmbfblmiaaDoorW.PrintLast Go.Proofs.YtdcemnmbfblmiaaDoorW.PrintMore
set_option linter.unusedVariables false
set_option linter.unusedSimpArgs false

theorem bt_same {s t : ByteArray} {i j : Nat} (hi : i < s.size) (hj : j < t.size) (h : s.data.toList[i]? = t.data.toList[j]?) : bt s i = bt t j := by
  have e1 : s.data.toList[i]? = some s[i] := by simp [hi, ByteArray.getElem_eq_getElem_data]
  have e2 : t.data.toList[j]? = some t[j] := by simp [hj, ByteArray.getElem_eq_getElem_data]
  rw [e1, e2] at h
  have h3 := Option.some.inj h
  unfold bt
  simp only [Int.toNat_natCast]
  rw [dif_pos hi, dif_pos hj, h3]
theorem edited_low (s : ByteArray) (a d : Nat) (p : ByteArray) (h : a + d ≤ s.size) (i : Nat) (hi : i < a) : (edited s a d p).data.toList[i]? = s.data.toList[i]? := by
  have hl := len_list s
  rw [edited_list s a d p h, List.getElem?_append_left (by rw [List.length_take]; omega), List.getElem?_take_of_lt hi]
theorem edited_high (s : ByteArray) (a d : Nat) (p : ByteArray) (h : a + d ≤ s.size) (i : Nat) (hi : a + d ≤ i) : (edited s a d p).data.toList[i - d + p.size]? = s.data.toList[i]? := by
  have hl := len_list s
  have hpl := len_list p
  have k1 : (s.data.toList.take a).length = a := by rw [List.length_take]; omega
  rw [edited_list s a d p h, List.getElem?_append_right (by omega), k1, List.getElem?_append_right (by omega), List.getElem?_drop]
  congr 1
  omega
section
variable (k : Nat) {a d i : Nat} (p : ByteArray) (ha : a ≤ 1048576) (hd : d ≤ 1048576) (hi : i ≤ 1048576) (hp : p.size ≤ 1048576)
include ha hd hi hp
theorem moved_f : text_Moved.f (k + 1) a d p i = if (i : Int) ≤ a then some ((i : Int), 0) else if (i : Int) ≥ a + d then some ((i : Int) - d + p.size, 0) else some (0, 5) := by
  unfold text_Moved.f text_proper.f
  rw [if_pos (by omega), if_pos (by omega), if_pos (by omega)]
  simp only [Option.bind_some]
  rw [if_pos (decide_eq_true (by omega)), if_neg (by omega), show decide ((i : Int) > 1048576) = false from decide_eq_false (by omega), text_Moved.j0, if_neg (by decide),
    IntWalk.wrap64_in ((a : Int) + d) (by omega), IntWalk.wrap64_in ((i : Int) - d) (by omega), IntWalk.wrap64_in ((i : Int) - d + p.size) (by omega)]
theorem moved_low (h : i ≤ a) : text_Moved.f (k + 1) a d p i = some ((i : Int), 0) := by rw [moved_f k p ha hd hi hp, if_pos (by omega)]
theorem moved_high (h : ¬ i ≤ a) (h2 : a + d ≤ i) : text_Moved.f (k + 1) a d p i = some (((i - d + p.size : Nat) : Int), 0) := by
  rw [moved_f k p ha hd hi hp, if_neg (by omega), if_pos (by omega), show (i : Int) - d + p.size = ((i - d + p.size : Nat) : Int) by omega]
theorem moved_in (h : ¬ i ≤ a) (h2 : ¬ a + d ≤ i) : text_Moved.f (k + 1) a d p i = some (0, 5) := by rw [moved_f k p ha hd hi hp, if_neg (by omega), if_neg (by omega)]
end
theorem moves_ok (s t : ByteArray) (i j m n c : Int) (g : Int) (a d : Int) (p : ByteArray) (h0 : 0 ≤ i) (h1 : i < s.size) (hm0 : 0 ≤ m) (hm1 : m ≤ t.size) (hsame : i = a ∨ (m < t.size ∧ bt t m = bt s i)) (hmono : g = 0 → i < j → m ≤ n) :
    mjolnerlaw03_TextMoves.j1 (0 + 1) s i j true t m 0 n g false a d p = some true := by
  rw [mjolnerlaw03_TextMoves.j1, if_neg (by decide), if_pos rfl, if_neg (by omega), if_neg (by omega)]
  have hfin : (if g = 0 then (if i ≥ j then (some true) else (some (decide (m ≤ n)))) else (some true)) = some true := by
    split
    · split
      · rfl
      · rw [decide_eq_true (hmono ‹_› (by omega))]
    · rfl
  by_cases hia : i = a
  · rw [if_pos hia, if_pos rfl]
    exact hfin
  · obtain ⟨hlt, hb⟩ := hsame.resolve_left hia
    rw [if_neg hia, if_neg (by omega), if_pos hm0, if_pos hlt, if_pos h0, if_pos h1, if_pos hb, if_pos rfl]
    exact hfin
theorem TextMoves_law (s : ByteArray) (a d : Int) (p : ByteArray) (i j : Int) (hs : s.size ≤ 1048576) (hp : p.size ≤ 1048576) : ∃ k, mjolnerlaw03_TextMoves.f k s a d p i j = some true := by
  refine ⟨0 + 1 + 1, ?_⟩
  have idle : ∀ (x : ByteArray) (b1 b2 : Int) (q : ByteArray), mjolnerlaw03_TextMoves.j0 (0 + 1 + 1) s i j true x true b1 b2 q = some true := fun _ _ _ _ => rfl
  unfold mjolnerlaw03_TextMoves.f mjolnerlaw03_sane.f
  simp only [Option.bind_some]
  by_cases hpr : properE a d = true
  · obtain ⟨a, d, rfl, rfl, ha, hd⟩ := proper_nat hpr
    by_cases hr : a + d ≤ s.size
    · rw [apply_f s a d p ha hd hr (by omega) (by omega)]
      simp only [Option.bind_some, if_true]
      by_cases h1 : i < 0
      · rw [if_pos h1]; exact idle _ _ _ _
      rw [if_neg h1]
      by_cases h2 : i ≥ (s.size : Int)
      · rw [if_pos h2]; exact idle _ _ _ _
      rw [if_neg h2]
      by_cases h3 : j < 0
      · rw [if_pos h3]; exact idle _ _ _ _
      rw [if_neg h3]
      by_cases h4 : j ≥ (s.size : Int)
      · rw [if_pos h4]; exact idle _ _ _ _
      rw [if_neg h4, show decide ((s.size : Int) > 1048576) = false from decide_eq_false (by omega)]
      obtain ⟨i, rfl⟩ : ∃ n : Nat, i = n := ⟨i.toNat, by omega⟩
      obtain ⟨j, rfl⟩ : ∃ n : Nat, j = n := ⟨j.toNat, by omega⟩
      have hsz := edited_size s a d p hr
      have hw : wrap64 ((a : Int) + d) = (a : Int) + d := IntWalk.wrap64_in _ (by omega)
      rw [mjolnerlaw03_TextMoves.j0, if_neg (by decide), hw]
      obtain ⟨n, g, hj, hmn⟩ : ∃ (n g : Int), text_Moved.f (0 + 1) a d p j = some (n, g) ∧ (g = 0 → (j ≤ a ∧ n = j) ∨ (¬ j ≤ a ∧ a + d ≤ j ∧ n = ((j - d + p.size : Nat) : Int))) := by
        by_cases q1 : j ≤ a
        · exact ⟨_, _, moved_low 0 p ha hd (by omega) hp q1, fun _ => .inl ⟨q1, rfl⟩⟩
        · by_cases q2 : a + d ≤ j
          · exact ⟨_, _, moved_high 0 p ha hd (by omega) hp q1 q2, fun _ => .inr ⟨q1, q2, rfl⟩⟩
          · exact ⟨_, _, moved_in 0 p ha hd (by omega) hp q1 q2, fun h => absurd h (by decide)⟩
      rw [hj]
      by_cases q1 : i ≤ a
      · rw [moved_low 0 p ha hd (by omega) hp q1]
        simp only [Option.bind_some]
        rw [if_neg (by omega)]
        refine moves_ok s _ i j i n 0 g a d p (by omega) (by omega) (by omega) (by omega) ?_ (fun h hlt => ?_)
        · by_cases q : i = a
          · exact .inl (by omega)
          · exact .inr ⟨by omega, bt_same (by omega) (by omega) (edited_low s a d p hr i (by omega))⟩
        · rcases hmn h with ⟨_, rfl⟩ | ⟨_, _, rfl⟩ <;> omega
      · by_cases q2 : a + d ≤ i
        · rw [moved_high 0 p ha hd (by omega) hp q1 q2]
          simp only [Option.bind_some]
          rw [if_pos (by omega), show decide ((i : Int) < (a : Int) + d) = false from decide_eq_false (by omega)]
          refine moves_ok s _ i j _ n 0 g a d p (by omega) (by omega) (by omega) (by omega) (.inr ⟨by omega, bt_same (by omega) (by omega) (edited_high s a d p hr i q2)⟩) (fun h hlt => ?_)
          rcases hmn h with ⟨_, rfl⟩ | ⟨_, _, rfl⟩ <;> omega
        · rw [moved_in 0 p ha hd (by omega) hp q1 q2]
          simp only [Option.bind_some]
          rw [if_pos (by omega), show decide ((i : Int) < (a : Int) + d) = true from decide_eq_true (by omega)]
          rfl
    · have : text_Apply.f s a d p = some ((⟨#[]⟩ : ByteArray), 3) := by
        unfold text_Apply.f
        rw [if_neg (by rw [hpr]; decide), if_pos (by omega)]
      rw [this]
      rfl
  · have : text_Apply.f s a d p = some ((⟨#[]⟩ : ByteArray), 1) := by
      unfold text_Apply.f
      rw [if_pos (by simpa using hpr)]
    rw [this]
    rfl
end Go.Proofs.YtdcemnmbfblmiaaDoor.PT
