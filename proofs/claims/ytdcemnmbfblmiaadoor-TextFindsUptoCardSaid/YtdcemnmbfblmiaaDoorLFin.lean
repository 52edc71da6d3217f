/- The plain law behind TextFinds: for every text, part and place, what the printed function computes is true. -/
import Derived.Test.YtdcemnmbfblmiaaDoorPTx32
import Derived.Test.YtdcemnmbfblmiaaDoorLFnd
set_option linter.unusedVariables false
set_option linter.unusedSimpArgs false
namespace Go.Proofs.YtdcemnmbfblmiaaDoor.PT
open Go.RowKit Go.Proofs.YtdcemnmbfblmiaaDoor.Given Go.Proofs.YtdcemnmbfblmiaaDoorW.PrintWords Go.Proofs.YtdcemnmbfblmiaaDoorW.PrintLast Go.Proofs.YtdcemnmbfblmiaaDoorW.PrintMore

theorem piece_at (s p : ByteArray) (j : Nat) : (s.extract j (j + p.size)).toList = (s.data.toList.drop j).take p.data.toList.length := by
  rw [ByteArray.toList_eq, ex_list, len_list, show j + p.size - j = p.size by omega]
theorem piece_occ (s p : ByteArray) (j : Nat) (h : j + p.size ≤ s.size) : (s.extract j (j + p.size)).toList = p.toList ↔ Lib.occAt s.data.toList p.data.toList j = true := by
  have hl := len_list s
  have hpl := len_list p
  rw [piece_at, ByteArray.toList_eq, Lib.occAt_iff_take _ _ _ (by omega), beq_iff_eq]
theorem finds_loop (s p : ByteArray) (hs : s.size ≤ 1048576) (hp : p.size ≤ 1048576) (last : Nat) (hl : last ≤ s.size + 1) :
    ∀ (e i k : Nat), i + e = s.size + 1 → 2 * e + 1 < k → (∀ j, i ≤ j → j < last → j ≤ s.size → Lib.occAt s.data.toList p.data.toList j = false) → mjolnerlaw03_TextFinds.l0 k s p true (last : Int) (i : Int) = some true := by
  intro e
  induction e with
  | zero =>
    intro i k hi hk hno
    obtain ⟨k, rfl⟩ : ∃ m, k = m + 1 + 1 := ⟨k - 2, by omega⟩
    rw [mjolnerlaw03_TextFinds.l0, if_neg (by omega)]
    rfl
  | succ e ih =>
    intro i k hi hk hno
    obtain ⟨k, rfl⟩ : ∃ m, k = m + 1 + 1 := ⟨k - 2, by omega⟩
    rw [mjolnerlaw03_TextFinds.l0, w64 (n := i + p.size) (by omega) (by omega)]
    by_cases h1 : i < last
    · rw [if_pos (by omega)]
      by_cases h2 : i + p.size ≤ s.size
      · rw [show decide (((i + p.size : Nat) : Int) ≤ (s.size : Int)) = true from decide_eq_true (by omega), mjolnerlaw03_TextFinds.j3, if_pos rfl, w64 (n := i + p.size) (by omega) (by omega), if_pos (by omega), if_pos (by omega), if_pos (by omega),
          Int.toNat_natCast, Int.toNat_natCast, if_neg (fun h => by have := (piece_occ s p i h2).1 h; rw [hno i (Nat.le_refl _) h1 (by omega)] at this; cases this), w64 (n := i + 1) (by omega) (by omega)]
        exact ih (i + 1) k (by omega) (by omega) (fun j hj => hno j (by omega))
      · rw [show decide (((i + p.size : Nat) : Int) ≤ (s.size : Int)) = false from decide_eq_false (by omega)]
        rfl
    · rw [if_neg (by omega)]
      rfl
theorem finds_j0 (s p : ByteArray) (hs : s.size ≤ 1048576) (hp : p.size ≤ 1048576) (n : Nat) (hn : n ≤ s.size) (k : Nat) (hk : 2 * s.size + 10 ≤ k) (x e : Int) (h : findR s.data.toList p.data.toList n = some (x, e)) :
    mjolnerlaw03_TextFinds.j0 k s p n true x e false = some true := by
  obtain ⟨k, rfl⟩ : ∃ m, k = m + 1 + 1 := ⟨k - 2, by omega⟩
  have hl := len_list s
  have hpl := len_list p
  unfold findR at h
  rcases Lib.index_spec (s.data.toList.drop n) p.data.toList with ⟨e1, e2⟩ | ⟨i, e1, e2, e3, e4⟩
  · rw [e1, if_pos (by decide)] at h
    obtain ⟨rfl, rfl⟩ : 0 = x ∧ 5 = e := by simpa using h
    rw [mjolnerlaw03_TextFinds.j0, if_neg (by decide), if_neg (by decide), if_pos rfl, mjolnerlaw03_TextFinds.j1, w64 (n := s.size + 1) (by omega) (by omega)]
    refine finds_loop s p hs hp (s.size + 1) (Nat.le_refl _) (s.size + 1 - n) n k (by omega) (by omega) (fun j hj _ hr => ?_)
    have := e2 (j - n) (by rw [List.length_drop]; omega)
    rw [occ_off, show n + (j - n) = j by omega] at this
    exact this
  · have hroom := Lib.index_room (s.data.toList.drop n) p.data.toList (by rw [e1]; omega)
    rw [e1, List.length_drop] at hroom
    rw [e1, if_neg (by omega)] at h
    obtain ⟨rfl, rfl⟩ : (n : Int) + i = x ∧ 0 = e := by simpa using h
    rw [occ_off] at e3
    rw [show (n : Int) + i = ((n + i : Nat) : Int) by omega]
    have hcut : text_Cut.f s ((n + i : Nat) : Int) ((n + i + p.size : Nat) : Int) = some (s.extract (n + i) (n + i + p.size), 0) := by
      unfold text_Cut.f
      rw [if_neg (by omega), if_neg (by omega), if_neg (by omega), if_pos (by omega), if_pos (by omega), if_pos (by omega), Int.toNat_natCast, Int.toNat_natCast]
    rw [mjolnerlaw03_TextFinds.j0, if_neg (by decide), if_pos rfl, w64 (n := n + i + p.size) (by omega) (by omega), hcut]
    simp only [Option.bind_some, if_true]
    rw [if_pos ((piece_occ s p (n + i) (by omega)).2 e3), if_neg (by omega), mjolnerlaw03_TextFinds.j1]
    refine finds_loop s p hs hp (n + i) (by omega) (s.size + 1 - n) n k (by omega) (by omega) (fun j hj hlt hr => ?_)
    have := e4 (j - n) (by omega)
    rw [occ_off, show n + (j - n) = j by omega] at this
    exact this
theorem TextFinds_any (s p : ByteArray) (a : Int) (hs : s.size ≤ 1048576) (hp : p.size ≤ 1048576) (k : Nat) (hk : 2 * s.size + 10 ≤ k) : mjolnerlaw03_TextFinds.f k s p a = some true := by
  unfold mjolnerlaw03_TextFinds.f mjolnerlaw03_sane.f
  simp only [Option.bind_some]
  by_cases h : 0 ≤ a ∧ a ≤ s.size
  · obtain ⟨n, rfl⟩ : ∃ n : Nat, a = n := ⟨a.toNat, by omega⟩
    obtain ⟨x, e, hx⟩ : ∃ x e, findR s.data.toList p.data.toList n = some (x, e) := by unfold findR; split <;> exact ⟨_, _, rfl⟩
    have hf : text_Find.f k s p n = some (x, e) := by
      obtain ⟨m, rfl⟩ : ∃ m, k = m + 1 := ⟨k - 1, by omega⟩
      rw [find_f s p n (by omega) hs hp, hx]
    rw [hf]
    simp only [Option.bind_some]
    rw [if_neg (by omega), show decide ((n : Int) > (s.size : Int)) = false from decide_eq_false (by omega)]
    exact finds_j0 s p hs hp n (by omega) k hk x e hx
  · obtain ⟨m, rfl⟩ : ∃ m, k = m + 1 := ⟨k - 1, by omega⟩
    rw [find_no s p a h]
    simp only [Option.bind_some]
    by_cases h1 : a < 0
    · rw [if_pos h1]
      rfl
    · rw [if_neg h1, show decide (a > (s.size : Int)) = true from decide_eq_true (by omega)]
      rfl
theorem TextFinds_law (s p : ByteArray) (a : Int) (hs : s.size ≤ 1048576) (hp : p.size ≤ 1048576) : ∃ k, mjolnerlaw03_TextFinds.f k s p a = some true := ⟨_, TextFinds_any s p a hs hp _ (Nat.le_refl _)⟩
end Go.Proofs.YtdcemnmbfblmiaaDoor.PT
