/- Plain facts on edits of texts: what an edit makes of a text, what undoes it. -/
import Derived.Test.YtdcemnmbfblmiaaDoorFns
import Derived.WalkKit
set_option linter.unusedSimpArgs false
namespace Go.Proofs.YtdcemnmbfblmiaaDoor.PT
open Go.RowKit Go.Proofs.YtdcemnmbfblmiaaDoor.Given
set_option linter.unusedVariables false
set_option linter.unusedSimpArgs false

theorem ex_size (s : ByteArray) (a b : Nat) (h : b ≤ s.size) : (s.extract a b).size = b - a := by
  rw [ByteArray.size_extract]
  omega
theorem len_list (a : ByteArray) : a.data.toList.length = a.size := by simp
/-- what an edit makes of a text -/
def edited (s : ByteArray) (a d : Nat) (p : ByteArray) : ByteArray := s.extract 0 a ++ p ++ s.extract (a + d) s.size
theorem proper_nat {a d : Int} (h : properE a d = true) : ∃ a' d' : Nat, a = a' ∧ d = d' ∧ a' ≤ 1048576 ∧ d' ≤ 1048576 := by
  unfold properE at h
  simp only [Bool.and_eq_true, decide_eq_true_eq] at h
  exact ⟨a.toNat, d.toNat, by omega, by omega, by omega, by omega⟩
theorem proper_mk {a d : Nat} (ha : a ≤ 1048576) (hd : d ≤ 1048576) : properE a d = true := by
  unfold properE
  simp only [Bool.and_eq_true, decide_eq_true_eq]
  omega
theorem apply_f (s : ByteArray) (a d : Nat) (p : ByteArray) (ha : a ≤ 1048576) (hd : d ≤ 1048576) (hr : a + d ≤ s.size) (hs : s.size ≤ 1000000000000) (hp : p.size ≤ 1000000000000) : text_Apply.f s a d p = some (edited s a d p, 0) := by
  unfold text_Apply.f
  rw [if_neg (by rw [proper_mk ha hd]; decide), if_neg (by omega), if_pos ⟨hs, hp⟩]
  have h1 : ((a : Int) + (d : Int)).toNat = a + d := by omega
  rw [h1, Int.toNat_natCast]
  rfl
theorem invert_f (s : ByteArray) (a d : Nat) (p : ByteArray) (ha : a ≤ 1048576) (hd : d ≤ 1048576) (hr : a + d ≤ s.size) (hp : p.size ≤ 1048576) : text_Invert.f s a d p = some ((a : Int), (p.size : Int), s.extract a (a + d), 0) := by
  unfold text_Invert.f
  rw [if_neg (by rw [proper_mk ha hd]; decide), if_neg (by omega), if_neg (by omega)]
  have h1 : ((a : Int) + (d : Int)).toNat = a + d := by omega
  rw [h1, Int.toNat_natCast]
end Go.Proofs.YtdcemnmbfblmiaaDoor.PT
