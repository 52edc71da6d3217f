/- Plain facts on edits of texts: what an edit makes of a text, what undoes it. -/
import Derived.Test.YtdcemnmbfblmiaaDoorFns
import Derived.WalkKit
set_option linter.unusedSimpArgs false
namespace Go.Proofs.YtdcemnmbfblmiaaDoor.PT
open Go.RowKit Go.Proofs.YtdcemnmbfblmiaaDoor.Given
set_option linter.unusedVariables false
set_option linter.unusedSimpArgs false

theorem ext_list {a b : ByteArray} (h : a.data.toList = b.data.toList) : a = b := by
  cases a with
  | mk x =>
    cases b with
    | mk y =>
      congr
      exact Array.toList_inj.1 h
theorem ex_list (s : ByteArray) (a b : Nat) : (s.extract a b).data.toList = (s.data.toList.drop a).take (b - a) := by simp
theorem ex_size (s : ByteArray) (a b : Nat) (h : b ≤ s.size) : (s.extract a b).size = b - a := by
  rw [ByteArray.size_extract]
  omega
theorem app_list (a b : ByteArray) : (a ++ b).data.toList = a.data.toList ++ b.data.toList := by simp
theorem len_list (a : ByteArray) : a.data.toList.length = a.size := by simp
/-- what an edit makes of a text -/
def edited (s : ByteArray) (a d : Nat) (p : ByteArray) : ByteArray := s.extract 0 a ++ p ++ s.extract (a + d) s.size
theorem edited_list (s : ByteArray) (a d : Nat) (p : ByteArray) (h : a + d ≤ s.size) : (edited s a d p).data.toList = s.data.toList.take a ++ (p.data.toList ++ s.data.toList.drop (a + d)) := by
  unfold edited
  have hl := len_list s
  rw [app_list, app_list, ex_list, ex_list, List.drop_zero, Nat.sub_zero, List.take_of_length_le (l := s.data.toList.drop (a + d)) (by rw [List.length_drop]; omega), List.append_assoc]
theorem edited_size (s : ByteArray) (a d : Nat) (p : ByteArray) (h : a + d ≤ s.size) : (edited s a d p).size = a + p.size + (s.size - (a + d)) := by
  unfold edited
  rw [ByteArray.size_append, ByteArray.size_append, ex_size _ _ _ (by omega), ex_size _ _ _ (Nat.le_refl _)]
  omega
theorem proper_nat {a d : Int} (h : properE a d = true) : ∃ a' d' : Nat, a = a' ∧ d = d' ∧ a' ≤ 1048576 ∧ d' ≤ 1048576 := by
  unfold properE at h
  simp only [Bool.and_eq_true, decide_eq_true_eq] at h
  exact ⟨a.toNat, d.toNat, by omega, by omega, by omega, by omega⟩
theorem proper_mk {a d : Nat} (ha : a ≤ 1048576) (hd : d ≤ 1048576) : properE a d = true := by
  unfold properE
  simp only [Bool.and_eq_true, decide_eq_true_eq]
  omega
theorem apply_f (s : ByteArray) (a d : Nat) (p : ByteArray) (ha : a ≤ 1048576) (hd : d ≤ 1048576) (hr : a + d ≤ s.size) (hs : s.size ≤ 1000000000000) (hp : p.size ≤ 1000000000000) : text_Apply.f s a d p = some (edited s a d p, 0) := by
  unfold text_Apply.f
  rw [if_neg (by rw [proper_mk ha hd]; decide), if_neg (by omega), if_pos ⟨hs, hp⟩]
  have h1 : ((a : Int) + (d : Int)).toNat = a + d := by omega
  rw [h1, Int.toNat_natCast]
  rfl
theorem invert_f (s : ByteArray) (a d : Nat) (p : ByteArray) (ha : a ≤ 1048576) (hd : d ≤ 1048576) (hr : a + d ≤ s.size) (hp : p.size ≤ 1048576) : text_Invert.f s a d p = some ((a : Int), (p.size : Int), s.extract a (a + d), 0) := by
  unfold text_Invert.f
  rw [if_neg (by rw [proper_mk ha hd]; decide), if_neg (by omega), if_neg (by omega)]
  have h1 : ((a : Int) + (d : Int)).toNat = a + d := by omega
  rw [h1, Int.toNat_natCast]
theorem edit_back (s : ByteArray) (a d : Nat) (p : ByteArray) (h : a + d ≤ s.size) : edited (edited s a d p) a p.size (s.extract a (a + d)) = s := by
  have hl := len_list s
  have hpl := len_list p
  have hsz := edited_size s a d p h
  apply ext_list
  rw [edited_list _ _ _ _ (by omega), edited_list s a d p h, ex_list]
  have h1 : (s.data.toList.take a).length = a := by rw [List.length_take]; omega
  rw [List.take_append_of_le_length (by omega), List.take_of_length_le (by omega), List.drop_append, List.drop_of_length_le (show (s.data.toList.take a).length ≤ a + p.size by omega), h1, List.nil_append,
    List.drop_append, List.drop_of_length_le (show p.data.toList.length ≤ a + p.size - a by omega), List.nil_append, show a + p.size - a - p.data.toList.length = 0 by omega, List.drop_zero, show a + d - a = d by omega]
  rw [← List.drop_drop, List.take_append_drop, List.take_append_drop]
theorem edit_cut (s : ByteArray) (a d : Nat) (p : ByteArray) (h : a + d ≤ s.size) : (edited s a d p).extract a (a + p.size) = p := by
  have hl := len_list s
  have hpl := len_list p
  apply ext_list
  rw [ex_list, edited_list s a d p h]
  have h1 : (s.data.toList.take a).length = a := by rw [List.length_take]; omega
  rw [List.drop_append, List.drop_of_length_le (show (s.data.toList.take a).length ≤ a by omega), h1, Nat.sub_self, List.drop_zero, List.nil_append, show a + p.size - a = p.data.toList.length by omega, List.take_append_of_le_length (Nat.le_refl _), List.take_length]
theorem edit_same (s : ByteArray) (a d : Nat) (h : a + d ≤ s.size) : edited s a d (s.extract a (a + d)) = s := by
  apply ext_list
  rw [edited_list _ _ _ _ h, ex_list, show a + d - a = d by omega, ← List.drop_drop, List.take_append_drop, List.take_append_drop]
theorem merge_none (s : ByteArray) (a d : Nat) (p : ByteArray) (ha : a ≤ 1048576) (hd : d ≤ 1048576) (hp : p.size ≤ 1048576) (hr : a + d ≤ s.size) :
    text_Merge.f a d p a p.size (s.extract a (a + d)) = some ((a : Int), (d : Int), s.extract a (a + d), 0) := by
  have hx : (s.extract a (a + d)).size = d := by rw [ex_size _ _ _ hr]; omega
  unfold text_Merge.f
  rw [if_neg (by rw [proper_mk ha hd, proper_mk ha hp]; simp), if_pos ⟨by omega, by omega⟩, if_pos ⟨by omega, by omega⟩]
  have e1 : (d : Int) + max 0 ((a : Int) - a) + max 0 ((a : Int) + p.size - (a + p.size)) = d := by omega
  have e2 : min (a : Int) a = a := by omega
  have e3 : (max 0 ((a : Int) - a)).toNat = 0 := by omega
  have e4 : (min (p.size : Int) ((a : Int) + p.size - a)).toNat = p.size := by omega
  rw [e1, e2, e3, e4, if_pos (by omega)]
  congr 4
  apply ext_list
  have hpl := len_list p
  rw [app_list, app_list, ex_list p, ex_list p]
  simp
theorem merge_f (a d a' d' : Nat) (p p' : ByteArray) (ha : a ≤ 1048576) (hd : d ≤ 1048576) (ha' : a' ≤ 1048576) (hd' : d' ≤ 1048576) (hp : p.size ≤ 1000000000000) (hp' : p'.size ≤ 1000000000000) (h1 : a' ≤ a + p.size) (h2 : a ≤ a' + d')
    (h3 : d + (a - a') + (a' + d' - (a + p.size)) ≤ 1048576) :
    text_Merge.f a d p a' d' p' = some (((min a a' : Nat) : Int), ((d + (a - a') + (a' + d' - (a + p.size)) : Nat) : Int), p.extract 0 (a' - a) ++ p' ++ p.extract (min p.size (a' + d' - a)) p.size, 0) := by
  unfold text_Merge.f
  rw [if_neg (by rw [proper_mk ha hd, proper_mk ha' hd']; simp), if_pos ⟨hp, hp'⟩, if_pos ⟨by omega, by omega⟩]
  have e1 : (d : Int) + max 0 ((a : Int) - a') + max 0 ((a' : Int) + d' - (a + p.size)) = ((d + (a - a') + (a' + d' - (a + p.size)) : Nat) : Int) := by omega
  have e2 : min (a : Int) a' = ((min a a' : Nat) : Int) := by omega
  have e3 : (max 0 ((a' : Int) - a)).toNat = a' - a := by omega
  have e4 : (min (p.size : Int) ((a' : Int) + d' - a)).toNat = min p.size (a' + d' - a) := by omega
  rw [e1, e2, e3, e4, if_pos (by omega)]
theorem merged (s : ByteArray) (a d a' d' : Nat) (p p' : ByteArray) (hr : a + d ≤ s.size) (h1 : a' ≤ a + p.size) (h2 : a ≤ a' + d') (hr' : a' + d' ≤ (edited s a d p).size) :
    edited (edited s a d p) a' d' p' = edited s (min a a') (d + (a - a') + (a' + d' - (a + p.size))) (p.extract 0 (a' - a) ++ p' ++ p.extract (min p.size (a' + d' - a)) p.size) := by
  have hl := len_list s
  have hpl := len_list p
  have hsz := edited_size s a d p hr
  apply ext_list
  rw [edited_list _ _ _ _ hr', edited_list s a d p hr, edited_list s _ _ _ (by omega), app_list, app_list, ex_list, ex_list, List.drop_zero, Nat.sub_zero]
  have k1 : (s.data.toList.take a).length = a := by rw [List.length_take]; omega
  have t1 : (s.data.toList.take a ++ (p.data.toList ++ s.data.toList.drop (a + d))).take a' = s.data.toList.take (min a a') ++ p.data.toList.take (a' - a) := by
    rw [List.take_append, k1, List.take_append, show a' - a - p.data.toList.length = 0 by omega, List.take_zero, List.append_nil, List.take_take, Nat.min_comm]
  have t2 : (s.data.toList.take a ++ (p.data.toList ++ s.data.toList.drop (a + d))).drop (a' + d') = p.data.toList.drop (min p.size (a' + d' - a)) ++ s.data.toList.drop (min a a' + (d + (a - a') + (a' + d' - (a + p.size)))) := by
    rw [List.drop_append, k1, List.drop_of_length_le (show (s.data.toList.take a).length ≤ a' + d' by omega), List.nil_append, List.drop_append, List.drop_drop]
    congr 1
    · by_cases h : a' + d' - a ≤ p.size
      · rw [Nat.min_eq_right h]
      · rw [Nat.min_eq_left (by omega), List.drop_of_length_le (by omega), List.drop_of_length_le (by omega)]
    · congr 1
      omega
  rw [t1, t2, List.take_of_length_le (l := p.data.toList.drop (min p.size (a' + d' - a))) (by rw [List.length_drop]; omega)]
  simp only [List.append_assoc]
end Go.Proofs.YtdcemnmbfblmiaaDoor.PT
