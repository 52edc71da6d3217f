/- What Find, Split, Join and Replace return, as plain functions of lists of bytes. -/
import Derived.Test.YtdcemnmbfblmiaaDoorPTx2
import Derived.Test.YtdcemnmbfblmiaaDoorPTx4
import Derived.Test.YtdcemnmbfblmiaaDoorLEdit
import Derived.Lib.IndexMore
set_option linter.unusedVariables false
set_option linter.unusedSimpArgs false
namespace Go.Proofs.YtdcemnmbfblmiaaDoor.PT
open Go.RowKit Go.Proofs.YtdcemnmbfblmiaaDoor.Given Go.Proofs.YtdcemnmbfblmiaaDoorW.PrintWords Go.Proofs.YtdcemnmbfblmiaaDoorW.PrintLast Go.Proofs.YtdcemnmbfblmiaaDoorW.PrintMore

theorem w64 {a : Int} {n : Nat} (h : a = n) (hn : n ≤ 9223372036854775807) : wrap64 a = n := by rw [IntWalk.wrap64_in _ (by omega)]; exact h
/-- where a part is found -/
def findR (S P : List UInt8) (n : Nat) : Option (Int × Int) := if Lib.index (S.drop n) P < 0 then some (0, 5) else some ((n : Int) + Lib.index (S.drop n) P, 0)
theorem find_no (s p : ByteArray) (a : Int) (h : ¬ (0 ≤ a ∧ a ≤ s.size)) (k : Nat) : text_Find.f (k + 1) s p a = some (0, 3) := by
  unfold text_Find.f
  by_cases h1 : a < 0
  · rw [if_pos h1]; rfl
  · rw [if_neg h1, show decide (a > (s.size : Int)) = true from decide_eq_true (by omega)]; rfl
theorem find_f (s p : ByteArray) (n : Nat) (hn : n ≤ s.size) (hs : s.size ≤ 1048576) (hp : p.size ≤ 1048576) (k : Nat) : text_Find.f (k + 1) s p n = findR s.data.toList p.data.toList n := by
  have hl := len_list s
  have hpl := len_list p
  have hsx : (s.extract n s.size).size = s.size - n := by rw [ex_size _ _ _ (Nat.le_refl _)]
  have hix : strings_Index.f (s.extract n s.size) p = some (Lib.index (s.data.toList.drop n) p.data.toList) := by
    unfold strings_Index.f
    rw [if_pos (by omega), ex_list, List.take_of_length_le (by rw [List.length_drop]; omega)]
  unfold text_Find.f findR
  rw [if_neg (by omega), show decide ((n : Int) > (s.size : Int)) = false from decide_eq_false (by omega), text_Find.j0, if_neg (by decide), if_pos (by omega), if_pos (by omega), Int.toNat_natCast, hix]
  simp only [Option.bind_some]
  by_cases h : Lib.index (s.data.toList.drop n) p.data.toList < 0
  · rw [if_pos h, if_pos h]
  · have hroom := Lib.index_room (s.data.toList.drop n) p.data.toList (by omega)
    rw [List.length_drop] at hroom
    rw [if_neg h, if_neg h, IntWalk.wrap64_in _ (by omega)]
theorem occ_off (S P : List UInt8) (n j : Nat) : Lib.occAt (S.drop n) P j = Lib.occAt S P (n + j) := by
  unfold Lib.occAt
  rw [List.drop_drop]
theorem ba_list' (l : List UInt8) : (ba l).data.toList = l := rfl
theorem ba_size' (l : List UInt8) : (ba l).size = l.length := by simp [ba, ByteArray.size]
theorem ba_ext (x : ByteArray) (l : List UInt8) (h : x.data.toList = l) : x = ba l := ext_list (by rw [h, ba_list'])
theorem nonempty_iff (p : ByteArray) : p.toList = ([] : List UInt8) ↔ p.size = 0 := by
  rw [ByteArray.toList_eq, ← List.length_eq_zero_iff, len_list]
/-- the pieces of a text, one behind the other with the part between, are the text -/
theorem join_split (P : List UInt8) : ∀ (n : Nat) (S : List UInt8), Lib.join (splitL P n S) P = S
  | 0, S => by rw [splitL, Lib.join_one]
  | n + 1, S => by
    rw [splitL]
    by_cases h : Lib.index S P < 0
    · rw [if_pos h, Lib.join_one]
    · rw [if_neg h]
      rcases Lib.index_spec S P with ⟨h1, _⟩ | ⟨i, h1, h2, h3, _⟩
      · omega
      · rw [h1, Int.toNat_natCast]
        have hroom := Lib.index_room S P (by omega)
        rw [h1] at hroom
        have h4 : (S.drop i).take P.length = P := by
          have := Lib.occAt_iff_take S P i (by omega)
          rw [h3] at this
          exact beq_iff_eq.1 this.symm
        have ih := join_split P n (S.drop (i + P.length))
        have hne : splitL P n (S.drop (i + P.length)) ≠ [] := by
          cases n with
          | zero => simp [splitL]
          | succ n => rw [splitL]; split <;> simp
        obtain ⟨y, r, hyr⟩ := List.exists_cons_of_ne_nil hne
        rw [hyr] at ih ⊢
        rw [Lib.join_cons] at ih
        rw [Lib.join_cons, show Lib.joinTail P (y :: r) = P ++ y ++ Lib.joinTail P r by simp [Lib.joinTail], List.append_assoc P, ih]
        conv => rhs; rw [← List.take_append_drop i S, ← List.take_append_drop P.length (S.drop i), h4, List.drop_drop]
theorem split_ne (P : List UInt8) (n : Nat) (S : List UInt8) : splitL P n S ≠ [] := by
  cases n with
  | zero => simp [splitL]
  | succ n => rw [splitL]; split <;> simp
theorem split_piece (P : List UInt8) : ∀ (n : Nat) (S x : List UInt8), x ∈ splitL P n S → x.length ≤ S.length
  | 0, S, x, h => by
    rw [splitL, List.mem_singleton] at h
    subst h
    exact Nat.le_refl _
  | n + 1, S, x, h => by
    rw [splitL] at h
    by_cases hx : Lib.index S P < 0
    · rw [if_pos hx, List.mem_singleton] at h
      subst h
      exact Nat.le_refl _
    · rw [if_neg hx] at h
      rcases List.mem_cons.1 h with h | h
      · subst h
        rw [List.length_take]
        omega
      · have := split_piece P n _ x h
        rw [List.length_drop] at this
        omega
theorem split_many (P : List UInt8) : ∀ (n : Nat) (S : List UInt8), (splitL P n S).length ≤ n + 1
  | 0, S => by simp [splitL]
  | n + 1, S => by
    have := split_many P n (S.drop ((Lib.index S P).toNat + P.length))
    rw [splitL]
    split
    · simp
    · rw [List.length_cons]
      omega
theorem lens_le {M : Nat} : ∀ (l : List (List UInt8)), (∀ x ∈ l, x.length ≤ M) → Lib.lens l ≤ l.length * M
  | [], _ => by simp [Lib.lens]
  | x :: l, h => by
    have ih := lens_le l (fun y hy => h y (List.mem_cons_of_mem _ hy))
    have h1 := h x List.mem_cons_self
    simp only [Lib.lens, List.map_cons, List.sum_cons, List.length_cons] at ih ⊢
    rw [Nat.succ_mul]
    omega
theorem join_len_le {M : Nat} (l : List (List UInt8)) (sep : List UInt8) (h : ∀ x ∈ l, x.length ≤ M) : (Lib.join l sep).length ≤ l.length * sep.length + l.length * M := by
  cases l with
  | nil => simp [Lib.join_nil]
  | cons x r =>
    have := lens_le (M := M) (x :: r) h
    have h2 : sep.length * r.length ≤ (x :: r).length * sep.length := by rw [Nat.mul_comm]; exact Nat.mul_le_mul_right _ (by simp)
    rw [Lib.join_length]
    omega
/-- the pieces of a text -/
def splitR (s sep : ByteArray) : Option (List ByteArray × Int) :=
  if s.size ≤ 4000 ∧ sep.size ≤ 4000 ∧ ¬ sep.size = 0 then some ((splitL sep.data.toList s.size s.data.toList).map ba, 0) else some ([], 1)
theorem split_f (s sep : ByteArray) : text_Split.f s sep = splitR s sep := by
  unfold text_Split.f splitR text_valid.f
  simp only [Option.bind_some]
  by_cases h1 : s.size ≤ 4000 ∧ sep.size ≤ 4000
  · rw [if_pos (by simp [h1.1, h1.2])]
    by_cases h2 : sep.size = 0
    · rw [if_pos ((nonempty_iff sep).2 h2), if_neg (fun h => h.2.2 h2)]
    · rw [if_neg (fun h => h2 ((nonempty_iff sep).1 h)), if_pos ⟨h1.1, h1.2, h2⟩]
      unfold text_split.f
      rw [if_neg (by omega)]
      rfl
  · rw [if_neg (by simp; omega), if_neg (fun h => h1 ⟨h.1, h.2.1⟩)]
/-- a text in which a part is replaced -/
def replR (s part by' : ByteArray) : Option (ByteArray × Int) :=
  if s.size ≤ 4000 ∧ part.size ≤ 4000 ∧ ¬ part.size = 0 ∧ by'.size ≤ 4000 then
    (if (joinL ((splitL part.data.toList s.size s.data.toList).map ba) by').length ≤ 4000 then some (ba (joinL ((splitL part.data.toList s.size s.data.toList).map ba) by'), 0) else some (⟨#[]⟩, 3))
  else some (⟨#[]⟩, 1)
theorem map_ba (l : List (List UInt8)) : (l.map ba).map (fun s => s.data.toList) = l := by
  rw [List.map_map]
  conv => rhs; rw [← List.map_id l]
  rfl
theorem joinL_ba (l : List (List UInt8)) (sep : ByteArray) : joinL (l.map ba) sep = Lib.join l sep.data.toList := by
  unfold joinL
  rw [map_ba]
theorem repl_f (s part by' : ByteArray) (k : Nat) : text_Replace.f (k + 1) s part by' = replR s part by' := by
  unfold text_Replace.f replR text_valid.f
  simp only [Option.bind_some]
  by_cases h1 : s.size ≤ 4000 ∧ part.size ≤ 4000 ∧ by'.size ≤ 4000
  · rw [if_pos (by simp [h1.1, h1.2.1, h1.2.2])]
    by_cases h2 : part.size = 0
    · rw [show (part.toList == ([] : List UInt8)) = true from beq_iff_eq.2 ((nonempty_iff part).2 h2), if_neg (fun h => h.2.2.1 h2)]
      rfl
    · rw [show (part.toList == ([] : List UInt8)) = false from beq_eq_false_iff_ne.2 (fun h => h2 ((nonempty_iff part).1 h)), if_pos ⟨h1.1, h1.2.1, h2, h1.2.2⟩, text_Replace.j0, if_neg (by decide)]
      have hb := len_list by'
      have hs := len_list s
      have hlen : (joinL ((splitL part.data.toList s.size s.data.toList).map ba) by').length ≤ 70368744177664 := by
        rw [joinL_ba]
        have q1 := join_len_le (M := s.data.toList.length) (splitL part.data.toList s.size s.data.toList) by'.data.toList (fun x hx => split_piece _ _ _ x hx)
        have q2 := split_many part.data.toList s.size s.data.toList
        have q3 : (splitL part.data.toList s.size s.data.toList).length * by'.data.toList.length ≤ 4001 * 4000 := Nat.mul_le_mul (by omega) (by omega)
        have q4 : (splitL part.data.toList s.size s.data.toList).length * s.data.toList.length ≤ 4001 * 4000 := Nat.mul_le_mul (by omega) (by omega)
        omega
      have q2 := split_many part.data.toList s.size s.data.toList
      unfold text_split.f strings_Join.f
      rw [if_neg (by omega)]
      simp only [Option.bind_some]
      rw [if_pos ⟨hlen, by rw [List.length_map]; omega⟩]
      simp only [Option.bind_some]
      unfold text_ranged.f text_Valid.f
      simp only [Option.bind_some]
      rw [ba_size']
      by_cases h3 : (joinL ((splitL part.data.toList s.size s.data.toList).map ba) by').length ≤ 4000
      · rw [decide_eq_true (by omega), if_pos h3]
        rfl
      · rw [decide_eq_false (by omega), if_neg h3]
        rfl
  · rw [if_neg (by simp; omega), if_neg (fun h => h1 ⟨h.1, h.2.1, h.2.2.2⟩)]
    rfl
theorem split_short (s part : ByteArray) (hs : s.size ≤ 4000) : (((splitL part.data.toList s.size s.data.toList).map ba).all fun x => decide (x.size ≤ 4000)) = true := by
  rw [List.all_eq_true]
  intro x hx
  obtain ⟨y, hy, rfl⟩ := List.mem_map.1 hx
  have := split_piece _ _ _ y hy
  have hl := len_list s
  exact decide_eq_true (by rw [ba_size']; omega)
theorem same_loop (l : List ByteArray) (hl : l.length ≤ 1000000000) : ∀ (d i k : Nat), i + d = l.length → d < k → mjolnerlaw03_same.l0 k l l (i : Int) = some true := by
  intro d
  induction d with
  | zero =>
    intro i k hi hk
    obtain ⟨k, rfl⟩ : ∃ m, k = m + 1 := ⟨k - 1, by omega⟩
    rw [mjolnerlaw03_same.l0, if_neg (by omega)]
  | succ d ih =>
    intro i k hi hk
    obtain ⟨k, rfl⟩ : ∃ m, k = m + 1 := ⟨k - 1, by omega⟩
    rw [mjolnerlaw03_same.l0, if_pos (by omega), if_pos (by omega), if_pos (by omega), if_pos rfl, w64 (n := i + 1) (by omega) (by omega)]
    exact ih (i + 1) k (by omega) (by omega)
theorem same_f (l : List ByteArray) (hl : l.length ≤ 1000000000) (k : Nat) (hk : l.length < k) : mjolnerlaw03_same.f k l l = some true := by
  unfold mjolnerlaw03_same.f
  rw [if_pos rfl]
  exact same_loop l hl l.length 0 k (by omega) hk
end Go.Proofs.YtdcemnmbfblmiaaDoor.PT
