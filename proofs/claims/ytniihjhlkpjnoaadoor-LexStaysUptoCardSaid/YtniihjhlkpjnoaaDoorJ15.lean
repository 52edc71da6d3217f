-- Out of this text a program of mine (wip/slim.py) took what this claim does not use.
/- Plain: what Valid and Touch answer, told by the items of texts. -/
import Derived.Test.YtniihjhlkpjnoaaDoorPVx6
import Derived.Test.YtniihjhlkpjnoaaDoorLy
import Derived.Test.YtniihjhlkpjnoaaDoorJ13
import Derived.Test.YtniihjhlkpjnoaaDoorLz
import Derived.Test.YtniihjhlkpjnoaaDoorJ14
import Derived.Test.YtniihjhlkpjnoaaDoorPVx8
section
set_option linter.unusedVariables false
set_option linter.unusedSimpArgs false
namespace Go.Proofs.YtniihjhlkpjnoaaDoor.Given
open Go.RowKit Go.Proofs.YtniihjhlkpjnoaaDoorW.PrintWords Go.Proofs.YtniihjhlkpjnoaaDoorW.PrintLast Go.Proofs.YtniihjhlkpjnoaaDoorW.PrintMore
theorem w64b {a : Int} (h1 : -1000000000 ≤ a) (h2 : a ≤ 1000000000) : wrap64 a = a := IntWalk.wrap64_in _ (by omega)
theorem rd42_at {l : List PV.S42} {i : Nat} {x : PV.S42} {r : List PV.S42} (h : l.drop i = x :: r) : PV.rd_T42 l (i : Int) = x ∧ i < l.length ∧ l.drop (i + 1) = r := by
 have hi : i < l.length := by
  rcases Nat.lt_or_ge i l.length with h1 | h1
  ·exact h1
  ·rw [List.drop_of_length_le h1] at h
   cases h
 rw [List.drop_eq_getElem_cons hi] at h
 obtain ⟨h1, h2⟩ := List.cons.inj h
 refine ⟨?_, hi, h2⟩
 unfold PV.rd_T42
 rw [Int.toNat_natCast, List.getD_eq_getElem?_getD, List.getElem?_eq_getElem hi]
 exact h1
end Go.Proofs.YtniihjhlkpjnoaaDoor.Given
end
section
/- Plain: what Again answers. -/
set_option linter.unusedVariables false
set_option linter.unusedSimpArgs false
namespace Go.Proofs.YtniihjhlkpjnoaaDoor.Given
open Go.RowKit Go.Proofs.YtniihjhlkpjnoaaDoorW.PrintWords Go.Proofs.YtniihjhlkpjnoaaDoorW.PrintLast Go.Proofs.YtniihjhlkpjnoaaDoorW.PrintMore
theorem bytes_eq (a b : ByteArray) : a.toList = b.toList ↔ a = b := by
 rw [ByteArray.toList_eq, ByteArray.toList_eq]
 exact ⟨fun h => ByteArray.ext (Array.toList_inj.1 h), fun h => by rw [h]⟩
theorem tok_eq (a b : PV.S42) : ((a.f0 == b.f0) && ((a.f1.toList == b.f1.toList) && ((a.f2 == b.f2) && ((a.f3 == b.f3) && (a.f4 == b.f4))))) = true ↔ a = b := by
 rw [Bool.and_eq_true, Bool.and_eq_true, Bool.and_eq_true, Bool.and_eq_true, beq_iff_eq, beq_iff_eq, beq_iff_eq, beq_iff_eq, beq_iff_eq, bytes_eq]
 obtain ⟨a0, a1, a2, a3, a4⟩ := a
 obtain ⟨b0, b1, b2, b3, b4⟩ := b
 rw [PV.S42.mk.injEq]
def Moved (d : Int) (a b : PV.S42) : Prop := a.f0 = b.f0 ∧ a.f1 = b.f1 ∧ a.f2 = b.f2 ∧ wrap64 (a.f3 + d) = b.f3 ∧ wrap64 (a.f4 + d) = b.f4
theorem moved_test (d : Int) (a b : PV.S42) : ((a.f0 == b.f0) && ((a.f1.toList == b.f1.toList) && ((a.f2 == b.f2) && ((wrap64 (a.f3 + d) == b.f3) && (wrap64 (a.f4 + d) == b.f4))))) = true ↔ Moved d a b := by
 rw [Bool.and_eq_true, Bool.and_eq_true, Bool.and_eq_true, Bool.and_eq_true, beq_iff_eq, beq_iff_eq, beq_iff_eq, beq_iff_eq, beq_iff_eq, bytes_eq]
 rfl
theorem runN_all (p : PV.S42 → PV.S42 → Bool) : ∀ (a b : List PV.S42) (j : Nat), j < runN p a b → p (PV.rd_T42 a (j : Int)) (PV.rd_T42 b (j : Int)) = true := by
 intro a b j hj
 have key : ∀ k, k ≤ j → runN p a b = k + runN p (a.drop k) (b.drop k) := by
  intro k
  induction k with
  | zero => intro _; simp
  | succ k ih =>
   intro hk
   have h1 := ih (by omega)
   have h2 : k < a.length ∧ k < b.length := by
    obtain ⟨l1, l2⟩ := runN_le p a b
    omega
   have h3 := runN_step p a b k h2.1 h2.2
   by_cases hq : p a[k] b[k] = true
   ·rw [if_pos hq] at h3
    omega
   ·rw [if_neg hq] at h3
    omega
 have h1 := key j (Nat.le_refl _)
 have h2 : j < a.length ∧ j < b.length := by
  obtain ⟨l1, l2⟩ := runN_le p a b
  omega
 have h3 := runN_rd p a b j h2.1 h2.2
 by_cases hq : p (PV.rd_T42 a (j : Int)) (PV.rd_T42 b (j : Int)) = true
 ·exact hq
 ·rw [if_neg hq] at h3
  omega
theorem runN_drop (p : PV.S42 → PV.S42 → Bool) : ∀ (a b : List PV.S42) (k : Nat), k ≤ runN p a b → runN p a b = k + runN p (a.drop k) (b.drop k)
 | a, b, 0, _ => by simp
 | [], b, k + 1, h => by simp [runN] at h
 | x :: r, [], k + 1, h => by simp [runN] at h
 | x :: r, y :: s, k + 1, h => by
  have e : runN p (x :: r) (y :: s) = if p x y = true then runN p r s + 1 else 0 := rfl
  rw [e] at h ⊢
  rw [List.drop_succ_cons, List.drop_succ_cons]
  by_cases hq : p x y = true
  ·rw [if_pos hq] at h ⊢
   have := runN_drop p r s k (by omega)
   omega
  ·rw [if_neg hq] at h
   omega
theorem runN_end (p : PV.S42 → PV.S42 → Bool) (a b : List PV.S42) (h1 : runN p a b < a.length) (h2 : runN p a b < b.length) : ¬ p (PV.rd_T42 a (runN p a b : Int)) (PV.rd_T42 b (runN p a b : Int)) = true := by
 intro hq
 have h3 := runN_drop p a b _ (Nat.le_refl _)
 have h4 := runN_rd p a b (runN p a b) h1 h2
 rw [if_pos hq] at h4
 omega
structure Counts (d : Int) (old l : List PV.S42) (H T : Nat) : Prop where
 inOld : H + T ≤ old.length
 inNew : H + T ≤ l.length
 same : ∀ j : Nat, j < H → PV.rd_T42 old (j : Int) = PV.rd_T42 l (j : Int)
 stop : H < old.length → H < l.length → PV.rd_T42 old (H : Int) ≠ PV.rd_T42 l (H : Int)
 tail : ∀ j : Nat, j < T → Moved d (PV.rd_T42 old ((old.length - 1 - j : Nat) : Int)) (PV.rd_T42 l ((l.length - 1 - j : Nat) : Int))
theorem counts_of (d : Int) (O M : List PV.S42) : Counts d O M (headN O M) (tailN d O M) := by
 obtain ⟨X, Y, hT, hX, hY, gX, gY⟩ := tail_lists d O M
 obtain ⟨l1, l2⟩ := runN_le sameT O M
 obtain ⟨l3, l4⟩ := runN_le (movT d) X Y
 have l1 : headN O M ≤ O.length := l1
 have l2 : headN O M ≤ M.length := l2
 refine ⟨by omega, by omega, fun j hj => ?_, fun g1 g2 he => ?_, fun j hj => ?_⟩
 ·have := runN_all sameT O M j hj
  unfold sameT at this
  exact (tok_eq _ _).1 this
 ·refine runN_end sameT O M g1 g2 ?_
  unfold sameT
  exact (tok_eq _ _).2 he
 ·rw [hT] at hj
  have := runN_all (movT d) X Y j hj
  rw [gX j (by omega), gY j (by omega)] at this
  unfold movT at this
  exact (moved_test d _ _).1 this
theorem again_f (s : ByteArray) (a d : Int) (p : ByteArray) (hs : s.size ≤ 1048576) (hp : p.size ≤ 1048576) :
  (∃ e i, e ≠ 0 ∧ lex_Again.f s a d p = some ([], 0, 0, e, i)) ∨
  (∃ H T : Nat, (lexR (byl s)).2.1 = 0 ∧ properE a d = true ∧ a + d ≤ (s.size : Int) ∧ (lexR (byl (s.extract 0 a.toNat ++ p ++ s.extract (a + d).toNat s.size))).2.1 = 0 ∧
   lex_Again.f s a d p = some ((lexR (byl (s.extract 0 a.toNat ++ p ++ s.extract (a + d).toNat s.size))).1.map (tokS 0), (H : Int), (T : Int), 0, 0) ∧
   Counts (wrap64 (((s.extract 0 a.toNat ++ p ++ s.extract (a + d).toNat s.size).size : Int) - (s.size : Int))) ((lexR (byl s)).1.map (tokS 0)) ((lexR (byl (s.extract 0 a.toNat ++ p ++ s.extract (a + d).toNat s.size))).1.map (tokS 0)) H T) := by
 unfold lex_Again.f text_Apply.f
 by_cases h1 : (lexR (byl s)).2.1 = 0
 ·rw [if_neg (fun h => h h1)]
  cases hpr : properE a d with
  | false =>
   rw [if_pos rfl, Option.bind_some]
   exact .inl ⟨1, 0, by decide, by rw [if_pos (by decide)]⟩
  | true =>
   rw [if_neg (by decide)]
   by_cases h2 : (s.size : Int) < a + d
   ·rw [if_pos h2, Option.bind_some]
    exact .inl ⟨3, 0, by decide, by rw [if_pos (by decide)]⟩
   ·rw [if_neg h2, if_pos ⟨by omega, by omega⟩, Option.bind_some]
    dsimp only
    rw [if_neg (fun h => h rfl)]
    generalize s.extract 0 a.toNat ++ p ++ s.extract (a + d).toNat s.size = t
    by_cases h3 : (lexR (byl t)).2.1 = 0
    ·rw [if_neg (fun h => h h3)]
     exact .inr ⟨_, _, h1, rfl, by omega, h3, rfl, counts_of _ _ _⟩
    ·rw [if_pos h3]
     exact .inl ⟨_, _, h3, rfl⟩
 ·rw [if_pos h1]
  exact .inl ⟨_, _, h1, rfl⟩
end Go.Proofs.YtniihjhlkpjnoaaDoor.Given
end
section
/- Plain: two equal lists of tokens are exactly equal. -/
set_option linter.unusedVariables false
set_option linter.unusedSimpArgs false
namespace Go.Proofs.YtniihjhlkpjnoaaDoor.Given
open Go.RowKit Go.Proofs.YtniihjhlkpjnoaaDoorW.PrintWords Go.Proofs.YtniihjhlkpjnoaaDoorW.PrintLast Go.Proofs.YtniihjhlkpjnoaaDoorW.PrintMore
theorem w64e {a : Int} (h1 : -1000000000 ≤ a) (h2 : a ≤ 1000000000) : wrap64 a = a := IntWalk.wrap64_in _ (by omega)
theorem exact_loop' (l : List PV.S42) (hl : l.length ≤ 10000000) : ∀ (rem K i : Nat), l.length - i ≤ rem → rem + 1 ≤ K → PV.mjolnerref04_Exact.l0 K l l (i : Int) = some true := by
 intro rem
 induction rem with
 | zero =>
  intro K i h1 h2
  obtain ⟨K, rfl⟩ : ∃ K', K = K' + 1 := ⟨K - 1, by omega⟩
  rw [PV.mjolnerref04_Exact.l0, if_neg (by omega)]
 | succ rem ih =>
  intro K i h1 h2
  obtain ⟨K, rfl⟩ : ∃ K', K = K' + 1 := ⟨K - 1, by omega⟩
  rw [PV.mjolnerref04_Exact.l0]
  by_cases hi : (i : Int) < (l.length : Int)
  ·rw [if_pos hi, if_pos (by omega), if_pos hi, if_neg (by simp), w64e (by omega) (by omega)]
   exact ih K (i + 1) (by omega) (by omega)
  ·rw [if_neg hi]
theorem exact_same' (l : List PV.S42) (hl : l.length ≤ 10000000) (K : Nat) (hK : l.length + 1 ≤ K) : PV.mjolnerref04_Exact.f K l l = some true := by
 unfold PV.mjolnerref04_Exact.f
 rw [if_pos rfl]
 exact exact_loop' l hl l.length K 0 (by omega) hK
end Go.Proofs.YtniihjhlkpjnoaaDoor.Given
end
section
/- sane is true. -/
set_option linter.unusedVariables false
set_option linter.unusedSimpArgs false
namespace Go.Proofs.YtniihjhlkpjnoaaDoor.Given
open Go.RowKit Go.Proofs.YtniihjhlkpjnoaaDoorW.PrintWords Go.Proofs.YtniihjhlkpjnoaaDoorW.PrintLast Go.Proofs.YtniihjhlkpjnoaaDoorW.PrintMore
set_option maxRecDepth 100000 in
theorem sane_24 : PV.mjolnerlaw04_sane.f 24 = some true := by kernel_rfl
theorem sane_true : ∀ j, PV.mjolnerlaw04_sane.f (24 + j) = some true
 | 0 => sane_24
 | j + 1 => PV.mjolnerlaw04_sane.mono (24 + j) _ (sane_true j)
theorem sane_any (k : Nat) (h : 24 ≤ k) : PV.mjolnerlaw04_sane.f k = some true := by
 obtain ⟨j, rfl⟩ : ∃ j, k = 24 + j := ⟨k - 24, by omega⟩
 exact sane_true j
end Go.Proofs.YtniihjhlkpjnoaaDoor.Given
end
