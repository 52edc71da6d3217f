/- The plain law behind TextCats: for all texts, what the printed function computes is true. -/
import Derived.Test.YtdcemnmbfblmiaaDoorPTx31
namespace Go.Proofs.YtdcemnmbfblmiaaDoor.PT
open Go.RowKit Go.Proofs.YtdcemnmbfblmiaaDoor.Given Go.Proofs.YtdcemnmbfblmiaaDoorW.PrintWords Go.Proofs.YtdcemnmbfblmiaaDoorW.PrintLast Go.Proofs.YtdcemnmbfblmiaaDoorW.PrintMore

theorem cmp_anti : ∀ (a b : List UInt8), Lib.compareBytes a b = -Lib.compareBytes b a
  | [], [] => rfl
  | [], _ :: _ => rfl
  | _ :: _, [] => rfl
  | a :: l, b :: m => by
    unfold Lib.compareBytes
    by_cases h1 : a < b
    · have h2 : ¬ b < a := fun h => by have := UInt8.lt_iff_toNat_lt.1 h; have := UInt8.lt_iff_toNat_lt.1 h1; omega
      rw [if_pos h1, if_neg h2, if_pos h1]
    · by_cases h2 : b < a
      · rw [if_neg h1, if_pos h2, if_pos h2]; rfl
      · rw [if_neg h1, if_neg h2, if_neg h2, if_neg h1]
        exact cmp_anti l m
theorem cmp_range : ∀ (a b : List UInt8), -1 ≤ Lib.compareBytes a b ∧ Lib.compareBytes a b ≤ 1
  | [], [] => by decide
  | [], _ :: _ => by simp [Lib.compareBytes]
  | _ :: _, [] => by simp [Lib.compareBytes]
  | a :: l, b :: m => by
    unfold Lib.compareBytes
    split
    · decide
    · split
      · decide
      · exact cmp_range l m
theorem cmp_zero : ∀ (a b : List UInt8), Lib.compareBytes a b = 0 ↔ a = b
  | [], [] => by simp [Lib.compareBytes]
  | [], _ :: _ => by simp [Lib.compareBytes]
  | _ :: _, [] => by simp [Lib.compareBytes]
  | a :: l, b :: m => by
    unfold Lib.compareBytes
    by_cases h1 : a < b
    · rw [if_pos h1]
      constructor
      · intro h; exact absurd h (by decide)
      · intro h
        rw [(List.cons.inj h).1] at h1
        have := UInt8.lt_iff_toNat_lt.1 h1
        omega
    · by_cases h2 : b < a
      · rw [if_neg h1, if_pos h2]
        constructor
        · intro h; exact absurd h (by decide)
        · intro h
          rw [(List.cons.inj h).1] at h2
          have := UInt8.lt_iff_toNat_lt.1 h2
          omega
      · rw [if_neg h1, if_neg h2]
        have h3 : a = b := UInt8.toNat_inj.1 (by have h4 : ¬ a.toNat < b.toNat := fun h => h1 (UInt8.lt_iff_toNat_lt.2 h); have h5 : ¬ b.toNat < a.toNat := fun h => h2 (UInt8.lt_iff_toNat_lt.2 h); omega)
        rw [cmp_zero l m, h3]
        simp
theorem cmp_trans : ∀ (a b c : List UInt8), Lib.compareBytes a b = Lib.compareBytes b c → Lib.compareBytes a c = Lib.compareBytes a b
  | [], [], [] => by simp [Lib.compareBytes]
  | [], [], _ :: _ => by simp [Lib.compareBytes]
  | [], _ :: _, [] => by simp [Lib.compareBytes]
  | [], _ :: _, _ :: _ => by simp [Lib.compareBytes]
  | _ :: _, [], [] => by simp [Lib.compareBytes]
  | _ :: _, [], _ :: _ => by simp [Lib.compareBytes]
  | _ :: _, _ :: _, [] => by intro h; simp only [Lib.compareBytes] at h ⊢; omega
  | a :: l, b :: m, c :: n => by
    intro h
    have ih := cmp_trans l m n
    unfold Lib.compareBytes at h ⊢
    simp only [UInt8.lt_iff_toNat_lt] at h ⊢
    have r1 := cmp_range l m
    have r2 := cmp_range m n
    by_cases h1 : a.toNat < b.toNat
    · rw [if_pos h1] at h ⊢
      by_cases h2 : b.toNat < c.toNat
      · rw [if_pos (by omega)]
      · rw [if_neg h2] at h
        by_cases h3 : c.toNat < b.toNat
        · rw [if_pos h3] at h; exact absurd h (by decide)
        · rw [if_pos (by omega)]
    · rw [if_neg h1] at h ⊢
      by_cases h2 : b.toNat < a.toNat
      · rw [if_pos h2] at h ⊢
        by_cases h3 : b.toNat < c.toNat
        · rw [if_pos h3] at h; exact absurd h (by decide)
        · rw [if_neg (by omega), if_pos (by omega)]
      · rw [if_neg h2] at h ⊢
        by_cases h3 : b.toNat < c.toNat
        · rw [if_pos h3] at h
          rw [if_pos (by omega)]
          omega
        · rw [if_neg h3] at h
          by_cases h4 : c.toNat < b.toNat
          · rw [if_pos h4] at h
            rw [if_neg (by omega), if_pos (by omega)]
            omega
          · rw [if_neg h4] at h
            rw [if_neg (by omega), if_neg (by omega)]
            exact ih h
theorem cmp_cons (a b : UInt8) (l m : List UInt8) : Lib.compareBytes (a :: l) (b :: m) = if a < b then -1 else if b < a then 1 else Lib.compareBytes l m := rfl
theorem cmp_prefix : ∀ (c a b : List UInt8), Lib.compareBytes (c ++ a) (c ++ b) = Lib.compareBytes a b
  | [], _, _ => rfl
  | x :: c, a, b => by
    have : ¬ x < x := fun h => by have := UInt8.lt_iff_toNat_lt.1 h; omega
    simp only [List.cons_append]
    rw [cmp_cons, if_neg this, if_neg this]
    exact cmp_prefix c a b
theorem cat_f {a b : ByteArray} (ha : a.size ≤ 4000) (hb : b.size ≤ 4000) : text_Cat.f a b = if a.size + b.size ≤ 4000 then some (a ++ b, 0) else some ((⟨#[]⟩ : ByteArray), 3) := by
  unfold text_Cat.f text_ranged.f text_Valid.f text_valid.f
  have h1 : ([a, b].all fun s => decide (s.size ≤ 4000)) = true := by simp [ha, hb]
  have h2 : (a ++ b).size = a.size + b.size := ByteArray.size_append
  simp only [h1, Option.bind_some, if_true]
  rw [if_pos (show a.size + b.size ≤ 9223372036854775807 by omega)]
  by_cases h : a.size + b.size ≤ 4000
  · have h3 : decide (((a ++ b).size : Int) ≤ 4000) = true := decide_eq_true (by omega)
    rw [if_pos h, h3]
    rfl
  · have h3 : decide (((a ++ b).size : Int) ≤ 4000) = false := decide_eq_false (by omega)
    rw [if_neg h, h3]
    rfl
theorem cmp_f (a b : ByteArray) : text_Compare.f a b = some (Lib.compareBytes a.data.toList b.data.toList) := rfl
theorem toList_eq (a : ByteArray) : a.toList = a.data.toList := ByteArray.toList_eq a
theorem cats_j0 (a b c : ByteArray) (k : Nat) : mjolnerlaw03_TextCats.j0 (k + 1) a b c true true = some true := rfl
theorem TextCats_law (a b c : ByteArray) (ha0 : a.size ≤ 1048576) (hb0 : b.size ≤ 1048576) (hc0 : c.size ≤ 1048576) : ∃ k, mjolnerlaw03_TextCats.f k a b c = some true := by
  refine ⟨0 + 1 + 1 + 1 + 1, ?_⟩
  unfold mjolnerlaw03_TextCats.f mjolnerlaw03_sane.f text_Valid.f
  simp only [Option.bind_some]
  by_cases ha : a.size ≤ 4000
  · by_cases hb : b.size ≤ 4000
    · by_cases hc : c.size ≤ 4000
      · rw [if_pos (decide_eq_true (by omega)), if_pos (decide_eq_true (by omega)), show (!decide ((c.size : Int) ≤ 4000)) = false by simp; omega]
        have e1 : (a ++ b).size = a.size + b.size := ByteArray.size_append
        have e2 : (b ++ c).size = b.size + c.size := ByteArray.size_append
        have l1 : ∀ (x y : ByteArray) (e f : Int), mjolnerlaw03_TextCats.j1 (0 + 1 + 1 + 1) a b c true x e y f = if e = 0 then ((text_Cat.f a x).bind fun bt300 => mjolnerlaw03_TextCats.j2 (0 + 1 + 1) a b c true y f bt300.1 bt300.2) else mjolnerlaw03_TextCats.j2 (0 + 1 + 1) a b c true y f x e := fun _ _ _ _ => rfl
        have l2 : ∀ (x : ByteArray) (e : Int), e = 0 ∨ e = 3 → mjolnerlaw03_TextCats.j2 (0 + 1 + 1) a b c true x e x e = some true := by
          intro x e he
          have l3 : mjolnerlaw03_TextCats.j3 (0 + 1) a b c true false = some true := by
            rw [mjolnerlaw03_TextCats.j3, if_neg (by decide)]
            have z0 : (⟨#[]⟩ : ByteArray).size = 0 := rfl
            have z1 : text_Cat.f a (⟨#[]⟩ : ByteArray) = some (a, 0) := by
              rw [cat_f ha (by decide), if_pos (by rw [z0]; exact ha)]
              show some (a ++ ByteArray.empty, (0 : Int)) = _
              rw [ByteArray.append_empty]
            have z2 : text_Cat.f (⟨#[]⟩ : ByteArray) a = some (a, 0) := by
              rw [cat_f (by decide) ha, if_pos (by rw [z0]; omega)]
              show some (ByteArray.empty ++ a, (0 : Int)) = _
              rw [ByteArray.empty_append]
            rw [z1, z2]
            simp only [cmp_f, Option.bind_some]
            have x1 := cmp_range a.data.toList b.data.toList
            have x2 := cmp_range b.data.toList a.data.toList
            have x3 := cmp_anti a.data.toList b.data.toList
            have x4 := cmp_zero a.data.toList b.data.toList
            have x5 := cmp_trans a.data.toList b.data.toList c.data.toList
            have x6 := cmp_prefix c.data.toList a.data.toList b.data.toList
            have x7 : (c ++ a).data.toList = c.data.toList ++ a.data.toList := by simp
            have x8 : (c ++ b).data.toList = c.data.toList ++ b.data.toList := by simp
            have x9 : wrap64 (-Lib.compareBytes b.data.toList a.data.toList) = -Lib.compareBytes b.data.toList a.data.toList := IntWalk.wrap64_in _ (by omega)
            rw [x7, x8, x6, x9, ← x3]
            generalize Lib.compareBytes a.data.toList b.data.toList = u at x1 x4 x5 ⊢
            generalize Lib.compareBytes b.data.toList c.data.toList = v at x5 ⊢
            have y1 : ((u == 0) != (a.toList == b.toList)) = false := by
              rw [toList_eq, toList_eq]
              by_cases h : a.data.toList = b.data.toList
              · rw [x4.2 h, h]; simp
              · have : ¬ u = 0 := fun e => h (x4.1 e)
                rw [beq_eq_false_iff_ne.2 this, beq_eq_false_iff_ne.2 h]; rfl
            have y2 : c.size + a.size ≤ 9223372036854775807 := by omega
            have y3 : c.size + b.size ≤ 9223372036854775807 := by omega
            have y4 : -1 ≤ u := by omega
            have y5 : u ≤ 1 := by omega
            by_cases huv : u = v
            · have x5' := x5 huv
              subst huv
              rw [x5']
              simp [y1, y2, y3, y4, y5]
            · simp [y1, y2, y3, y4, y5, huv]
          rcases he with rfl | rfl
          · exact (show _ = _ from by rw [mjolnerlaw03_TextCats.j2, if_pos rfl, if_pos rfl, if_pos rfl]; exact l3)
          · exact (show _ = _ from by rw [mjolnerlaw03_TextCats.j2, if_pos rfl, if_pos rfl, if_neg (by decide)]; exact l3)
        have hab := cat_f ha hb
        have hbc := cat_f hb hc
        rw [mjolnerlaw03_TextCats.j0, if_neg (by decide), hab, hbc]
        by_cases h1 : a.size + b.size ≤ 4000
        · rw [if_pos h1]
          have g1 : text_Cat.f (a ++ b) c = if a.size + b.size + c.size ≤ 4000 then some (a ++ b ++ c, 0) else some ((⟨#[]⟩ : ByteArray), 3) := by rw [cat_f (by omega) hc, e1]
          by_cases h2 : b.size + c.size ≤ 4000
          · rw [if_pos h2]
            have g2 : text_Cat.f a (b ++ c) = if a.size + (b.size + c.size) ≤ 4000 then some (a ++ (b ++ c), 0) else some ((⟨#[]⟩ : ByteArray), 3) := by rw [cat_f ha (by omega), e2]
            simp only [Option.bind_some, if_true]
            rw [g1]
            by_cases h3 : a.size + b.size + c.size ≤ 4000
            · rw [if_pos h3]
              simp only [Option.bind_some]
              rw [l1, if_pos rfl, g2, if_pos (by omega)]
              simp only [Option.bind_some]
              rw [ByteArray.append_assoc]
              exact l2 _ _ (.inl rfl)
            · rw [if_neg h3]
              simp only [Option.bind_some]
              rw [l1, if_pos rfl, g2, if_neg (by omega)]
              simp only [Option.bind_some]
              exact l2 _ _ (.inr rfl)
          · rw [if_neg h2]
            simp only [Option.bind_some, if_true]
            rw [g1, if_neg (by omega)]
            simp only [Option.bind_some]
            rw [l1, if_neg (by decide)]
            exact l2 _ _ (.inr rfl)
        · rw [if_neg h1]
          by_cases h2 : b.size + c.size ≤ 4000
          · rw [if_pos h2]
            have g2 : text_Cat.f a (b ++ c) = if a.size + (b.size + c.size) ≤ 4000 then some (a ++ (b ++ c), 0) else some ((⟨#[]⟩ : ByteArray), 3) := by rw [cat_f ha (by omega), e2]
            simp only [Option.bind_some]
            rw [if_neg (by decide), l1, if_pos rfl, g2, if_neg (by omega)]
            simp only [Option.bind_some]
            exact l2 _ _ (.inr rfl)
          · rw [if_neg h2]
            simp only [Option.bind_some]
            rw [if_neg (by decide), l1, if_neg (by decide)]
            exact l2 _ _ (.inr rfl)
      · rw [if_pos (decide_eq_true (by omega)), if_pos (decide_eq_true (by omega)), show (!decide ((c.size : Int) ≤ 4000)) = true by simp; omega]
        rfl
    · rw [if_pos (decide_eq_true (by omega)), if_neg (by simp; omega)]
      rfl
  · rw [if_neg (by simp; omega)]
    rfl
end Go.Proofs.YtdcemnmbfblmiaaDoor.PT
