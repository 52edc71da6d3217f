/- Plain: a text cut at one byte; the part that a piece of text is, read from its beginning on. -/
import Derived.Test.YtgkebfeggekkgaaDoorHr
import Derived.Lib.SplitLaws
set_option linter.unusedVariables false
set_option linter.unusedSimpArgs false
namespace Go.Proofs.YtgkebfeggekkgaaDoor.Given
open Go.RowKit Go.Proofs.YtgkebfeggekkgaaDoor.PT Go.Proofs.YtgkebfeggekkgaaDoorW.PrintWords

theorem pre1 (c b : UInt8) (l : List UInt8) : [c].isPrefixOf (b :: l) = (c == b) := by simp [List.isPrefixOf]
theorem index_none1 {c : UInt8} : ∀ {l : List UInt8}, c ∉ l → Lib.index l [c] = -1
  | [], _ => by rw [Lib.index]; rfl
  | b :: l, h => by
    rw [List.mem_cons, not_or] at h
    have hb : (c == b) = false := by rw [beq_eq_false_iff_ne]; exact h.1
    rw [Lib.index, pre1, hb, index_none1 h.2]
    rfl
theorem index_some1 {c : UInt8} {r : List UInt8} : ∀ {p : List UInt8}, c ∉ p → Lib.index (p ++ c :: r) [c] = (p.length : Int)
  | [], _ => by
    have hb : (c == c) = true := beq_self_eq_true c
    show Lib.index (c :: r) [c] = 0
    rw [Lib.index, pre1, hb]
    rfl
  | b :: p, h => by
    rw [List.mem_cons, not_or] at h
    have hb : (c == b) = false := by rw [beq_eq_false_iff_ne]; exact h.1
    have ih := index_some1 (r := r) h.2
    have hm : (Lib.index (p ++ c :: r) [c] == -1) = false := by rw [ih, beq_eq_false_iff_ne]; omega
    show Lib.index (b :: (p ++ c :: r)) [c] = _
    rw [Lib.index, pre1, hb, hm, ih]
    simp
theorem cut_none1 {c : UInt8} {l : List UInt8} (h : c ∉ l) : Lib.cut l [c] = (l, [], false) := by
  unfold Lib.cut
  rw [index_none1 h, if_neg (by decide)]
theorem cut_some1 {c : UInt8} {p r : List UInt8} (h : c ∉ p) : Lib.cut (p ++ c :: r) [c] = (p, r, true) := by
  unfold Lib.cut
  rw [index_some1 h, if_pos (by omega), Int.toNat_natCast, List.take_left' rfl, show p ++ c :: r = (p ++ [c]) ++ r by simp]
  rw [List.drop_left' (by simp)]
/-- a text cut at each place of a byte -/
def spl (c : UInt8) : List UInt8 → List (List UInt8)
  | [] => [[]]
  | b :: l => if b = c then [] :: spl c l else match spl c l with
    | [] => [[b]]
    | h :: t => (b :: h) :: t
theorem spl_cases (c : UInt8) : ∀ l : List UInt8, (c ∉ l ∧ spl c l = [l]) ∨ ∃ p r, l = p ++ c :: r ∧ c ∉ p ∧ spl c l = p :: spl c r
  | [] => .inl ⟨by simp, rfl⟩
  | b :: l => by
    by_cases hb : b = c
    · refine .inr ⟨[], l, by rw [hb]; rfl, by simp, ?_⟩
      rw [spl, if_pos hb]
    · rcases spl_cases c l with ⟨h1, h2⟩ | ⟨p, r, h1, h2, h3⟩
      · refine .inl ⟨?_, by rw [spl, if_neg hb, h2]⟩
        rw [List.mem_cons, not_or]
        exact ⟨fun e => hb e.symm, h1⟩
      · refine .inr ⟨b :: p, r, by rw [h1]; rfl, ?_, by rw [spl, if_neg hb, h3]⟩
        rw [List.mem_cons, not_or]
        exact ⟨fun e => hb e.symm, h2⟩
theorem splitK_spl (c : UInt8) : ∀ (n : Nat) (l : List UInt8), l.length ≤ n → Lib.splitK [c] 0 (Lib.count l [c]) l = spl c l := by
  intro n
  induction n with
  | zero =>
    intro l hl
    obtain rfl : l = [] := List.length_eq_zero_iff.1 (by omega)
    rw [Lib.count_miss (index_none1 (by simp))]
    rfl
  | succ n ih =>
    intro l hl
    rcases spl_cases c l with ⟨h1, h2⟩ | ⟨p, r, h1, h2, h3⟩
    · rw [h2, Lib.count_miss (index_none1 h1)]
      rfl
    · have hi : Lib.index l [c] = (p.length : Int) := by rw [h1]; exact index_some1 h2
      have hd : l.drop (p.length + [c].length) = r := by
        rw [h1, show p ++ c :: r = (p ++ [c]) ++ r by simp, List.drop_left' (by simp)]
      have hm : (Lib.index l [c] == -1) = false := by rw [hi, beq_eq_false_iff_ne]; omega
      rw [h3, Lib.count_hit (by simp) hi, hd, Nat.add_comm 1, Lib.splitK, hm, hi, Int.toNat_natCast, hd, ih r (by rw [h1] at hl; simp at hl; omega)]
      show l.take (p.length + 0) :: spl c r = _
      rw [h1, Nat.add_zero, List.take_left' rfl]
theorem pieces_spl (s : ByteArray) : (piecesB s).map (fun x => x.data.toList) = spl 47 s.data.toList := by
  unfold piecesB
  rw [Lib.splitB_data]
  exact splitK_spl 47 _ _ (Nat.le_refl _)
/-- the number of digits -/
def valN : Nat → List UInt8 → Nat
  | n, [] => n
  | n, b :: r => valN (10 * n + (b.toNat - 48)) r
theorem digV_all : ∀ (l : List UInt8) (n : Nat), l.all digB = true → digV n l = some (valN n l)
  | [], n, _ => rfl
  | b :: r, n, h => by
    rw [List.all_cons, Bool.and_eq_true] at h
    rw [digV, if_pos h.1, digV_all r _ h.2]
    rfl
theorem digV_not : ∀ (l : List UInt8) (n : Nat), l.all digB = false → digV n l = none
  | [], n, h => by cases h
  | b :: r, n, h => by
    rw [List.all_cons, Bool.and_eq_false_iff] at h
    rw [digV]
    by_cases hb : digB b = true
    · rw [if_pos hb]
      rcases h with h | h
      · rw [hb] at h
        cases h
      · exact digV_not r _ h
    · rw [if_neg hb]
/-- a number at the beginning of a text, and what is behind it -/
def numR (l : List UInt8) : Option (Nat × List UInt8) :=
  if l.takeWhile digB = [] ∨ 18 < (l.takeWhile digB).length ∨ (1 < (l.takeWhile digB).length ∧ l.head? = some 48) then none else some (valN 0 (l.takeWhile digB), l.dropWhile digB)
theorem tw_append {p t : List UInt8} (ht : ∀ b r, t = b :: r → digB b = false) : (p ++ t).takeWhile digB = p.takeWhile digB ∧ (p ++ t).dropWhile digB = p.dropWhile digB ++ t := by
  induction p with
  | nil =>
    cases t with
    | nil => exact ⟨rfl, rfl⟩
    | cons b r =>
      have := ht b r rfl
      constructor
      · show (b :: r).takeWhile digB = []
        rw [List.takeWhile_cons, this]
        rfl
      · show (b :: r).dropWhile digB = b :: r
        rw [List.dropWhile_cons, this]
        rfl
  | cons a p ih =>
    rw [List.cons_append, List.takeWhile_cons, List.takeWhile_cons, List.dropWhile_cons, List.dropWhile_cons]
    cases digB a with
    | true => exact ⟨by rw [if_pos rfl, if_pos rfl, ih.1], by rw [if_pos rfl, if_pos rfl, ih.2]⟩
    | false => exact ⟨rfl, rfl⟩
theorem tw_head (l : List UInt8) (h : l.takeWhile digB ≠ []) : l.head? = (l.takeWhile digB).head? := by
  cases l with
  | nil => rfl
  | cons a p =>
    rw [List.takeWhile_cons] at h ⊢
    cases hd : digB a with
    | true => rfl
    | false => rw [hd] at h; exact absurd rfl h
theorem numR_append {p t : List UInt8} (ht : ∀ b r, t = b :: r → digB b = false) : numR (p ++ t) = (numR p).map fun x => (x.1, x.2 ++ t) := by
  unfold numR
  obtain ⟨h1, h2⟩ := tw_append (p := p) ht
  rw [h1, h2]
  by_cases h0 : p.takeWhile digB = []
  · rw [if_pos (.inl h0), if_pos (.inl h0)]
    rfl
  · rw [tw_head (p ++ t) (by rw [h1]; exact h0), tw_head p h0, h1]
    split
    · rfl
    · rfl
theorem tw_all {l : List UInt8} (h : l.all digB = true) : l.takeWhile digB = l ∧ l.dropWhile digB = [] := by
  induction l with
  | nil => exact ⟨rfl, rfl⟩
  | cons a p ih =>
    rw [List.all_cons, Bool.and_eq_true] at h
    rw [List.takeWhile_cons, List.dropWhile_cons, h.1, if_pos rfl, if_pos rfl, (ih h.2).1]
    exact ⟨rfl, (ih h.2).2⟩
theorem dw_ne {l : List UInt8} (h : l.all digB = false) : l.dropWhile digB ≠ [] := by
  induction l with
  | nil => cases h
  | cons a p ih =>
    rw [List.all_cons, Bool.and_eq_false_iff] at h
    rw [List.dropWhile_cons]
    cases hd : digB a with
    | true =>
      rw [if_pos rfl]
      rcases h with h | h
      · rw [hd] at h
        cases h
      · exact ih h
    | false => exact fun e => by cases e
/-- a whole text is a number if the number at its beginning is all of it -/
theorem numV_numR (l : List UInt8) : numV l = match numR l with | some (n, []) => some n | _ => none := by
  unfold numV numR
  cases ha : l.all digB with
  | true =>
    obtain ⟨h1, h2⟩ := tw_all ha
    rw [h1, h2, digV_all l 0 ha]
    split <;> rfl
  | false =>
    have hne := dw_ne ha
    rw [digV_not l 0 ha]
    cases hd : l.dropWhile digB with
    | nil => exact absurd hd hne
    | cons x r =>
      split <;> split <;> simp_all
/-- the part at the beginning of a text, and what is behind it -/
def readR (l : List UInt8) : Option (S31 × List UInt8) :=
  match numR l with
  | none => none
  | some (d, 64 :: r1) => match numR r1 with
    | none => none
    | some (o, 46 :: r2) => if o = 0 then none else match numR r2 with
      | none => none
      | some (k, r3) => some (⟨d, o, k⟩, r3)
    | some (o, _) => none
  | some (d, r1) => some (⟨d, 0, 0⟩, r1)
theorem readR_none {l : List UInt8} (h : numR l = none) : readR l = none := by
  unfold readR
  rw [h]
theorem readR_at {l r1 : List UInt8} {d : Nat} (h : numR l = some (d, 64 :: r1)) : readR l = match numR r1 with
    | none => none
    | some (o, 46 :: r2) => if o = 0 then none else match numR r2 with
      | none => none
      | some (k, r3) => some (⟨d, o, k⟩, r3)
    | some (o, _) => none := by
  unfold readR
  rw [h]
  rfl
theorem readR_plain {l r1 : List UInt8} {d : Nat} (h : numR l = some (d, r1)) (h1 : ∀ r, r1 ≠ 64 :: r) : readR l = some (⟨d, 0, 0⟩, r1) := by
  unfold readR
  rw [h]
  split
  · rename_i e; cases e
  · rename_i a r2 e
    have := (Prod.mk.inj (Option.some.inj e)).2
    exact absurd this (h1 _)
  · rename_i a r2 _ e
    obtain ⟨rfl, rfl⟩ := Prod.mk.inj (Option.some.inj e)
    rfl
theorem mem_drop {c : UInt8} {l : List UInt8} (h : c ∉ l) : c ∉ l.dropWhile digB := fun hm => h ((List.dropWhile_suffix digB).sublist.subset hm)
theorem numR_rest {l r : List UInt8} {n : Nat} (h : numR l = some (n, r)) : r = l.dropWhile digB := by
  unfold numR at h
  split at h
  · cases h
  · exact (Prod.mk.inj (Option.some.inj h)).2.symm
theorem dig64 : digB 64 = false := by decide
theorem dig46 : digB 46 = false := by decide
theorem dig47 : digB 47 = false := by decide
theorem hd_dig {c : UInt8} (hc : digB c = false) (r : List UInt8) : ∀ b x, c :: r = b :: x → digB b = false := by
  intro b x e
  rw [← (List.cons.inj e).1]
  exact hc
/-- behind the at: the object and the index -/
def tailR (d : Nat) (l : List UInt8) : Option (S31 × List UInt8) :=
  match numR l with
  | none => none
  | some (o, 46 :: r2) => if o = 0 then none else match numR r2 with
    | none => none
    | some (k, r3) => some (⟨d, o, k⟩, r3)
  | some (o, _) => none
theorem readR_at' {l r1 : List UInt8} {d : Nat} (h : numR l = some (d, 64 :: r1)) : readR l = tailR d r1 := readR_at h
theorem tailR_none {l : List UInt8} {d : Nat} (h : numR l = none) : tailR d l = none := by unfold tailR; rw [h]
theorem tailR_point {l r2 : List UInt8} {d o : Nat} (h : numR l = some (o, 46 :: r2)) : tailR d l = if o = 0 then none else (numR r2).map fun x => (⟨d, o, x.1⟩, x.2) := by
  unfold tailR
  rw [h]
  show (if o = 0 then none else match numR r2 with | none => none | some (k, r3) => some ((⟨d, o, k⟩ : S31), r3)) = _
  cases numR r2 <;> rfl
theorem tailR_other {l r2 : List UInt8} {d o : Nat} (h : numR l = some (o, r2)) (h1 : ∀ r, r2 ≠ 46 :: r) : tailR d l = none := by
  unfold tailR
  rw [h]
  split
  · rfl
  · rename_i a r3 e
    exact absurd (Prod.mk.inj (Option.some.inj e)).2 (h1 _)
  · rfl
/-- a piece without slashes, read in a longer text -/
theorem tailR_append {d : Nat} {l t : List UInt8} (ht : ∀ b r, t = b :: r → b = 47) : tailR d (l ++ t) = (tailR d l).map fun x => (x.1, x.2 ++ t) := by
  have htd : ∀ b r, t = b :: r → digB b = false := fun b r e => by rw [ht b r e]; exact dig47
  have hn := numR_append (p := l) htd
  cases h : numR l with
  | none =>
    rw [h] at hn
    rw [tailR_none hn, tailR_none h]
    rfl
  | some x =>
    obtain ⟨o, r⟩ := x
    rw [h] at hn
    have hn' : numR (l ++ t) = some (o, r ++ t) := hn
    by_cases hr : ∃ r2, r = 46 :: r2
    · obtain ⟨r2, rfl⟩ := hr
      rw [tailR_point (r2 := r2 ++ t) hn', tailR_point h, numR_append htd]
      by_cases ho : o = 0
      · rw [if_pos ho, if_pos ho]
        rfl
      · rw [if_neg ho, if_neg ho]
        cases numR r2 <;> rfl
    · rw [tailR_other hn', tailR_other h]
      · rfl
      · exact fun r2 e => hr ⟨r2, e⟩
      · intro r2 e
        cases r with
        | nil =>
          have := ht 46 r2 e
          cases this
        | cons a r' =>
          have : a = 46 := (List.cons.inj e).1
          exact hr ⟨r', by rw [this]⟩
theorem readR_append {l t : List UInt8} (ht : ∀ b r, t = b :: r → b = 47) : readR (l ++ t) = (readR l).map fun x => (x.1, x.2 ++ t) := by
  have htd : ∀ b r, t = b :: r → digB b = false := fun b r e => by rw [ht b r e]; exact dig47
  have hn := numR_append (p := l) htd
  cases h : numR l with
  | none =>
    rw [h] at hn
    rw [readR_none hn, readR_none h]
    rfl
  | some x =>
    obtain ⟨d, r⟩ := x
    rw [h] at hn
    have hn' : numR (l ++ t) = some (d, r ++ t) := hn
    by_cases hr : ∃ r2, r = 64 :: r2
    · obtain ⟨r2, rfl⟩ := hr
      rw [readR_at' (r1 := r2 ++ t) hn', readR_at' h, tailR_append ht]
    · rw [readR_plain hn', readR_plain h]
      · rfl
      · exact fun r2 e => hr ⟨r2, e⟩
      · intro r2 e
        cases r with
        | nil =>
          have := ht 64 r2 e
          cases this
        | cons a r' =>
          have : a = 64 := (List.cons.inj e).1
          exact hr ⟨r', by rw [this]⟩
theorem mem_cases (c : UInt8) (l : List UInt8) : c ∉ l ∨ ∃ p r, l = p ++ c :: r ∧ c ∉ p := by
  rcases spl_cases c l with ⟨h, _⟩ | ⟨p, r, h1, h2, _⟩
  · exact .inl h
  · exact .inr ⟨p, r, h1, h2⟩
/-- all of a text, read -/
def fullR (x : Option (S31 × List UInt8)) : Option S31 := match x with | some (x, []) => some x | _ => none
theorem tail_full (d : Nat) (a : List UInt8) : (if (Lib.cut a [46]).2.2 = true then match numV (Lib.cut a [46]).1 with
      | none => none
      | some o => match numV (Lib.cut a [46]).2.1 with
        | none => none
        | some b => if o = 0 then none else some (⟨d, o, b⟩ : S31)
    else none) = fullR (tailR d a) := by
  rcases mem_cases 46 a with h | ⟨p, r, rfl, h⟩
  · rw [cut_none1 h, if_neg (fun e => by cases e)]
    cases hn : numR a with
    | none => rw [tailR_none hn]; rfl
    | some x =>
      obtain ⟨o, r⟩ := x
      rw [tailR_other hn]
      · rfl
      · intro r2 e
        have := numR_rest hn
        apply mem_drop h
        rw [← this, e]
        exact List.mem_cons_self ..
  · rw [cut_some1 h]
    show (match numV p with
      | none => none
      | some o => match numV r with
        | none => none
        | some b => if o = 0 then none else some (⟨d, o, b⟩ : S31)) = _
    have hn := numR_append (p := p) (t := 46 :: r) (hd_dig dig46 r)
    rw [numV_numR p, numV_numR r]
    cases hp : numR p with
    | none =>
      rw [hp] at hn
      rw [tailR_none hn]
      rfl
    | some x =>
      obtain ⟨o, q⟩ := x
      rw [hp] at hn
      have hn' : numR (p ++ 46 :: r) = some (o, q ++ 46 :: r) := hn
      cases q with
      | nil =>
        rw [tailR_point (r2 := r) hn']
        show (match (match numR r with | some (n, []) => some n | _ => none) with
        | none => none
        | some b => if o = 0 then none else some (⟨d, o, b⟩ : S31)) = _
        by_cases ho : o = 0
        · rw [if_pos ho]
          show _ = none
          split
          · rfl
          · rw [if_pos ho]
        · rw [if_neg ho]
          cases hr : numR r with
          | none => rfl
          | some y =>
            obtain ⟨k, z⟩ := y
            cases z with
            | nil =>
              show (if o = 0 then none else some (⟨d, o, k⟩ : S31)) = _
              rw [if_neg ho]
              rfl
            | cons => rfl
      | cons c q =>
        rw [tailR_other hn']
        · rfl
        · intro r2 e
          have hc : c = 46 := (List.cons.inj e).1
          have := numR_rest hp
          apply mem_drop h
          rw [← this, hc]
          exact List.mem_cons_self ..
theorem partV_def (t : List UInt8) : partV t = match numV (Lib.cut t [64]).1 with
  | none => none
  | some n => if (Lib.cut t [64]).2.2 = true then
      (if (Lib.cut (Lib.cut t [64]).2.1 [46]).2.2 = true then
        match numV (Lib.cut (Lib.cut t [64]).2.1 [46]).1 with
        | none => none
        | some a => match numV (Lib.cut (Lib.cut t [64]).2.1 [46]).2.1 with
          | none => none
          | some b => if a = 0 then none else some ⟨n, a, b⟩
      else none)
    else some ⟨n, 0, 0⟩ := rfl
theorem part_full (t : List UInt8) : partV t = fullR (readR t) := by
  rw [partV_def]
  rcases mem_cases 64 t with h | ⟨p, r, rfl, h⟩
  · rw [cut_none1 h]
    show (match numV t with
      | none => none
      | some n => some (⟨n, 0, 0⟩ : S31)) = _
    rw [numV_numR]
    cases hn : numR t with
    | none => rw [readR_none hn]; rfl
    | some x =>
      obtain ⟨d, q⟩ := x
      rw [readR_plain hn]
      · cases q <;> rfl
      · intro r2 e
        have := numR_rest hn
        apply mem_drop h
        rw [← this, e]
        exact List.mem_cons_self ..
  · rw [cut_some1 h]
    show (match numV p with
      | none => none
      | some n => (if (Lib.cut r [46]).2.2 = true then
        match numV (Lib.cut r [46]).1 with
        | none => none
        | some a => match numV (Lib.cut r [46]).2.1 with
          | none => none
          | some b => if a = 0 then none else some (⟨n, a, b⟩ : S31)
      else none)) = _
    have hn := numR_append (p := p) (t := 64 :: r) (hd_dig dig64 r)
    rw [numV_numR p]
    cases hp : numR p with
    | none =>
      rw [hp] at hn
      rw [readR_none hn]
      rfl
    | some x =>
      obtain ⟨d, q⟩ := x
      rw [hp] at hn
      have hn' : numR (p ++ 64 :: r) = some (d, q ++ 64 :: r) := hn
      cases q with
      | nil =>
        rw [readR_at' (r1 := r) hn']
        exact tail_full d r
      | cons c q =>
        have hq : ∀ r2, (c :: q) ++ 64 :: r ≠ 64 :: r2 := by
          intro r2 e
          have hc : c = 64 := (List.cons.inj e).1
          have := numR_rest hp
          apply mem_drop h
          rw [← this, hc]
          exact List.mem_cons_self ..
        rw [readR_plain hn' hq]
        rfl
end Go.Proofs.YtgkebfeggekkgaaDoor.Given
