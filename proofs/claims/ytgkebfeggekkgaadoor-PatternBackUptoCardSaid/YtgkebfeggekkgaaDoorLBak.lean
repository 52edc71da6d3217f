/- THE PLAIN LAW of PatternBack. -/
import Derived.Test.YtgkebfeggekkgaaDoorPTx49
import Derived.Test.YtgkebfeggekkgaaDoorJ2
set_option linter.unusedVariables false
set_option linter.unusedSimpArgs false
set_option linter.unusedSectionVars false
namespace Go.Proofs.YtgkebfeggekkgaaDoor.Given
open Go.RowKit Go.Proofs.YtgkebfeggekkgaaDoor.PT Go.Proofs.YtgkebfeggekkgaaDoorW.PrintWords

theorem app_dl' (a b : ByteArray) : (a ++ b).data.toList = a.data.toList ++ b.data.toList := by simp
/-- a part's text, by its digits -/
def partD (x : S31) : List UInt8 := if x.f1 = 0 then Lib.decDigits x.f0.toNat else Lib.decDigits x.f0.toNat ++ 64 :: (Lib.decDigits x.f1.toNat ++ 46 :: Lib.decDigits x.f2.toNat)
theorem ok_nat {x : S31} (h : okP x = true) : 0 ≤ x.f0 ∧ 0 ≤ x.f1 ∧ 0 ≤ x.f2 ∧ (x.f1 = 0 → x.f2 = 0) := by
  unfold okP at h
  simp only [Bool.and_eq_true, Bool.or_eq_true, Bool.not_eq_true', decide_eq_true_eq, decide_eq_false_iff_not] at h
  obtain ⟨⟨⟨h0, h1⟩, h2⟩, h3⟩ := h
  exact ⟨h0, h1, h2, fun e => by rcases h3 with h3 | h3; exact absurd e h3; exact h3⟩
theorem itoa_dec {n : Int} (h : 0 ≤ n) : (itoaS n).data.toList = Lib.decDigits n.toNat := by
  unfold itoaS Lib.itoa
  rw [if_neg (by omega)]
theorem partS_D {x : S31} (h : okP x = true) : (partS x).data.toList = partD x := by
  obtain ⟨h0, h1, h2, _⟩ := ok_nat h
  unfold partS partD
  by_cases hf : x.f1 = 0
  · rw [if_pos hf, if_pos hf, itoa_dec h0]
  · rw [if_neg hf, if_neg hf]
    have e1 : (⟨#[64]⟩ : ByteArray).data.toList = [64] := rfl
    have e2 : (⟨#[46]⟩ : ByteArray).data.toList = [46] := rfl
    rw [app_dl', app_dl', app_dl', app_dl', itoa_dec h0, itoa_dec h1, itoa_dec h2, e1, e2]
    simp
theorem dec_mem {u : Nat} {c : UInt8} (hc : digB c = false) : c ∉ Lib.decDigits u := by
  intro hm
  have := (List.all_eq_true.1 (dec_facts (u + 1) u (by omega)).1) c hm
  rw [hc] at this
  cases this
theorem part_no47 (x : S31) : (47 : UInt8) ∉ partD x := by
  unfold partD
  by_cases hf : x.f1 = 0
  · rw [if_pos hf]
    exact dec_mem dig47
  · rw [if_neg hf]
    intro hm
    rcases List.mem_append.1 hm with h | h
    · exact dec_mem dig47 h
    · rcases List.mem_cons.1 h with h | h
      · cases h
      · rcases List.mem_append.1 h with h | h
        · exact dec_mem dig47 h
        · rcases List.mem_cons.1 h with h | h
          · cases h
          · exact dec_mem dig47 h
/-- a part whose numbers have at most 18 digits -/
def smallP (x : S31) : Bool := decide ((Lib.decDigits x.f0.toNat).length ≤ 18) && (decide ((Lib.decDigits x.f1.toNat).length ≤ 18) && decide ((Lib.decDigits x.f2.toNat).length ≤ 18))
theorem part_read {x : S31} (h : okP x = true) : partV (partD x) = some x ∨ partV (partD x) = none ∧ smallP x = false := by
  obtain ⟨h0, h1, h2, h3⟩ := ok_nat h
  rw [partV_def]
  unfold partD
  by_cases hf : x.f1 = 0
  · rw [if_pos hf, cut_none1 (dec_mem dig64)]
    show (match numV (Lib.decDigits x.f0.toNat) with
      | none => none
      | some n => some (⟨n, 0, 0⟩ : S31)) = _ ∨ (match numV (Lib.decDigits x.f0.toNat) with
      | none => none
      | some n => some (⟨n, 0, 0⟩ : S31)) = _ ∧ _
    rw [dec_num]
    by_cases hl : (Lib.decDigits x.f0.toNat).length ≤ 18
    · left
      rw [if_pos hl]
      show some (⟨(x.f0.toNat : Int), 0, 0⟩ : S31) = some x
      congr 1
      rw [S31.ext_iff']
      exact ⟨by show (x.f0.toNat : Int) = x.f0; omega, by show (0 : Int) = x.f1; omega, by show (0 : Int) = x.f2; have := h3 hf; omega⟩
    · right
      rw [if_neg hl]
      exact ⟨rfl, by unfold smallP; rw [decide_eq_false hl]; rfl⟩
  · rw [if_neg hf, cut_some1 (dec_mem dig64)]
    show (match numV (Lib.decDigits x.f0.toNat) with
      | none => none
      | some n => (if (Lib.cut (Lib.decDigits x.f1.toNat ++ 46 :: Lib.decDigits x.f2.toNat) [46]).2.2 = true then
        match numV (Lib.cut (Lib.decDigits x.f1.toNat ++ 46 :: Lib.decDigits x.f2.toNat) [46]).1 with
        | none => none
        | some a => match numV (Lib.cut (Lib.decDigits x.f1.toNat ++ 46 :: Lib.decDigits x.f2.toNat) [46]).2.1 with
          | none => none
          | some b => if a = 0 then none else some (⟨n, a, b⟩ : S31)
      else none)) = _ ∨ (match numV (Lib.decDigits x.f0.toNat) with
      | none => none
      | some n => (if (Lib.cut (Lib.decDigits x.f1.toNat ++ 46 :: Lib.decDigits x.f2.toNat) [46]).2.2 = true then
        match numV (Lib.cut (Lib.decDigits x.f1.toNat ++ 46 :: Lib.decDigits x.f2.toNat) [46]).1 with
        | none => none
        | some a => match numV (Lib.cut (Lib.decDigits x.f1.toNat ++ 46 :: Lib.decDigits x.f2.toNat) [46]).2.1 with
          | none => none
          | some b => if a = 0 then none else some (⟨n, a, b⟩ : S31)
      else none)) = _ ∧ _
    rw [cut_some1 (dec_mem dig46)]
    show (match numV (Lib.decDigits x.f0.toNat) with
      | none => none
      | some n => (match numV (Lib.decDigits x.f1.toNat) with
        | none => none
        | some a => match numV (Lib.decDigits x.f2.toNat) with
          | none => none
          | some b => if a = 0 then none else some (⟨n, a, b⟩ : S31))) = _ ∨ (match numV (Lib.decDigits x.f0.toNat) with
      | none => none
      | some n => (match numV (Lib.decDigits x.f1.toNat) with
        | none => none
        | some a => match numV (Lib.decDigits x.f2.toNat) with
          | none => none
          | some b => if a = 0 then none else some (⟨n, a, b⟩ : S31))) = _ ∧ _
    rw [dec_num, dec_num, dec_num]
    by_cases l0 : (Lib.decDigits x.f0.toNat).length ≤ 18
    · rw [if_pos l0]
      by_cases l1 : (Lib.decDigits x.f1.toNat).length ≤ 18
      · rw [if_pos l1]
        by_cases l2 : (Lib.decDigits x.f2.toNat).length ≤ 18
        · left
          rw [if_pos l2]
          show (if x.f1.toNat = 0 then none else some (⟨(x.f0.toNat : Int), (x.f1.toNat : Int), (x.f2.toNat : Int)⟩ : S31)) = some x
          rw [if_neg (by omega)]
          congr 1
          rw [S31.ext_iff']
          exact ⟨by show (x.f0.toNat : Int) = x.f0; omega, by show (x.f1.toNat : Int) = x.f1; omega, by show (x.f2.toNat : Int) = x.f2; omega⟩
        · right
          rw [if_neg l2]
          exact ⟨rfl, by unfold smallP; rw [decide_eq_false l2, Bool.and_false, Bool.and_false]⟩
      · right
        rw [if_neg l1]
        exact ⟨rfl, by unfold smallP; rw [decide_eq_false l1, Bool.false_and, Bool.and_false]⟩
    · right
      rw [if_neg l0]
      exact ⟨rfl, by unfold smallP; rw [decide_eq_false l0, Bool.false_and]⟩
theorem nat_in {n : Nat} (h : n < 1000000000000000000) : inI (n : Int) = true := by
  unfold inI
  rw [Bool.and_eq_true, decide_eq_true_iff, decide_eq_true_iff]
  omega
/-- what is read as a part is its text -/
theorem part_back {t : List UInt8} {x : S31} (h : partV t = some x) : partD x = t ∧ okP x = true ∧ inI3 x = true := by
  rw [partV_def] at h
  have ok1 : ∀ n : Nat, n < 1000000000000000000 → okP ⟨n, 0, 0⟩ = true ∧ inI3 ⟨n, 0, 0⟩ = true := fun n hn => by
    refine ⟨?_, ?_⟩
    · unfold okP
      simp
    · unfold inI3
      rw [nat_in hn]
      rfl
  rcases mem_cases 64 t with h1 | ⟨p, r, rfl, h1⟩
  · rw [cut_none1 h1] at h
    have h' : (match numV t with
      | none => none
      | some n => some (⟨n, 0, 0⟩ : S31)) = some x := h
    cases hn : numV t with
    | none => rw [hn] at h'; cases h'
    | some n =>
      rw [hn] at h'
      obtain ⟨hd, hlt⟩ := num_dec hn
      have hx : (⟨n, 0, 0⟩ : S31) = x := Option.some.inj h'
      subst hx
      exact ⟨by unfold partD; rw [if_pos rfl]; exact hd, (ok1 n hlt).1, (ok1 n hlt).2⟩
  · rw [cut_some1 h1] at h
    have h' : (match numV p with
      | none => none
      | some n => (if (Lib.cut r [46]).2.2 = true then
        match numV (Lib.cut r [46]).1 with
        | none => none
        | some a => match numV (Lib.cut r [46]).2.1 with
          | none => none
          | some b => if a = 0 then none else some (⟨n, a, b⟩ : S31)
      else none)) = some x := h
    cases hn : numV p with
    | none => rw [hn] at h'; cases h'
    | some n =>
      rw [hn] at h'
      obtain ⟨hd, hlt⟩ := num_dec hn
      rcases mem_cases 46 r with h2 | ⟨p2, r2, rfl, h2⟩
      · rw [cut_none1 h2] at h'
        cases h'
      · rw [cut_some1 h2] at h'
        have h'' : (match numV p2 with
          | none => none
          | some a => match numV r2 with
            | none => none
            | some b => if a = 0 then none else some (⟨n, a, b⟩ : S31)) = some x := h'
        cases ha : numV p2 with
        | none => rw [ha] at h''; cases h''
        | some a =>
          rw [ha] at h''
          cases hb : numV r2 with
          | none => rw [hb] at h''; cases h''
          | some b =>
            rw [hb] at h''
            have h3 : (if a = 0 then none else some (⟨n, a, b⟩ : S31)) = some x := h''
            by_cases ha0 : a = 0
            · rw [if_pos ha0] at h3
              cases h3
            · rw [if_neg ha0] at h3
              obtain ⟨hda, hla⟩ := num_dec ha
              obtain ⟨hdb, hlb⟩ := num_dec hb
              have hx : (⟨n, a, b⟩ : S31) = x := Option.some.inj h3
              subst hx
              have hne : ¬ (a : Int) = 0 := by omega
              refine ⟨?_, ?_, ?_⟩
              · unfold partD
                rw [if_neg hne]
                show Lib.decDigits n ++ 64 :: (Lib.decDigits a ++ 46 :: Lib.decDigits b) = _
                rw [hd, hda, hdb]
              · unfold okP
                show (decide ((0 : Int) ≤ (n : Int)) && decide ((0 : Int) ≤ (a : Int)) && decide ((0 : Int) ≤ (b : Int)) && (!decide ((a : Int) = 0) || decide ((b : Int) = 0))) = true
                rw [decide_eq_true (Int.natCast_nonneg n), decide_eq_true (Int.natCast_nonneg a), decide_eq_true (Int.natCast_nonneg b), decide_eq_false hne]
                rfl
              · unfold inI3
                rw [nat_in hlt, nat_in hla, nat_in hlb]
                rfl
theorem parts_back : ∀ {ps : List (List UInt8)} {q : List S31}, partsV ps = some q → q.map partD = ps ∧ q.all okP = true ∧ q.all inI3 = true
  | [], q, h => by cases h; exact ⟨rfl, rfl, rfl⟩
  | p :: ps, q, h => by
    rw [partsV] at h
    cases hp : partV p with
    | none => rw [hp] at h; cases h
    | some x =>
      rw [hp] at h
      cases hq : partsV ps with
      | none => rw [hq] at h; cases h
      | some r =>
        rw [hq] at h
        have hx : x :: r = q := Option.some.inj h
        subst hx
        obtain ⟨a1, a2, a3⟩ := part_back hp
        obtain ⟨b1, b2, b3⟩ := parts_back hq
        exact ⟨by rw [List.map_cons, a1, b1], by rw [List.all_cons, a2, b2]; rfl, by rw [List.all_cons, a3, b3]; rfl⟩
theorem parts_read : ∀ {q : List S31}, q.all okP = true → partsV (q.map partD) = some q ∨ partsV (q.map partD) = none ∧ q.all smallP = false
  | [], _ => .inl rfl
  | x :: r, h => by
    rw [List.all_cons, Bool.and_eq_true] at h
    rw [List.map_cons, partsV, List.all_cons]
    rcases part_read h.1 with h1 | ⟨h1, h2⟩
    · rw [h1]
      rcases parts_read h.2 with h3 | ⟨h3, h4⟩
      · left
        show (partsV (r.map partD)).map (x :: ·) = _
        rw [h3]
        rfl
      · right
        refine ⟨?_, by rw [h4, Bool.and_false]⟩
        show (partsV (r.map partD)).map (x :: ·) = _
        rw [h3]
        rfl
    · right
      rw [h1, h2]
      exact ⟨rfl, rfl⟩
/-- cut and joined -/
theorem spl_join : ∀ (ps : List (List UInt8)), (∀ p ∈ ps, (47 : UInt8) ∉ p) → ∀ p, (47 : UInt8) ∉ p → spl 47 (p ++ Lib.joinTail [47] ps) = p :: ps
  | [], _, p, hp => by
    show spl 47 (p ++ []) = [p]
    rw [List.append_nil]
    rcases spl_cases 47 p with ⟨_, h⟩ | ⟨a, b, h, _, _⟩
    · exact h
    · rw [h] at hp
      exact absurd (by simp) hp
  | q :: ps, h, p, hp => by
    have hq := h q (List.mem_cons_self ..)
    have ih := spl_join ps (fun x hx => h x (List.mem_cons_of_mem _ hx)) q hq
    have e : p ++ Lib.joinTail [47] (q :: ps) = p ++ 47 :: (q ++ Lib.joinTail [47] ps) := by simp [Lib.joinTail]
    rw [e]
    have key : ∀ (p r : List UInt8), (47 : UInt8) ∉ p → spl 47 (p ++ 47 :: r) = p :: spl 47 r := by
      intro p r hp
      induction p with
      | nil =>
        show spl 47 (47 :: r) = _
        rw [spl, if_pos rfl]
      | cons a p ihp =>
        rw [List.mem_cons, not_or] at hp
        show spl 47 (a :: (p ++ 47 :: r)) = _
        rw [spl, if_neg (fun e => hp.1 e.symm), ihp hp.2]
    rw [key p _ hp, ih]
theorem join_spl : ∀ (n : Nat) (l : List UInt8), l.length ≤ n → ∃ p ps, spl 47 l = p :: ps ∧ l = p ++ Lib.joinTail [47] ps
  | 0, l, h => by
    obtain rfl : l = [] := List.length_eq_zero_iff.1 (by omega)
    exact ⟨[], [], rfl, rfl⟩
  | n + 1, l, h => by
    rcases spl_cases 47 l with ⟨_, h2⟩ | ⟨p, r, h1, _, h3⟩
    · exact ⟨l, [], h2, by simp [Lib.joinTail]⟩
    · obtain ⟨p2, ps, h4, h5⟩ := join_spl n r (by rw [h1] at h; simp at h; omega)
      refine ⟨p, p2 :: ps, by rw [h3, h4], ?_⟩
      rw [h1]
      conv => lhs; rw [h5]
      simp [Lib.joinTail]
theorem check_all {l : List S31} (h : checkL l = 0) : l.all okP = true := by
  have := checkL_small h
  unfold checkL at h
  rw [if_neg (by omega)] at h
  cases ha : l.all okP with
  | true => rfl
  | false => rw [ha] at h; cases h
theorem map_D {l : List S31} (h : l.all okP = true) : (l.map partS).map (fun x => x.data.toList) = l.map partD := by
  rw [List.map_map]
  exact List.map_congr_left fun x hx => partS_D (List.all_eq_true.1 h x hx)
theorem print_dl {x : S31} {r : List S31} (h : (x :: r).all okP = true) : (printS (x :: r)).data.toList = partD x ++ Lib.joinTail [47] (r.map partD) := by
  unfold printS
  rw [if_neg (by simp)]
  show (Lib.join (((x :: r).map partS).map fun y => y.data.toList) [47]).toArray.toList = _
  rw [map_D h, List.map_cons, Lib.join_cons]
/-- what is printed is read as it was, if it is read at all -/
theorem parse_print {l : List S31} (h : checkL l = 0) : parseV (printS l) = (l, 0) ∨ (parseV (printS l)).2 = 7 ∧ l.all smallP = false := by
  have ha := check_all h
  have h40 := checkL_small h
  cases l with
  | nil =>
    left
    rfl
  | cons x r =>
    have hd := print_dl ha
    have hsp : spl 47 (printS (x :: r)).data.toList = (x :: r).map partD := by
      rw [hd]
      exact spl_join (r.map partD) (fun p hp => by
        simp only [List.mem_map] at hp
        obtain ⟨y, _, rfl⟩ := hp
        exact part_no47 y) (partD x) (part_no47 x)
    have hno : ¬ (printS (x :: r)).data.toList = objectL := by
      intro e
      rw [hd] at e
      have hne : ∃ b q, partD x = b :: q ∧ digB b = true := by
        obtain ⟨f1, _, f3, _⟩ := dec_facts (x.f0.toNat + 1) x.f0.toNat (by omega)
        unfold partD
        cases hq : Lib.decDigits x.f0.toNat with
        | nil => exact absurd hq f3
        | cons b q =>
          rw [hq, List.all_cons, Bool.and_eq_true] at f1
          split
          · exact ⟨b, q, rfl, f1.1⟩
          · exact ⟨b, _, rfl, f1.1⟩
      obtain ⟨b, q, e1, e2⟩ := hne
      rw [e1] at e
      have : b = 111 := (List.cons.inj e).1
      rw [this] at e2
      cases e2
    have hl : (piecesB (printS (x :: r))).length = (x :: r).length := by
      have := congrArg List.length (pieces_spl (printS (x :: r)))
      rw [List.length_map, hsp, List.length_map] at this
      exact this
    unfold parseV
    rw [if_neg hno, if_neg (by omega), pieces_spl, hsp]
    rcases parts_read ha with h1 | ⟨h1, h2⟩
    · left
      rw [h1]
    · right
      rw [h1]
      exact ⟨rfl, h2⟩
/-- what is read is printed as it was -/
theorem print_parse {s : ByteArray} {q : List S31} (h : parseV s = (q, 0)) : checkL q = 0 ∧ q.all inI3 = true ∧ (printS q).data.toList = s.data.toList := by
  unfold parseV at h
  by_cases ho : s.data.toList = objectL
  · rw [if_pos ho] at h
    have : [] = q := (Prod.mk.inj h).1
    subst this
    exact ⟨rfl, rfl, by rw [ho]; rfl⟩
  · rw [if_neg ho] at h
    by_cases h40 : 40 < (piecesB s).length
    · rw [if_pos h40] at h
      have := (Prod.mk.inj h).2
      cases this
    · rw [if_neg h40, pieces_spl] at h
      have hpl : (piecesB s).length = (spl 47 s.data.toList).length := by rw [← pieces_spl, List.length_map]
      obtain ⟨p, ps, h1, h2⟩ := join_spl s.data.toList.length s.data.toList (Nat.le_refl _)
      cases hp : partsV (spl 47 s.data.toList) with
      | none =>
        rw [hp] at h
        have := (Prod.mk.inj h).2
        cases this
      | some l =>
        rw [hp] at h
        have : l = q := (Prod.mk.inj h).1
        subst this
        obtain ⟨b1, b2, b3⟩ := parts_back hp
        have hlen : l.length = (spl 47 s.data.toList).length := by rw [← b1, List.length_map]
        refine ⟨?_, b3, ?_⟩
        · unfold checkL
          rw [if_neg (by omega), b2]
          rfl
        · rw [h1] at b1
          cases l with
          | nil => cases b1
          | cons x r =>
            rw [print_dl b2, h2]
            rw [List.map_cons] at b1
            rw [(List.cons.inj b1).1, (List.cons.inj b1).2]
theorem print_size {l : List S31} (h : checkL l = 0) (hi : l.all inI3 = true) : (printS l).size < 4294967281 := by
  have h40 := checkL_small h
  unfold printS
  by_cases h0 : l = []
  · rw [if_pos h0]
    decide
  · rw [if_neg h0]
    show (Lib.join ((l.map partS).map fun x => x.data.toList) [47]).toArray.size < _
    rw [List.size_toArray]
    have hl : ∀ y ∈ (l.map partS).map (fun x => x.data.toList), y.length ≤ 65 := by
      intro y hy
      simp only [List.mem_map] at hy
      obtain ⟨b, ⟨z, hz, rfl⟩, rfl⟩ := hy
      rw [Array.length_toList]
      exact partS_size z (List.all_eq_true.1 hi z hz)
    have hn : ((l.map partS).map fun x => x.data.toList).length ≤ 40 := by simp; omega
    generalize (l.map partS).map (fun x => x.data.toList) = xs at hl hn
    cases xs with
    | nil => simp [Lib.join]
    | cons x r =>
      have := lens_le _ hl
      rw [Lib.join_length]
      simp only [List.length_cons, List.length_nil] at this hn ⊢
      omega
theorem short_small {x : S31} (h : okP x = true) (h0 : x.f0 < 1000000000000000000) (h1 : x.f1 < 1000000000000000000) (h2 : x.f2 < 1000000000000000000) : smallP x = true := by
  obtain ⟨a, b, c, _⟩ := ok_nat h
  unfold smallP
  rw [decide_eq_true (dec_len _ (by omega)), decide_eq_true (dec_len _ (by omega)), decide_eq_true (dec_len _ (by omega))]
  rfl
theorem short_loop (l : List S31) (hl : l.length ≤ 40) (ha : l.all okP = true) : ∀ (d i k : Nat), i + d = l.length → d < k → (l.drop i).all smallP = false → mjolnerlaw09_short.l0 k l (i : Int) = some false := by
  intro d
  induction d with
  | zero =>
    intro i k hi hk hs
    rw [List.drop_of_length_le (by omega)] at hs
    cases hs
  | succ d ih =>
    intro i k hi hk hs
    obtain ⟨k, rfl⟩ : ∃ m, k = m + 1 := ⟨k - 1, by omega⟩
    have hil : i < l.length := by omega
    have h5 : wrap64 ((i : Int) + 1) = ((i + 1 : Nat) : Int) := w64 (by omega) (by omega)
    rw [List.drop_eq_getElem_cons hil, List.all_cons, Bool.and_eq_false_iff] at hs
    have hok := List.all_eq_true.1 ha l[i] (List.getElem_mem _)
    rw [mjolnerlaw09_short.l0, if_pos (by omega), if_pos (by omega), rd31 l i hil, h5]
    by_cases q0 : l[i].f0 ≥ 1000000000000000000
    · rw [if_pos q0]
    · rw [if_neg q0]
      by_cases q1 : l[i].f1 ≥ 1000000000000000000
      · rw [if_pos q1]
      · rw [if_neg q1]
        by_cases q2 : l[i].f2 ≥ 1000000000000000000
        · rw [if_pos q2]
        · rw [if_neg q2]
          have hsm := short_small hok (by omega) (by omega) (by omega)
          rcases hs with hs | hs
          · rw [hsm] at hs
            cases hs
          · exact ih (i + 1) k (by omega) (by omega) hs
theorem back_j1 (s : ByteArray) (hs : s.size ≤ 1048576) (k : Nat) : mjolnerlaw09_PatternBack.j1 (k + 1) s true = some true := by
  rw [mjolnerlaw09_PatternBack.j1]
  unfold pattern_Parse.f
  rw [if_pos (by omega), Option.bind_some]
  by_cases h : (parseV s).2 = 0
  · rw [if_pos h]
    obtain ⟨h1, h2, h3⟩ := print_parse (s := s) (q := (parseV s).1) (by rw [← h])
    unfold pattern_Print.f
    rw [if_pos h1, if_pos h2, Option.bind_some, if_pos rfl, if_pos rfl]
    congr 1
    rw [beq_iff_eq, ByteArray.toList_eq, ByteArray.toList_eq]
    exact h3
  · rw [if_neg h, if_pos rfl]
    congr 1
    have : (parseV s).1 = [] := by
      unfold parseV at h ⊢
      by_cases ho : s.data.toList = objectL
      · rw [if_pos ho]
      · rw [if_neg ho] at h ⊢
        by_cases h40 : 40 < (piecesB s).length
        · rw [if_pos h40]
        · rw [if_neg h40] at h ⊢
          cases hp : partsV ((piecesB s).map fun x => x.data.toList) with
          | none => rfl
          | some l => rw [hp] at h; exact absurd rfl h
    rw [this]
    rfl
theorem back_any (l : List S31) (s : ByteArray) (hi : l.all inI3 = true) (hs : s.size ≤ 1048576) (k : Nat) (hk : 100 ≤ k) : mjolnerlaw09_PatternBack.f k l s = some true := by
  obtain ⟨k, rfl⟩ : ∃ m, k = m + 2 := ⟨k - 2, by omega⟩
  unfold mjolnerlaw09_PatternBack.f
  rw [awake_tr, Option.bind_some]
  unfold pattern_Print.f
  by_cases hz : checkL l = 0
  · have hsz := print_size hz hi
    have h40 := checkL_small hz
    rw [if_pos hz, if_pos hi, Option.bind_some, if_pos rfl]
    unfold pattern_Parse.f
    rw [if_pos hsz, Option.bind_some]
    have hj : mjolnerlaw09_PatternBack.j1 (k + 1) s true = some true := back_j1 s hs k
    rcases parse_print hz with h1 | ⟨h1, h2⟩
    · rw [h1]
      have hj0 : mjolnerlaw09_PatternBack.j0 (k + 2) l s true 0 false = some true := by
        rw [mjolnerlaw09_PatternBack.j0, if_neg (by decide), if_pos rfl]
        exact hj
      show (if ((printS l).size : Int) > 0 then (if (0 : Int) = 0 then (mjolnerref09_Same.f (k + 2) l l).bind fun t => mjolnerlaw09_PatternBack.j0 (k + 2) l s true 0 (!t) else _) else mjolnerlaw09_PatternBack.j0 (k + 2) l s true 0 false) = _
      rw [if_pos rfl, same_f l l (by omega) (k + 2) (by omega), Option.bind_some, decide_eq_true rfl]
      show (if ((printS l).size : Int) > 0 then mjolnerlaw09_PatternBack.j0 (k + 2) l s true 0 false else _) = _
      rw [hj0]
      split <;> rfl
    · have hsh : mjolnerlaw09_short.f (k + 1) l = some false := short_loop l h40 (check_all hz) l.length 0 (k + 1) (by omega) (by omega) (by rw [List.drop_zero]; exact h2)
      have hj0 : mjolnerlaw09_PatternBack.j0 (k + 2) l s true (parseV (printS l)).2 false = some true := by
        rw [h1, mjolnerlaw09_PatternBack.j0, if_neg (by decide), if_neg (by decide), hsh, Option.bind_some, if_neg (by decide)]
        exact hj
      have hne : ¬ (parseV (printS l)).2 = 0 := by rw [h1]; decide
      rw [if_neg hne, hj0]
      split <;> rfl
  · rw [if_neg hz, Option.bind_some, if_neg hz]
    exact back_j1 s hs (k + 1)
theorem PatternBack_law (l : List S31) (s : ByteArray) (hi : l.all inI3 = true) (hs : s.size ≤ 1048576) : ∃ k, mjolnerlaw09_PatternBack.f k l s = some true := ⟨_, back_any l s hi hs _ (Nat.le_refl _)⟩
end Go.Proofs.YtgkebfeggekkgaaDoor.Given
