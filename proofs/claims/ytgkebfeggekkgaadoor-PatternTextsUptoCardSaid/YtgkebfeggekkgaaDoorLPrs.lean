/- Plain: the reference's Parse returns what Parse returns. -/
import Derived.Test.YtgkebfeggekkgaaDoorJ7
set_option linter.unusedVariables false
set_option linter.unusedSimpArgs false
set_option linter.unusedSectionVars false
namespace Go.Proofs.YtgkebfeggekkgaaDoor.Given
open Go.RowKit Go.Proofs.YtgkebfeggekkgaaDoor.PT Go.Proofs.YtgkebfeggekkgaaDoorW.PrintWords

theorem numR_suffix {l r : List UInt8} {n : Nat} (h : numR l = some (n, r)) : r <:+ l := by
  rw [numR_rest h]
  exact List.dropWhile_suffix digB
theorem suffix_drop {L r : List UInt8} (h : r <:+ L) : r = L.drop (L.length - r.length) := by
  obtain ⟨p, rfl⟩ := h
  rw [List.length_append, show p.length + r.length - r.length = p.length by omega, List.drop_left' rfl]
theorem readR_suffix {l r : List UInt8} {x : S31} (h : readR l = some (x, r)) : r <:+ l := by
  cases hn : numR l with
  | none => rw [readR_none hn] at h; cases h
  | some y =>
    obtain ⟨d, r1⟩ := y
    have h1 := numR_suffix hn
    by_cases hr : ∃ r2, r1 = 64 :: r2
    · obtain ⟨r2, rfl⟩ := hr
      rw [readR_at' hn] at h
      have h2 : r2 <:+ l := (List.suffix_cons _ _).trans h1
      cases hm : numR r2 with
      | none => rw [tailR_none hm] at h; cases h
      | some z =>
        obtain ⟨o, r3⟩ := z
        have h3 := numR_suffix hm
        by_cases hp : ∃ r4, r3 = 46 :: r4
        · obtain ⟨r4, rfl⟩ := hp
          rw [tailR_point hm] at h
          split at h
          · cases h
          · cases hq : numR r4 with
            | none => rw [hq] at h; cases h
            | some u =>
              obtain ⟨k, r5⟩ := u
              rw [hq] at h
              have he : r5 = r := (Prod.mk.inj (Option.some.inj h)).2
              rw [← he]
              exact (numR_suffix hq).trans ((List.suffix_cons _ _).trans (h3.trans h2))
        · rw [tailR_other hm (fun r4 e => hp ⟨r4, e⟩)] at h
          cases h
    · rw [readR_plain hn (fun r2 e => hr ⟨r2, e⟩)] at h
      have he : r1 = r := (Prod.mk.inj (Option.some.inj h)).2
      rw [← he]
      exact h1
section
variable (s : ByteArray) (hs : s.size ≤ 1048576)
def refRead (a : Nat) : Int × Int × Int × Int :=
  match readR (s.data.toList.drop a) with
  | none => (0, 0, 0, -1)
  | some (x, r) => (x.f0, x.f1, x.f2, ((s.size - r.length : Nat) : Int))
include hs
theorem num_at (r : List UInt8) (hr : r <:+ s.data.toList) (k : Nat) (hk : 20 ≤ k) : mjolnerref09_number.f k s ((s.size - r.length : Nat) : Int) = some (match numR r with | none => (-1, ((s.size - r.length : Nat) : Int)) | some (v, q) => ((v : Int), ((s.size - q.length : Nat) : Int))) := by
  have hsl : s.data.toList.length = s.size := by simp
  rw [refNum_f s (s.size - r.length) hs (by omega) k hk]
  unfold refNum
  rw [show s.data.toList.drop (s.size - r.length) = r by rw [← hsl]; exact (suffix_drop hr).symm]
  cases numR r with
  | none => rfl
  | some x => rfl
theorem byte_at (c : UInt8) (r : List UInt8) (hr : c :: r <:+ s.data.toList) : (c :: r).length ≤ s.size ∧ bt s ((s.size - (c :: r).length : Nat) : Int) = (c.toNat : Int) := by
  have hsl : s.data.toList.length = s.size := by simp
  have hle : (c :: r).length ≤ s.size := by rw [← hsl]; exact hr.length_le
  have hlt : s.size - (c :: r).length < s.data.toList.length := by rw [hsl]; have : (c :: r).length = r.length + 1 := rfl; omega
  refine ⟨hle, ?_⟩
  rw [bt_list s _ hlt]
  have hd := suffix_drop hr
  rw [hsl] at hd
  have he := List.drop_eq_getElem_cons hlt
  rw [← hd] at he
  exact congrArg (fun b : UInt8 => (b.toNat : Int)) (List.cons.inj he).1.symm
theorem tail_pos (c : UInt8) (r : List UInt8) (hr : c :: r <:+ s.data.toList) : wrap64 (((s.size - (c :: r).length : Nat) : Int) + 1) = ((s.size - r.length : Nat) : Int) := by
  have hle := (byte_at s hs c r hr).1
  have hl : (c :: r).length = r.length + 1 := rfl
  exact w64 (by omega) (by omega)
theorem read_j1 (d o : Nat) (r2 : List UInt8) (hr : 46 :: r2 <:+ s.data.toList) (k : Nat) (hk : 22 ≤ k) : mjolnerref09_read.j1 k s (d : Int) (o : Int) ((s.size - (46 :: r2).length : Nat) : Int) false = some (match (numR r2).map fun x => ((⟨d, o, x.1⟩ : S31), x.2) with
    | none => (0, 0, 0, -1)
    | some (x, r) => (x.f0, x.f1, x.f2, ((s.size - r.length : Nat) : Int))) := by
  obtain ⟨k, rfl⟩ : ∃ m, k = m + 1 := ⟨k - 1, by omega⟩
  rw [mjolnerref09_read.j1, if_neg (by decide), tail_pos s hs 46 r2 hr, num_at s hs r2 ((List.suffix_cons _ _).trans hr) k (by omega), Option.bind_some]
  cases hn : numR r2 with
  | none => rfl
  | some x =>
    obtain ⟨v, q⟩ := x
    show (if (v : Int) < 0 then _ else some ((d : Int), (o : Int), (v : Int), ((s.size - q.length : Nat) : Int))) = _
    rw [if_neg (by omega)]
    rfl
theorem read_j0 (d : Nat) (r1 : List UInt8) (hr : 64 :: r1 <:+ s.data.toList) (k : Nat) (hk : 25 ≤ k) : mjolnerref09_read.j0 k s (d : Int) ((s.size - (64 :: r1).length : Nat) : Int) false = some (match tailR d r1 with
    | none => (0, 0, 0, -1)
    | some (x, r) => (x.f0, x.f1, x.f2, ((s.size - r.length : Nat) : Int))) := by
  obtain ⟨k, rfl⟩ : ∃ m, k = m + 2 := ⟨k - 2, by omega⟩
  have hr1 := (List.suffix_cons _ _).trans hr
  have hbad : ∀ (p q : Int), mjolnerref09_read.j1 (k + 1) s (d : Int) p q true = some (0, 0, 0, -1) := fun p q => by rw [mjolnerref09_read.j1, if_pos rfl]
  rw [mjolnerref09_read.j0, if_neg (by decide), tail_pos s hs 64 r1 hr, num_at s hs r1 hr1 (k + 1) (by omega), Option.bind_some]
  cases hn : numR r1 with
  | none =>
    rw [tailR_none hn]
    show (if (-1 : Int) < 1 then _ else _) = _
    rw [if_pos (by decide)]
    exact hbad _ _
  | some x =>
    obtain ⟨o, q⟩ := x
    have hq := (numR_suffix hn).trans hr1
    show (if (o : Int) < 1 then mjolnerref09_read.j1 (k + 1) s (d : Int) (o : Int) ((s.size - q.length : Nat) : Int) true else (if ((s.size - q.length : Nat) : Int) ≥ (s.size : Int) then mjolnerref09_read.j1 (k + 1) s (d : Int) (o : Int) ((s.size - q.length : Nat) : Int) true else (if 0 ≤ ((s.size - q.length : Nat) : Int) then (if ((s.size - q.length : Nat) : Int) < (s.size : Int) then mjolnerref09_read.j1 (k + 1) s (d : Int) (o : Int) ((s.size - q.length : Nat) : Int) (bt s ((s.size - q.length : Nat) : Int) != 46) else none) else none))) = _
    cases q with
    | nil =>
      rw [tailR_other hn (fun r e => by cases e)]
      have q1 : ((s.size - ([] : List UInt8).length : Nat) : Int) ≥ (s.size : Int) := by simp
      rw [hbad]
      by_cases ho : (o : Int) < 1
      · rw [if_pos ho]
      · rw [if_neg ho, if_pos q1]
    | cons c q =>
      obtain ⟨hle, hbt⟩ := byte_at s hs c q hq
      have hl : (c :: q).length = q.length + 1 := rfl
      have q1 : ¬ ((s.size - (c :: q).length : Nat) : Int) ≥ (s.size : Int) := by omega
      have q2 : (0 : Int) ≤ ((s.size - (c :: q).length : Nat) : Int) := by omega
      have q3 : ((s.size - (c :: q).length : Nat) : Int) < (s.size : Int) := by omega
      rw [if_neg q1, if_pos q2, if_pos q3, hbt]
      by_cases hc : c = 46
      · subst hc
        rw [tailR_point hn]
        by_cases ho : o = 0
        · rw [if_pos (by omega), if_pos ho]
          exact hbad _ _
        · rw [if_neg (by omega), if_neg ho]
          exact read_j1 s hs d o q hq (k + 1) (by omega)
      · rw [tailR_other hn (fun r e => hc (List.cons.inj e).1)]
        have hb : ((c.toNat : Int) != 46) = true := by
          rw [bne_iff_ne]
          intro h
          have h46 : (46 : UInt8).toNat = 46 := rfl
          exact hc (UInt8.toNat_inj.1 (by omega))
        rw [hb, hbad]
        split <;> rfl
theorem refRead_f (a : Nat) (ha : a ≤ s.size) (k : Nat) (hk : 30 ≤ k) : mjolnerref09_read.f k s (a : Int) = some (refRead s a) := by
  have hsl : s.data.toList.length = s.size := by simp
  obtain ⟨k, rfl⟩ : ∃ m, k = m + 1 := ⟨k - 1, by omega⟩
  unfold mjolnerref09_read.f refRead
  rw [refNum_f s a hs ha (k + 1) (by omega), Option.bind_some]
  unfold refNum
  have hsuf : s.data.toList.drop a <:+ s.data.toList := List.drop_suffix a _
  generalize s.data.toList.drop a = R at hsuf
  cases hn : numR R with
  | none =>
    rw [readR_none hn]
    rfl
  | some x =>
    obtain ⟨d, q⟩ := x
    have hq := (numR_suffix hn).trans hsuf
    show (if (d : Int) < 0 then _ else (if ((s.size - q.length : Nat) : Int) ≥ (s.size : Int) then mjolnerref09_read.j0 (k + 1) s (d : Int) ((s.size - q.length : Nat) : Int) true else (if 0 ≤ ((s.size - q.length : Nat) : Int) then (if ((s.size - q.length : Nat) : Int) < (s.size : Int) then mjolnerref09_read.j0 (k + 1) s (d : Int) ((s.size - q.length : Nat) : Int) (bt s ((s.size - q.length : Nat) : Int) != 64) else none) else none))) = _
    rw [if_neg (by omega)]
    cases q with
    | nil =>
      have q1 : ((s.size - ([] : List UInt8).length : Nat) : Int) ≥ (s.size : Int) := by simp
      rw [readR_plain hn (fun r e => by cases e), if_pos q1, mjolnerref09_read.j0, if_pos rfl]
    | cons c q =>
      obtain ⟨hle, hbt⟩ := byte_at s hs c q hq
      have hl : (c :: q).length = q.length + 1 := rfl
      have q1 : ¬ ((s.size - (c :: q).length : Nat) : Int) ≥ (s.size : Int) := by omega
      have q2 : (0 : Int) ≤ ((s.size - (c :: q).length : Nat) : Int) := by omega
      have q3 : ((s.size - (c :: q).length : Nat) : Int) < (s.size : Int) := by omega
      rw [if_neg q1, if_pos q2, if_pos q3, hbt]
      by_cases hc : c = 64
      · subst hc
        rw [readR_at' hn]
        exact read_j0 s hs d q hq (k + 1) (by omega)
      · have hb : ((c.toNat : Int) != 64) = true := by
          rw [bne_iff_ne]
          intro h
          have h64 : (64 : UInt8).toNat = 64 := rfl
          exact hc (UInt8.toNat_inj.1 (by omega))
        rw [readR_plain hn (fun r e => hc (List.cons.inj e).1), hb, mjolnerref09_read.j0, if_pos rfl]
/-- what is returned in the end -/
def finishV (xs : List S31) (ps : List (List UInt8)) : List S31 × Int := if 40 < xs.length + ps.length then ([], 7) else match partsV ps with | none => ([], 7) | some l => (xs ++ l, 0)
theorem finish_none {xs : List S31} {p : List UInt8} {ps : List (List UInt8)} (h : partV p = none) : finishV xs (p :: ps) = ([], 7) := by
  unfold finishV
  rw [partsV, h]
  split <;> rfl
theorem finish_step {xs : List S31} {p : List UInt8} {ps : List (List UInt8)} {x : S31} (h : partV p = some x) : finishV xs (p :: ps) = finishV (xs ++ [x]) ps := by
  unfold finishV
  rw [partsV, h, List.length_append, List.length_cons, List.length_singleton, show xs.length + (ps.length + 1) = xs.length + 1 + ps.length by omega]
  split
  · rfl
  · cases partsV ps with
    | none => rfl
    | some l => simp
theorem parse_bad (k : Nat) (xs : List S31) (e x0 x1 x2 : Int) : mjolnerref09_Parse.j1 (k + 1) s xs e true x0 x1 x2 = some ([], 7) := by rw [mjolnerref09_Parse.j1, if_pos rfl]
theorem parse_loop : ∀ (n a k : Nat) (xs : List S31), (s.data.toList.drop a).length ≤ n → a ≤ s.size → xs.length ≤ 40 → 2 * n + 40 ≤ k → mjolnerref09_Parse.l0 k s xs (a : Int) = some (finishV xs (spl 47 (s.data.toList.drop a))) := by
  have hsl : s.data.toList.length = s.size := by simp
  intro n
  induction n with
  | zero =>
    intro a k xs hn ha hx hk
    obtain ⟨k, rfl⟩ : ∃ m, k = m + 2 := ⟨k - 2, by omega⟩
    have he : s.data.toList.drop a = [] := List.length_eq_zero_iff.1 (by omega)
    rw [mjolnerref09_Parse.l0, refRead_f s hs a ha (k + 1) (by omega), Option.bind_some]
    unfold refRead
    rw [he]
    show (if (-1 : Int) < 0 then mjolnerref09_Parse.j1 (k + 1) s xs (-1) true 0 0 0 else _) = _
    rw [if_pos (by decide), parse_bad s hs, show spl 47 [] = [[]] from rfl, finish_none s hs (by rfl)]
  | succ n ih =>
    intro a k xs hn ha hx hk
    obtain ⟨k, rfl⟩ : ∃ m, k = m + 2 := ⟨k - 2, by omega⟩
    rw [mjolnerref09_Parse.l0, refRead_f s hs a ha (k + 1) (by omega), Option.bind_some]
    unfold refRead
    have hsuf : s.data.toList.drop a <:+ s.data.toList := List.drop_suffix a _
    generalize s.data.toList.drop a = R at hsuf hn
    -- what follows an answer
    have go : ∀ (x : S31) (r : List UInt8), r <:+ s.data.toList → r.length ≤ n + 1 →
        (if ((s.size - r.length : Nat) : Int) < 0 then mjolnerref09_Parse.j1 (k + 1) s xs ((s.size - r.length : Nat) : Int) true x.f0 x.f1 x.f2 else mjolnerref09_Parse.j1 (k + 1) s xs ((s.size - r.length : Nat) : Int) ((xs.length : Int) == 40) x.f0 x.f1 x.f2) =
        some (if xs.length = 40 then ([], 7) else match r with | [] => (xs ++ [x], 0) | c :: q => if c = 47 then finishV (xs ++ [x]) (spl 47 q) else ([], 7)) := by
      intro x r hr hrl
      rw [if_neg (by omega)]
      by_cases h40 : xs.length = 40
      · rw [show ((xs.length : Int) == 40) = true by rw [beq_iff_eq]; omega, parse_bad s hs, if_pos h40]
      · rw [show ((xs.length : Int) == 40) = false by rw [beq_eq_false_iff_ne]; omega, if_neg h40, mjolnerref09_Parse.j1, if_neg (by decide), if_pos (by omega), Option.bind_some]
        cases r with
        | nil =>
          have q1 : ((s.size - ([] : List UInt8).length : Nat) : Int) = (s.size : Int) := by simp
          rw [if_pos q1]
        | cons c q =>
          obtain ⟨hle, hbt⟩ := byte_at s hs c q hr
          have hl : (c :: q).length = q.length + 1 := rfl
          have q1 : ¬ ((s.size - (c :: q).length : Nat) : Int) = (s.size : Int) := by omega
          have q2 : (0 : Int) ≤ ((s.size - (c :: q).length : Nat) : Int) := by omega
          have q3 : ((s.size - (c :: q).length : Nat) : Int) < (s.size : Int) := by omega
          rw [if_neg q1, if_pos q2, if_pos q3, hbt, tail_pos s hs c q hr]
          show _ = some (if c = 47 then finishV (xs ++ [x]) (spl 47 q) else ([], 7))
          have hq := (List.suffix_cons _ _).trans hr
          have hd := suffix_drop hq
          rw [hsl] at hd
          by_cases hc : c = 47
          · rw [if_pos (by rw [hc]; rfl), if_pos hc]
            have := ih (s.size - q.length) k (xs ++ [x]) (by rw [← hd]; omega) (by omega) (by simp; omega) (by omega)
            rw [← hd] at this
            exact this
          · rw [if_neg, if_neg hc]
            intro h
            have h47 : (47 : UInt8).toNat = 47 := rfl
            exact hc (UInt8.toNat_inj.1 (by omega))
    have goN : (if (-1 : Int) < 0 then mjolnerref09_Parse.j1 (k + 1) s xs (-1) true 0 0 0 else mjolnerref09_Parse.j1 (k + 1) s xs (-1) ((xs.length : Int) == 40) 0 0 0) = some (([] : List S31), (7 : Int)) := by
      rw [if_pos (by decide), parse_bad s hs]
    rcases spl_cases 47 R with ⟨h1, h2⟩ | ⟨p, q, h1, h2, h3⟩
    · rw [h2]
      have hpf := part_full R
      cases hrd : readR R with
      | none =>
        rw [hrd] at hpf
        rw [finish_none s hs hpf]
        exact goN
      | some y =>
        obtain ⟨x, r⟩ := y
        have hr := readR_suffix hrd
        rw [hrd] at hpf
        refine (go x r (hr.trans hsuf) (by have := hr.length_le; omega)).trans ?_
        cases r with
        | nil =>
          have hpf' : partV R = some x := hpf
          rw [finish_step s hs hpf']
          unfold finishV
          rw [List.length_append, List.length_singleton]
          by_cases h40 : xs.length = 40
          · rw [if_pos h40, if_pos (by simp; omega)]
          · rw [if_neg h40, if_neg (by simp; omega)]
            simp [partsV]
        | cons c r =>
          have hpf' : partV R = none := hpf
          have hc : c ≠ 47 := fun e => h1 (by rw [← e]; exact hr.sublist.subset (List.mem_cons_self ..))
          rw [finish_none s hs hpf']
          show some (if xs.length = 40 then ([], 7) else (if c = 47 then finishV (xs ++ [x]) (spl 47 r) else ([], 7))) = _
          rw [if_neg hc]
          split <;> rfl
    · rw [h3]
      have hpf := part_full p
      have hra := readR_append (l := p) (t := 47 :: q) (fun b r e => (List.cons.inj e).1.symm)
      rw [← h1] at hra
      cases hrd : readR p with
      | none =>
        rw [hrd] at hpf hra
        have hra' : readR R = none := hra
        rw [finish_none s hs hpf, hra']
        exact goN
      | some y =>
        obtain ⟨x, r⟩ := y
        have hr := readR_suffix hrd
        rw [hrd] at hpf hra
        have hra' : readR R = some (x, r ++ 47 :: q) := hra
        have hr2 := readR_suffix hra'
        rw [hra']
        refine (go x (r ++ 47 :: q) (hr2.trans hsuf) (by have := hr2.length_le; omega)).trans ?_
        cases r with
        | nil =>
          have hpf' : partV p = some x := hpf
          rw [finish_step s hs hpf']
          show some (if xs.length = 40 then ([], 7) else (if (47 : UInt8) = 47 then finishV (xs ++ [x]) (spl 47 q) else ([], 7))) = _
          rw [if_pos rfl]
          by_cases h40 : xs.length = 40
          · rw [if_pos h40]
            unfold finishV
            rw [if_pos (by rw [List.length_append, List.length_singleton]; omega)]
          · rw [if_neg h40]
        | cons c r =>
          have hpf' : partV p = none := hpf
          have hc : c ≠ 47 := fun e => h2 (by rw [← e]; exact hr.sublist.subset (List.mem_cons_self ..))
          rw [finish_none s hs hpf']
          show some (if xs.length = 40 then ([], 7) else (if c = 47 then finishV (xs ++ [x]) (spl 47 (r ++ 47 :: q)) else ([], 7))) = _
          rw [if_neg hc]
          split <;> rfl
theorem refParse_f (k : Nat) (hk : 3000000 ≤ k) : mjolnerref09_Parse.f k s = some (parseV s) := by
  have hsl : s.data.toList.length = s.size := by simp
  unfold mjolnerref09_Parse.f parseV
  rw [ByteArray.toList_eq]
  by_cases h : s.data.toList = objectL
  · rw [if_pos (show s.data.toList = [111, 98, 106, 101, 99, 116] from h), if_pos h]
  · rw [if_neg (show ¬ s.data.toList = [111, 98, 106, 101, 99, 116] from h), if_neg h]
    have := parse_loop s hs s.size 0 k [] (by rw [List.drop_zero, hsl]; exact Nat.le_refl _) (Nat.zero_le _) (by simp) (by omega)
    rw [List.drop_zero] at this
    refine this.trans ?_
    have hl : (piecesB s).length = (spl 47 s.data.toList).length := by rw [← pieces_spl, List.length_map]
    unfold finishV
    rw [pieces_spl, hl, List.length_nil, Nat.zero_add]
    split
    · rfl
    · cases partsV (spl 47 s.data.toList) <;> rfl
end
end Go.Proofs.YtgkebfeggekkgaaDoor.Given
