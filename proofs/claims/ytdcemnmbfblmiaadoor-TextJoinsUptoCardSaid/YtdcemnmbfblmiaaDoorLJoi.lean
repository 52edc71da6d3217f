/- The plain law behind TextJoins: for all texts, lists of texts and bytes, what the printed function computes is true. -/
import Derived.Test.YtdcemnmbfblmiaaDoorPTx33
import Derived.Test.YtdcemnmbfblmiaaDoorLFnd
set_option linter.unusedVariables false
set_option linter.unusedSimpArgs false
namespace Go.Proofs.YtdcemnmbfblmiaaDoor.PT
open Go.RowKit Go.Proofs.YtdcemnmbfblmiaaDoor.Given Go.Proofs.YtdcemnmbfblmiaaDoorW.PrintWords Go.Proofs.YtdcemnmbfblmiaaDoorW.PrintLast Go.Proofs.YtdcemnmbfblmiaaDoorW.PrintMore

theorem occ_one (S : List UInt8) (c : UInt8) (i : Nat) : Lib.occAt S [c] i = true ↔ S[i]? = some c := by
  unfold Lib.occAt
  by_cases h : i < S.length
  · rw [List.drop_eq_getElem_cons h, List.getElem?_eq_getElem h]
    simp [List.isPrefixOf]
    exact eq_comm
  · rw [List.drop_of_length_le (by omega), List.getElem?_eq_none (by omega)]
    simp [List.isPrefixOf]
theorem split_back (c : UInt8) : ∀ (l : List (List UInt8)) (n : Nat), l ≠ [] → (∀ x ∈ l, c ∉ x) → l.length ≤ n + 1 → splitL [c] n (Lib.join l [c]) = l
  | [], _, h, _, _ => absurd rfl h
  | [x], n, _, hc, _ => by
    rw [Lib.join_one]
    cases n with
    | zero => rfl
    | succ n =>
      have : Lib.index x [c] = -1 := Lib.index_none (fun j _ => by
        cases ho : Lib.occAt x [c] j with
        | false => rfl
        | true => exact absurd (List.mem_of_getElem? ((occ_one x c j).1 ho)) (hc x (by simp)))
      rw [splitL, if_pos (by rw [this]; decide)]
  | x :: y :: r, n, _, hc, hn => by
    obtain ⟨n, rfl⟩ : ∃ m, n = m + 1 := ⟨n - 1, by simp only [List.length_cons] at hn; omega⟩
    have ih := split_back c (y :: r) n (by simp) (fun z hz => hc z (List.mem_cons_of_mem _ hz)) (by simp only [List.length_cons] at hn ⊢; omega)
    have hj : Lib.join (x :: y :: r) [c] = x ++ (c :: Lib.join (y :: r) [c]) := by
      rw [Lib.join_cons, Lib.join_cons]
      simp [Lib.joinTail]
    have hix : Lib.index (x ++ (c :: Lib.join (y :: r) [c])) [c] = (x.length : Int) := by
      refine Lib.index_first (by simp) ((occ_one _ c _).2 (by simp)) (fun j hj => ?_)
      cases ho : Lib.occAt (x ++ (c :: Lib.join (y :: r) [c])) [c] j with
      | false => rfl
      | true =>
        have := (occ_one _ c j).1 ho
        rw [List.getElem?_append_left hj] at this
        exact absurd (List.mem_of_getElem? this) (hc x (by simp))
    rw [hj, splitL, hix, if_neg (by omega), Int.toNat_natCast, List.take_left, ← List.drop_drop, List.drop_left]
    congr 1
theorem rd_piece (l : List ByteArray) (i : Nat) (h : i < l.length) : rdOf ByteArray.empty l (i : Int) = l[i] := by unfold rdOf; simp [h]
theorem bt_piece (s : ByteArray) (i : Nat) (h : i < s.size) : bt s i = ((s.data.toList[i]'(by rw [len_list]; exact h)).toNat : Int) := by
  unfold bt
  simp [h, ByteArray.getElem_eq_getElem_data]
/-- enough rounds -/
def Enough (g : Nat → Option Bool) : Prop := ∃ K, ∀ k, K ≤ k → g k = some true
theorem joins_l1 (l : List ByteArray) (c : UInt8) (sep joined : ByteArray) (i : Nat) (hi : i < l.length) (hsz : l[i].size ≤ 1048576)
    (hnext : c ∉ l[i].data.toList → Enough fun k => mjolnerlaw03_TextJoins.l0 k l (c.toNat : Int) true sep joined ((i + 1 : Nat) : Int)) (hil : l.length ≤ 1048576) : ∀ (d j : Nat), j + d = l[i].size → c ∉ l[i].data.toList.take j →
    Enough fun k => mjolnerlaw03_TextJoins.l1 k l (c.toNat : Int) true sep joined (i : Int) (j : Int) := by
  have hl := len_list l[i]
  intro d
  induction d with
  | zero =>
    intro j hj hc
    rw [List.take_of_length_le (by omega)] at hc
    obtain ⟨K, hK⟩ := hnext hc
    refine ⟨K + 1, fun k hk => ?_⟩
    obtain ⟨k, rfl⟩ : ∃ m, k = m + 1 := ⟨k - 1, by omega⟩
    show mjolnerlaw03_TextJoins.l1 (k + 1) l (c.toNat : Int) true sep joined (i : Int) (j : Int) = some true
    rw [mjolnerlaw03_TextJoins.l1, if_pos (by omega), if_pos (by omega), rd_piece l i hi, if_neg (by omega), w64 (n := i + 1) (by omega) (by omega)]
    exact hK k (by omega)
  | succ d ih =>
    intro j hj hc
    by_cases hx : l[i].data.toList[j]'(by omega) = c
    · refine ⟨1, fun k hk => ?_⟩
      obtain ⟨k, rfl⟩ : ∃ m, k = m + 1 := ⟨k - 1, by omega⟩
      show mjolnerlaw03_TextJoins.l1 (k + 1) l (c.toNat : Int) true sep joined (i : Int) (j : Int) = some true
      rw [mjolnerlaw03_TextJoins.l1, if_pos (by omega), if_pos (by omega), rd_piece l i hi, if_pos (by omega), if_pos (by omega), bt_piece _ j (by omega), if_pos (by rw [hx])]
    · obtain ⟨K, hK⟩ := ih (j + 1) (by omega) (by
        rw [List.take_succ_eq_append_getElem (by omega), List.mem_append, List.mem_singleton]
        rintro (h | h)
        · exact hc h
        · exact hx h.symm)
      refine ⟨K + 1, fun k hk => ?_⟩
      obtain ⟨k, rfl⟩ : ∃ m, k = m + 1 := ⟨k - 1, by omega⟩
      show mjolnerlaw03_TextJoins.l1 (k + 1) l (c.toNat : Int) true sep joined (i : Int) (j : Int) = some true
      rw [mjolnerlaw03_TextJoins.l1, if_pos (by omega), if_pos (by omega), rd_piece l i hi, if_pos (by omega), if_pos (by omega), bt_piece _ j (by omega),
        if_neg (fun e => hx (UInt8.toNat_inj.1 (by omega))), w64 (n := j + 1) (by omega) (by omega)]
      exact hK k (by omega)
theorem joins_l0 (l : List ByteArray) (c : UInt8) (sep joined : ByteArray) (hsep : sep.data.toList = [c]) (hj : joined = ba (joinL l sep)) (hjs : (joinL l sep).length ≤ 4000) (hne : ¬ l.length = 0) (hl : l.length ≤ 1048576) (hall : ∀ x ∈ l, x.size ≤ 1048576) :
    ∀ (d i : Nat), i + d = l.length → (∀ x ∈ l.take i, c ∉ x.data.toList) → Enough fun k => mjolnerlaw03_TextJoins.l0 k l (c.toNat : Int) true sep joined (i : Int) := by
  have hss : sep.size = 1 := by rw [← len_list, hsep]; rfl
  intro d
  induction d with
  | zero =>
    intro i hi hc
    rw [List.take_of_length_le (by omega)] at hc
    refine ⟨l.length + 10, fun k hk => ?_⟩
    obtain ⟨k, rfl⟩ : ∃ m, k = m + 1 := ⟨k - 1, by omega⟩
    show mjolnerlaw03_TextJoins.l0 (k + 1) l (c.toNat : Int) true sep joined (i : Int) = some true
    have hne' : l.map (fun s => s.data.toList) ≠ [] := fun e => hne (by have := congrArg List.length e; simpa using this)
    have hjl : l.length ≤ (joinL l sep).length + 1 := by
      cases l with
      | nil => simp
      | cons x r =>
        unfold joinL
        rw [List.map_cons, Lib.join_length, hsep]
        simp
    have hback : (splitL sep.data.toList joined.size joined.data.toList).map ba = l := by
      subst hj
      rw [ba_list', ba_size', hsep]
      have := split_back c (l.map fun s => s.data.toList) (joinL l sep).length hne' (fun x hx => by
        obtain ⟨y, hy, rfl⟩ := List.mem_map.1 hx
        exact hc y hy) (by rw [List.length_map]; omega)
      unfold joinL at this ⊢
      rw [hsep] at this ⊢
      rw [this, List.map_map]
      conv => rhs; rw [← List.map_id l]
      rfl
    rw [mjolnerlaw03_TextJoins.l0, if_neg (by omega), split_f]
    unfold splitR
    rw [if_pos ⟨by subst hj; rw [ba_size']; exact hjs, by omega, by omega⟩, hback]
    simp only [Option.bind_some, if_true]
    rw [same_f l (by omega) k (by omega)]
    rfl
  | succ d ih =>
    intro i hi hc
    obtain ⟨K, hK⟩ := joins_l1 l c sep joined i (by omega) (hall _ (List.getElem_mem _)) (fun hno => ih (i + 1) (by omega) (fun x hx => by
      rw [List.take_succ_eq_append_getElem (by omega), List.mem_append, List.mem_singleton] at hx
      rcases hx with hx | rfl
      · exact hc x hx
      · exact hno)) hl l[i].size 0 (by omega) (by simp)
    refine ⟨K + 1, fun k hk => ?_⟩
    obtain ⟨k, rfl⟩ : ∃ m, k = m + 1 := ⟨k - 1, by omega⟩
    show mjolnerlaw03_TextJoins.l0 (k + 1) l (c.toNat : Int) true sep joined (i : Int) = some true
    rw [mjolnerlaw03_TextJoins.l0, if_pos (by omega)]
    exact hK k (by omega)
theorem joins_j0 (l : List ByteArray) (c : UInt8) (hl : l.length ≤ 1048576) (hall : ∀ x ∈ l, x.size ≤ 1048576) : Enough fun k => mjolnerlaw03_TextJoins.j0 k l (c.toNat : Int) true := by
  have hsep : (strOfNums [(c.toNat : Int)]).data.toList = [c] := by simp [strOfNums_data]
  by_cases h1 : (l.all fun s => decide (s.size ≤ 4000)) = true ∧ (strOfNums [(c.toNat : Int)]).size ≤ 4000
  · by_cases h2 : (joinL l (strOfNums [(c.toNat : Int)])).length ≤ 4000
    · have hj : text_Join.f l (strOfNums [(c.toNat : Int)]) = some (ba (joinL l (strOfNums [(c.toNat : Int)])), 0) := by
        unfold text_Join.f
        rw [if_pos h1, if_pos h2]
      by_cases h3 : l.length = 0
      · refine ⟨2, fun k hk => ?_⟩
        obtain ⟨k, rfl⟩ : ∃ m, k = m + 1 + 1 := ⟨k - 2, by omega⟩
        show mjolnerlaw03_TextJoins.j0 (k + 1 + 1) l (c.toNat : Int) true = some true
        rw [mjolnerlaw03_TextJoins.j0]
        simp only [Option.bind_some]
        rw [hj]
        simp only [Option.bind_some, if_true]
        rw [show (((l.length : Nat) : Int) == 0) = true from beq_iff_eq.2 (by omega)]
        rfl
      · obtain ⟨K, hK⟩ := joins_l0 l c _ _ hsep rfl h2 h3 hl hall l.length 0 (by omega) (by simp)
        refine ⟨K + 2, fun k hk => ?_⟩
        obtain ⟨k, rfl⟩ : ∃ m, k = m + 1 + 1 := ⟨k - 2, by omega⟩
        show mjolnerlaw03_TextJoins.j0 (k + 1 + 1) l (c.toNat : Int) true = some true
        rw [mjolnerlaw03_TextJoins.j0]
        simp only [Option.bind_some]
        rw [hj]
        simp only [Option.bind_some, if_true]
        rw [show (((l.length : Nat) : Int) == 0) = false from beq_eq_false_iff_ne.2 (by omega), mjolnerlaw03_TextJoins.j1, if_neg (by decide)]
        exact hK k (by omega)
    · refine ⟨2, fun k hk => ?_⟩
      obtain ⟨k, rfl⟩ : ∃ m, k = m + 1 + 1 := ⟨k - 2, by omega⟩
      have hj : text_Join.f l (strOfNums [(c.toNat : Int)]) = some (⟨#[]⟩, 3) := by
        unfold text_Join.f
        rw [if_pos h1, if_neg h2]
      show mjolnerlaw03_TextJoins.j0 (k + 1 + 1) l (c.toNat : Int) true = some true
      rw [mjolnerlaw03_TextJoins.j0]
      simp only [Option.bind_some]
      rw [hj]
      rfl
  · refine ⟨2, fun k hk => ?_⟩
    obtain ⟨k, rfl⟩ : ∃ m, k = m + 1 + 1 := ⟨k - 2, by omega⟩
    have hj : text_Join.f l (strOfNums [(c.toNat : Int)]) = some (⟨#[]⟩, 1) := by
      unfold text_Join.f
      rw [if_neg h1]
    show mjolnerlaw03_TextJoins.j0 (k + 1 + 1) l (c.toNat : Int) true = some true
    rw [mjolnerlaw03_TextJoins.j0]
    simp only [Option.bind_some]
    rw [hj]
    rfl
theorem TextJoins_law (s part by' : ByteArray) (l : List ByteArray) (c : Int) (hs : s.size ≤ 1048576) (hp : part.size ≤ 1048576) (hb : by'.size ≤ 1048576) (hl : l.length ≤ 1048576) (hall : ∀ x ∈ l, x.size ≤ 1048576) (hc : 0 ≤ c ∧ c ≤ 255) : ∃ k, mjolnerlaw03_TextJoins.f k s part by' l c = some true := by
  obtain ⟨b, rfl⟩ : ∃ b : UInt8, c = (b.toNat : Int) := ⟨UInt8.ofNat c.toNat, by rw [UInt8.toNat_ofNat']; omega⟩
  obtain ⟨K, hK⟩ := joins_j0 l b hl hall
  refine ⟨K + 1, ?_⟩
  have hgo := hK (K + 1) (by omega)
  unfold mjolnerlaw03_TextJoins.f mjolnerlaw03_sane.f
  rw [split_f, repl_f]
  unfold splitR replR
  simp only [Option.bind_some]
  by_cases h1 : s.size ≤ 4000 ∧ part.size ≤ 4000 ∧ ¬ part.size = 0
  · rw [if_pos h1]
    simp only [Option.bind_some, if_true]
    have hj1 : text_Join.f ((splitL part.data.toList s.size s.data.toList).map ba) part = some (s, 0) := by
      unfold text_Join.f
      have hl := len_list s
      rw [if_pos ⟨split_short s part h1.1, h1.2.1⟩, joinL_ba, join_split, if_pos (by omega)]
      rfl
    rw [hj1]
    simp only [Option.bind_some, if_true]
    unfold text_Join.f
    by_cases h2 : by'.size ≤ 4000
    · rw [if_pos (show s.size ≤ 4000 ∧ part.size ≤ 4000 ∧ ¬ part.size = 0 ∧ by'.size ≤ 4000 from ⟨h1.1, h1.2.1, h1.2.2, h2⟩),
        if_pos (show (((splitL part.data.toList s.size s.data.toList).map ba).all fun x => decide (x.size ≤ 4000)) = true ∧ by'.size ≤ 4000 from ⟨split_short s part h1.1, h2⟩)]
      by_cases h3 : (joinL ((splitL part.data.toList s.size s.data.toList).map ba) by').length ≤ 4000
      · rw [if_pos h3]
        simp only [Option.bind_some, if_true]
        exact hgo
      · rw [if_neg h3]
        simp only [Option.bind_some, if_true]
        exact hgo
    · rw [if_neg (fun h => h2 h.2.2.2), if_neg (fun h => h2 h.2)]
      simp only [Option.bind_some, if_true]
      exact hgo
  · rw [if_neg h1]
    simp only [Option.bind_some]
    rw [if_neg (by decide)]
    exact hgo
end Go.Proofs.YtdcemnmbfblmiaaDoor.PT
