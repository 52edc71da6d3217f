/- The plain law behind TextParts: for all texts and lists of texts, what the printed function computes is true. -/
import Derived.Test.YtdcemnmbfblmiaaDoorPTx17
import Derived.Test.YtdcemnmbfblmiaaDoorLOcc
set_option linter.unusedVariables false
set_option linter.unusedSimpArgs false
namespace Go.Proofs.YtdcemnmbfblmiaaDoor.PT
open Go.RowKit Go.Proofs.YtdcemnmbfblmiaaDoor.Given Go.Proofs.YtdcemnmbfblmiaaDoorW.PrintWords Go.Proofs.YtdcemnmbfblmiaaDoorW.PrintLast Go.Proofs.YtdcemnmbfblmiaaDoorW.PrintMore

theorem rsplit_loop (s p : ByteArray) (hs : s.size ≤ 4000) (hp : p.size ≤ 4000) (h0 : ¬ p.size = 0) : ∀ (d i b n k : Nat) (out : List ByteArray), i + d = s.size + 1 → d < k → b ≤ i → b ≤ s.size → s.size ≤ b + n → out.length ≤ b →
    (∀ j, b ≤ j → j < i → Lib.occAt s.data.toList p.data.toList j = false) →
    mjolnerref03_Split.l0 k s p out (b : Int) (i : Int) = some (out ++ (splitL p.data.toList n (s.data.toList.drop b)).map ba, 0) := by
  have hl := len_list s
  have hpl := len_list p
  intro d
  induction d using Nat.strongRecOn with
  | _ d ih =>
  intro i b n k out hi hk hbi hbs hn hout hno
  obtain ⟨k, rfl⟩ : ∃ m, k = m + 1 := ⟨k - 1, by omega⟩
  by_cases hle : i ≤ s.size
  · rw [mjolnerref03_Split.l0, if_pos (by omega), occurs_f s p i hle (by omega) (by omega)]
    simp only [Option.bind_some]
    cases ho : Lib.occAt s.data.toList p.data.toList i with
    | false =>
      rw [if_neg (by decide), w64 (n := i + 1) (by omega) (by omega)]
      refine ih (d - 1) (by omega) (i + 1) b n k out (by omega) (by omega) (by omega) hbs hn hout (fun j h1 h2 => ?_)
      rcases Nat.lt_or_ge j i with h | h
      · exact hno j h1 h
      · rw [show j = i by omega]
        exact ho
    | true =>
      have hroom : i + p.size ≤ s.size := by
        rcases Lib.occAt_room ho with h' | h'
        · omega
        · rw [h'] at hpl
          simp only [List.length_nil] at hpl
          omega
      have hix : Lib.index (s.data.toList.drop b) p.data.toList = ((i - b : Nat) : Int) := by
        refine Lib.index_first (by rw [List.length_drop]; omega) (by rw [occ_off, show b + (i - b) = i by omega]; exact ho) (fun j hj => ?_)
        rw [occ_off]
        exact hno (b + j) (by omega) (by omega)
      obtain ⟨n, rfl⟩ : ∃ m, n = m + 1 := ⟨n - 1, by omega⟩
      rw [if_pos rfl, if_pos (by omega), if_pos (by omega), if_pos (by omega), Int.toNat_natCast, Int.toNat_natCast, w64 (n := i + p.size) (by omega) (by omega),
        ih (d - p.size) (by omega) (i + p.size) (i + p.size) n k _ (by omega) (by omega) (Nat.le_refl _) hroom (by omega) (by simp; omega) (fun j h1 h2 => by omega), splitL, if_neg (by rw [hix]; omega), hix, Int.toNat_natCast,
        List.drop_drop, show b + (i - b + p.data.toList.length) = i + p.size by omega, List.append_assoc]
      congr 2
      rw [List.map_cons, ba_ext _ _ (ex_list s b i)]
      rfl
  · rw [mjolnerref03_Split.l0, if_neg (by omega), if_pos (by omega), if_pos (by omega), if_pos (by omega), Int.toNat_natCast]
    have hix : Lib.index (s.data.toList.drop b) p.data.toList = -1 := Lib.index_none (fun j hj => by
      rw [List.length_drop] at hj
      rw [occ_off]
      exact hno (b + j) (by omega) (by omega))
    have hsp : splitL p.data.toList n (s.data.toList.drop b) = [s.data.toList.drop b] := by
      cases n with
      | zero => rfl
      | succ n => rw [splitL, if_pos (by rw [hix]; decide)]
    rw [hsp]
    congr 3
    rw [List.map_singleton]
    congr 1
    refine ba_ext _ _ ?_
    rw [ex_list, List.take_of_length_le (by rw [List.length_drop]; omega)]
theorem rsplit_f (s sep : ByteArray) (k : Nat) (hk : s.size + 5 ≤ k) : mjolnerref03_Split.f k s sep = splitR s sep := by
  obtain ⟨k, rfl⟩ : ∃ m, k = m + 1 := ⟨k - 1, by omega⟩
  unfold mjolnerref03_Split.f splitR mjolnerref03_Valid.f
  simp only [Option.bind_some]
  by_cases h1 : s.size ≤ 4000
  · rw [decide_eq_true (by omega), if_pos rfl]
    by_cases h2 : sep.size ≤ 4000
    · rw [decide_eq_true (by omega), if_pos rfl]
      by_cases h3 : sep.size = 0
      · rw [show (sep.toList == ([] : List UInt8)) = true from beq_iff_eq.2 ((nonempty_iff sep).2 h3), if_neg (fun h => h.2.2 h3)]
        rfl
      · rw [show (sep.toList == ([] : List UInt8)) = false from beq_eq_false_iff_ne.2 (fun h => h3 ((nonempty_iff sep).1 h)), if_pos ⟨h1, h2, h3⟩, mjolnerref03_Split.j0, if_neg (by decide)]
        have := rsplit_loop s sep h1 h2 h3 (s.size + 1) 0 0 s.size k [] (by omega) (by omega) (by omega) (by omega) (by omega) (by simp) (fun j h1 h2 => by omega)
        rw [List.drop_zero, List.nil_append] at this
        exact this
    · rw [decide_eq_false (by omega), if_neg (by decide), if_neg (fun h => h2 h.2.1)]
      rfl
  · rw [decide_eq_false (by omega), if_neg (by decide), if_neg (fun h => h1 h.1)]
    rfl
def sizes (l : List ByteArray) : Nat := (l.map fun s => s.size).sum
theorem rd_at (l : List ByteArray) (i : Nat) (h : i < l.length) : rdOf ByteArray.empty l (i : Int) = l[i] := by unfold rdOf; simp [h]
theorem sizes_succ (l : List ByteArray) (i : Nat) (h : i < l.length) : sizes (l.take (i + 1)) = sizes (l.take i) + l[i].size := by
  unfold sizes
  rw [List.take_succ_eq_append_getElem h, List.map_append, List.sum_append]
  simp
theorem sizes_le (l : List ByteArray) : ∀ i, i ≤ l.length → (∀ j (h : j < l.length), j < i → l[j].size ≤ 4000) → sizes (l.take i) ≤ i * 4000
  | 0, _, _ => by simp [sizes]
  | i + 1, h, hv => by
    have ih := sizes_le l i (by omega) (fun j hj hji => hv j hj (by omega))
    have := hv i (by omega) (by omega)
    rw [sizes_succ l i (by omega)]
    omega
theorem joinL_len (l : List ByteArray) (sep : ByteArray) (h : 0 < l.length) : (joinL l sep).length = sizes l + (l.length - 1) * sep.size := by
  cases l with
  | nil => simp at h
  | cons x r =>
    have h1 : (r.map ((fun x : List UInt8 => x.length) ∘ fun s : ByteArray => s.data.toList)) = r.map (fun s => s.size) := List.map_congr_left (fun s _ => len_list s)
    unfold joinL sizes
    rw [List.map_cons, Lib.join_length, List.length_map, len_list, Nat.mul_comm]
    unfold Lib.lens
    rw [List.map_cons, List.map_map, List.sum_cons, List.map_cons, List.sum_cons, h1, len_list, List.length_cons, Nat.add_sub_cancel]
    omega
theorem rjoin_l1 (l : List ByteArray) (sep : ByteArray) (hl : l.length ≤ 1048576) (hsep : sep.size ≤ 4000) (hlen : (joinL l sep).length ≤ 4000) : ∀ (d i k : Nat), i + d = l.length → d < k →
    mjolnerref03_Join.l1 k l sep (ba (joinL (l.take i) sep)) (i : Int) = some (ba (joinL l sep), 0) := by
  intro d
  induction d with
  | zero =>
    intro i k hi hk
    obtain ⟨k, rfl⟩ : ∃ m, k = m + 1 := ⟨k - 1, by omega⟩
    rw [mjolnerref03_Join.l1, if_neg (by omega), List.take_of_length_le (by omega)]
  | succ d ih =>
    intro i k hi hk
    obtain ⟨k, rfl⟩ : ∃ m, k = m + 1 := ⟨k - 1, by omega⟩
    have h1 := joinL_take_succ l sep i (by omega)
    have h2 := joinL_le l sep (i + 1) (by omega)
    have h3 := joinL_le l sep i (by omega)
    have h4 := ih (i + 1) k (by omega) (by omega)
    have h5 := congrArg List.length h1
    rw [List.length_append, List.length_append, len_list] at h5
    rw [mjolnerref03_Join.l1, if_pos (by omega), w64 (n := i + 1) (by omega) (by omega)]
    by_cases hz : i = 0
    · rw [if_neg (by omega), if_pos (by omega), if_pos (by rw [ba_size']; omega)]
      rw [if_pos hz, List.append_nil] at h1
      rw [show ba (joinL (l.take i) sep) ++ rdOf ByteArray.empty l (i : Int) = ba (joinL (l.take (i + 1)) sep) from ba_ext _ _ (by rw [app_list, ba_list', h1])]
      exact h4
    · rw [if_pos (by omega), if_pos (by rw [ba_size']; omega), if_pos (by omega)]
      rw [if_neg hz] at h1 h5
      rw [len_list] at h5
      rw [if_pos (by rw [ByteArray.size_append, ba_size']; omega)]
      rw [show ba (joinL (l.take i) sep) ++ sep ++ rdOf ByteArray.empty l (i : Int) = ba (joinL (l.take (i + 1)) sep) from ba_ext _ _ (by rw [app_list, app_list, ba_list', h1])]
      exact h4
theorem rjoin_l0 (l : List ByteArray) (sep : ByteArray) (hl : l.length ≤ 1048576) : ∀ (d i k : Nat), i + d = l.length → d + l.length + 3 < k → (∀ j (h : j < l.length), j < i → l[j].size ≤ 4000) →
    mjolnerref03_Join.l0 k l sep ((sizes (l.take i) : Nat) : Int) (i : Int) = text_Join.f l sep := by
  intro d
  induction d with
  | zero =>
    intro i k hi hk hv
    obtain ⟨k, rfl⟩ : ∃ m, k = m + 1 + 1 := ⟨k - 2, by omega⟩
    have hall : (l.all fun s => decide (s.size ≤ 4000)) = true := by
      rw [List.all_eq_true]
      intro x hx
      obtain ⟨j, hj, rfl⟩ := List.mem_iff_getElem.1 hx
      exact decide_eq_true (hv j hj (by omega))
    have hsz := sizes_le l i (by omega) hv
    rw [List.take_of_length_le (by omega)] at hsz ⊢
    rw [mjolnerref03_Join.l0, if_neg (by omega)]
    unfold mjolnerref03_Valid.f text_Join.f
    simp only [Option.bind_some]
    by_cases h1 : sep.size ≤ 4000
    · rw [decide_eq_true (by omega), if_pos rfl, if_pos (show (l.all fun s => decide (s.size ≤ 4000)) = true ∧ sep.size ≤ 4000 from ⟨hall, h1⟩)]
      have hj : ∀ m : Nat, m = (joinL l sep).length → mjolnerref03_Join.j1 (k + 1) l sep (m : Int) = (if (joinL l sep).length ≤ 4000 then some (ba (joinL l sep), 0) else some (⟨#[]⟩, 3)) := by
        rintro m rfl
        rw [mjolnerref03_Join.j1]
        by_cases h2 : (joinL l sep).length ≤ 4000
        · rw [if_neg (by omega), if_pos h2]
          exact rjoin_l1 l sep hl h1 h2 l.length 0 k (by omega) (by omega)
        · rw [if_pos (by omega), if_neg h2]
      by_cases h2 : 0 < l.length
      · have hjl := joinL_len l sep h2
        have hmul : (l.length - 1) * sep.size ≤ 1048576 * 4000 := Nat.mul_le_mul (by omega) h1
        rw [if_pos (by omega), w64 (a := (l.length : Int) - 1) (n := l.length - 1) (by omega) (by omega), show ((l.length - 1 : Nat) : Int) * (sep.size : Int) = (((l.length - 1) * sep.size : Nat) : Int) by rw [Int.natCast_mul], w64 (a := (((l.length - 1) * sep.size : Nat) : Int)) (n := (l.length - 1) * sep.size) rfl (by omega),
          w64 (n := sizes l + (l.length - 1) * sep.size) (by omega) (by omega)]
        exact hj _ hjl.symm
      · have hnil : l = [] := List.length_eq_zero_iff.1 (by omega)
        rw [if_neg (by omega)]
        exact hj _ (by subst hnil; rfl)
    · rw [decide_eq_false (by omega), if_neg (by decide), if_neg (fun h => h1 h.2)]
  | succ d ih =>
    intro i k hi hk hv
    obtain ⟨k, rfl⟩ : ∃ m, k = m + 1 := ⟨k - 1, by omega⟩
    have hsz := sizes_le l i (by omega) hv
    rw [mjolnerref03_Join.l0, if_pos (by omega), if_pos (by omega), rd_at l i (by omega)]
    unfold mjolnerref03_Valid.f
    simp only [Option.bind_some]
    by_cases h1 : l[i].size ≤ 4000
    · rw [decide_eq_true (by omega), if_pos rfl, w64 (n := sizes (l.take (i + 1))) (by rw [sizes_succ l i (by omega)]; omega) (by rw [sizes_succ l i (by omega)]; omega), w64 (n := i + 1) (by omega) (by omega)]
      refine ih (i + 1) k (by omega) (by omega) (fun j hj hji => ?_)
      rcases Nat.lt_or_ge j i with h | h
      · exact hv j hj h
      · have : j = i := by omega
        subst this
        exact h1
    · rw [decide_eq_false (by omega), if_neg (by decide)]
      unfold text_Join.f
      rw [if_neg (fun h => h1 (by have := List.all_eq_true.1 h.1 l[i] (List.getElem_mem _); simpa using this))]
theorem rjoin_f (l : List ByteArray) (sep : ByteArray) (hl : l.length ≤ 1048576) (k : Nat) (hk : 2 * l.length + 4 ≤ k) : mjolnerref03_Join.f k l sep = text_Join.f l sep :=
  rjoin_l0 l sep hl l.length 0 k (by omega) (by omega) (fun j _ hj => absurd hj (by omega))
theorem rrepl_f (s part by' : ByteArray) (k : Nat) (hk : 3 * s.size + 20 ≤ k) : mjolnerref03_Replace.f k s part by' = replR s part by' := by
  unfold mjolnerref03_Replace.f mjolnerref03_Valid.f
  simp only [Option.bind_some]
  rw [rsplit_f s part k (by omega)]
  unfold splitR replR
  by_cases h1 : by'.size ≤ 4000
  · rw [decide_eq_true (by omega), if_pos rfl]
    by_cases h2 : s.size ≤ 4000 ∧ part.size ≤ 4000 ∧ ¬ part.size = 0
    · rw [if_pos h2, if_pos ⟨h2.1, h2.2.1, h2.2.2, h1⟩]
      simp only [Option.bind_some, if_true]
      have hm := split_many part.data.toList s.size s.data.toList
      rw [rjoin_f _ _ (by rw [List.length_map]; omega) k (by rw [List.length_map]; omega)]
      unfold text_Join.f
      rw [if_pos ⟨split_short s part h2.1, h1⟩]
      split <;> rfl
    · rw [if_neg h2, if_neg (fun h => h2 ⟨h.1, h.2.1, h.2.2.1⟩)]
      rfl
  · rw [decide_eq_false (by omega), if_neg (by decide), if_neg (fun h => h1 h.2.2.2)]
theorem splitR_some (s sep : ByteArray) : ∃ l e, splitR s sep = some (l, e) ∧ l.length ≤ 4001 := by
  unfold splitR
  split
  · rename_i h
    refine ⟨_, _, rfl, ?_⟩
    have hm := split_many sep.data.toList s.size s.data.toList
    rw [List.length_map]
    omega
  · exact ⟨_, _, rfl, by simp⟩
theorem replR_some (s part by' : ByteArray) : ∃ x e, replR s part by' = some (x, e) := by
  unfold replR
  split
  · split <;> exact ⟨_, _, rfl⟩
  · exact ⟨_, _, rfl⟩
theorem join_some (l : List ByteArray) (sep : ByteArray) : ∃ x e, text_Join.f l sep = some (x, e) := by
  unfold text_Join.f
  split
  · split <;> exact ⟨_, _, rfl⟩
  · exact ⟨_, _, rfl⟩
theorem TextParts_any (s part by' : ByteArray) (l : List ByteArray) (hs : s.size ≤ 1048576) (hl : l.length ≤ 1048576) (k : Nat) (hk : 3 * s.size + 2 * l.length + 5000 ≤ k) : mjolnerlaw03_TextParts.f k s part by' l = some true := by
  obtain ⟨x, e, h1⟩ := replR_some s part by'
  obtain ⟨q, f, h2, h3⟩ := splitR_some s part
  obtain ⟨y, g, h4⟩ := join_some l by'
  have ht : text_Replace.f k s part by' = replR s part by' := by
    obtain ⟨m, rfl⟩ : ∃ m, k = m + 1 := ⟨k - 1, by omega⟩
    exact repl_f s part by' m
  unfold mjolnerlaw03_TextParts.f mjolnerlaw03_sane.f
  rw [ht, rrepl_f s part by' k (by omega), h1, split_f, rsplit_f s part k (by omega), h2, rjoin_f l by' hl k (by omega), h4]
  simp only [Option.bind_some, if_true]
  rw [same_f q (by omega) k (by omega)]
  simp
theorem TextParts_law (s part by' : ByteArray) (l : List ByteArray) (hs : s.size ≤ 1048576) (hp : part.size ≤ 1048576) (hb : by'.size ≤ 1048576) (hl : l.length ≤ 1048576) (hall : ∀ x ∈ l, x.size ≤ 1048576) : ∃ k, mjolnerlaw03_TextParts.f k s part by' l = some true := ⟨_, TextParts_any s part by' l hs hl _ (Nat.le_refl _)⟩
end Go.Proofs.YtdcemnmbfblmiaaDoor.PT
