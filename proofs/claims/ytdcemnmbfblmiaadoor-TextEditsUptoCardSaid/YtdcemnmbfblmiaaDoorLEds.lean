/- The plain law behind TextEdits: for all texts, edits and numbers, what the printed function computes is true. -/
import Derived.Test.YtdcemnmbfblmiaaDoorPTx30
import Derived.Test.YtdcemnmbfblmiaaDoorLDfn
set_option linter.unusedVariables false
set_option linter.unusedSimpArgs false
namespace Go.Proofs.YtdcemnmbfblmiaaDoor.PT
open Go.RowKit Go.Proofs.YtdcemnmbfblmiaaDoor.Given Go.Proofs.YtdcemnmbfblmiaaDoorW.PrintWords Go.Proofs.YtdcemnmbfblmiaaDoorW.PrintLast Go.Proofs.YtdcemnmbfblmiaaDoorW.PrintMore

theorem wrap_sub (x a b : Int) : wrap64 (wrap64 (x - a) - b) = wrap64 (wrap64 (x - b) - a) := by unfold wrap64; omega
theorem rdiff_l1 : ∀ (k : Nat) (a b : ByteArray) (m h t : Int), mjolnerref03_Diff.l1 k a b m h t = text_Diff.l1 k a b m h t
  | 0, _, _, _, _, _ => by rw [mjolnerref03_Diff.l1, text_Diff.l1]
  | k + 1, a, b, m, h, t => by rw [mjolnerref03_Diff.l1, text_Diff.l1, wrap_sub (a.size : Int) t h, rdiff_l1 k]
theorem rdiff_j1 : ∀ (k : Nat) (a b : ByteArray) (m h : Int), mjolnerref03_Diff.j1 k a b m h = text_Diff.j1 k a b m h
  | 0, _, _, _, _ => by rw [mjolnerref03_Diff.j1, text_Diff.j1]
  | k + 1, a, b, m, h => by rw [mjolnerref03_Diff.j1, text_Diff.j1, rdiff_l1 k]
theorem rdiff_l0 : ∀ (k : Nat) (a b : ByteArray) (m h : Int), mjolnerref03_Diff.l0 k a b m h = text_Diff.l0 k a b m h
  | 0, _, _, _, _ => by rw [mjolnerref03_Diff.l0, text_Diff.l0]
  | k + 1, a, b, m, h => by rw [mjolnerref03_Diff.l0, text_Diff.l0, rdiff_l0 k, rdiff_j1 k]
theorem rdiff_f (k : Nat) (a b : ByteArray) : mjolnerref03_Diff.f k a b = text_Diff.f k a b := by
  unfold mjolnerref03_Diff.f text_Diff.f
  exact rdiff_l0 k _ _ _ _
theorem rproper_f (a d : Int) (p : ByteArray) : mjolnerref03_Proper.f a d p = some (properE a d) := by
  unfold mjolnerref03_Proper.f properE
  by_cases h1 : a ≥ 0
  · rw [if_pos h1, decide_eq_true (show 0 ≤ a from h1)]
    by_cases h2 : a ≤ 1048576
    · rw [if_pos h2, decide_eq_true h2]
      by_cases h3 : d ≥ 0
      · rw [if_pos h3, decide_eq_true (show 0 ≤ d from h3)]
        rfl
      · rw [if_neg h3, decide_eq_false (show ¬ 0 ≤ d from h3)]
        rfl
    · rw [if_neg h2, decide_eq_false h2]
      rfl
  · rw [if_neg h1, decide_eq_false (show ¬ 0 ≤ a from h1)]
    rfl
theorem rapply_f (s : ByteArray) (a d : Int) (p : ByteArray) (hs : s.size ≤ 1048576) (hp : p.size ≤ 1048576) : mjolnerref03_Apply.f s a d p = text_Apply.f s a d p := by
  unfold mjolnerref03_Apply.f text_Apply.f
  rw [rproper_f]
  simp only [Option.bind_some]
  cases hpr : properE a d with
  | false => rfl
  | true =>
    obtain ⟨a, d, rfl, rfl, ha, hd⟩ := proper_nat hpr
    rw [if_pos rfl, if_neg (show ¬ (true = false) by decide), IntWalk.wrap64_in ((a : Int) + d) (by omega)]
    by_cases h1 : (s.size : Int) < (a : Int) + d
    · rw [if_pos h1, if_pos h1]
    · rw [if_neg h1, if_neg h1, if_pos (by omega), if_pos (by omega), if_pos (by rw [ex_size _ _ _ (by omega)]; omega), if_pos (by omega), if_pos (by omega),
        if_pos (by rw [ByteArray.size_append, ex_size _ _ _ (by omega), ex_size _ _ _ (Nat.le_refl _)]; omega), if_pos ⟨by omega, by omega⟩]
theorem apply_some (s : ByteArray) (a d : Int) (p : ByteArray) (hs : s.size ≤ 1048576) (hp : p.size ≤ 1048576) : ∃ x e, text_Apply.f s a d p = some (x, e) := by
  unfold text_Apply.f
  split
  · exact ⟨_, _, rfl⟩
  · split
    · exact ⟨_, _, rfl⟩
    · rw [if_pos ⟨by omega, by omega⟩]
      exact ⟨_, _, rfl⟩
theorem invert_some (s : ByteArray) (a d : Int) (p : ByteArray) : ∃ x y z e, text_Invert.f s a d p = some (x, y, z, e) := by
  unfold text_Invert.f
  split
  · exact ⟨_, _, _, _, rfl⟩
  · split
    · exact ⟨_, _, _, _, rfl⟩
    · split <;> exact ⟨_, _, _, _, rfl⟩
theorem rinvert_ok (s : ByteArray) (a d : Nat) (p : ByteArray) (ha : a ≤ 1048576) (hd : d ≤ 1048576) (hr : a + d ≤ s.size) (hs : s.size ≤ 1048576) (hp : p.size ≤ 1048576) :
    mjolnerref03_Invert.f s a d p = some ((a : Int), (p.size : Int), s.extract a (a + d), 0) := by
  unfold mjolnerref03_Invert.f
  rw [rapply_f s a d p hs hp, apply_f s a d p ha hd hr (by omega) (by omega), Option.bind_some, if_pos rfl]
  have w : wrap64 ((a : Int) + d) = ((a + d : Nat) : Int) := by rw [IntWalk.wrap64_in _ (by omega)]; omega
  rw [if_pos (by omega), w, if_pos (by omega), if_pos (by omega), rproper_f, proper_mk ha hp, Option.bind_some, if_pos rfl]
  rw [Int.toNat_natCast, Int.toNat_natCast]
theorem rinvert_bad (s : ByteArray) (a d : Int) (p : ByteArray) (e : Int) (he : ¬ e = 0) (hs : s.size ≤ 1048576) (hp : p.size ≤ 1048576) (h : text_Apply.f s a d p = some ((⟨#[]⟩ : ByteArray), e)) : mjolnerref03_Invert.f s a d p = some (0, 0, (⟨#[]⟩ : ByteArray), e) := by
  unfold mjolnerref03_Invert.f
  rw [rapply_f s a d p hs hp, h, Option.bind_some, if_neg he]
theorem rinvert_f (s : ByteArray) (a d : Int) (p : ByteArray) (hs : s.size ≤ 1048576) (hp : p.size ≤ 1048576) : mjolnerref03_Invert.f s a d p = text_Invert.f s a d p := by
  cases hpr : properE a d with
  | false =>
    have e1 : text_Apply.f s a d p = some ((⟨#[]⟩ : ByteArray), 1) := by unfold text_Apply.f; rw [if_pos hpr]
    have e2 : text_Invert.f s a d p = some (0, 0, (⟨#[]⟩ : ByteArray), 1) := by unfold text_Invert.f; rw [if_pos hpr]
    rw [rinvert_bad s a d p 1 (by decide) hs hp e1, e2]
  | true =>
    have hn : ¬ properE a d = false := by rw [hpr]; decide
    by_cases h1 : (s.size : Int) < a + d
    · have e1 : text_Apply.f s a d p = some ((⟨#[]⟩ : ByteArray), 3) := by unfold text_Apply.f; rw [if_neg hn, if_pos h1]
      have e2 : text_Invert.f s a d p = some (0, 0, (⟨#[]⟩ : ByteArray), 3) := by unfold text_Invert.f; rw [if_neg hn, if_pos h1]
      rw [rinvert_bad s a d p 3 (by decide) hs hp e1, e2]
    · obtain ⟨a, d, rfl, rfl, ha, hd⟩ := proper_nat hpr
      rw [rinvert_ok s a d p ha hd (by omega) hs hp, invert_f s a d p ha hd (by omega) hp]
theorem mx_eq (a b : Int) : mx a b = max a b := by unfold mx; omega
theorem mn_eq (a b : Int) : mn a b = min a b := by unfold mn; omega
theorem rmerge_f (k : Nat) (a d : Int) (p : ByteArray) (a' d' : Int) (p' : ByteArray) (hp : p.size ≤ 1048576) (hp' : p'.size ≤ 1048576) : mjolnerref03_Merge.f (k + 1 + 1) a d p a' d' p' = text_Merge.f a d p a' d' p' := by
  unfold mjolnerref03_Merge.f text_Merge.f
  rw [rproper_f, rproper_f]
  simp only [Option.bind_some]
  cases hpr : properE a d with
  | false => rfl
  | true =>
    cases hpr' : properE a' d' with
    | false => rfl
    | true =>
      obtain ⟨a, d, rfl, rfl, ha, hd⟩ := proper_nat hpr
      obtain ⟨a', d', rfl, rfl, ha', hd'⟩ := proper_nat hpr'
      have w1 : wrap64 ((a : Int) + (p.size : Int)) = (a : Int) + p.size := IntWalk.wrap64_in _ (by omega)
      have w2 : wrap64 ((a' : Int) + (d' : Int)) = (a' : Int) + d' := IntWalk.wrap64_in _ (by omega)
      rw [if_pos rfl, show (!true) = false from rfl, mjolnerref03_Merge.j0, if_neg (by decide), w1, w2, if_neg (show ¬ (true = false ∨ true = false) by decide), if_pos (show p.size ≤ 1000000000000 ∧ p'.size ≤ 1000000000000 from ⟨by omega, by omega⟩)]
      by_cases h1 : (a' : Int) > (a : Int) + p.size
      · rw [if_pos h1, mjolnerref03_Merge.j1, if_pos rfl, if_neg (by omega)]
      · rw [if_neg h1]
        by_cases h2 : (a' : Int) + d' < a
        · rw [decide_eq_true h2, mjolnerref03_Merge.j1, if_pos rfl, if_neg (by omega)]
        · have w3 : wrap64 ((a' : Int) - a) = (a' : Int) - a := IntWalk.wrap64_in _ (by omega)
          have w4 : wrap64 ((a' : Int) + d' - a) = (a' : Int) + d' - a := IntWalk.wrap64_in _ (by omega)
          have w5 : wrap64 ((a : Int) - a') = (a : Int) - a' := IntWalk.wrap64_in _ (by omega)
          have w6 : wrap64 ((a' : Int) + d' - (a + p.size)) = (a' : Int) + d' - (a + p.size) := IntWalk.wrap64_in _ (by omega)
          have w7 : wrap64 ((d : Int) + max 0 ((a : Int) - a')) = (d : Int) + max 0 ((a : Int) - a') := IntWalk.wrap64_in _ (by omega)
          have w8 : wrap64 ((d : Int) + max 0 ((a : Int) - a') + max 0 ((a' : Int) + d' - (a + p.size))) = (d : Int) + max 0 ((a : Int) - a') + max 0 ((a' : Int) + d' - (a + p.size)) := IntWalk.wrap64_in _ (by omega)
          rw [decide_eq_false h2, mjolnerref03_Merge.j1, if_neg (by decide), if_pos (show (a' : Int) ≤ (a : Int) + p.size ∧ (a : Int) ≤ (a' : Int) + d' from ⟨by omega, by omega⟩), w3, w4, w5, w6, mx_eq, mx_eq, mx_eq, mn_eq, mn_eq, w7, w8]
          have t1 : (p.extract 0 (max 0 ((a' : Int) - a)).toNat).size = (max 0 ((a' : Int) - a)).toNat := by rw [ex_size _ _ _ (by omega)]; omega
          have t2 : (p.extract (min (p.size : Int) ((a' : Int) + d' - a)).toNat p.size).size = p.size - (min (p.size : Int) ((a' : Int) + d' - a)).toNat := by rw [ex_size _ _ _ (Nat.le_refl _)]
          rw [if_pos (by omega), if_pos (by omega), if_pos (by omega), if_pos (by omega), if_pos (by rw [t1]; omega), if_pos (by rw [ByteArray.size_append, t1, t2]; omega), rproper_f]
          simp only [Option.bind_some]
          by_cases h3 : (d : Int) + max 0 ((a : Int) - a') + max 0 ((a' : Int) + d' - (a + p.size)) ≤ 1048576
          · rw [if_pos h3, if_pos (by unfold properE; simp only [Bool.and_eq_true, decide_eq_true_eq]; omega)]
          · rw [if_neg h3, if_neg (by unfold properE; simp only [Bool.and_eq_true, decide_eq_true_eq]; omega)]
theorem merge_some (a d : Int) (p : ByteArray) (a' d' : Int) (p' : ByteArray) (hp : p.size ≤ 1048576) (hp' : p'.size ≤ 1048576) : ∃ x y z e, text_Merge.f a d p a' d' p' = some (x, y, z, e) := by
  unfold text_Merge.f
  split
  · exact ⟨_, _, _, _, rfl⟩
  · rw [if_pos ⟨by omega, by omega⟩]
    split
    · split <;> exact ⟨_, _, _, _, rfl⟩
    · exact ⟨_, _, _, _, rfl⟩
theorem rmoved_f (k : Nat) (a d : Int) (p : ByteArray) (n : Int) : mjolnerref03_Moved.f (k + 1) a d p n = text_Moved.f (k + 1) a d p n := rfl
theorem moved_some (k : Nat) (a d : Int) (p : ByteArray) (n : Int) : ∃ x e, text_Moved.f (k + 1) a d p n = some (x, e) := by
  have hj : ∀ b, ∃ x e, text_Moved.j0 (k + 1) n b a d p = some (x, e) := by
    intro b
    rw [text_Moved.j0]
    split
    · exact ⟨_, _, rfl⟩
    · split
      · exact ⟨_, _, rfl⟩
      · split <;> exact ⟨_, _, rfl⟩
  have hpq : ∃ b, text_proper.f a d p = some b := ⟨_, rproper_f a d p⟩
  obtain ⟨b, hb⟩ := hpq
  unfold text_Moved.f
  rw [hb]
  simp only [Option.bind_some]
  split
  · split <;> exact hj _
  · exact hj _
theorem TextEdits_any (a b : ByteArray) (x0 x1 : Int) (x2 : ByteArray) (y0 y1 : Int) (y2 : ByteArray) (n : Int) (ha : a.size ≤ 1048576) (hb : b.size ≤ 1048576) (hx : x2.size ≤ 1048576) (hy : y2.size ≤ 1048576) (k : Nat) (hk : 2 * a.size + 10 ≤ k) :
    mjolnerlaw03_TextEdits.f k a b x0 x1 x2 y0 y1 y2 n = some true := by
  obtain ⟨k, rfl⟩ : ∃ m, k = m + 1 + 1 + 1 := ⟨k - 3, by omega⟩
  obtain ⟨p1, p2, hp⟩ := apply_some a x0 x1 x2 ha hx
  obtain ⟨q1, q2, q3, q4, hq⟩ := invert_some a x0 x1 x2
  obtain ⟨h, t, _, hd⟩ := diff_f a b ha hb (k + 1 + 1 + 1) (by omega)
  obtain ⟨m1, m2, m3, m4, hm⟩ := merge_some x0 x1 x2 y0 y1 y2 hx hy
  obtain ⟨v1, v2, hv⟩ := moved_some (k + 1) x0 x1 x2 n
  unfold mjolnerlaw03_TextEdits.f
  rw [rapply_f a x0 x1 x2 ha hx, rinvert_f a x0 x1 x2 ha hx, hp, hq, rdiff_f, hd]
  simp only [Option.bind_some, if_true, beq_self_eq_true, Bool.not_true, Bool.or_self, Bool.false_eq_true, if_false]
  rw [mjolnerlaw03_TextEdits.j0, if_neg (by decide), rmerge_f k _ _ _ _ _ _ hx hy, hm, rmoved_f, hv]
  unfold mjolnerlaw03_sane.f
  simp
theorem TextEdits_law (a b : ByteArray) (x0 x1 : Int) (x2 : ByteArray) (y0 y1 : Int) (y2 : ByteArray) (n : Int) (ha : a.size ≤ 1048576) (hb : b.size ≤ 1048576) (hx : x2.size ≤ 1048576) (hy : y2.size ≤ 1048576) :
    ∃ k, mjolnerlaw03_TextEdits.f k a b x0 x1 x2 y0 y1 y2 n = some true := ⟨_, TextEdits_any a b x0 x1 x2 y0 y1 y2 n ha hb hx hy _ (Nat.le_refl _)⟩
end Go.Proofs.YtdcemnmbfblmiaaDoor.PT
