/- The plain law behind TextMerges: for every text and two edits, what the printed function computes is true. -/
import Derived.Test.YtdcemnmbfblmiaaDoorPTx38
import Derived.Test.YtdcemnmbfblmiaaDoorLEdit
set_option linter.unusedSimpArgs false
namespace Go.Proofs.YtdcemnmbfblmiaaDoor.PT
open Go.RowKit Go.Proofs.YtdcemnmbfblmiaaDoor.Given Go.Proofs.YtdcemnmbfblmiaaDoorW.PrintWords Go.Proofs.YtdcemnmbfblmiaaDoorW.PrintLast Go.Proofs.YtdcemnmbfblmiaaDoorW.PrintMore
set_option linter.unusedVariables false
set_option linter.unusedSimpArgs false

theorem TextMerges_law (s : ByteArray) (a d : Int) (p : ByteArray) (a' d' : Int) (p' : ByteArray) (hs : s.size ≤ 1048576) (hp : p.size ≤ 1048576) (hp' : p'.size ≤ 1048576) : ∃ k, mjolnerlaw03_TextMerges.f k s a d p a' d' p' = some true := by
  refine ⟨0 + 1, ?_⟩
  have idle : ∀ (x : ByteArray) (b1 b2 : Int) (q : ByteArray) (z1 z2 : Int) (z3 : ByteArray), mjolnerlaw03_TextMerges.j0 (0 + 1) s true x true b1 b2 q z1 z2 z3 = some true := fun _ _ _ _ _ _ _ => rfl
  unfold mjolnerlaw03_TextMerges.f mjolnerlaw03_sane.f
  simp only [Option.bind_some]
  by_cases hpr : properE a d = true ∧ properE a' d' = true
  · obtain ⟨h1, h2⟩ := hpr
    obtain ⟨a, d, rfl, rfl, ha, hd⟩ := proper_nat h1
    obtain ⟨a', d', rfl, rfl, ha', hd'⟩ := proper_nat h2
    have hap : ∃ t e, text_Apply.f s a d p = some (t, e) ∧ (e ≠ 0 ∨ (a + d ≤ s.size ∧ e = 0 ∧ t = edited s a d p)) := by
      by_cases hr : a + d ≤ s.size
      · exact ⟨_, _, apply_f s a d p ha hd hr (by omega) (by omega), .inr ⟨hr, rfl, rfl⟩⟩
      · refine ⟨_, _, (show text_Apply.f s a d p = some ((⟨#[]⟩ : ByteArray), 3) from ?_), .inl (by decide)⟩
        unfold text_Apply.f
        rw [if_neg (by rw [h1]; decide), if_pos (by omega)]
    obtain ⟨t, e, hA, he⟩ := hap
    by_cases hm : (a' ≤ a + p.size ∧ a ≤ a' + d') ∧ d + (a - a') + (a' + d' - (a + p.size)) ≤ 1048576
    · obtain ⟨⟨m1, m2⟩, m3⟩ := hm
      rw [merge_f a d a' d' p p' ha hd ha' hd' (by omega) (by omega) m1 m2 m3, hA]
      simp only [Option.bind_some, if_true]
      rcases he with he | ⟨hr, rfl, rfl⟩
      · rw [show (e != 0) = true by simpa using he]
        exact idle _ _ _ _ _ _ _
      · have hsz := edited_size s a d p hr
        rw [mjolnerlaw03_TextMerges.j0, if_neg (by decide)]
        by_cases hr' : a' + d' ≤ (edited s a d p).size
        · have hq : (p.extract 0 (a' - a) ++ p' ++ p.extract (min p.size (a' + d' - a)) p.size).size ≤ 1000000000000 := by
            rw [ByteArray.size_append, ByteArray.size_append, ByteArray.size_extract, ByteArray.size_extract]
            omega
          rw [apply_f _ a' d' p' ha' hd' hr' (by omega) (by omega)]
          simp only [Option.bind_some, if_true]
          rw [apply_f s (min a a') _ _ (by omega) m3 (by omega) (by omega) hq]
          simp only [Option.bind_some, if_true]
          rw [merged s a d a' d' p p' hr m1 m2 hr']
          simp
        · have : text_Apply.f (edited s a d p) a' d' p' = some ((⟨#[]⟩ : ByteArray), 3) := by
            unfold text_Apply.f
            rw [if_neg (by rw [h2]; decide), if_pos (by omega)]
          rw [this]
          rfl
    · have hmf : ∃ c, c ≠ 0 ∧ text_Merge.f a d p a' d' p' = some (0, 0, (⟨#[]⟩ : ByteArray), c) := by
        unfold text_Merge.f
        rw [if_neg (by rw [h1, h2]; simp), if_pos ⟨by omega, by omega⟩]
        by_cases m : (a' : Int) ≤ (a : Int) + p.size ∧ (a : Int) ≤ (a' : Int) + d'
        · refine ⟨1, by decide, ?_⟩
          rw [if_pos m, if_neg (fun h => hm ⟨⟨by omega, by omega⟩, by omega⟩)]
        · refine ⟨5, by decide, ?_⟩
          rw [if_neg m]
      obtain ⟨c, hc, hf⟩ := hmf
      rw [hf, hA]
      simp only [Option.bind_some]
      rw [if_neg hc]
      exact idle _ _ _ _ _ _ _
  · have hf : text_Merge.f a d p a' d' p' = some (0, 0, (⟨#[]⟩ : ByteArray), 1) := by
      unfold text_Merge.f
      rw [if_pos (by
        by_cases h1 : properE a d = true
        · exact .inr (by simpa using fun h2 => hpr ⟨h1, h2⟩)
        · exact .inl (by simpa using h1))]
    have hap : ∃ t e, text_Apply.f s a d p = some (t, e) := by
      unfold text_Apply.f
      split
      · exact ⟨_, _, rfl⟩
      · split
        · exact ⟨_, _, rfl⟩
        · rw [if_pos ⟨by omega, by omega⟩]
          exact ⟨_, _, rfl⟩
    obtain ⟨t, e, hA⟩ := hap
    rw [hf, hA]
    rfl
end Go.Proofs.YtdcemnmbfblmiaaDoor.PT
