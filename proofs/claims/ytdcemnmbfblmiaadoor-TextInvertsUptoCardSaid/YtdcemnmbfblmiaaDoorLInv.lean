/- The plain law behind TextInverts: for every text and edit, what the printed function computes is true. -/
import Derived.Test.YtdcemnmbfblmiaaDoorPTx37
import Derived.Test.YtdcemnmbfblmiaaDoorLEdit
set_option linter.unusedSimpArgs false
namespace Go.Proofs.YtdcemnmbfblmiaaDoor.PT
open Go.RowKit Go.Proofs.YtdcemnmbfblmiaaDoor.Given Go.Proofs.YtdcemnmbfblmiaaDoorW.PrintWords Go.Proofs.YtdcemnmbfblmiaaDoorW.PrintLast Go.Proofs.YtdcemnmbfblmiaaDoorW.PrintMore
set_option linter.unusedVariables false
set_option linter.unusedSimpArgs false

theorem TextInverts_law (s : ByteArray) (a d : Int) (p : ByteArray) (hs : s.size ≤ 1048576) (hp : p.size ≤ 1048576) : ∃ k, mjolnerlaw03_TextInverts.f k s a d p = some true := by
  refine ⟨0 + 1, ?_⟩
  unfold mjolnerlaw03_TextInverts.f mjolnerlaw03_sane.f
  simp only [Option.bind_some]
  by_cases hpr : properE a d = true
  · obtain ⟨a, d, rfl, rfl, ha, hd⟩ := proper_nat hpr
    by_cases hr : a + d ≤ s.size
    · have hx : (s.extract a (a + d)).size = d := by rw [ex_size _ _ _ hr]; omega
      have hsz := edited_size s a d p hr
      rw [apply_f s a d p ha hd hr (by omega) (by omega), invert_f s a d p ha hd hr hp]
      simp only [Option.bind_some, if_true]
      rw [mjolnerlaw03_TextInverts.j0, if_neg (by decide), apply_f _ a p.size _ ha hp (by omega) (by omega) (by omega), invert_f _ a p.size _ ha hp (by omega) (by omega), merge_none s a d p ha hd hp hr]
      simp only [Option.bind_some, if_true]
      rw [edit_back s a d p hr, edit_cut s a d p hr, hx, if_pos rfl, if_neg (by simp), apply_f s a d _ ha hd hr (by omega) (by omega), edit_same s a d hr]
      simp
    · have h1 : text_Apply.f s a d p = some ((⟨#[]⟩ : ByteArray), 3) := by
        unfold text_Apply.f
        rw [if_neg (by rw [hpr]; decide), if_pos (by omega)]
      have h2 : text_Invert.f s a d p = some (0, 0, (⟨#[]⟩ : ByteArray), 3) := by
        unfold text_Invert.f
        rw [if_neg (by rw [hpr]; decide), if_pos (by omega)]
      rw [h1, h2]
      rfl
  · have hpr2 : properE a d = false := by simpa using hpr
    have h1 : text_Apply.f s a d p = some ((⟨#[]⟩ : ByteArray), 1) := by
      unfold text_Apply.f
      rw [if_pos hpr2]
    have h2 : text_Invert.f s a d p = some (0, 0, (⟨#[]⟩ : ByteArray), 1) := by
      unfold text_Invert.f
      rw [if_pos hpr2]
    rw [h1, h2]
    rfl
end Go.Proofs.YtdcemnmbfblmiaaDoor.PT
