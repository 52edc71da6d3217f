/- What the reference says of an occurrence. -/
import Derived.Test.YtdcemnmbfblmiaaDoorPTx5
import Derived.Test.YtdcemnmbfblmiaaDoorLFnd
set_option linter.unusedVariables false
set_option linter.unusedSimpArgs false
namespace Go.Proofs.YtdcemnmbfblmiaaDoor.PT
open Go.RowKit Go.Proofs.YtdcemnmbfblmiaaDoor.Given Go.Proofs.YtdcemnmbfblmiaaDoorW.PrintWords Go.Proofs.YtdcemnmbfblmiaaDoorW.PrintLast Go.Proofs.YtdcemnmbfblmiaaDoorW.PrintMore

theorem occurs_f (s p : ByteArray) (i : Nat) (hi : i ≤ s.size) (hs : s.size ≤ 1048576) (hp : p.size ≤ 1048576) : mjolnerref03_Occurs.f s p i = some (Lib.occAt s.data.toList p.data.toList i) := by
  have hl := len_list s
  have hpl := len_list p
  unfold mjolnerref03_Occurs.f
  rw [w64 (n := i + p.size) (by omega) (by omega)]
  by_cases h : i + p.size ≤ s.size
  · rw [if_pos (by omega), if_pos (by omega), if_pos (by omega), Int.toNat_natCast, Int.toNat_natCast, ByteArray.toList_eq, ByteArray.toList_eq, ex_list, Lib.occAt_iff_take _ _ _ (by omega), show i + p.size - i = p.data.toList.length by omega]
  · rw [if_neg (by omega)]
    congr 1
    cases ho : Lib.occAt s.data.toList p.data.toList i with
    | false => rfl
    | true =>
      rcases Lib.occAt_room ho with h' | h'
      · omega
      · rw [h'] at hpl
        simp only [List.length_nil] at hpl
        omega
end Go.Proofs.YtdcemnmbfblmiaaDoor.PT
