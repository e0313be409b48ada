/- A part of the proof of 'tripRings_holds', for every input, without a condition. -/
import Derived.Test.YtlmlneneakpohaaTRiQ2
import Derived.Test.YtlmlneneakpohaaTRiQd
import Derived.Test.YtlmlneneakpohaaTRiOAllx0
import Derived.Test.YtlmlneneakpohaaTRiOAllx2
import Derived.Test.YtlmlneneakpohaaTRiOAllx3
import Derived.Test.YtlmlneneakpohaaTRiOAllx4
import Derived.Test.YtlmlneneakpohaaTRiOAllx9
import Derived.Test.YtlmlneneakpohaaTRiOAllx20
import Derived.Test.YtlmlneneakpohaaTRiOAllx5
import Derived.Test.YtlmlneneakpohaaTRiOAllx8
import Derived.Test.YtlmlneneakpohaaTRiOAllx24
namespace Go.Proofs.Ytlmlneneakpohaa.OAll
open Go.RowKit Go.Proofs.YtlmlneneakpohaaW.PrintWords Go.Proofs.YtlmlneneakpohaaW.PrintLast Go.Proofs.YtlmlneneakpohaaW.PrintMore
set_option linter.unusedVariables false
set_option linter.unusedSimpArgs false
theorem match_ord {l : List S36} (hn : 1 ≤ l.length) : IsOrd l.length (matchI l) := by
  refine ⟨matchI_in hn, ?_, matchI_len l⟩
  rw [List.nodup_iff_pairwise_ne, List.pairwise_iff_getElem]
  intro i j hi hj hij e
  have hi' : i < l.length := by rw [matchI_len] at hi; exact hi
  have hj' : j < l.length := by rw [matchI_len] at hj; exact hj
  rw [← rd_get hi, ← rd_get hj, (match_rd hi').1, (match_rd hj').1] at e
  have := (nxt_perm l).inj i j hi' hj' (by omega)
  omega
end Go.Proofs.Ytlmlneneakpohaa.OAll
