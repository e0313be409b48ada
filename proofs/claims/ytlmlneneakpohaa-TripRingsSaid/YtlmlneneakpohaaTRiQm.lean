/- A part of the proof of 'tripRings_holds', for every input, without a condition. -/
import Derived.Test.YtlmlneneakpohaaTRiQk
namespace Go.Proofs.Ytlmlneneakpohaa.OAll
open Go.RowKit Go.Proofs.YtlmlneneakpohaaW.PrintWords Go.Proofs.YtlmlneneakpohaaW.PrintLast Go.Proofs.YtlmlneneakpohaaW.PrintMore
set_option linter.unusedVariables false
set_option linter.unusedSimpArgs false
def nI (m : List Nat) : List Int := m.map fun k : Nat => (k : Int)
theorem nI_len (m : List Nat) : (nI m).length = m.length := by simp [nI]
end Go.Proofs.Ytlmlneneakpohaa.OAll
