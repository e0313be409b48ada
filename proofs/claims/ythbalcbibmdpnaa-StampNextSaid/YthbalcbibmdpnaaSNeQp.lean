/- A part of the proof of 'stampNext_holds', for every input, without a condition. -/
import Derived.Test.YthbalcbibmdpnaaSNeQh
import Derived.Test.YthbalcbibmdpnaaSNeQi
namespace Go.Proofs.Ythbalcbibmdpnaa.OAll
open Go.RowKit Go.Proofs.YthbalcbibmdpnaaW.PrintWords Go.Proofs.YthbalcbibmdpnaaW.PrintLast Go.Proofs.YthbalcbibmdpnaaW.PrintMore
set_option linter.unusedVariables false
set_option linter.unusedSimpArgs false
theorem rd_cons (x : Int) (t : List Int) (j : Nat) : rd (x :: t) ((j + 1 : Nat) : Int) = rd t (j : Int) := by simp [rd]
end Go.Proofs.Ythbalcbibmdpnaa.OAll
