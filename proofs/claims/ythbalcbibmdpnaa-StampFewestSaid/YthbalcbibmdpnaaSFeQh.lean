/- A part of the proof of 'stampFewest_holds', for every input, without a condition. -/
import Derived.Test.YthbalcbibmdpnaaSFeQg
import Derived.Test.YthbalcbibmdpnaaSFeOAllx0
import Derived.Test.YthbalcbibmdpnaaSFeOAllx1
import Derived.Test.YthbalcbibmdpnaaSFeOAllx2
import Derived.Test.YthbalcbibmdpnaaSFeOAllx3
import Derived.Test.YthbalcbibmdpnaaSFeOAllx4
namespace Go.Proofs.Ythbalcbibmdpnaa.OAll
open Go.RowKit Go.Proofs.YthbalcbibmdpnaaW.PrintWords Go.Proofs.YthbalcbibmdpnaaW.PrintLast Go.Proofs.YthbalcbibmdpnaaW.PrintMore
set_option linter.unusedVariables false
set_option linter.unusedSimpArgs false
def run : List Int → Nat
  | [] => 0
  | x :: t => if 0 ≤ x then run t + 1 else 0
end Go.Proofs.Ythbalcbibmdpnaa.OAll
