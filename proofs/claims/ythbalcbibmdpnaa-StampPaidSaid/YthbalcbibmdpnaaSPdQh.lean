/- A part of the proof of 'stampPaid_holds', for every input, without a condition. -/
import Derived.Test.YthbalcbibmdpnaaSPdQg
import Derived.Test.YthbalcbibmdpnaaSPdOAllx0
import Derived.Test.YthbalcbibmdpnaaSPdOAllx1
import Derived.Test.YthbalcbibmdpnaaSPdOAllx2
import Derived.Test.YthbalcbibmdpnaaSPdOAllx3
import Derived.Test.YthbalcbibmdpnaaSPdRq
namespace Go.Proofs.Ythbalcbibmdpnaa.OAll
open Go.RowKit Go.Proofs.YthbalcbibmdpnaaW.PrintWords Go.Proofs.YthbalcbibmdpnaaW.PrintLast Go.Proofs.YthbalcbibmdpnaaW.PrintMore
set_option linter.unusedVariables false
set_option linter.unusedSimpArgs false
def run : List Int → Nat
  | [] => 0
  | x :: t => if 0 ≤ x then run t + 1 else 0
def rangeI (h : Int) (l : List Int) : Nat := run (fewI h l).tail
end Go.Proofs.Ythbalcbibmdpnaa.OAll
