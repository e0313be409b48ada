/- A part of the proof of 'stampPaid_holds', for every input, without a condition. -/
import Derived.Test.YthbalcbibmdpnaaSPdQh
import Derived.Test.YthbalcbibmdpnaaSPdQi
import Derived.Test.YthbalcbibmdpnaaSPdQj
namespace Go.Proofs.Ythbalcbibmdpnaa.OAll
open Go.RowKit Go.Proofs.YthbalcbibmdpnaaW.PrintWords Go.Proofs.YthbalcbibmdpnaaW.PrintLast Go.Proofs.YthbalcbibmdpnaaW.PrintMore
set_option linter.unusedVariables false
set_option linter.unusedSimpArgs false
def atI (x : Int) : List Int → Nat
  | [] => 0
  | y :: t => if y < x then atI x t + 1 else 0
def insI (x : Int) (v : List Int) : List Int := v.take (atI x v) ++ x :: v.drop (atI x v)
end Go.Proofs.Ythbalcbibmdpnaa.OAll
