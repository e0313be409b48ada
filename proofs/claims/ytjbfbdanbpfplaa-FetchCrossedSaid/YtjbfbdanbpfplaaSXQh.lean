/- A part of the proof of 'fetchCrossed_holds', for every input, without a condition. -/
import Derived.Test.YtjbfbdanbpfplaaSXQg
import Derived.Test.YtjbfbdanbpfplaaSXOAllx14
namespace Go.Proofs.Ytjbfbdanbpfplaa.OAll
open Go.RowKit Go.Proofs.YtjbfbdanbpfplaaW.PrintWords Go.Proofs.YtjbfbdanbpfplaaW.PrintLast Go.Proofs.YtjbfbdanbpfplaaW.PrintMore
set_option linter.unusedVariables false
set_option linter.unusedSimpArgs false
def hits (all : List Nat) (X : Nat) : Bool := all.all fun c => !(c &&& X == 0)
end Go.Proofs.Ytjbfbdanbpfplaa.OAll
