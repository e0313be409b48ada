/- A part of the proof of 'fetchMended_holds', for every input, without a condition. -/
import Derived.Test.YtjbfbdanbpfplaaSEQg
import Derived.Test.YtjbfbdanbpfplaaSEOAllx8
import Derived.Test.YtjbfbdanbpfplaaSEOAllx15
namespace Go.Proofs.Ytjbfbdanbpfplaa.OAll
open Go.RowKit Go.Proofs.YtjbfbdanbpfplaaW.PrintWords Go.Proofs.YtjbfbdanbpfplaaW.PrintLast Go.Proofs.YtjbfbdanbpfplaaW.PrintMore
set_option linter.unusedVariables false
set_option linter.unusedSimpArgs false
def cntN (st : List S34) (c : Nat) : Nat := (bitsN (cross st c)).length
end Go.Proofs.Ytjbfbdanbpfplaa.OAll
