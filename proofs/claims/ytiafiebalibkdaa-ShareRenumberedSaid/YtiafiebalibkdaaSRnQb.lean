/- A part of the proof of 'shareRenumbered_holds', for every input, without a condition. -/
import Derived.Test.YtiafiebalibkdaaSRnQa
import Derived.Test.YtiafiebalibkdaaSRnOAllx4
import Derived.Test.YtiafiebalibkdaaSRnOAllx10
namespace Go.Proofs.Ytiafiebalibkdaa.OAll
open Go.RowKit Go.Proofs.YtiafiebalibkdaaW.PrintWords Go.Proofs.YtiafiebalibkdaaW.PrintLast Go.Proofs.YtiafiebalibkdaaW.PrintMore
set_option linter.unusedVariables false
set_option linter.unusedSimpArgs false
def zipS : List Int → List Int → List S76
  | x :: a, y :: b => ⟨x, y⟩ :: zipS a b
  | _, _ => []
end Go.Proofs.Ytiafiebalibkdaa.OAll
