/- A part of the proof of 'shareRenumbered_holds', for every input, without a condition. -/
import Derived.Test.YtiafiebalibkdaaSRnQd
import Derived.Test.YtiafiebalibkdaaSRnOAllx5
import Derived.Test.YtiafiebalibkdaaSRnOAllx6
import Derived.Test.YtiafiebalibkdaaSRnOAllx0
import Derived.Test.YtiafiebalibkdaaSRnOAllx10
namespace Go.Proofs.Ytiafiebalibkdaa.OAll
open Go.RowKit Go.Proofs.YtiafiebalibkdaaW.PrintWords Go.Proofs.YtiafiebalibkdaaW.PrintLast Go.Proofs.YtiafiebalibkdaaW.PrintMore
set_option linter.unusedVariables false
set_option linter.unusedSimpArgs false
def Vl (x : S78) : Prop := 0 ≤ x.f0.f0 ∧ x.f0.f0 ≤ 100 ∧ 0 ≤ x.f0.f1 ∧ x.f0.f1 ≤ 100
def Ord (x y : S78) : Prop := kindP x < kindP y ∨ (kindP x = kindP y ∧ y.f0.f0 * x.f0.f1 ≤ x.f0.f0 * y.f0.f1)
end Go.Proofs.Ytiafiebalibkdaa.OAll
