/- A part of the proof of 'shareRenumbered_holds', for every input, without a condition. -/
import Derived.Test.YtiafiebalibkdaaSRnQu
import Derived.Test.YtiafiebalibkdaaSRnOAllx0
import Derived.Test.YtiafiebalibkdaaSRnOAllx3
import Derived.Test.YtiafiebalibkdaaSRnOAllx16
import Derived.Test.YtiafiebalibkdaaSRnQi
import Derived.Test.YtiafiebalibkdaaSRnQd
import Derived.Test.YtiafiebalibkdaaSRnOAllx1
import Derived.Test.YtiafiebalibkdaaSRnOAllx4
import Derived.Test.YtiafiebalibkdaaSRnOAllx7
import Derived.Test.YtiafiebalibkdaaSRnOAllx8
import Derived.Test.YtiafiebalibkdaaSRnOAllx10
import Derived.Test.YtiafiebalibkdaaSRnOAllx6
import Derived.Test.YtiafiebalibkdaaSRnOAllx9
namespace Go.Proofs.Ytiafiebalibkdaa.OAll
open Go.RowKit Go.Proofs.YtiafiebalibkdaaW.PrintWords Go.Proofs.YtiafiebalibkdaaW.PrintLast Go.Proofs.YtiafiebalibkdaaW.PrintMore
set_option linter.unusedVariables false
set_option linter.unusedSimpArgs false
def assignR (W : List (List Int)) : List Int × Int × Int := match rentR W with
  | some _ => (cs (bestA (wN W) W.length).1, (bestA (wN W) W.length).2, 0)
  | none => ([], 0, 2)
theorem Assign_ev (W : List (List Int)) (hsm : smallB W = true) : Ev (fun k => share_Assign.f k W) (assignR W) := by
  unfold share_Assign.f assignR
  refine Ev.bind (wished_ev W hsm) ?_
  unfold rentP
  cases h : rentR W with
  | none => simp only [if_neg (show ¬ (2 : Int) = 0 by decide)]; exact Ev.pure _
  | some s => simp only [if_true]; exact Ev.bind (assign_ev (rent_wish h)) (Ev.pure _)
end Go.Proofs.Ytiafiebalibkdaa.OAll
