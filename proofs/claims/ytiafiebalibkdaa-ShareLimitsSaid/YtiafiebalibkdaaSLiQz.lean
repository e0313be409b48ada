/- A part of the proof of 'shareLimits_holds', for every input, without a condition. -/
import Derived.Test.YtiafiebalibkdaaSLiQy
import Derived.Test.YtiafiebalibkdaaSLiOAllx0
import Derived.Test.YtiafiebalibkdaaSLiOAllx9
import Derived.Test.YtiafiebalibkdaaSLiOAllx10
import Derived.Test.YtiafiebalibkdaaSLiOAllx16
import Derived.Test.YtiafiebalibkdaaSLiOAllx19
import Derived.Test.YtiafiebalibkdaaSLiOAllx21
import Derived.Test.YtiafiebalibkdaaSLiOAllx24
namespace Go.Proofs.Ytiafiebalibkdaa.OAll
open Go.RowKit Go.Proofs.YtiafiebalibkdaaW.PrintWords Go.Proofs.YtiafiebalibkdaaW.PrintLast Go.Proofs.YtiafiebalibkdaaW.PrintMore
set_option linter.unusedVariables false
set_option linter.unusedSimpArgs false
set_option linter.unusedSectionVars false
theorem Dearer_ev (W : List (List Int)) (hsm : smallB W = true) {s : Int} (hs : rentR W = some s) : Ev (fun k => share_Dearer.f k W) (dearT W W.length, 0) := by
  unfold share_Dearer.f
  refine Ev.bind (wished_ev W hsm) ?_
  rw [rentP_some hs]
  simp only [if_true]
  exact Ev.bind (dearer_ev (rent_wish hs)) (Ev.pure _)
end Go.Proofs.Ytiafiebalibkdaa.OAll
