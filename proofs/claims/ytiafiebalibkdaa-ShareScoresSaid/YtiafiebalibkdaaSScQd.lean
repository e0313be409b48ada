/- A part of the proof of 'shareScores_holds', for every input, without a condition. -/
import Derived.Test.YtiafiebalibkdaaSScQc
import Derived.Test.YtiafiebalibkdaaSScOAllx0
import Derived.Test.YtiafiebalibkdaaSScOAllx4
import Derived.Test.YtiafiebalibkdaaSScOAllx8
import Derived.Test.YtiafiebalibkdaaSScOAllx10
namespace Go.Proofs.Ytiafiebalibkdaa.OAll
open Go.RowKit Go.Proofs.YtiafiebalibkdaaW.PrintWords Go.Proofs.YtiafiebalibkdaaW.PrintLast Go.Proofs.YtiafiebalibkdaaW.PrintMore
set_option linter.unusedVariables false
set_option linter.unusedSimpArgs false
theorem alive_ev : Ev (fun k => trishawlaw08_alive.f k) true :=
  Ev.mono (fun k => trishawlaw08_alive.mono k) (k := 60) (by kernel_rfl)
theorem alive_ev' : Ev (fun k => (trishawlaw08_alive.f k).bind fun t => some t) true := Ev.bind alive_ev (Ev.pure _)
def fewN (a b c : List Int) : Bool := if (a.length : Int) ≤ 30 then (if (b.length : Int) ≤ 30 then decide ((c.length : Int) ≤ 30) else false) else false
theorem few_eq (a b c : List Int) : trishawlaw08_few.f a b c = some (fewN a b c) := by
  unfold trishawlaw08_few.f fewN; split <;> (try split) <;> rfl
end Go.Proofs.Ytiafiebalibkdaa.OAll
