/- A part of the proof of 'shareRenumbered_holds', for every input, without a condition. -/
import Derived.Test.YtiafiebalibkdaaSRnQb
import Derived.Test.YtiafiebalibkdaaSRnOAllx8
import Derived.Test.YtiafiebalibkdaaSRnOAllx0
import Derived.Test.YtiafiebalibkdaaSRnOAllx1
import Derived.Test.YtiafiebalibkdaaSRnOAllx4
import Derived.Test.YtiafiebalibkdaaSRnOAllx7
import Derived.Test.YtiafiebalibkdaaSRnOAllx10
namespace Go.Proofs.Ytiafiebalibkdaa.OAll
open Go.RowKit Go.Proofs.YtiafiebalibkdaaW.PrintWords Go.Proofs.YtiafiebalibkdaaW.PrintLast Go.Proofs.YtiafiebalibkdaaW.PrintMore
set_option linter.unusedVariables false
set_option linter.unusedSimpArgs false
theorem alive_ev : Ev (fun k => trishawlaw08_alive.f k) true :=
  Ev.mono (fun k => trishawlaw08_alive.mono k) (k := 60) (by kernel_rfl)
theorem alive_ev' : Ev (fun k => (trishawlaw08_alive.f k).bind fun t => some t) true := Ev.bind alive_ev (Ev.pure _)
end Go.Proofs.Ytiafiebalibkdaa.OAll
