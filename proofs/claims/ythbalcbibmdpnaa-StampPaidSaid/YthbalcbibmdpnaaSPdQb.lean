/- A part of the proof of 'stampPaid_holds', for every input, without a condition. -/
import Derived.Test.YthbalcbibmdpnaaSPdQa
import Derived.Test.YthbalcbibmdpnaaSPdOAllx3
namespace Go.Proofs.Ythbalcbibmdpnaa.OAll
open Go.RowKit Go.Proofs.YthbalcbibmdpnaaW.PrintWords Go.Proofs.YthbalcbibmdpnaaW.PrintLast Go.Proofs.YthbalcbibmdpnaaW.PrintMore
set_option linter.unusedVariables false
set_option linter.unusedSimpArgs false
set_option maxRecDepth 100000 in
theorem alive_ev : Ev (fun k => trishawlaw04_alive.f k) true :=
  Ev.mono (fun k => trishawlaw04_alive.mono k) (k := 60) (by kernel_rfl)
theorem alive_ev' : Ev (fun k => (trishawlaw04_alive.f k).bind fun t => some t) true := Ev.bind alive_ev (Ev.pure _)
end Go.Proofs.Ythbalcbibmdpnaa.OAll
