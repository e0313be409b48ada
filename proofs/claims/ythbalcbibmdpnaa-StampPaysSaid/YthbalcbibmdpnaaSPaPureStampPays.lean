/- A part of the proof of 'stampPays_holds', for every input, without a condition. -/
import Derived.Test.YthbalcbibmdpnaaSPaQm
namespace Go.Proofs.Ythbalcbibmdpnaa.Pure
open Go.RowKit Go.Proofs.Ythbalcbibmdpnaa.OAll Go.Proofs.YthbalcbibmdpnaaW.PrintWords Go.Proofs.YthbalcbibmdpnaaW.PrintLast
theorem StampPays : trishawlaw04_StampPays.Pure :=
  fun a0 l1 a2 _ _ _ _ _ => (StampPays_ev a0 l1 a2).ex
end Go.Proofs.Ythbalcbibmdpnaa.Pure
