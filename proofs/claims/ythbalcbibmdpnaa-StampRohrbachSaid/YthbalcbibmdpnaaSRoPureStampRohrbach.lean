/- A part of the proof of 'stampRohrbach_holds', for every input, without a condition. -/
import Derived.Test.YthbalcbibmdpnaaSRoQe
namespace Go.Proofs.Ythbalcbibmdpnaa.Pure
open Go.RowKit Go.Proofs.Ythbalcbibmdpnaa.OAll Go.Proofs.YthbalcbibmdpnaaW.PrintWords Go.Proofs.YthbalcbibmdpnaaW.PrintLast
theorem StampRohrbach : trishawlaw04_StampRohrbach.Pure :=
  fun a0 h => StampRohrbach_ex a0 h
end Go.Proofs.Ythbalcbibmdpnaa.Pure
