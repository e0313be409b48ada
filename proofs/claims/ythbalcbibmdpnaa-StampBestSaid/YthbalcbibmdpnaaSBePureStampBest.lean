/- A part of the proof of 'stampBest_holds', for every input, without a condition. -/
import Derived.Test.YthbalcbibmdpnaaSBeQn
namespace Go.Proofs.Ythbalcbibmdpnaa.Pure
open Go.RowKit Go.Proofs.Ythbalcbibmdpnaa.OAll Go.Proofs.YthbalcbibmdpnaaW.PrintWords Go.Proofs.YthbalcbibmdpnaaW.PrintLast
theorem StampBest : trishawlaw04_StampBest.Pure :=
  fun a0 a1 _ _ => StampBest_ex a0 a1
end Go.Proofs.Ythbalcbibmdpnaa.Pure
