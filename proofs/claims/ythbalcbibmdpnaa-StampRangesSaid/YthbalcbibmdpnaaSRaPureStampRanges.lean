/- A part of the proof of 'stampRanges_holds', for every input, without a condition. -/
import Derived.Test.YthbalcbibmdpnaaSRaQh
namespace Go.Proofs.Ythbalcbibmdpnaa.Pure
open Go.RowKit Go.Proofs.Ythbalcbibmdpnaa.OAll Go.Proofs.YthbalcbibmdpnaaW.PrintWords Go.Proofs.YthbalcbibmdpnaaW.PrintLast
theorem StampRanges : trishawlaw04_StampRanges.Pure :=
  fun a0 l1 _ _ _ _ => (StampRanges_ev a0 l1).ex
end Go.Proofs.Ythbalcbibmdpnaa.Pure
