/- A part of the proof of 'stampSums_holds', for every input, without a condition. -/
import Derived.Test.YthbalcbibmdpnaaSSuQk
namespace Go.Proofs.Ythbalcbibmdpnaa.Pure
open Go.RowKit Go.Proofs.Ythbalcbibmdpnaa.OAll Go.Proofs.YthbalcbibmdpnaaW.PrintWords Go.Proofs.YthbalcbibmdpnaaW.PrintLast
theorem StampSums : trishawlaw04_StampSums.Pure :=
  fun a0 l1 a2 a3 _ _ _ _ h2 h3 => StampSums_ex a0 l1 a2 a3 h2 h3
end Go.Proofs.Ythbalcbibmdpnaa.Pure
