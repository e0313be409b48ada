/- A part of the proof of 'stampPaid_holds', for every input, without a condition. -/
import Derived.Test.YthbalcbibmdpnaaSPdQy
namespace Go.Proofs.Ythbalcbibmdpnaa.Pure
open Go.RowKit Go.Proofs.Ythbalcbibmdpnaa.OAll Go.Proofs.YthbalcbibmdpnaaW.PrintWords Go.Proofs.YthbalcbibmdpnaaW.PrintLast
theorem StampPaid : trishawlaw04_StampPaid.Pure :=
  fun a0 l1 a2 _ _ _ _ h => StampPaid_ex a0 l1 a2 h
end Go.Proofs.Ythbalcbibmdpnaa.Pure
