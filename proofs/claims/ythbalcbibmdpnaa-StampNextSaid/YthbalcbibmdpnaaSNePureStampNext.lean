/- A part of the proof of 'stampNext_holds', for every input, without a condition. -/
import Derived.Test.YthbalcbibmdpnaaSNeQx
namespace Go.Proofs.Ythbalcbibmdpnaa.Pure
open Go.RowKit Go.Proofs.Ythbalcbibmdpnaa.OAll Go.Proofs.YthbalcbibmdpnaaW.PrintWords Go.Proofs.YthbalcbibmdpnaaW.PrintLast
theorem StampNext : trishawlaw04_StampNext.Pure :=
  fun a0 l1 _ _ _ _ => (StampNext_ev a0 l1).ex
end Go.Proofs.Ythbalcbibmdpnaa.Pure
