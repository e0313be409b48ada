/- A part of the proof of 'stampFewest_holds', for every input, without a condition. -/
import Derived.Test.YthbalcbibmdpnaaSFeQt
namespace Go.Proofs.Ythbalcbibmdpnaa.Pure
open Go.RowKit Go.Proofs.Ythbalcbibmdpnaa.OAll Go.Proofs.YthbalcbibmdpnaaW.PrintWords Go.Proofs.YthbalcbibmdpnaaW.PrintLast
theorem StampFewest : trishawlaw04_StampFewest.Pure :=
  fun a0 l1 a2 _ _ _ _ _ => (StampFewest_ev a0 l1 a2).ex
end Go.Proofs.Ythbalcbibmdpnaa.Pure
