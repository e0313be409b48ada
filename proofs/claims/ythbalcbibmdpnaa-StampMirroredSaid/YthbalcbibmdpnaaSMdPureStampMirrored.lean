/- A part of the proof of 'stampMirrored_holds', for every input, without a condition. -/
import Derived.Test.YthbalcbibmdpnaaSMdQj
namespace Go.Proofs.Ythbalcbibmdpnaa.Pure
open Go.RowKit Go.Proofs.Ythbalcbibmdpnaa.OAll Go.Proofs.YthbalcbibmdpnaaW.PrintWords Go.Proofs.YthbalcbibmdpnaaW.PrintLast
theorem StampMirrored : trishawlaw04_StampMirrored.Pure :=
  fun a0 l1 _ _ _ _ => (StampMirrored_ev a0 l1).ex
end Go.Proofs.Ythbalcbibmdpnaa.Pure
