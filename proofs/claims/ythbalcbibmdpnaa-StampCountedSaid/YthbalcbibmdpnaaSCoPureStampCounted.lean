/- A part of the proof of 'stampCounted_holds', for every input, without a condition. -/
import Derived.Test.YthbalcbibmdpnaaSCoQt
namespace Go.Proofs.Ythbalcbibmdpnaa.Pure
open Go.RowKit Go.Proofs.Ythbalcbibmdpnaa.OAll Go.Proofs.YthbalcbibmdpnaaW.PrintWords Go.Proofs.YthbalcbibmdpnaaW.PrintLast
theorem StampCounted : trishawlaw04_StampCounted.Pure :=
  fun a0 l1 _ _ _ _ => (StampCounted_ev a0 l1).ex
end Go.Proofs.Ythbalcbibmdpnaa.Pure
