/- A part of the proof of 'stampMirrors_holds', for every input, without a condition. -/
import Derived.Test.YthbalcbibmdpnaaSMiQd
namespace Go.Proofs.Ythbalcbibmdpnaa.Pure
open Go.RowKit Go.Proofs.Ythbalcbibmdpnaa.OAll Go.Proofs.YthbalcbibmdpnaaW.PrintWords Go.Proofs.YthbalcbibmdpnaaW.PrintLast
theorem StampMirrors : trishawlaw04_StampMirrors.Pure :=
  fun l0 _ _ _ => (StampMirrors_ev l0).ex
end Go.Proofs.Ythbalcbibmdpnaa.Pure
