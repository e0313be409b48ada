/- A part of the proof of 'stampMore_holds', for every input, without a condition. -/
import Derived.Test.YthbalcbibmdpnaaSMoQv
namespace Go.Proofs.Ythbalcbibmdpnaa.Pure
open Go.RowKit Go.Proofs.Ythbalcbibmdpnaa.OAll Go.Proofs.YthbalcbibmdpnaaW.PrintWords Go.Proofs.YthbalcbibmdpnaaW.PrintLast
theorem StampMore : trishawlaw04_StampMore.Pure :=
  fun a0 l1 a2 _ _ _ _ h => StampMore_ex a0 l1 a2 h
end Go.Proofs.Ythbalcbibmdpnaa.Pure
