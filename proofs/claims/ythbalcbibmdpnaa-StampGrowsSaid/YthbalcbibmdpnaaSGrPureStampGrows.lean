/- A part of the proof of 'stampGrows_holds', for every input, without a condition. -/
import Derived.Test.YthbalcbibmdpnaaSGrQw
namespace Go.Proofs.Ythbalcbibmdpnaa.Pure
open Go.RowKit Go.Proofs.Ythbalcbibmdpnaa.OAll Go.Proofs.YthbalcbibmdpnaaW.PrintWords Go.Proofs.YthbalcbibmdpnaaW.PrintLast
theorem StampGrows : trishawlaw04_StampGrows.Pure :=
  fun a0 l1 a2 _ _ _ _ h => StampGrows_ex a0 l1 a2 h
end Go.Proofs.Ythbalcbibmdpnaa.Pure
