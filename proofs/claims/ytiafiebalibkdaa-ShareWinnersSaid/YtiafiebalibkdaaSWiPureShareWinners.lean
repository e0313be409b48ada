/- A part of the proof of 'shareWinners_holds', for every input, without a condition. -/
import Derived.Test.YtiafiebalibkdaaSWiQj
namespace Go.Proofs.Ytiafiebalibkdaa.Pure
open Go.RowKit Go.Proofs.Ytiafiebalibkdaa.OAll Go.Proofs.YtiafiebalibkdaaW.PrintWords Go.Proofs.YtiafiebalibkdaaW.PrintLast
theorem ShareWinners : trishawlaw08_ShareWinners.Pure := fun l0 l1 _ _ _ _ _ _ => (ShareWinners_ev l0 l1).ex
end Go.Proofs.Ytiafiebalibkdaa.Pure
