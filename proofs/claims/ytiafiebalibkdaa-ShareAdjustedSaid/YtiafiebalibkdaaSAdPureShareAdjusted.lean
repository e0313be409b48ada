/- A part of the proof of 'shareAdjusted_holds', for every input, without a condition. -/
import Derived.Test.YtiafiebalibkdaaSAdQp
namespace Go.Proofs.Ytiafiebalibkdaa.Pure
open Go.RowKit Go.Proofs.Ytiafiebalibkdaa.OAll Go.Proofs.YtiafiebalibkdaaW.PrintWords Go.Proofs.YtiafiebalibkdaaW.PrintLast
theorem ShareAdjusted : trishawlaw08_ShareAdjusted.Pure := fun l0 l1 _ _ _ _ _ _ => (ShareAdjusted_ev l0 l1).ex
end Go.Proofs.Ytiafiebalibkdaa.Pure
