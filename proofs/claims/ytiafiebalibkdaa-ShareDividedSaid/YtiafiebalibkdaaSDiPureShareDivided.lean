/- A part of the proof of 'shareDivided_holds', for every input, without a condition. -/
import Derived.Test.YtiafiebalibkdaaSDiQd
namespace Go.Proofs.Ytiafiebalibkdaa.Pure
open Go.RowKit Go.Proofs.Ytiafiebalibkdaa.OAll Go.Proofs.YtiafiebalibkdaaW.PrintWords Go.Proofs.YtiafiebalibkdaaW.PrintLast
theorem ShareDivided : trishawlaw08_ShareDivided.Pure := fun l0 l1 a2 _ _ _ _ _ _ w => (ShareDivided_ev l0 l1 a2 w).ex
end Go.Proofs.Ytiafiebalibkdaa.Pure
