/- A part of the proof of 'shareExchanged_holds', for every input, without a condition. -/
import Derived.Test.YtiafiebalibkdaaSExQl
namespace Go.Proofs.Ytiafiebalibkdaa.Pure
open Go.RowKit Go.Proofs.Ytiafiebalibkdaa.OAll Go.Proofs.YtiafiebalibkdaaW.PrintWords Go.Proofs.YtiafiebalibkdaaW.PrintLast
theorem ShareExchanged : trishawlaw08_ShareExchanged.Pure := fun l0 l1 _ _ _ _ _ _ => (ShareExchanged_ev l0 l1).ex
end Go.Proofs.Ytiafiebalibkdaa.Pure
