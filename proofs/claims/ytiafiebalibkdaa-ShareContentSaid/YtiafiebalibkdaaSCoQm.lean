/- A part of the proof of 'shareContent_holds', for every input, without a condition. -/
import Derived.Test.YtiafiebalibkdaaSCoQk
import Derived.Test.YtiafiebalibkdaaSCoOAllx16
import Derived.Test.YtiafiebalibkdaaSCoOAllx20
import Derived.Test.YtiafiebalibkdaaSCoOAllx0
import Derived.Test.YtiafiebalibkdaaSCoOAllx10
import Derived.Test.YtiafiebalibkdaaSCoOAllx4
import Derived.Test.YtiafiebalibkdaaSCoOAllx6
namespace Go.Proofs.Ytiafiebalibkdaa.OAll
open Go.RowKit Go.Proofs.YtiafiebalibkdaaW.PrintWords Go.Proofs.YtiafiebalibkdaaW.PrintLast Go.Proofs.YtiafiebalibkdaaW.PrintMore
set_option linter.unusedVariables false
set_option linter.unusedSimpArgs false
theorem gcd_snoc (g : Nat) (pre : List Int) (x : Int) : (((gcdL g pre : Nat) : Int).natAbs.gcd x.natAbs) = gcdL g (pre ++ [x]) := by
  rw [gcdL, gcdL, List.foldl_append]; rfl
end Go.Proofs.Ytiafiebalibkdaa.OAll
