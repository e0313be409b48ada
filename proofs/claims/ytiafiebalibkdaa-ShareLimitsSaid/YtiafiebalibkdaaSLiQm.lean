/- A part of the proof of 'shareLimits_holds', for every input, without a condition. -/
import Derived.Test.YtiafiebalibkdaaSLiQk
import Derived.Test.YtiafiebalibkdaaSLiOAllx16
import Derived.Test.YtiafiebalibkdaaSLiOAllx20
import Derived.Test.YtiafiebalibkdaaSLiOAllx23
import Derived.Test.YtiafiebalibkdaaSLiOAllx0
import Derived.Test.YtiafiebalibkdaaSLiOAllx4
import Derived.Test.YtiafiebalibkdaaSLiOAllx6
import Derived.Test.YtiafiebalibkdaaSLiOAllx10
import Derived.Test.YtiafiebalibkdaaSLiOAllx11
namespace Go.Proofs.Ytiafiebalibkdaa.OAll
open Go.RowKit Go.Proofs.YtiafiebalibkdaaW.PrintWords Go.Proofs.YtiafiebalibkdaaW.PrintLast Go.Proofs.YtiafiebalibkdaaW.PrintMore
set_option linter.unusedVariables false
set_option linter.unusedSimpArgs false
theorem gcd_snoc (g : Nat) (pre : List Int) (x : Int) : (((gcdL g pre : Nat) : Int).natAbs.gcd x.natAbs) = gcdL g (pre ++ [x]) := by
  rw [gcdL, gcdL, List.foldl_append]; rfl
end Go.Proofs.Ytiafiebalibkdaa.OAll
