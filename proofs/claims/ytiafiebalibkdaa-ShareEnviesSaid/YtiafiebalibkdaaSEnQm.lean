/- A part of the proof of 'shareEnvies_holds', for every input, without a condition. -/
import Derived.Test.YtiafiebalibkdaaSEnQi
import Derived.Test.YtiafiebalibkdaaSEnQd
import Derived.Test.YtiafiebalibkdaaSEnOAllx0
import Derived.Test.YtiafiebalibkdaaSEnOAllx1
import Derived.Test.YtiafiebalibkdaaSEnOAllx4
import Derived.Test.YtiafiebalibkdaaSEnOAllx7
import Derived.Test.YtiafiebalibkdaaSEnOAllx8
import Derived.Test.YtiafiebalibkdaaSEnOAllx10
import Derived.Test.YtiafiebalibkdaaSEnOAllx11
import Derived.Test.YtiafiebalibkdaaSEnOAllx16
import Derived.Test.YtiafiebalibkdaaSEnOAllx20
import Derived.Test.YtiafiebalibkdaaSEnOAllx23
import Derived.Test.YtiafiebalibkdaaSEnOAllx6
namespace Go.Proofs.Ytiafiebalibkdaa.OAll
open Go.RowKit Go.Proofs.YtiafiebalibkdaaW.PrintWords Go.Proofs.YtiafiebalibkdaaW.PrintLast Go.Proofs.YtiafiebalibkdaaW.PrintMore
set_option linter.unusedVariables false
set_option linter.unusedSimpArgs false
theorem gcd_snoc (g : Nat) (pre : List Int) (x : Int) : (((gcdL g pre : Nat) : Int).natAbs.gcd x.natAbs) = gcdL g (pre ++ [x]) := by
  rw [gcdL, gcdL, List.foldl_append]; rfl
end Go.Proofs.Ytiafiebalibkdaa.OAll
