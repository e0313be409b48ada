/- A part of the proof of 'shareDiffers_holds', for every input, without a condition. -/
import Derived.Test.YtiafiebalibkdaaSDfQk
import Derived.Test.YtiafiebalibkdaaSDfOAllx16
import Derived.Test.YtiafiebalibkdaaSDfOAllx20
import Derived.Test.YtiafiebalibkdaaSDfOAllx23
import Derived.Test.YtiafiebalibkdaaSDfOAllx0
import Derived.Test.YtiafiebalibkdaaSDfOAllx4
import Derived.Test.YtiafiebalibkdaaSDfOAllx6
import Derived.Test.YtiafiebalibkdaaSDfOAllx10
import Derived.Test.YtiafiebalibkdaaSDfOAllx11
namespace Go.Proofs.Ytiafiebalibkdaa.OAll
open Go.RowKit Go.Proofs.YtiafiebalibkdaaW.PrintWords Go.Proofs.YtiafiebalibkdaaW.PrintLast Go.Proofs.YtiafiebalibkdaaW.PrintMore
set_option linter.unusedVariables false
set_option linter.unusedSimpArgs false
theorem gcd_snoc (g : Nat) (pre : List Int) (x : Int) : (((gcdL g pre : Nat) : Int).natAbs.gcd x.natAbs) = gcdL g (pre ++ [x]) := by
  rw [gcdL, gcdL, List.foldl_append]; rfl
end Go.Proofs.Ytiafiebalibkdaa.OAll
