/- A part of the proof of 'shareContent_holds', for every input, without a condition. -/
import Derived.Test.YtiafiebalibkdaaSCoQu
import Derived.Test.YtiafiebalibkdaaSCoOAllx0
import Derived.Test.YtiafiebalibkdaaSCoOAllx3
import Derived.Test.YtiafiebalibkdaaSCoOAllx16
namespace Go.Proofs.Ytiafiebalibkdaa.OAll
open Go.RowKit Go.Proofs.YtiafiebalibkdaaW.PrintWords Go.Proofs.YtiafiebalibkdaaW.PrintLast Go.Proofs.YtiafiebalibkdaaW.PrintMore
set_option linter.unusedVariables false
set_option linter.unusedSimpArgs false
section
variable {t : Nat → Nat → Int} {n : Nat}
structure RS (t : Nat → Nat → Int) (n r : Nat) (out : List (List Int)) : Prop where
  sq : Sq n out
  tab : Tab t n (wN out)
  short : ∀ x y B, x < n → y < n → (∀ u ∈ B, u < n) → B.length ≤ r → wN out x y ≤ wt t (x :: (B ++ [y]))
variable (hp : Pos t n) (ht0 : ∀ y, t y y = 0) (hb : ∀ x y, x < n → y < n → t x y ≤ 1000) (h5 : n ≤ 5) (R : List (List Int))
include hp hb h5
end
end Go.Proofs.Ytiafiebalibkdaa.OAll
