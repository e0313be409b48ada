/- A part of the proof of 'shareScores_holds', for every input, without a condition. -/
import Derived.Test.YtiafiebalibkdaaSScQe
namespace Go.Proofs.Ytiafiebalibkdaa.OAll
open Go.RowKit Go.Proofs.YtiafiebalibkdaaW.PrintWords Go.Proofs.YtiafiebalibkdaaW.PrintLast Go.Proofs.YtiafiebalibkdaaW.PrintMore
set_option linter.unusedVariables false
set_option linter.unusedSimpArgs false
def Vl (x : S78) : Prop := 0 ≤ x.f0.f0 ∧ x.f0.f0 ≤ 100 ∧ 0 ≤ x.f0.f1 ∧ x.f0.f1 ≤ 100
theorem mul_le_104 {x y : Int} (hx : 0 ≤ x) (hx' : x ≤ 100) (hy : 0 ≤ y) (hy' : y ≤ 100) : 0 ≤ x * y ∧ x * y ≤ 10000 :=
  ⟨Int.mul_nonneg hx hy, Int.le_trans (Int.mul_le_mul_of_nonneg_right hx' hy) (by omega)⟩
def Ord (x y : S78) : Prop := kindP x < kindP y ∨ (kindP x = kindP y ∧ y.f0.f0 * x.f0.f1 ≤ x.f0.f0 * y.f0.f1)
end Go.Proofs.Ytiafiebalibkdaa.OAll
