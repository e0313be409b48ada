/- A part of the proof of 'tripRings_holds', for every input, without a condition. -/
import Derived.Test.YtlmlneneakpohaaTRiQg
import Derived.Test.YtlmlneneakpohaaTRiQb
import Derived.Test.YtlmlneneakpohaaTRiOAllx0
import Derived.Test.YtlmlneneakpohaaTRiOAllx3
import Derived.Test.YtlmlneneakpohaaTRiOAllx5
import Derived.Test.YtlmlneneakpohaaTRiOAllx9
import Derived.Test.YtlmlneneakpohaaTRiOAllx4
import Derived.Test.YtlmlneneakpohaaTRiOAllx8
import Derived.Test.YtlmlneneakpohaaTRiOAllx2
namespace Go.Proofs.Ytlmlneneakpohaa.OAll
open Go.RowKit Go.Proofs.YtlmlneneakpohaaW.PrintWords Go.Proofs.YtlmlneneakpohaaW.PrintLast Go.Proofs.YtlmlneneakpohaaW.PrintMore
set_option linter.unusedVariables false
set_option linter.unusedSimpArgs false
theorem placeI_out : ∀ (T F m : List Int) (x : Int), inN m.length T → 0 ≤ x → x ∉ T → rd (placeI m T F) x = rd m x
  | [], F, m, x, _, _, _ => by simp [placeI]
  | t :: T, [], m, x, _, _, _ => by simp [placeI]
  | t :: T, f :: F, m, x, hT, hx, hn => by
    have ht := hT t (by simp)
    rw [placeI, placeI_out T F _ x (fun y hy => by rw [List.length_set]; exact hT y (by simp [hy])) hx (fun h => hn (by simp [h]))]
    have hne : t.toNat ≠ x.toNat := fun e => hn (by simp; omega)
    simp [rd, List.getD_eq_getElem?_getD, List.getElem?_set_ne hne]
end Go.Proofs.Ytlmlneneakpohaa.OAll
