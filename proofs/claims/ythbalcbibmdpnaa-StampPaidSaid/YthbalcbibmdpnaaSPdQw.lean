/- A part of the proof of 'stampPaid_holds', for every input, without a condition. -/
import Derived.Shelf.Spec.SlicesInsert
import Derived.Shelf.Spec.SlicesInsertGrow
import Derived.Test.YthbalcbibmdpnaaSPdQu
import Derived.Test.YthbalcbibmdpnaaSPdOAllx0
import Derived.Test.YthbalcbibmdpnaaSPdOAllx3
import Derived.Test.YthbalcbibmdpnaaSPdRq
import Derived.Test.YthbalcbibmdpnaaSPdOAllx2
import Derived.Test.YthbalcbibmdpnaaSPdOAllx8
import Derived.Test.YthbalcbibmdpnaaSPdOAllx1
import Derived.Test.YthbalcbibmdpnaaSPdRo
namespace Go.Proofs.Ythbalcbibmdpnaa.OAll
open Go.RowKit Go.Proofs.YthbalcbibmdpnaaW.PrintWords Go.Proofs.YthbalcbibmdpnaaW.PrintLast Go.Proofs.YthbalcbibmdpnaaW.PrintMore
set_option linter.unusedVariables false
set_option linter.unusedSimpArgs false
structure IsNext (h : Int) (l : List Int) (x n : Int) : Prop where
  val : 1 ≤ x ∧ x ≤ 200
  out : x ∉ l
  num : n = (rangeI h (insI x l) : Int)
  best : ∀ y, 1 ≤ y → y ≤ 200 → y ∉ l → (rangeI h (insI y l) : Int) ≤ n ∧ ((rangeI h (insI y l) : Int) = n → x ≤ y)
end Go.Proofs.Ythbalcbibmdpnaa.OAll
