/- A part of the proof of 'fetchContracted_holds', for every input, without a condition. -/
import Derived.Test.YtjbfbdanbpfplaaSDQe
import Derived.Test.YtjbfbdanbpfplaaSDOAllx8
import Derived.Test.YtjbfbdanbpfplaaSDOAllx13
namespace Go.Proofs.Ytjbfbdanbpfplaa.OAll
open Go.RowKit Go.Proofs.YtjbfbdanbpfplaaW.PrintWords Go.Proofs.YtjbfbdanbpfplaaW.PrintLast Go.Proofs.YtjbfbdanbpfplaaW.PrintMore
set_option linter.unusedVariables false
set_option linter.unusedSimpArgs false
theorem ints_append (a b : List Nat) : ints (a ++ b) = ints a ++ ints b := by simp [ints]
theorem rd_intsmid (p t : List Nat) (x : Nat) : rd (ints (p ++ x :: t)) (p.length : Int) = (x : Int) := by
  rw [rd_ints _ _ (by simp)]; simp
end Go.Proofs.Ytjbfbdanbpfplaa.OAll
