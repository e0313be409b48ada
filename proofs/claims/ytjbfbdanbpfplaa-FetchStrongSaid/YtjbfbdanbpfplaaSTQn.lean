/- A part of the proof of 'fetchStrong_holds', for every input, without a condition. -/
import Derived.Test.YtjbfbdanbpfplaaSTQk
import Derived.Test.YtjbfbdanbpfplaaSTQe
import Derived.Test.YtjbfbdanbpfplaaSTOAllx0
import Derived.Test.YtjbfbdanbpfplaaSTOAllx2
import Derived.Test.YtjbfbdanbpfplaaSTOAllx3
import Derived.Test.YtjbfbdanbpfplaaSTOAllx4
import Derived.Test.YtjbfbdanbpfplaaSTOAllx6
import Derived.Test.YtjbfbdanbpfplaaSTOAllx7
import Derived.Test.YtjbfbdanbpfplaaSTOAllx8
import Derived.Test.YtjbfbdanbpfplaaSTOAllx9
import Derived.Test.YtjbfbdanbpfplaaSTOAllx13
namespace Go.Proofs.Ytjbfbdanbpfplaa.OAll
open Go.RowKit Go.Proofs.YtjbfbdanbpfplaaW.PrintWords Go.Proofs.YtjbfbdanbpfplaaW.PrintLast Go.Proofs.YtjbfbdanbpfplaaW.PrintMore
set_option linter.unusedVariables false
set_option linter.unusedSimpArgs false
def turnS (s : S34) : S34 := ⟨s.f1, s.f0⟩
theorem compN_eq {n X : Nat} (hX : X < 2 ^ n) : compN n X = 2 ^ n - (X + 1) := by
  apply Nat.eq_of_testBit_eq; intro i
  rw [compN_bit hX, Nat.testBit_two_pow_sub_succ hX]
theorem compN_comp {n X : Nat} (hX : X < 2 ^ n) : compN n (compN n X) = X := by
  rw [compN_eq (compN_lt hX), compN_eq hX]; omega
end Go.Proofs.Ytjbfbdanbpfplaa.OAll
