/- A part of the proof of 'fetchStrong_holds', for every input, without a condition. -/
import Derived.Test.YtjbfbdanbpfplaaSTQg
import Derived.Test.YtjbfbdanbpfplaaSTOAllx0
import Derived.Test.YtjbfbdanbpfplaaSTOAllx2
import Derived.Test.YtjbfbdanbpfplaaSTOAllx3
import Derived.Test.YtjbfbdanbpfplaaSTOAllx4
import Derived.Test.YtjbfbdanbpfplaaSTOAllx6
import Derived.Test.YtjbfbdanbpfplaaSTOAllx7
import Derived.Test.YtjbfbdanbpfplaaSTOAllx8
import Derived.Test.YtjbfbdanbpfplaaSTOAllx9
import Derived.Test.YtjbfbdanbpfplaaSTOAllx13
namespace Go.Proofs.Ytjbfbdanbpfplaa.OAll
open Go.RowKit Go.Proofs.YtjbfbdanbpfplaaW.PrintWords Go.Proofs.YtjbfbdanbpfplaaW.PrintLast Go.Proofs.YtjbfbdanbpfplaaW.PrintMore
set_option linter.unusedVariables false
set_option linter.unusedSimpArgs false
theorem bitsFrom_lt {X m : Nat} (h : X < 2 ^ m) : ∀ d i, (bitsFrom X i d).length ≤ m - i
  | 0, i => by simp [bitsFrom]
  | d + 1, i => by
    rw [bitsFrom_succ]
    have := bitsFrom_lt h d (i + 1)
    split
    · rename_i hb
      have := bit_in h hb
      simp only [List.length_cons]; omega
    · omega
theorem bitsN_len {X m : Nat} (h : X < 2 ^ m) : (bitsN X).length ≤ m := by have := bitsFrom_lt h 30 0; simpa [bitsN] using this
end Go.Proofs.Ytjbfbdanbpfplaa.OAll
