/- A part of the proof of 'fetchStrong_holds', for every input, without a condition. -/
import Derived.Test.YtjbfbdanbpfplaaSTQh
import Derived.Test.YtjbfbdanbpfplaaSTOAllx0
import Derived.Test.YtjbfbdanbpfplaaSTOAllx6
import Derived.Test.YtjbfbdanbpfplaaSTOAllx7
import Derived.Test.YtjbfbdanbpfplaaSTOAllx8
import Derived.Test.YtjbfbdanbpfplaaSTOAllx9
namespace Go.Proofs.Ytjbfbdanbpfplaa.OAll
open Go.RowKit Go.Proofs.YtjbfbdanbpfplaaW.PrintWords Go.Proofs.YtjbfbdanbpfplaaW.PrintLast Go.Proofs.YtjbfbdanbpfplaaW.PrintMore
set_option linter.unusedVariables false
set_option linter.unusedSimpArgs false
def compN (n X : Nat) : Nat := (2 ^ n - 1) ^^^ X
theorem compN_bit {n X : Nat} (hX : X < 2 ^ n) (i : Nat) : (compN n X).testBit i = (decide (i < n) && !X.testBit i) := by
  rw [compN, Nat.testBit_xor, full_bit]
  by_cases h : i < n
  · simp [h]
  · have : X.testBit i = false := Nat.testBit_lt_two_pow (Nat.lt_of_lt_of_le hX (Nat.pow_le_pow_right (by decide) (by omega)))
    simp [h, this]
theorem compN_lt {n X : Nat} (hX : X < 2 ^ n) : compN n X < 2 ^ n := Nat.xor_lt_two_pow (by have := Nat.two_pow_pos n; omega) hX
theorem compN_inb {n X : Nat} (hX : X < 2 ^ n) {v : Int} (h0 : 0 ≤ v) (h1 : v < n) : inb (compN n X) v = !inb X v := by
  rw [inb, inb, compN_bit hX, decide_eq_true (by omega), Bool.true_and]
end Go.Proofs.Ytjbfbdanbpfplaa.OAll
