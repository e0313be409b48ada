/- A part of the proof of 'shareContent_holds', for every input, without a condition. -/
import Derived.Test.YtiafiebalibkdaaSCoQb
import Derived.Test.YtiafiebalibkdaaSCoOAllx8
import Derived.Test.YtiafiebalibkdaaSCoOAllx0
import Derived.Test.YtiafiebalibkdaaSCoOAllx1
import Derived.Test.YtiafiebalibkdaaSCoOAllx4
import Derived.Test.YtiafiebalibkdaaSCoOAllx7
import Derived.Test.YtiafiebalibkdaaSCoOAllx10
namespace Go.Proofs.Ytiafiebalibkdaa.OAll
open Go.RowKit Go.Proofs.YtiafiebalibkdaaW.PrintWords Go.Proofs.YtiafiebalibkdaaW.PrintLast Go.Proofs.YtiafiebalibkdaaW.PrintMore
set_option linter.unusedVariables false
set_option linter.unusedSimpArgs false
theorem shl_pow {n : Nat} (h : n ≤ 62) : shl .i64 1 (n : Int) = ((2 ^ n : Nat) : Int) := by
  have hp := pow_small h
  unfold shl
  rw [Int.toNat_natCast, Int.one_mul, show (IntKind.i64.bits) = 64 from rfl, Nat.min_eq_left (by omega), pow_cast, wraps_i64 _ (Int.natCast_nonneg _) (by generalize 2 ^ n = m at hp ⊢; omega)]
theorem shr_pow (a : Nat) {j : Nat} (h : j ≤ 64) : shr .i64 (a : Int) (j : Int) = (a : Int) / 2 ^ j := by
  unfold shr
  rw [Int.toNat_natCast, show (IntKind.i64.bits) = 64 from rfl, Nat.min_eq_left h]
theorem and_bit (a : Nat) (ha : a < 2 ^ 63) {j : Nat} (h : j ≤ 64) : Go.bits .and .i64 (shr .i64 (a : Int) (j : Int)) 1 = if a.testBit j then 1 else 0 := by rw [shr_pow a h, bit_and a j ha]
end Go.Proofs.Ytiafiebalibkdaa.OAll
