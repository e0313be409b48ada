/- A part of the proof of 'fetchMended_holds', for every input, without a condition. -/
import Derived.Test.YtjbfbdanbpfplaaSEQk
import Derived.Test.YtjbfbdanbpfplaaSEQe
import Derived.Test.YtjbfbdanbpfplaaSEOAllx24
namespace Go.Proofs.Ytjbfbdanbpfplaa.OAll
open Go.RowKit Go.Proofs.YtjbfbdanbpfplaaW.PrintWords Go.Proofs.YtjbfbdanbpfplaaW.PrintLast Go.Proofs.YtjbfbdanbpfplaaW.PrintMore
set_option linter.unusedVariables false
set_option linter.unusedSimpArgs false
def turnS (s : S34) : S34 := ⟨s.f1, s.f0⟩
theorem compN_eq {n X : Nat} (hX : X < 2 ^ n) : compN n X = 2 ^ n - (X + 1) := by
  apply Nat.eq_of_testBit_eq; intro i
  rw [compN_bit hX, Nat.testBit_two_pow_sub_succ hX]
theorem code_of {a : Int} {st : List S34} (ha : 2 ≤ a ∧ a ≤ 7) (hs : Sane a.toNat st) (hc : connB a.toNat st = true) : codeN a st = 0 := by
  unfold codeN
  rw [if_neg (by omega), if_neg (by have := hs.2.1; omega), if_neg, if_pos hc]
  rw [List.any_eq_true]
  rintro ⟨s, h, hb⟩
  have := hs.2.2 s h
  have := (badS_iff a s).mp hb
  omega
theorem compN_comp {n X : Nat} (hX : X < 2 ^ n) : compN n (compN n X) = X := by
  rw [compN_eq (compN_lt hX), compN_eq hX]; omega
end Go.Proofs.Ytjbfbdanbpfplaa.OAll
