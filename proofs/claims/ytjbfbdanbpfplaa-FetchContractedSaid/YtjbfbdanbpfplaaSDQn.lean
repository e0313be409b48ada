/- A part of the proof of 'fetchContracted_holds', for every input, without a condition. -/
import Derived.Test.YtjbfbdanbpfplaaSDQg
import Derived.Test.YtjbfbdanbpfplaaSDOAllx14
import Derived.Test.YtjbfbdanbpfplaaSDOAllx12
import Derived.Test.YtjbfbdanbpfplaaSDQm
import Derived.Test.YtjbfbdanbpfplaaSDOAllx24
namespace Go.Proofs.Ytjbfbdanbpfplaa.OAll
open Go.RowKit Go.Proofs.YtjbfbdanbpfplaaW.PrintWords Go.Proofs.YtjbfbdanbpfplaaW.PrintLast Go.Proofs.YtjbfbdanbpfplaaW.PrintMore
set_option linter.unusedVariables false
set_option linter.unusedSimpArgs false
theorem code_of {a : Int} {st : List S34} (ha : 2 ≤ a ∧ a ≤ 7) (hs : Sane a.toNat st) (hc : connB a.toNat st = true) : codeN a st = 0 := by
  unfold codeN
  rw [if_neg (by omega), if_neg (by have := hs.2.1; omega), if_neg, if_pos hc]
  rw [List.any_eq_true]
  rintro ⟨s, h, hb⟩
  have := hs.2.2 s h
  have := (badS_iff a s).mp hb
  omega
end Go.Proofs.Ytjbfbdanbpfplaa.OAll
