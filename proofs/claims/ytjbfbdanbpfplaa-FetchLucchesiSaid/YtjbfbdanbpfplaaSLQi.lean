/- A part of the proof of 'fetchLucchesi_holds', for every input, without a condition. -/
import Derived.Test.YtjbfbdanbpfplaaSLQg
import Derived.Test.YtjbfbdanbpfplaaSLOAllx8
import Derived.Test.YtjbfbdanbpfplaaSLOAllx15
namespace Go.Proofs.Ytjbfbdanbpfplaa.OAll
open Go.RowKit Go.Proofs.YtjbfbdanbpfplaaW.PrintWords Go.Proofs.YtjbfbdanbpfplaaW.PrintLast Go.Proofs.YtjbfbdanbpfplaaW.PrintMore
set_option linter.unusedVariables false
set_option linter.unusedSimpArgs false
theorem kind_cases {n : Nat} {st : List S34} {X : Int} (h : kindN n st X = 1) : ∃ Y : Nat, X = Y ∧ isCutB n st Y = true := by
  have := kind_cut.mp h
  exact ⟨X.toNat, by omega, this.2⟩
end Go.Proofs.Ytjbfbdanbpfplaa.OAll
