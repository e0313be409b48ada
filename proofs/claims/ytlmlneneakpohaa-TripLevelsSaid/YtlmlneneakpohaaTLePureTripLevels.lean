/- A part of the proof of 'tripLevels_holds', for every input, without a condition. -/
import Derived.Test.YtlmlneneakpohaaTLeQc
namespace Go.Proofs.Ytlmlneneakpohaa.Pure
open Go.RowKit Go.Proofs.Ytlmlneneakpohaa.OAll Go.Proofs.YtlmlneneakpohaaW.PrintWords Go.Proofs.YtlmlneneakpohaaW.PrintLast
theorem TripLevels (l0 : List S36) (a1 : Int) (_ : l0.length * 16 ≤ 140737488351232) (_ : (∀ x ∈ l0, (Lit.int .i64 x.f0).wf = true ∧ (Lit.int .i64 x.f1).wf = true)) (_ : (Lit.int .i64 a1).wf = true) : ∃ k, trishawlaw06_TripLevels.f k l0 a1 = some true :=
  (TripLevels_ev l0 a1).ex
end Go.Proofs.Ytlmlneneakpohaa.Pure
