/- A part of the proof of 'tripMatched_holds', for every input, without a condition. -/
import Derived.Test.YtlmlneneakpohaaTMdQ3
namespace Go.Proofs.Ytlmlneneakpohaa.Pure
open Go.RowKit Go.Proofs.Ytlmlneneakpohaa.OAll Go.Proofs.YtlmlneneakpohaaW.PrintWords Go.Proofs.YtlmlneneakpohaaW.PrintLast
theorem TripMatched (l0 : List S36) (a1_0 a1_1 : Int) (l2 : List Int) (_ : l0.length * 16 ≤ 140737488351232) (_ : (∀ x ∈ l0, (Lit.int .i64 x.f0).wf = true ∧ (Lit.int .i64 x.f1).wf = true)) (_ : (Lit.int .i64 a1_0).wf = true) (_ : (Lit.int .i64 a1_1).wf = true) (_ : l2.length ≤ maxLen) (_ : l2.length * 8 ≤ 140737488351232) (_ : (∀ x ∈ l2, (Lit.int .i64 x).wf = true)) : ∃ k, trishawlaw06_TripMatched.f k l0 a1_0 a1_1 l2 = some true :=
  (TripMatched_ev l0 a1_0 a1_1 l2).ex
end Go.Proofs.Ytlmlneneakpohaa.Pure
