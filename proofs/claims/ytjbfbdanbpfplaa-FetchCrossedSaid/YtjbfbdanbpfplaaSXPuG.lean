/- A part of the proof of 'fetchCrossed_holds', for every input, without a condition. -/
import Derived.Test.YtjbfbdanbpfplaaSXQl
namespace Go.Proofs.Ytjbfbdanbpfplaa.Pure
open Go.RowKit Go.Proofs.Ytjbfbdanbpfplaa.OAll
theorem FetchCrossed (a0 : Int) (l1 : List S34) (l2 : List Int) (a3 : Int) (_ : (Lit.int .i64 a0).wf = true) (_ : l1.length * 16 ≤ 140737488351232) (_ : ∀ x ∈ l1, (Lit.int .i64 x.f0).wf = true ∧ (Lit.int .i64 x.f1).wf = true) (_ : l2.length ≤ maxLen) (h2 : l2.length * 8 ≤ 140737488351232) (_ : ∀ x ∈ l2, (Lit.int .i64 x).wf = true) (h3 : (Lit.int .u8 a3).wf = true) : ∃ k, trishawlaw09_FetchCrossed.f k a0 l1 l2 a3 = some true :=
  (FetchCrossed_ev a0 l1 l2 h2 a3 h3).ex
end Go.Proofs.Ytjbfbdanbpfplaa.Pure
