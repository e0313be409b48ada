/- A part of the proof of 'fetchMore_holds', for every input, without a condition. -/
import Derived.Test.YtjbfbdanbpfplaaSOQk
namespace Go.Proofs.Ytjbfbdanbpfplaa.Pure
open Go.RowKit Go.Proofs.Ytjbfbdanbpfplaa.OAll
theorem FetchMore (a0 : Int) (l1 : List S34) (a2_0 a2_1 : Int) (_ : (Lit.int .i64 a0).wf = true) (h : l1.length * 16 ≤ 140737488351232) (_ : ∀ x ∈ l1, (Lit.int .i64 x.f0).wf = true ∧ (Lit.int .i64 x.f1).wf = true) (_ : (Lit.int .i64 a2_0).wf = true) (_ : (Lit.int .i64 a2_1).wf = true) : ∃ k, trishawlaw09_FetchMore.f k a0 l1 a2_0 a2_1 = some true :=
  (FetchMore_ev a0 l1 h a2_0 a2_1).ex
end Go.Proofs.Ytjbfbdanbpfplaa.Pure
