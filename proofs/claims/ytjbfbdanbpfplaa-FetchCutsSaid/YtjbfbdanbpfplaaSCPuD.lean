/- A part of the proof of 'fetchCuts_holds', for every input, without a condition. -/
import Derived.Test.YtjbfbdanbpfplaaSCQi
namespace Go.Proofs.Ytjbfbdanbpfplaa.Pure
open Go.RowKit Go.Proofs.Ytjbfbdanbpfplaa.OAll
theorem FetchCuts (a0 : Int) (l1 : List S34) (a2 : Int) (_ : (Lit.int .i64 a0).wf = true) (h : l1.length * 16 ≤ 140737488351232) (_ : ∀ x ∈ l1, (Lit.int .i64 x.f0).wf = true ∧ (Lit.int .i64 x.f1).wf = true) (_ : (Lit.int .i64 a2).wf = true) : ∃ k, trishawlaw09_FetchCuts.f k a0 l1 a2 = some true :=
  (FetchCuts_ev a0 l1 h a2).ex
end Go.Proofs.Ytjbfbdanbpfplaa.Pure
