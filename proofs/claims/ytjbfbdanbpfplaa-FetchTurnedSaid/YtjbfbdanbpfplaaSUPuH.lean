/- A part of the proof of 'fetchTurned_holds', for every input, without a condition. -/
import Derived.Test.YtjbfbdanbpfplaaSUQn
namespace Go.Proofs.Ytjbfbdanbpfplaa.Pure
open Go.RowKit Go.Proofs.Ytjbfbdanbpfplaa.OAll
theorem FetchTurned (a0 : Int) (l1 : List S34) (_ : (Lit.int .i64 a0).wf = true) (_ : l1.length * 16 ≤ 140737488351232) (_ : ∀ x ∈ l1, (Lit.int .i64 x.f0).wf = true ∧ (Lit.int .i64 x.f1).wf = true) : ∃ k, trishawlaw09_FetchTurned.f k a0 l1 = some true :=
  (FetchTurned_ev a0 l1).ex
end Go.Proofs.Ytjbfbdanbpfplaa.Pure
