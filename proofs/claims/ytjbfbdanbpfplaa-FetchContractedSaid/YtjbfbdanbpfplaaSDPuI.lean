/- A part of the proof of 'fetchContracted_holds', for every input, without a condition. -/
import Derived.Test.YtjbfbdanbpfplaaSDQp
namespace Go.Proofs.Ytjbfbdanbpfplaa.Pure
open Go.RowKit Go.Proofs.Ytjbfbdanbpfplaa.OAll
theorem FetchContracted (a0 : Int) (l1 : List S34) (a2 : Int) (_ : (Lit.int .i64 a0).wf = true) (_ : l1.length * 16 ≤ 140737488351232) (_ : ∀ x ∈ l1, (Lit.int .i64 x.f0).wf = true ∧ (Lit.int .i64 x.f1).wf = true) (h2 : (Lit.int .u8 a2).wf = true) : ∃ k, trishawlaw09_FetchContracted.f k a0 l1 a2 = some true :=
  (FetchContracted_ev a0 l1 a2 h2).ex
end Go.Proofs.Ytjbfbdanbpfplaa.Pure
