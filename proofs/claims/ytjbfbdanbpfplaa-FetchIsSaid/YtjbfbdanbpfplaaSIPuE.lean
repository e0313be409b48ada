/- A part of the proof of 'fetchIs_holds', for every input, without a condition. -/
import Derived.Test.YtjbfbdanbpfplaaSIQj
namespace Go.Proofs.Ytjbfbdanbpfplaa.Pure
open Go.RowKit Go.Proofs.Ytjbfbdanbpfplaa.OAll
theorem FetchIs (a0 : Int) (l1 : List S34) (l2 l3 : List Int) (_ : (Lit.int .i64 a0).wf = true) (_ : l1.length * 16 ≤ 140737488351232) (_ : ∀ x ∈ l1, (Lit.int .i64 x.f0).wf = true ∧ (Lit.int .i64 x.f1).wf = true) (_ : l2.length ≤ maxLen) (h2 : l2.length * 8 ≤ 140737488351232) (_ : ∀ x ∈ l2, (Lit.int .i64 x).wf = true) (_ : l3.length ≤ maxLen) (h3 : l3.length * 8 ≤ 140737488351232) (_ : ∀ x ∈ l3, (Lit.int .i64 x).wf = true) : ∃ k, trishawlaw09_FetchIs.f k a0 l1 l2 l3 = some true :=
  (FetchIs_ev a0 l1 l2 l3 h2 h3).ex
end Go.Proofs.Ytjbfbdanbpfplaa.Pure
