/- A part of the proof of 'fetchStrong_holds', for every input, without a condition. -/
import Derived.Test.YtjbfbdanbpfplaaSTQ1
namespace Go.Proofs.Ytjbfbdanbpfplaa.Pure
open Go.RowKit Go.Proofs.Ytjbfbdanbpfplaa.OAll
theorem FetchStrong (a0 : Int) (l1 : List S34) (l2 : List Int) (_ : (Lit.int .i64 a0).wf = true) (_ : l1.length * 16 ≤ 140737488351232) (_ : ∀ x ∈ l1, (Lit.int .i64 x.f0).wf = true ∧ (Lit.int .i64 x.f1).wf = true) (_ : l2.length ≤ maxLen) (_ : l2.length * 8 ≤ 140737488351232) (_ : ∀ x ∈ l2, (Lit.int .i64 x).wf = true) : ∃ k, trishawlaw09_FetchStrong.f k a0 l1 l2 = some true :=
  (FetchStrong_ev a0 l1 l2).ex
end Go.Proofs.Ytjbfbdanbpfplaa.Pure
