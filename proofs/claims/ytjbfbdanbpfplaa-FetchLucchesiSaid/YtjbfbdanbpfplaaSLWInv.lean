/- A part of the proof of 'fetchLucchesi_holds', for every input, without a condition. -/
import Derived.Test.YtjbfbdanbpfplaaSLWLast
import Derived.Test.YtjbfbdanbpfplaaSLWWords
namespace Go.Proofs.YtjbfbdanbpfplaaW.PrintLast
def up (b : Nat → Bool) (i : Nat) : Nat → Bool := fun j => if j = i then true else b j
end Go.Proofs.YtjbfbdanbpfplaaW.PrintLast
