/- A part of the proof of 'tripRings_holds', for every input, without a condition. -/
import Derived.Test.YtlmlneneakpohaaTRiQ1
import Derived.Test.YtlmlneneakpohaaTRiOAllx0
import Derived.Test.YtlmlneneakpohaaTRiOAllx3
import Derived.Test.YtlmlneneakpohaaTRiOAllx5
import Derived.Test.YtlmlneneakpohaaTRiOAllx8
import Derived.Test.YtlmlneneakpohaaTRiOAllx9
import Derived.Test.YtlmlneneakpohaaTRiOAllx4
import Derived.Test.YtlmlneneakpohaaTRiOAllx20
import Derived.Test.YtlmlneneakpohaaTRiOAllx24
namespace Go.Proofs.Ytlmlneneakpohaa.OAll
open Go.RowKit Go.Proofs.YtlmlneneakpohaaW.PrintWords Go.Proofs.YtlmlneneakpohaaW.PrintLast Go.Proofs.YtlmlneneakpohaaW.PrintMore
set_option linter.unusedVariables false
set_option linter.unusedSimpArgs false
def lqP (a b : List Int × Int) : Prop := a.2 < b.2 ∨ (a.2 = b.2 ∧ a.1.length ≤ b.1.length)
theorem lqP.trans {a b c : List Int × Int} (h1 : lqP a b) (h2 : lqP b c) : lqP a c := by unfold lqP at *; omega
theorem lqP.refl (a : List Int × Int) : lqP a a := .inr ⟨rfl, Nat.le_refl _⟩
theorem rd_nI_mid (q t : List Nat) (a : Nat) : rd (nI (q ++ a :: t)) (q.length : Int) = (a : Int) := by
  have := rd_mid (nI q) (nI t) (a : Int)
  rw [nI_len] at this
  rw [← this]; simp [nI]
end Go.Proofs.Ytlmlneneakpohaa.OAll
