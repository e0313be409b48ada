/- A part of the proof of 'tripRings_holds', for every input, without a condition. -/
import Derived.Test.YtlmlneneakpohaaTRiQo
namespace Go.Proofs.Ytlmlneneakpohaa.OAll
open Go.RowKit Go.Proofs.YtlmlneneakpohaaW.PrintWords Go.Proofs.YtlmlneneakpohaaW.PrintLast Go.Proofs.YtlmlneneakpohaaW.PrintMore
set_option linter.unusedVariables false
set_option linter.unusedSimpArgs false
def Sm (f : Nat → Nat) (i j : Nat) : Prop := ∃ t, it f t i = j
theorem Sm.refl (f : Nat → Nat) (i : Nat) : Sm f i i := ⟨0, rfl⟩
theorem Sm.trans {f : Nat → Nat} {i j k : Nat} (h1 : Sm f i j) (h2 : Sm f j k) : Sm f i k := by
  obtain ⟨s, hs⟩ := h1; obtain ⟨t, ht⟩ := h2
  exact ⟨t + s, by rw [it_add, hs, ht]⟩
end Go.Proofs.Ytlmlneneakpohaa.OAll
