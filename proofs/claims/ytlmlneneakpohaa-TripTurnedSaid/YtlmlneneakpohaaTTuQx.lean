/- A part of the proof of 'tripTurned_holds', for every input, without a condition. -/
import Derived.Test.YtlmlneneakpohaaTTuQv
import Derived.Test.YtlmlneneakpohaaTTuOAllx0
import Derived.Test.YtlmlneneakpohaaTTuOAllx3
import Derived.Test.YtlmlneneakpohaaTTuOAllx8
import Derived.Test.YtlmlneneakpohaaTTuOAllx9
namespace Go.Proofs.Ytlmlneneakpohaa.OAll
open Go.RowKit Go.Proofs.YtlmlneneakpohaaW.PrintWords Go.Proofs.YtlmlneneakpohaaW.PrintLast Go.Proofs.YtlmlneneakpohaaW.PrintMore
set_option linter.unusedVariables false
set_option linter.unusedSimpArgs false
theorem right_day {l : List S36} {U D : Int} (h : Right l U D) : dayE l U D = 0 := by
  have h9 := h.len
  have hU := h.U_
  have hD := h.D_
  have hr : ridesE l = 0 := by
    unfold ridesE
    rw [if_neg (by omega), if_neg (by omega), if_neg]
    intro hc
    obtain ⟨x, hx, h2⟩ := List.any_eq_true.mp hc
    have := h.at_ x hx
    simp [outR, outH] at h2
    omega
  unfold dayE
  rw [if_pos hr, if_neg (by omega)]
theorem wf16 {x : Int} (h : (Lit.int .u16 x).wf = true) : 0 ≤ x ∧ x ≤ 65535 := by
  have h1 : IntKind.u16.min = 0 := by decide
  have h2 : IntKind.u16.max = 65535 := by decide
  simp [Lit.wf, h1, h2] at h
  omega
end Go.Proofs.Ytlmlneneakpohaa.OAll
