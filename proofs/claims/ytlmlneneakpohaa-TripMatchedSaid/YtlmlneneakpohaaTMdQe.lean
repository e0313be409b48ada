/- A part of the proof of 'tripMatched_holds', for every input, without a condition. -/
import Derived.Test.YtlmlneneakpohaaTMdQd
import Derived.Test.YtlmlneneakpohaaTMdOAllx23
namespace Go.Proofs.Ytlmlneneakpohaa.OAll
open Go.RowKit Go.Proofs.YtlmlneneakpohaaW.PrintWords Go.Proofs.YtlmlneneakpohaaW.PrintLast Go.Proofs.YtlmlneneakpohaaW.PrintMore
set_option linter.unusedVariables false
set_option linter.unusedSimpArgs false
def emptyR (l : List S36) (U D i k : Int) : Int × Int := if dayE l U D = 0 then (if 0 ≤ i ∧ i < (l.length : Int) ∧ 0 ≤ k ∧ k < (l.length : Int) then (emp l U D i k, 0) else (0, 2)) else (0, dayE l U D)
theorem empty_eq (l : List S36) (U D i k : Int) : trip_Empty.f l U D i k = some (emptyR l U D i k) := by
  unfold trip_Empty.f emptyR
  simp only [read_eq, Option.bind_some]
  by_cases c : dayE l U D = 0
  · simp only [if_pos c]
    have hm : mn i k < 0 ↔ i < 0 ∨ k < 0 := by unfold mn; split <;> omega
    have hx : mx i k ≥ (l.length : Int) ↔ i ≥ (l.length : Int) ∨ k ≥ (l.length : Int) := by unfold mx; split <;> omega
    by_cases c1 : mn i k < 0
    · rw [if_pos c1, if_neg (by omega)]
    · rw [if_neg c1]
      by_cases c2 : mx i k ≥ (l.length : Int)
      · rw [if_pos c2, if_neg (by omega)]
      · have h4 : 0 ≤ i ∧ i < (l.length : Int) ∧ 0 ≤ k ∧ k < (l.length : Int) := by omega
        rw [if_neg c2, if_pos h4, dempty_eq (day_right c) h4.1 h4.2.1 h4.2.2.1 h4.2.2.2]
        rfl
  · simp only [if_neg c]
end Go.Proofs.Ytlmlneneakpohaa.OAll
