/- A part of the proof of 'shareScores_holds', for every input, without a condition. -/
import Derived.Test.YtiafiebalibkdaaSScQn
import Derived.Test.YtiafiebalibkdaaSScOAllx33
import Derived.Test.YtiafiebalibkdaaSScOAllx0
import Derived.Test.YtiafiebalibkdaaSScOAllx1
import Derived.Test.YtiafiebalibkdaaSScOAllx4
import Derived.Test.YtiafiebalibkdaaSScOAllx7
import Derived.Test.YtiafiebalibkdaaSScOAllx8
import Derived.Test.YtiafiebalibkdaaSScOAllx10
import Derived.Test.YtiafiebalibkdaaSScOAllx29
import Derived.Test.YtiafiebalibkdaaSScOAllx31
namespace Go.Proofs.Ytiafiebalibkdaa.OAll
open Go.RowKit Go.Proofs.YtiafiebalibkdaaW.PrintWords Go.Proofs.YtiafiebalibkdaaW.PrintLast Go.Proofs.YtiafiebalibkdaaW.PrintMore
set_option linter.unusedVariables false
set_option linter.unusedSimpArgs false
theorem few_len {a b l : List Int} (h : fewN a b l = true) : l.length ≤ 30 := by
  unfold fewN at h
  split at h
  · split at h
    · rw [decide_eq_true_eq] at h; omega
    · cases h
  · cases h
theorem ShareScores_ev (a b l : List Int) (D : Int) : Ev (fun k => trishawlaw08_ShareScores.f k a b l D) true := by
  unfold trishawlaw08_ShareScores.f
  simp only [few_eq, Option.bind_some]
  by_cases hf : fewN a b l = true
  · have hl := few_len hf
    have e : ([] : List Int).length + l.length < 17592186044416 := by rw [List.length_nil]; omega
    simp only [hf, e, if_true, List.nil_append]
    refine Ev.bind (Scores_ev a b l D) ?_
    refine Ev.bind (rScores_ev a b l D) ?_
    simp only [beq_self_eq_true, Bool.not_true, Bool.or_self, Bool.false_eq_true, if_false, bne_self_eq_false]
    refine Ev.succ ?_
    simp only [trishawlaw08_ShareScores.j0, Bool.false_eq_true, if_false]
    refine Ev.bind (Efficient_ev a b l D) ?_
    refine Ev.bind (rEfficient_ev a b l D) ?_
    simp only [beq_self_eq_true, if_true]
    refine Ev.bind (same_ev l (by omega)) ?_
    simp only [if_true]
    exact alive_ev'
  · simp only [hf, if_false]; exact alive_ev'
end Go.Proofs.Ytiafiebalibkdaa.OAll
