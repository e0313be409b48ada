/- A part of the proof of 'shareScores_holds', for every input, without a condition. -/
import Derived.Test.YtiafiebalibkdaaSScQb
import Derived.Test.YtiafiebalibkdaaSScOAllx8
import Derived.Test.YtiafiebalibkdaaSScOAllx0
import Derived.Test.YtiafiebalibkdaaSScOAllx1
import Derived.Test.YtiafiebalibkdaaSScOAllx4
import Derived.Test.YtiafiebalibkdaaSScOAllx7
import Derived.Test.YtiafiebalibkdaaSScOAllx10
import Derived.Test.YtiafiebalibkdaaSScOAllx11
import Derived.Test.YtiafiebalibkdaaSScOAllx12
namespace Go.Proofs.Ytiafiebalibkdaa.OAll
open Go.RowKit Go.Proofs.YtiafiebalibkdaaW.PrintWords Go.Proofs.YtiafiebalibkdaaW.PrintLast Go.Proofs.YtiafiebalibkdaaW.PrintMore
set_option linter.unusedVariables false
set_option linter.unusedSimpArgs false
theorem all_zip {a b : List Int} (h : codeP a b = 0) : a.all inR = true ∧ b.all inR = true := by
  have := codeP_ok h
  simp only [okP, Bool.and_eq_true] at this
  exact ⟨this.2.1.1, this.2.2.1.1⟩
theorem rd76_mid (p t : List S76) (x : S76) : rd_T76 (p ++ x :: t) (p.length : Int) = x := by simp [rd_T76]
end Go.Proofs.Ytiafiebalibkdaa.OAll
