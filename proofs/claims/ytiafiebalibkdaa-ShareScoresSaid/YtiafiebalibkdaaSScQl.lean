/- A part of the proof of 'shareScores_holds', for every input, without a condition. -/
import Derived.Test.YtiafiebalibkdaaSScQj
import Derived.Test.YtiafiebalibkdaaSScOAllx0
import Derived.Test.YtiafiebalibkdaaSScOAllx1
import Derived.Test.YtiafiebalibkdaaSScOAllx4
import Derived.Test.YtiafiebalibkdaaSScOAllx7
import Derived.Test.YtiafiebalibkdaaSScOAllx8
import Derived.Test.YtiafiebalibkdaaSScOAllx10
namespace Go.Proofs.Ytiafiebalibkdaa.OAll
open Go.RowKit Go.Proofs.YtiafiebalibkdaaW.PrintWords Go.Proofs.YtiafiebalibkdaaW.PrintLast Go.Proofs.YtiafiebalibkdaaW.PrintMore
set_option linter.unusedVariables false
set_option linter.unusedSimpArgs false
theorem dotA_compl (D : Int) : ∀ (a b l : List Int), a.length = b.length → dotA (zipS a b) (l.map (D - ·)) = dotB D (zipS b a) l
  | [], [], _, _ => by simp [zipS, dotA, dotB]
  | x :: a, y :: b, [], _ => by simp [zipS, dotA, dotB]
  | x :: a, y :: b, u :: l, h => by simp only [zipS, List.map_cons, dotA, dotB, dotA_compl D a b l (by simpa using h)]
  | [], y :: b, _, h => by simp at h
  | x :: a, [], _, h => by simp at h
end Go.Proofs.Ytiafiebalibkdaa.OAll
