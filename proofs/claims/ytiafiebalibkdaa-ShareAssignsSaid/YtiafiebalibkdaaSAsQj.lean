/- A part of the proof of 'shareAssigns_holds', for every input, without a condition. -/
import Derived.Test.YtiafiebalibkdaaSAsQi
import Derived.Test.YtiafiebalibkdaaSAsQd
import Derived.Test.YtiafiebalibkdaaSAsOAllx0
import Derived.Test.YtiafiebalibkdaaSAsOAllx1
import Derived.Test.YtiafiebalibkdaaSAsOAllx4
import Derived.Test.YtiafiebalibkdaaSAsOAllx7
import Derived.Test.YtiafiebalibkdaaSAsOAllx8
import Derived.Test.YtiafiebalibkdaaSAsOAllx10
namespace Go.Proofs.Ytiafiebalibkdaa.OAll
open Go.RowKit Go.Proofs.YtiafiebalibkdaaW.PrintWords Go.Proofs.YtiafiebalibkdaaW.PrintLast Go.Proofs.YtiafiebalibkdaaW.PrintMore
set_option linter.unusedVariables false
set_option linter.unusedSimpArgs false
theorem same_l0 (l : List Int) (hl : l.length ≤ 1000) : ∀ (suf pre : List Int), l = pre ++ suf → Ev (fun k => trishawlaw08_same.l0 k l l pre.length) true
  | [], pre, e => by
    refine Ev.succ ?_
    have e3 : ¬ (pre.length : Int) < (l.length : Int) := by rw [e]; simp
    simp only [trishawlaw08_same.l0, e3, if_false]
    exact Ev.pure _
  | u :: suf, pre, e => by
    refine Ev.succ ?_
    have e3 : (pre.length : Int) < (l.length : Int) := by rw [e]; exact mid_lt _ _ _
    have e1 : wrap64 ((pre.length : Int) + 1) = (((pre ++ [u]).length : Nat) : Int) := by rw [w64s _ (by omega)]; simp
    simp only [trishawlaw08_same.l0, e3, if_true, nonneg_len, e1]
    exact same_l0 l hl suf (pre ++ [u]) (by rw [e]; simp)
theorem same_ev (l : List Int) (hl : l.length ≤ 1000) : Ev (fun k => trishawlaw08_same.f k l l) true := by
  unfold trishawlaw08_same.f
  simp only [if_true]
  exact same_l0 l hl l [] rfl
end Go.Proofs.Ytiafiebalibkdaa.OAll
