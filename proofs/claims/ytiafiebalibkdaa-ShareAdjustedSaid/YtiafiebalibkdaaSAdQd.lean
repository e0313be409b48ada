/- A part of the proof of 'shareAdjusted_holds', for every input, without a condition. -/
import Derived.Test.YtiafiebalibkdaaSAdQc
import Derived.Test.YtiafiebalibkdaaSAdOAllx0
import Derived.Test.YtiafiebalibkdaaSAdOAllx4
import Derived.Test.YtiafiebalibkdaaSAdOAllx8
import Derived.Test.YtiafiebalibkdaaSAdOAllx10
namespace Go.Proofs.Ytiafiebalibkdaa.OAll
open Go.RowKit Go.Proofs.YtiafiebalibkdaaW.PrintWords Go.Proofs.YtiafiebalibkdaaW.PrintLast Go.Proofs.YtiafiebalibkdaaW.PrintMore
set_option linter.unusedVariables false
set_option linter.unusedSimpArgs false
theorem alive_ev : Ev (fun k => trishawlaw08_alive.f k) true :=
  Ev.mono (fun k => trishawlaw08_alive.mono k) (k := 60) (by kernel_rfl)
theorem alive_ev' : Ev (fun k => (trishawlaw08_alive.f k).bind fun t => some t) true := Ev.bind alive_ev (Ev.pure _)
def fewN (a b c : List Int) : Bool := if (a.length : Int) ≤ 30 then (if (b.length : Int) ≤ 30 then decide ((c.length : Int) ≤ 30) else false) else false
theorem few_eq (a b c : List Int) : trishawlaw08_few.f a b c = some (fewN a b c) := by
  unfold trishawlaw08_few.f fewN; split <;> (try split) <;> rfl
theorem mn_nonneg {x y : Int} (h : 0 ≤ x) (h' : 0 ≤ y) : 0 ≤ mn x y := by unfold mn; split <;> assumption
theorem minS_nonneg {a b : List Int} (h : codeP a b = 0) (s : Nat) : 0 ≤ minS a b s :=
  mn_nonneg (sumP_bound s a 0 (all_zip h).1).1 (sumQ_bound s b 0 (all_zip h).2).1
end Go.Proofs.Ytiafiebalibkdaa.OAll
