/- A part of the proof of 'shareContent_holds', for every input, without a condition. -/
import Derived.Test.YtiafiebalibkdaaSCoQc
import Derived.Test.YtiafiebalibkdaaSCoOAllx0
import Derived.Test.YtiafiebalibkdaaSCoOAllx4
import Derived.Test.YtiafiebalibkdaaSCoOAllx8
import Derived.Test.YtiafiebalibkdaaSCoOAllx10
namespace Go.Proofs.Ytiafiebalibkdaa.OAll
open Go.RowKit Go.Proofs.YtiafiebalibkdaaW.PrintWords Go.Proofs.YtiafiebalibkdaaW.PrintLast Go.Proofs.YtiafiebalibkdaaW.PrintMore
set_option linter.unusedVariables false
set_option linter.unusedSimpArgs false
theorem alive_ev : Ev (fun k => trishawlaw08_alive.f k) true :=
  Ev.mono (fun k => trishawlaw08_alive.mono k) (k := 60) (by kernel_rfl)
theorem alive_ev' : Ev (fun k => (trishawlaw08_alive.f k).bind fun t => some t) true := Ev.bind alive_ev (Ev.pure _)
def fewN (a b c : List Int) : Bool := if (a.length : Int) ≤ 30 then (if (b.length : Int) ≤ 30 then decide ((c.length : Int) ≤ 30) else false) else false
theorem few_eq (a b c : List Int) : trishawlaw08_few.f a b c = some (fewN a b c) := by
  unfold trishawlaw08_few.f fewN; split <;> (try split) <;> rfl
theorem wf8 {x : Int} (h : (Lit.int .u8 x).wf = true) : 0 ≤ x ∧ x ≤ 255 := by
  have h1 : IntKind.u8.min = 0 := by decide
  have h2 : IntKind.u8.max = 255 := by decide
  simp [Lit.wf, h1, h2] at h
  omega
theorem tmod_nat (a : Nat) {l : Nat} (h : 0 < l) : Int.tmod (a : Int) (l : Int) = ((a % l : Nat) : Int) := by
  rw [Int.tmod_eq_emod_of_nonneg (Int.natCast_nonneg _)]; omega
end Go.Proofs.Ytiafiebalibkdaa.OAll
