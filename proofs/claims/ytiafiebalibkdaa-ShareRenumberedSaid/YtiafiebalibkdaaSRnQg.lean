/- A part of the proof of 'shareRenumbered_holds', for every input, without a condition. -/
import Derived.Test.YtiafiebalibkdaaSRnQf
import Derived.Test.YtiafiebalibkdaaSRnOAllx7
import Derived.Test.YtiafiebalibkdaaSRnOAllx0
import Derived.Test.YtiafiebalibkdaaSRnOAllx10
namespace Go.Proofs.Ytiafiebalibkdaa.OAll
open Go.RowKit Go.Proofs.YtiafiebalibkdaaW.PrintWords Go.Proofs.YtiafiebalibkdaaW.PrintLast Go.Proofs.YtiafiebalibkdaaW.PrintMore
set_option linter.unusedVariables false
set_option linter.unusedSimpArgs false
def sumA : List S78 → Int
  | [] => 0
  | x :: t => x.f0.f0 + sumA t
def sumB : List S78 → Int
  | [] => 0
  | x :: t => x.f0.f1 + sumB t
structure At (a b : List Int) (x : S78) : Prop where
  n0 : 0 ≤ x.f1
  na : x.f1 < (a.length : Int)
  nb : x.f1 < (b.length : Int)
  ra : rd a x.f1 = x.f0.f0
  rb : rd b x.f1 = x.f0.f1
  vl : Vl x
def dotA : List S76 → List Int → Int
  | z :: Z, x :: l => z.f0 * x + dotA Z l
  | _, _ => 0
theorem dotA_set : ∀ (a b l : List Int) (j : Nat) (v : Int), a.length = b.length → l.length = a.length → j < a.length → dotA (zipS a b) (l.set j v) = dotA (zipS a b) l + rd a (j : Int) * (v - rd l (j : Int))
  | x :: a, y :: b, u :: l, 0, v, _, _, _ => by
    simp only [zipS, List.set_cons_zero, dotA]
    have e1 : rd (x :: a) ((0 : Nat) : Int) = x := rfl
    have e2 : rd (u :: l) ((0 : Nat) : Int) = u := rfl
    rw [e1, e2]; grind
  | x :: a, y :: b, u :: l, j + 1, v, h, h', hj => by
    simp only [zipS, List.set_cons_succ, dotA]
    have e1 : rd (x :: a) ((j + 1 : Nat) : Int) = rd a (j : Int) := by simp [rd]
    have e2 : rd (u :: l) ((j + 1 : Nat) : Int) = rd l (j : Int) := by simp [rd]
    rw [dotA_set a b l j v (by simpa using h) (by simpa using h') (by simpa using hj), e1, e2]; omega
  | [], _, _, _, _, _, _, hj => by simp at hj
  | x :: a, [], _, _, _, h, _, _ => by simp at h
  | x :: a, y :: b, [], _, _, _, h, _ => by simp at h
end Go.Proofs.Ytiafiebalibkdaa.OAll
