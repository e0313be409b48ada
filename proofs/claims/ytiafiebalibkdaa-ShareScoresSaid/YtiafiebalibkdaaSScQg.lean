/- A part of the proof of 'shareScores_holds', for every input, without a condition. -/
import Derived.Test.YtiafiebalibkdaaSScQf
import Derived.Test.YtiafiebalibkdaaSScOAllx7
import Derived.Test.YtiafiebalibkdaaSScOAllx0
import Derived.Test.YtiafiebalibkdaaSScOAllx10
import Derived.Test.YtiafiebalibkdaaSScOAllx11
import Derived.Test.YtiafiebalibkdaaSScOAllx12
namespace Go.Proofs.Ytiafiebalibkdaa.OAll
open Go.RowKit Go.Proofs.YtiafiebalibkdaaW.PrintWords Go.Proofs.YtiafiebalibkdaaW.PrintLast Go.Proofs.YtiafiebalibkdaaW.PrintMore
set_option linter.unusedVariables false
set_option linter.unusedSimpArgs false
def sumA : List S78 → Int
  | [] => 0
  | x :: t => x.f0.f0 + sumA t
def sumB : List S78 → Int
  | [] => 0
  | x :: t => x.f0.f1 + sumB t
structure At (a b : List Int) (x : S78) : Prop where
  n0 : 0 ≤ x.f1
  na : x.f1 < (a.length : Int)
  nb : x.f1 < (b.length : Int)
  ra : rd a x.f1 = x.f0.f0
  rb : rd b x.f1 = x.f0.f1
  vl : Vl x
theorem at_ordIn : ∀ (a b pa pb : List Int) (x : S78), a.length = b.length → pa.length = pb.length → a.all inR = true → b.all inR = true → x ∈ ordIn pa.length (zipS a b) → At (pa ++ a) (pb ++ b) x ∧ (pa.length : Int) ≤ x.f1
  | [], [], pa, pb, x, _, _, _, _, hx => by cases hx
  | u :: a, v :: b, pa, pb, x, h, h', ha, hb, hx => by
    rw [List.all_cons, Bool.and_eq_true] at ha hb
    rw [zipS, ordIn] at hx
    rcases List.mem_cons.mp hx with rfl | hx
    · have := inR_iff.mp ha.1
      have := inR_iff.mp hb.1
      refine ⟨⟨nonneg_len _, mid_lt _ _ _, by rw [show ((⟨⟨u, v⟩, (pa.length : Int)⟩ : S78)).f1 = (pb.length : Int) by show (pa.length : Int) = pb.length; omega]; exact mid_lt _ _ _, rd_mid _ _ _, by rw [show ((⟨⟨u, v⟩, (pa.length : Int)⟩ : S78)).f1 = (pb.length : Int) by show (pa.length : Int) = pb.length; omega]; exact rd_mid _ _ _, ?_⟩, Int.le_refl _⟩
      show 0 ≤ u ∧ u ≤ 100 ∧ 0 ≤ v ∧ v ≤ 100
      omega
    · have := at_ordIn a b (pa ++ [u]) (pb ++ [v]) x (by simpa using h) (by simp [h']) ha.2 hb.2 (by simpa using hx)
      have e : ((pa ++ [u]).length : Int) = pa.length + 1 := by simp
      refine ⟨?_, by omega⟩
      simpa using this.1
  | [], y :: b, _, _, _, h, _, _, _, _ => by simp at h
  | x :: a, [], _, _, _, h, _, _, _, _ => by simp at h
def dotA : List S76 → List Int → Int
  | z :: Z, x :: l => z.f0 * x + dotA Z l
  | _, _ => 0
def dotB (den : Int) : List S76 → List Int → Int
  | z :: Z, x :: l => z.f1 * (den - x) + dotB den Z l
  | _, _ => 0
theorem dotA_set : ∀ (a b l : List Int) (j : Nat) (v : Int), a.length = b.length → l.length = a.length → j < a.length → dotA (zipS a b) (l.set j v) = dotA (zipS a b) l + rd a (j : Int) * (v - rd l (j : Int))
  | x :: a, y :: b, u :: l, 0, v, _, _, _ => by
    simp only [zipS, List.set_cons_zero, dotA]
    have e1 : rd (x :: a) ((0 : Nat) : Int) = x := rfl
    have e2 : rd (u :: l) ((0 : Nat) : Int) = u := rfl
    rw [e1, e2]; grind
  | x :: a, y :: b, u :: l, j + 1, v, h, h', hj => by
    simp only [zipS, List.set_cons_succ, dotA]
    have e1 : rd (x :: a) ((j + 1 : Nat) : Int) = rd a (j : Int) := by simp [rd]
    have e2 : rd (u :: l) ((j + 1 : Nat) : Int) = rd l (j : Int) := by simp [rd]
    rw [dotA_set a b l j v (by simpa using h) (by simpa using h') (by simpa using hj), e1, e2]; omega
  | [], _, _, _, _, _, _, hj => by simp at hj
  | x :: a, [], _, _, _, h, _, _ => by simp at h
  | x :: a, y :: b, [], _, _, _, h, _ => by simp at h
theorem kind_ev (x : S78) : Ev (fun k => trishawref08_kind.f k x.f0.f0 x.f0.f1) (kindP x) := by
  refine Ev.succ ?_
  refine ⟨0, fun k _ => ?_⟩
  unfold trishawref08_kind.f kindP
  by_cases h : x.f0.f0 > 0
  · by_cases h0 : x.f0.f1 = 0
    · simp [trishawref08_kind.j0, h, h0]
    · simp [trishawref08_kind.j0, h, h0]
  · by_cases h0 : x.f0.f1 > 0
    · simp [trishawref08_kind.j0, h, h0]
    · simp [trishawref08_kind.j0, h, h0]
end Go.Proofs.Ytiafiebalibkdaa.OAll
