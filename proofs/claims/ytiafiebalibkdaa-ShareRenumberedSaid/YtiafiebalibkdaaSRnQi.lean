/- A part of the proof of 'shareRenumbered_holds', for every input, without a condition. -/
import Derived.Test.YtiafiebalibkdaaSRnQg
namespace Go.Proofs.Ytiafiebalibkdaa.OAll
open Go.RowKit Go.Proofs.YtiafiebalibkdaaW.PrintWords Go.Proofs.YtiafiebalibkdaaW.PrintLast Go.Proofs.YtiafiebalibkdaaW.PrintMore
set_option linter.unusedVariables false
set_option linter.unusedSimpArgs false
structure Inv (a b : List Int) (p q : Int) (nums : List Int) (t : List S78) : Prop where
  p0 : 0 ≤ p
  pq : p ≤ q
  q1 : q ≤ 100
  pa : p + sumA t = 100
  qb : q = sumB t
  or : t.Pairwise Ord
  ne : t.Pairwise (fun x y => x.f1 ≠ y.f1)
  at_ : ∀ x ∈ t, At a b x
  zr : ∀ x ∈ t, rd nums x.f1 = 0
  ln : nums.length = a.length
  dt : dotA (zipS a b) nums = p
  b01 : ∀ x ∈ nums, x = 0 ∨ x = 1
theorem rd_set_ne {l : List Int} {i j : Int} (v : Int) (hi : 0 ≤ i) (hj : 0 ≤ j) (h : i ≠ j) : rd (l.set i.toNat v) j = rd l j := by
  have : i.toNat ≠ j.toNat := by omega
  simp only [rd, List.getD_eq_getElem?_getD]
  rw [List.getElem?_set_ne this]
theorem Inv.take {a b : List Int} {p q : Int} {nums : List Int} {x : S78} {t : List S78} (hab : a.length = b.length) (h : Inv a b p q nums (x :: t)) (hc : p + x.f0.f0 ≤ q - x.f0.f1) : Inv a b (p + x.f0.f0) (q - x.f0.f1) (nums.set x.f1.toNat 1) t := by
  have hx := h.at_ x List.mem_cons_self
  have hv := hx.vl
  have h1 := h.pa; have h2 := h.qb; have h3 := h.p0; have h4 := h.pq; have h5 := h.q1
  simp only [sumA, sumB] at h1 h2
  unfold Vl at hv
  refine ⟨by omega, hc, by omega, by omega, by omega, (List.pairwise_cons.mp h.or).2, (List.pairwise_cons.mp h.ne).2, fun y hy => h.at_ y (List.mem_cons_of_mem _ hy), fun y hy => ?_, by rw [List.length_set]; exact h.ln, ?_, fun y hy => ?_⟩
  · rw [rd_set_ne 1 hx.n0 (h.at_ y (List.mem_cons_of_mem _ hy)).n0 ((List.pairwise_cons.mp h.ne).1 y hy)]
    exact h.zr y (List.mem_cons_of_mem _ hy)
  · have hj : x.f1.toNat < a.length := by have := hx.na; have := hx.n0; omega
    have e : ((x.f1.toNat : Nat) : Int) = x.f1 := by have := hx.n0; omega
    rw [dotA_set a b nums x.f1.toNat 1 hab h.ln hj, h.dt, e, hx.ra, h.zr x List.mem_cons_self]
    omega
  · rcases List.mem_or_eq_of_mem_set hy with hy | rfl
    · exact h.b01 y hy
    · exact .inr rfl
end Go.Proofs.Ytiafiebalibkdaa.OAll
