/- A part of the proof of 'tripFurther_holds', for every input, without a condition. -/
import Derived.Test.YtlmlneneakpohaaTFuQw
import Derived.Test.YtlmlneneakpohaaTFuOAllx12
namespace Go.Proofs.Ytlmlneneakpohaa.OAll
open Go.RowKit Go.Proofs.YtlmlneneakpohaaW.PrintWords Go.Proofs.YtlmlneneakpohaaW.PrintLast Go.Proofs.YtlmlneneakpohaaW.PrintMore
set_option linter.unusedVariables false
set_option linter.unusedSimpArgs false
theorem right_day {l : List S36} {U D : Int} (h : Right l U D) : dayE l U D = 0 := by
  have h9 := h.len
  have hU := h.U_
  have hD := h.D_
  have hr : ridesE l = 0 := by
    unfold ridesE
    rw [if_neg (by omega), if_neg (by omega), if_neg]
    intro hc
    obtain ⟨x, hx, h2⟩ := List.any_eq_true.mp hc
    have := h.at_ x hx
    simp [outR, outH] at h2
    omega
  unfold dayE
  rw [if_pos hr, if_neg (by omega)]
theorem wf16 {x : Int} (h : (Lit.int .u16 x).wf = true) : 0 ≤ x ∧ x ≤ 65535 := by
  have h1 : IntKind.u16.min = 0 := by decide
  have h2 : IntKind.u16.max = 65535 := by decide
  simp [Lit.wf, h1, h2] at h
  omega
theorem further_j0 (l : List S36) (a : Int) (ha : 0 ≤ a ∧ a ≤ 65535) (b : Bool) (U D : Int) (hb : b = false → dayE l U D = 0 ∧ l.length ≠ 9) : Ev (fun k => trishawlaw06_TripFurther.j0 k l a b U D) true := by
  refine Ev.succ ?_
  simp only [trishawlaw06_TripFurther.j0]
  cases b
  · obtain ⟨c, hn9⟩ := hb rfl
    have hR := day_right c
    have h9 := hR.len
    obtain ⟨t, ht⟩ : ∃ t, t = Int.tmod (wrap64 a) 1001 := ⟨_, rfl⟩
    have htb : 0 ≤ t ∧ t ≤ 1000 := by
      rw [ht, w64 (by omega) (by omega), Int.tmod_eq_emod_of_nonneg ha.1]; omega
    have hR2 : Right (l ++ [(⟨t, t⟩ : S36)]) U D := ⟨by simp; omega, fun y hy => by
      rcases List.mem_append.mp hy with h | h
      · exact hR.at_ y h
      · simp only [List.mem_singleton] at h; subst h; exact ⟨htb.1, htb.2, htb.1, htb.2⟩, hR.U_, hR.D_⟩
    have c2 := right_day hR2
    have hle := least_further hR hR2 rfl
    have w0 := worthI_bound hR
    have p0 := patchI_ok hR
    simp only [Bool.false_eq_true, if_false, ← ht]
    refine Ev.bind (Least_ev l U D) ?_
    simp only [Option.bind_some, List.nil_append, List.length_nil, Nat.zero_add, if_pos (show l.length < 8796093022208 by omega), List.length_cons, if_pos (show l.length + 1 < 8796093022208 by omega)]
    refine Ev.bind (Least_ev (l ++ [(⟨t, t⟩ : S36)]) U D) ?_
    simp only [leastR, if_pos c, if_pos c2, if_true]
    simp only [if_pos (show worthI (l ++ [(⟨t, t⟩ : S36)]) U D + (patchI (l ++ [(⟨t, t⟩ : S36)]) U D).2 ≥ worthI l U D + (patchI l U D).2 from hle), if_pos (show worthI l U D + (patchI l U D).2 ≥ 0 by omega)]
    exact alive_ev'
  · simp only [if_true]; exact alive_ev'
theorem TripFurther_ev (l : List S36) (U D a : Int) (hw : (Lit.int .u16 a).wf = true) : Ev (fun k => trishawlaw06_TripFurther.f k l U D a) true := by
  unfold trishawlaw06_TripFurther.f
  have ha := wf16 hw
  simp only [few_nil, Option.bind_some]
  split
  · refine Ev.bind (ref_day l U D) ?_
    by_cases c : dayE l U D = 0
    · simp only [if_pos c]
      refine further_j0 l a ha _ U D (fun h => ⟨c, fun e => ?_⟩)
      rw [e] at h; simp at h
    · simp only [if_neg c]
      exact further_j0 l a ha true U D (fun h => by cases h)
  · exact further_j0 l a ha true U D (fun h => by cases h)
end Go.Proofs.Ytlmlneneakpohaa.OAll
