/- A part of the proof of 'tripTurned_holds', for every input, without a condition. -/
import Derived.Test.YtlmlneneakpohaaTTuQm
namespace Go.Proofs.Ytlmlneneakpohaa.OAll
open Go.RowKit Go.Proofs.YtlmlneneakpohaaW.PrintWords Go.Proofs.YtlmlneneakpohaaW.PrintLast Go.Proofs.YtlmlneneakpohaaW.PrintMore
set_option linter.unusedVariables false
set_option linter.unusedSimpArgs false
theorem pstep_some {l : List S36} {U D : Int} {st : Option (List Int × Int)} {s : Nat} (h : st ≠ none) : pstep l U D st s ≠ none := by
  unfold pstep
  split
  · split
    · simp
    · split <;> simp
  · exact h
theorem pfold_some {l : List S36} {U D : Int} : ∀ (d s : Nat) (st : Option (List Int × Int)), (st ≠ none ∨ ∃ x, s ≤ x ∧ x < s + d ∧ joinB l x = true) → pfold l U D st s d ≠ none
  | 0, s, st, h => by
    rcases h with h | ⟨x, h1, h2, _⟩
    · exact h
    · omega
  | d + 1, s, st, h => by
    rw [pfold_succ]
    refine pfold_some d (s + 1) _ ?_
    rcases h with h | ⟨x, h1, h2, h3⟩
    · exact .inl (pstep_some h)
    · by_cases e : x = s
      · subst e
        left
        unfold pstep
        rw [if_pos h3]
        split
        · simp
        · split <;> simp
      · exact .inr ⟨x, by omega, by omega, h3⟩
theorem patchO_some {l : List S36} {U D : Int} (h : Right l U D) : patchO l U D ≠ none := by
  have h9 := h.len
  have hp : 0 < 2 ^ (l.length - 1) := Nat.two_pow_pos _
  refine pfold_some _ _ _ (.inr ⟨2 ^ (l.length - 1) - 1, by omega, by omega, join_full h9.1 (fun k hk => ?_)⟩)
  rw [Nat.testBit_two_pow_sub_one]
  exact decide_eq_true (by omega)
theorem pfold_ok {l : List S36} {U D : Int} (h : Right l U D) : ∀ (d s : Nat) (st : Option (List Int × Int)), StP st → StP (pfold l U D st s d)
  | 0, _, _, hs => hs
  | d + 1, s, st, hs => by rw [pfold_succ]; exact pfold_ok h d (s + 1) _ (pstep_ok h s hs)
def patchI (l : List S36) (U D : Int) : List Int × Int := (seenP (patchO l U D)).2
theorem patchI_eq {l : List S36} {U D : Int} (h : Right l U D) : patchO l U D = some (patchI l U D) := by
  unfold patchI
  cases e : patchO l U D with
  | none => exact absurd e (patchO_some h)
  | some b => rfl
theorem patchI_ok {l : List S36} {U D : Int} (h : Right l U D) : (patchI l U D).1.length ≤ 1000 ∧ 0 ≤ (patchI l U D).2 ∧ (patchI l U D).2 ≤ 20000000 :=
  pfold_ok h (2 ^ (l.length - 1)) 0 none (fun b hb => by cases hb) _ (patchI_eq h)
def leastR (l : List S36) (U D : Int) : Int × Int := if dayE l U D = 0 then (worthI l U D + (patchI l U D).2, 0) else (0, dayE l U D)
theorem Least_ev (l : List S36) (U D : Int) : Ev (fun k => trip_Least.f k l U D) (leastR l U D) := by
  unfold trip_Least.f leastR
  refine Ev.bind (Matching_ev l U D) ?_
  unfold matchR
  by_cases c : dayE l U D = 0
  · have hR := day_right c
    have h1 := worthI_bound hR
    have h2 := patchI_ok hR
    have k1 : -9223372036854775808 ≤ worthI l U D + (patchI l U D).2 ∧ worthI l U D + (patchI l U D).2 ≤ 9223372036854775807 := by omega
    simp only [if_pos c, if_true]
    refine Ev.bind (patches_ev hR) ?_
    show Ev (fun k => some (wrap64 (worthI l U D + (patchI l U D).2), 0)) _
    rw [w64 k1.1 k1.2]
    exact Ev.pure _
  · simp only [if_neg c]; exact Ev.pure _
end Go.Proofs.Ytlmlneneakpohaa.OAll
