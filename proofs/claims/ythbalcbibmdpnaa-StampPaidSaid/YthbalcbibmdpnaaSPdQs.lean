/- A part of the proof of 'stampPaid_holds', for every input, without a condition. -/
import Derived.Test.YthbalcbibmdpnaaSPdQm
namespace Go.Proofs.Ythbalcbibmdpnaa.OAll
open Go.RowKit Go.Proofs.YthbalcbibmdpnaaW.PrintWords Go.Proofs.YthbalcbibmdpnaaW.PrintLast Go.Proofs.YthbalcbibmdpnaaW.PrintMore
set_option linter.unusedVariables false
set_option linter.unusedSimpArgs false
theorem exN_good {v : List Int} (s : Asc v) : ∀ (m lo : Nat) (a : Int) (l : List Int), lo < v.length → exN v m lo a = some l →
    (∀ x ∈ l, x ∈ v ∧ rd v (lo : Int) ≤ x) ∧ l.sum = a ∧ l.Pairwise (· ≤ ·)
  | 0, lo, a, l, _, h => by
    rw [exN] at h
    split at h
    · rename_i e
      cases h
      exact ⟨fun x hx => (List.not_mem_nil hx).elim, by simp [e], List.Pairwise.nil⟩
    · cases h
  | m + 1, lo, a, l, hlo, h => by
    rw [exN] at h
    obtain ⟨j, hj, e⟩ := scan_some _ h
    split at e
    · cases e
    · obtain ⟨l', hl', e⟩ := Option.map_eq_some_iff.mp e
      obtain ⟨h1, h2, h3⟩ := exN_good s m (lo + j) _ l' (by omega) hl'
      have g1 := s.le (show lo ≤ lo + j by omega) (by omega)
      subst e
      refine ⟨fun x hx => ?_, by rw [List.sum_cons, h2]; omega, List.pairwise_cons.mpr ⟨fun x hx => (h1 x hx).2, h3⟩⟩
      rcases List.mem_cons.mp hx with rfl | hx
      · exact ⟨rd_mem (by omega), g1⟩
      · have := h1 x hx
        exact ⟨this.1, by omega⟩
end Go.Proofs.Ythbalcbibmdpnaa.OAll
