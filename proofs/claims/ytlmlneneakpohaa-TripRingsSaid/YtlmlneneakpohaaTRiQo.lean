/- A part of the proof of 'tripRings_holds', for every input, without a condition. -/
import Derived.Test.YtlmlneneakpohaaTRiQm
namespace Go.Proofs.Ytlmlneneakpohaa.OAll
open Go.RowKit Go.Proofs.YtlmlneneakpohaaW.PrintWords Go.Proofs.YtlmlneneakpohaaW.PrintLast Go.Proofs.YtlmlneneakpohaaW.PrintMore
set_option linter.unusedVariables false
set_option linter.unusedSimpArgs false
theorem PermF.range {p : Nat → Nat} {n : Nat} (h : PermF p n) : ((List.range n).map p).Perm (List.range n) := by
  refine perm_nodup (by simp) ?_ (fun x hx => ?_)
  · rw [List.nodup_iff_pairwise_ne, List.pairwise_map]
    refine List.Pairwise.imp_of_mem (fun {a b} ha hb hab e => ?_) List.pairwise_lt_range
    have := h.inj a b (List.mem_range.mp ha) (List.mem_range.mp hb) e
    omega
  · obtain ⟨a, ha, rfl⟩ := List.mem_map.mp hx
    exact h.maps a (List.mem_range.mp ha)
end Go.Proofs.Ytlmlneneakpohaa.OAll
