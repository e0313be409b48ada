/- A part of the proof of 'fetchContracted_holds', for every input, without a condition. -/
import Derived.Test.YtjbfbdanbpfplaaSDQe
namespace Go.Proofs.Ytjbfbdanbpfplaa.OAll
open Go.RowKit Go.Proofs.YtjbfbdanbpfplaaW.PrintWords Go.Proofs.YtjbfbdanbpfplaaW.PrintLast Go.Proofs.YtjbfbdanbpfplaaW.PrintMore
set_option linter.unusedVariables false
set_option linter.unusedSimpArgs false
theorem cutsN_sorted2 (n : Nat) (st : List S34) : (cutsN n st).Pairwise (· < ·) := List.Pairwise.filter _ List.pairwise_lt_range
theorem sorted_nodup {l : List Nat} (h : l.Pairwise (· < ·)) : l.Nodup := h.imp fun h => Nat.ne_of_lt h
end Go.Proofs.Ytjbfbdanbpfplaa.OAll
