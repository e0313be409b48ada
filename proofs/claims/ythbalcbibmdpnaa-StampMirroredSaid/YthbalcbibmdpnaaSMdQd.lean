/- A part of the proof of 'stampMirrored_holds', for every input, without a condition. -/
import Derived.Test.YthbalcbibmdpnaaSMdQc
import Derived.Test.YthbalcbibmdpnaaSMdRm
import Derived.Test.YthbalcbibmdpnaaSMdOAllx0
import Derived.Test.YthbalcbibmdpnaaSMdOAllx2
import Derived.Test.YthbalcbibmdpnaaSMdOAllx3
namespace Go.Proofs.Ythbalcbibmdpnaa.OAll
open Go.RowKit Go.Proofs.YthbalcbibmdpnaaW.PrintWords Go.Proofs.YthbalcbibmdpnaaW.PrintLast Go.Proofs.YthbalcbibmdpnaaW.PrintMore
set_option linter.unusedVariables false
set_option linter.unusedSimpArgs false
theorem mirW_len (l : List Int) (h : 1 ≤ l.length) : (mirW l).length = l.length := by
  simp [mirW, bw_len]; omega
def mirI (l : List Int) : List Int × Int := if valI l = 0 then (mirW l, 0) else ([], valI l)
theorem mirrored_ev (l : List Int) : Ev (fun k => stamp_Mirrored.f k l) (mirI l) := by
  unfold stamp_Mirrored.f mirI
  refine Ev.bind (valued_ev l) ?_
  by_cases h : valI l = 0
  · obtain ⟨h1, h2, _⟩ := valI_zero h
    simp only [if_pos h, if_pos (show 0 < l.length ∧ l.length ≤ 6 from ⟨by omega, h2⟩)]
    exact Ev.pure _
  · simp only [if_neg h]
    exact Ev.pure _
theorem rd_take (l : List Int) (n k : Nat) (h : k < n) : rd (l.take n) (k : Int) = rd l (k : Int) := by
  simp [rd, List.getElem?_take, h]
end Go.Proofs.Ythbalcbibmdpnaa.OAll
