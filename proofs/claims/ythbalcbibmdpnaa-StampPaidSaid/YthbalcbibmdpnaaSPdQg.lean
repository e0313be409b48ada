/- A part of the proof of 'stampPaid_holds', for every input, without a condition. -/
import Derived.Test.YthbalcbibmdpnaaSPdQf
namespace Go.Proofs.Ythbalcbibmdpnaa.OAll
open Go.RowKit Go.Proofs.YthbalcbibmdpnaaW.PrintWords Go.Proofs.YthbalcbibmdpnaaW.PrintLast Go.Proofs.YthbalcbibmdpnaaW.PrintMore
set_option linter.unusedVariables false
set_option linter.unusedSimpArgs false
def tickI (h : Int) (l : List Int) : Int := if h < 1 then 2 else if h > 6 then 2 else valI l
theorem read_ev (h : Int) (l : List Int) : Ev (fun k => stamp_read.f k h l) (tickI h l) := by
  unfold stamp_read.f tickI
  by_cases c1 : h < 1
  · simp only [if_pos c1]; exact Ev.pure _
  · simp only [if_neg c1]
    by_cases c2 : h > 6
    · simp only [if_pos c2]; exact Ev.pure _
    · simp only [if_neg c2]; exact Ev.bind (valued_ev l) (Ev.pure _)
theorem ticket_ev (h : Int) (l : List Int) : Ev (fun k => trishawref04_Ticket.f k h l) (tickI h l) := by
  unfold trishawref04_Ticket.f tickI
  by_cases c1 : h < 1
  · simp only [if_pos c1]; exact Ev.pure _
  · simp only [if_neg c1]
    by_cases c2 : h > 6
    · simp only [if_pos c2]; exact Ev.pure _
    · simp only [if_neg c2]; exact Ev.bind (rvalues_ev l) (Ev.pure _)
theorem tickI_zero {h : Int} {l : List Int} (e : tickI h l = 0) : OkT h l ∧ okFrom l 0 := by
  unfold tickI at e
  split at e
  · cases e
  · split at e
    · cases e
    · obtain ⟨h1, h2, h3⟩ := valI_zero e
      refine ⟨⟨by omega, ⟨h1, h2⟩, fun v hv => ?_⟩, h3⟩
      obtain ⟨j, hj, rfl⟩ := List.getElem_of_mem hv
      have := h3 j hj (Nat.zero_le _)
      unfold okAt at this
      rw [rd_get hj] at this
      exact ⟨this.1, this.2.1⟩
end Go.Proofs.Ythbalcbibmdpnaa.OAll
