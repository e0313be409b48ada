/- A part of the proof of 'stampCounted_holds', for every input, without a condition. -/
import Derived.Test.YthbalcbibmdpnaaSCoQl
namespace Go.Proofs.Ythbalcbibmdpnaa.OAll
open Go.RowKit Go.Proofs.YthbalcbibmdpnaaW.PrintWords Go.Proofs.YthbalcbibmdpnaaW.PrintLast Go.Proofs.YthbalcbibmdpnaaW.PrintMore
set_option linter.unusedVariables false
set_option linter.unusedSimpArgs false
def askI (h : Int) (l : List Int) (a : Int) : Int := if tickI h l = 0 then (if a < 0 then 4 else if a > (topN h l : Int) then 4 else 0) else tickI h l
theorem asked_ev (h : Int) (l : List Int) (a : Int) : Ev (fun k => stamp_asked.f k h l a) (askI h l a) := by
  unfold stamp_asked.f askI
  refine Ev.bind (read_ev h l) ?_
  by_cases c : tickI h l = 0
  · have o := (tickI_zero c).1
    obtain ⟨et, ht, ht1⟩ := o.top
    have hlo := o.len
    have q1 : (0 : Int) ≤ ((l.length - 1 : Nat) : Int) := by omega
    have q2 : ((l.length - 1 : Nat) : Int) < (l.length : Int) := by omega
    have hw1 : wrap64 ((l.length : Int) - 1) = ((l.length - 1 : Nat) : Int) := by rw [w64 (by omega) (by omega)]; omega
    have hw2 : wrap64 ((topN h l : Nat) : Int) = ((topN h l : Nat) : Int) := w64n _ (by clear hw1; omega)
    simp only [if_pos c, hw1, et, hw2, if_pos q1, if_pos q2, c]
    by_cases c2 : a < 0
    · simp only [if_pos c2]; exact Ev.pure _
    · simp only [if_neg c2]
      by_cases c3 : a > (topN h l : Int)
      · simp only [if_pos c3]; exact Ev.pure _
      · simp only [if_neg c3]; exact Ev.pure _
  · simp only [if_neg c]
    exact Ev.pure _
theorem askI_zero {h : Int} {l : List Int} {a : Int} (e : askI h l a = 0) : OkT h l ∧ Asc l ∧ 0 ≤ a ∧ a ≤ (topN h l : Int) := by
  unfold askI at e
  split at e
  · rename_i c
    obtain ⟨o, hok⟩ := tickI_zero c
    refine ⟨o, ⟨o.len, hok⟩, ?_⟩
    split at e
    · cases e
    · split at e
      · cases e
      · omega
  · rename_i c; exact absurd e c
end Go.Proofs.Ythbalcbibmdpnaa.OAll
