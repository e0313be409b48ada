/- A part of the proof of 'stampPaid_holds', for every input, without a condition. -/
import Derived.Test.YthbalcbibmdpnaaSPdQi
import Derived.Test.YthbalcbibmdpnaaSPdQc
import Derived.Test.YthbalcbibmdpnaaSPdRm
import Derived.Test.YthbalcbibmdpnaaSPdOAllx0
import Derived.Test.YthbalcbibmdpnaaSPdOAllx2
import Derived.Test.YthbalcbibmdpnaaSPdOAllx3
import Derived.Test.YthbalcbibmdpnaaSPdRq
import Derived.Test.YthbalcbibmdpnaaSPdRr
import Derived.Test.YthbalcbibmdpnaaSPdOAllx6
namespace Go.Proofs.Ythbalcbibmdpnaa.OAll
open Go.RowKit Go.Proofs.YthbalcbibmdpnaaW.PrintWords Go.Proofs.YthbalcbibmdpnaaW.PrintLast Go.Proofs.YthbalcbibmdpnaaW.PrintMore
set_option linter.unusedVariables false
set_option linter.unusedSimpArgs false
def fstI (h : Int) (l : List Int) : List Int × Int := if tickI h l = 0 then (fewI h l, 0) else ([], tickI h l)
theorem fst_ev (h : Int) (l : List Int) : Ev (fun k => stamp_Fewest.f k h l) (fstI h l) := by
  unfold stamp_Fewest.f fstI
  refine Ev.bind (read_ev h l) ?_
  by_cases c : tickI h l = 0
  · simp only [if_pos c]
    exact Ev.bind (fewest_ev (tickI_zero c).1) (Ev.pure _)
  · simp only [if_neg c]
    exact Ev.pure _
structure Asc (l : List Int) : Prop where
  len : 1 ≤ l.length ∧ l.length ≤ 6
  ok : okFrom l 0
theorem Asc.lt {l : List Int} (a : Asc l) : ∀ (j i : Nat), i < j → j < l.length → rd l (i : Int) < rd l (j : Int)
  | 0, i, h, _ => by omega
  | j + 1, i, h, hj => by
    have h1 := (a.ok (j + 1) hj (Nat.zero_le _)).2.2 (by omega)
    rw [show j + 1 - 1 = j by omega] at h1
    rcases Nat.eq_or_lt_of_le (show i ≤ j by omega) with rfl | hlt
    · exact h1
    · have := Asc.lt a j i hlt (by omega)
      omega
theorem Asc.range {l : List Int} (a : Asc l) (i : Nat) (h : i < l.length) : 1 ≤ rd l (i : Int) ∧ rd l (i : Int) ≤ 200 := ⟨(a.ok i h (Nat.zero_le _)).1, (a.ok i h (Nat.zero_le _)).2.1⟩
theorem Asc.val {l : List Int} (a : Asc l) : valI l = 0 := by
  unfold valI
  rw [if_neg (by have := a.len; omega), if_neg (by have := a.len; omega), if_pos a.ok]
theorem mem_rd {l : List Int} {v : Int} (h : v ∈ l) : ∃ j, j < l.length ∧ v = rd l (j : Int) := by
  obtain ⟨j, hj, e⟩ := List.getElem_of_mem h
  exact ⟨j, hj, by rw [rd_get hj]; exact e.symm⟩
theorem rd_mem {l : List Int} {j : Nat} (h : j < l.length) : rd l (j : Int) ∈ l := by rw [rd_get h]; exact List.getElem_mem h
theorem tick_of {h : Int} {l : List Int} (hh : 1 ≤ h ∧ h ≤ 6) (a : Asc l) : tickI h l = 0 := by
  unfold tickI
  rw [if_neg (by omega), if_neg (by omega)]
  exact a.val
end Go.Proofs.Ythbalcbibmdpnaa.OAll
