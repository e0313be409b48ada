/- A part of the proof of 'stampNext_holds', for every input, without a condition. -/
import Derived.Test.YthbalcbibmdpnaaSNeQi
import Derived.Test.YthbalcbibmdpnaaSNeQc
import Derived.Test.YthbalcbibmdpnaaSNeRm
import Derived.Test.YthbalcbibmdpnaaSNeOAllx0
import Derived.Test.YthbalcbibmdpnaaSNeOAllx2
import Derived.Test.YthbalcbibmdpnaaSNeOAllx3
import Derived.Test.YthbalcbibmdpnaaSNeOAllx4
import Derived.Test.YthbalcbibmdpnaaSNeRr
import Derived.Test.YthbalcbibmdpnaaSNeRt
import Derived.Test.YthbalcbibmdpnaaSNeOAllx1
namespace Go.Proofs.Ythbalcbibmdpnaa.OAll
open Go.RowKit Go.Proofs.YthbalcbibmdpnaaW.PrintWords Go.Proofs.YthbalcbibmdpnaaW.PrintLast Go.Proofs.YthbalcbibmdpnaaW.PrintMore
set_option linter.unusedVariables false
set_option linter.unusedSimpArgs false
structure Asc (l : List Int) : Prop where
  len : 1 ≤ l.length ∧ l.length ≤ 6
  ok : okFrom l 0
theorem Asc.lt {l : List Int} (a : Asc l) : ∀ (j i : Nat), i < j → j < l.length → rd l (i : Int) < rd l (j : Int)
  | 0, i, h, _ => by omega
  | j + 1, i, h, hj => by
    have h1 := (a.ok (j + 1) hj (Nat.zero_le _)).2.2 (by omega)
    rw [show j + 1 - 1 = j by omega] at h1
    rcases Nat.eq_or_lt_of_le (show i ≤ j by omega) with rfl | hlt
    · exact h1
    · have := Asc.lt a j i hlt (by omega)
      omega
theorem Asc.range {l : List Int} (a : Asc l) (i : Nat) (h : i < l.length) : 1 ≤ rd l (i : Int) ∧ rd l (i : Int) ≤ 200 := ⟨(a.ok i h (Nat.zero_le _)).1, (a.ok i h (Nat.zero_le _)).2.1⟩
theorem Asc.val {l : List Int} (a : Asc l) : valI l = 0 := by
  unfold valI
  rw [if_neg (by have := a.len; omega), if_neg (by have := a.len; omega), if_pos a.ok]
theorem mem_rd {l : List Int} {v : Int} (h : v ∈ l) : ∃ j, j < l.length ∧ v = rd l (j : Int) := by
  obtain ⟨j, hj, e⟩ := List.getElem_of_mem h
  exact ⟨j, hj, by rw [rd_get hj]; exact e.symm⟩
theorem rd_mem {l : List Int} {j : Nat} (h : j < l.length) : rd l (j : Int) ∈ l := by rw [rd_get h]; exact List.getElem_mem h
theorem okT_of {h : Int} {l : List Int} (hh : 1 ≤ h ∧ h ≤ 6) (a : Asc l) : OkT h l :=
  ⟨hh, a.len, fun v hv => by obtain ⟨j, hj, rfl⟩ := mem_rd hv; exact a.range j hj⟩
end Go.Proofs.Ythbalcbibmdpnaa.OAll
