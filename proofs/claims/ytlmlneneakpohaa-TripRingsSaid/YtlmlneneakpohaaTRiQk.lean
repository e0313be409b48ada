/- A part of the proof of 'tripRings_holds', for every input, without a condition. -/
import Derived.Test.YtlmlneneakpohaaTRiQj
namespace Go.Proofs.Ytlmlneneakpohaa.OAll
open Go.RowKit Go.Proofs.YtlmlneneakpohaaW.PrintWords Go.Proofs.YtlmlneneakpohaaW.PrintLast Go.Proofs.YtlmlneneakpohaaW.PrintMore
set_option linter.unusedVariables false
set_option linter.unusedSimpArgs false
def loN (l : List S36) (j : Nat) : Nat := lo (nxt l) j l.length
theorem loN_low {l : List S36} {j : Nat} (hj : j < l.length) : Low (nxt l) j (loN l j) := (nxt_perm l).low hj
theorem loN_le {l : List S36} {j : Nat} (hj : j < l.length) : loN l j ≤ j := (loN_low hj).2 0
theorem loN_lt {l : List S36} {j : Nat} (hj : j < l.length) : loN l j < l.length := Nat.lt_of_le_of_lt (loN_le hj) hj
theorem loN_it {l : List S36} {j : Nat} (hj : j < l.length) (s : Nat) : loN l (it (nxt l) s j) = loN l j :=
  (loN_low ((nxt_perm l).lt hj s)).uniq (((nxt_perm l).low_same hj s _).mp (loN_low hj))
theorem loN_same {l : List S36} {i j : Nat} (hi : i < l.length) (hj : j < l.length) : loN l i = loN l j ↔ ∃ s, it (nxt l) s i = j := by
  constructor
  · intro e
    obtain ⟨a, ha⟩ := (loN_low hi).1
    obtain ⟨b, hb⟩ := (loN_low hj).1
    obtain ⟨t, ht⟩ := (nxt_perm l).sym hj b
    rw [hb, ← e, ← ha, ← it_add] at ht
    exact ⟨_, ht⟩
  · rintro ⟨s, rfl⟩; exact (loN_it hi s).symm
theorem ringI_rd {l : List S36} {j : Nat} (hj : j < l.length) : rd (ringI l) (j : Int) = (loN l j : Int) := by
  rw [rd_get (by rw [ringI_len]; exact hj)]
  simp [ringI, loN]
end Go.Proofs.Ytlmlneneakpohaa.OAll
