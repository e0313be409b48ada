/- A part of the proof of 'stampCounted_holds', for every input, without a condition. -/
import Derived.Test.YthbalcbibmdpnaaSCoQh
import Derived.Test.YthbalcbibmdpnaaSCoQi
namespace Go.Proofs.Ythbalcbibmdpnaa.OAll
open Go.RowKit Go.Proofs.YthbalcbibmdpnaaW.PrintWords Go.Proofs.YthbalcbibmdpnaaW.PrintLast Go.Proofs.YthbalcbibmdpnaaW.PrintMore
set_option linter.unusedVariables false
set_option linter.unusedSimpArgs false
theorem run_pays : ∀ (t : List Int) (j : Nat), j < run t → 0 ≤ rd t (j : Int)
  | [], j, h => by simp [run] at h
  | x :: t, j, h => by
    unfold run at h
    split at h
    · rename_i hx
      cases j with
      | zero => simpa [rd] using hx
      | succ j =>
        have := run_pays t j (by omega)
        rw [show (((j + 1 : Nat) : Int)) = ((j + 1 : Nat) : Int) from rfl]
        simpa [rd] using this
    · omega
theorem run_stop : ∀ (t : List Int), run t < t.length → rd t (run t : Int) < 0
  | [], h => by simp [run] at h
  | x :: t, h => by
    unfold run at h ⊢
    split
    · rename_i hx
      rw [if_pos hx] at h
      have := run_stop t (by simp at h; omega)
      simpa [rd] using this
    · rename_i hx
      simp [rd]; omega
theorem rd_cons (x : Int) (t : List Int) (j : Nat) : rd (x :: t) ((j + 1 : Nat) : Int) = rd t (j : Int) := by simp [rd]
theorem range_le {h : Int} {l : List Int} (o : OkT h l) : rangeI h l ≤ topN h l := by
  obtain ⟨t, e, hl, hr, hg⟩ := fewI_parts o
  have := run_le t
  omega
theorem range_pays {h : Int} {l : List Int} (o : OkT h l) {a : Nat} (ha : a ≤ rangeI h l) : 0 ≤ rd (fewI h l) (a : Int) := by
  obtain ⟨t, e, hl, hr, hg⟩ := fewI_parts o
  rw [e]
  cases a with
  | zero => show 0 ≤ rd (0 :: t) 0; simp [rd]
  | succ a =>
    rw [rd_cons]
    exact run_pays t a (by omega)
theorem range_stop {h : Int} {l : List Int} (o : OkT h l) (hlt : rangeI h l < topN h l) : rd (fewI h l) ((rangeI h l + 1 : Nat) : Int) < 0 := by
  obtain ⟨t, e, hl, hr, hg⟩ := fewI_parts o
  rw [e, rd_cons, hr]
  exact run_stop t (by omega)
end Go.Proofs.Ythbalcbibmdpnaa.OAll
