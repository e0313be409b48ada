/- A part of the proof of 'stampGrows_holds', for every input, without a condition. -/
import Derived.Test.YthbalcbibmdpnaaSGrQh
import Derived.Test.YthbalcbibmdpnaaSGrQi
namespace Go.Proofs.Ythbalcbibmdpnaa.OAll
open Go.RowKit Go.Proofs.YthbalcbibmdpnaaW.PrintWords Go.Proofs.YthbalcbibmdpnaaW.PrintLast Go.Proofs.YthbalcbibmdpnaaW.PrintMore
set_option linter.unusedVariables false
set_option linter.unusedSimpArgs false
theorem run_pays : ∀ (t : List Int) (j : Nat), j < run t → 0 ≤ rd t (j : Int)
  | [], j, h => by simp [run] at h
  | x :: t, j, h => by
    unfold run at h
    split at h
    · rename_i hx
      cases j with
      | zero => simpa [rd] using hx
      | succ j =>
        have := run_pays t j (by omega)
        rw [show (((j + 1 : Nat) : Int)) = ((j + 1 : Nat) : Int) from rfl]
        simpa [rd] using this
    · omega
theorem run_stop : ∀ (t : List Int), run t < t.length → rd t (run t : Int) < 0
  | [], h => by simp [run] at h
  | x :: t, h => by
    unfold run at h ⊢
    split
    · rename_i hx
      rw [if_pos hx] at h
      have := run_stop t (by simp at h; omega)
      simpa [rd] using this
    · rename_i hx
      simp [rd]; omega
theorem rd_cons (x : Int) (t : List Int) (j : Nat) : rd (x :: t) ((j + 1 : Nat) : Int) = rd t (j : Int) := by simp [rd]
theorem range_le {h : Int} {l : List Int} (o : OkT h l) : rangeI h l ≤ topN h l := by
  obtain ⟨t, e, hl, hr, hg⟩ := fewI_parts o
  have := run_le t
  omega
theorem range_pays {h : Int} {l : List Int} (o : OkT h l) {a : Nat} (ha : a ≤ rangeI h l) : 0 ≤ rd (fewI h l) (a : Int) := by
  obtain ⟨t, e, hl, hr, hg⟩ := fewI_parts o
  rw [e]
  cases a with
  | zero => show 0 ≤ rd (0 :: t) 0; simp [rd]
  | succ a =>
    rw [rd_cons]
    exact run_pays t a (by omega)
theorem range_stop {h : Int} {l : List Int} (o : OkT h l) (hlt : rangeI h l < topN h l) : rd (fewI h l) ((rangeI h l + 1 : Nat) : Int) < 0 := by
  obtain ⟨t, e, hl, hr, hg⟩ := fewI_parts o
  rw [e, rd_cons, hr]
  exact run_stop t (by omega)
theorem range_ge {h : Int} {l : List Int} (o : OkT h l) {n : Nat} (hn : n ≤ topN h l) (hp : ∀ a : Nat, a ≤ n → 0 ≤ rd (fewI h l) (a : Int)) : n ≤ rangeI h l := by
  by_cases c : n ≤ rangeI h l
  · exact c
  · have h1 := range_stop o (by omega)
    have h2 := hp (rangeI h l + 1) (by omega)
    omega
theorem pays_more {h h' : Int} {l l' : List Int} (o : OkT h l) (o' : OkT h' l') (hh : h ≤ h') (hs : ∀ v ∈ l, v ∈ l') {a : Int} (a0 : 0 ≤ a) (a1 : a ≤ (topN h l : Int)) (a2 : a ≤ (topN h' l' : Int)) (hp : 0 ≤ rd (fewI h l) a) :
    0 ≤ rd (fewI h' l') a ∧ rd (fewI h' l') a ≤ rd (fewI h l) a := by
  obtain ⟨_, s2, s3, s4⟩ := fewI_says o a0 a1
  obtain ⟨_, t2, t3, t4⟩ := fewI_says o' a0 a2
  have hS := SumN.sub hs _ _ (s3 hp).1
  have h0 : 0 ≤ rd (fewI h' l') a := by
    rcases Int.lt_or_le (rd (fewI h' l') a) 0 with c | c
    · exact absurd hS (t4 c _ (by omega))
    · exact c
  refine ⟨h0, ?_⟩
  have hn : ¬ (rd (fewI h l) a).toNat < (rd (fewI h' l') a).toNat := fun hlt => (t3 h0).2 _ hlt hS
  omega
theorem range_more {h h' : Int} {l l' : List Int} (o : OkT h l) (o' : OkT h' l') (hh : h ≤ h') (hs : ∀ v ∈ l, v ∈ l') (ht : topN h l ≤ topN h' l') : rangeI h l ≤ rangeI h' l' := by
  have hr := range_le o
  exact range_ge o' (by omega) (fun a ha => (pays_more o o' hh hs (by omega) (by omega) (by omega) (range_pays o (by omega))).1)
theorem pays_one {h : Int} {l : List Int} (o : OkT h l) {v : Int} (hv : v ∈ l) (hle : v ≤ (topN h l : Int)) : 0 ≤ rd (fewI h l) v := by
  have hh := o.h
  have hv1 := o.val v hv
  rw [fewI_pays o (by omega) hle, SumN.zeros]
  exact ⟨1, by omega, v, hv, by show v - v = 0; omega⟩
end Go.Proofs.Ythbalcbibmdpnaa.OAll
