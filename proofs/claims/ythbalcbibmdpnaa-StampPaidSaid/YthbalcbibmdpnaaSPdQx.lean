/- A part of the proof of 'stampPaid_holds', for every input, without a condition. -/
import Derived.Shelf.Spec.SlicesInsert
import Derived.Shelf.Spec.SlicesInsertGrow
import Derived.Test.YthbalcbibmdpnaaSPdQw
import Derived.Test.YthbalcbibmdpnaaSPdOAllx0
import Derived.Test.YthbalcbibmdpnaaSPdOAllx2
import Derived.Test.YthbalcbibmdpnaaSPdOAllx3
import Derived.Test.YthbalcbibmdpnaaSPdRq
import Derived.Test.YthbalcbibmdpnaaSPdOAllx8
import Derived.Test.YthbalcbibmdpnaaSPdOAllx1
import Derived.Test.YthbalcbibmdpnaaSPdRv
import Derived.Test.YthbalcbibmdpnaaSPdRo
namespace Go.Proofs.Ythbalcbibmdpnaa.OAll
open Go.RowKit Go.Proofs.YthbalcbibmdpnaaW.PrintWords Go.Proofs.YthbalcbibmdpnaaW.PrintLast Go.Proofs.YthbalcbibmdpnaaW.PrintMore
set_option linter.unusedVariables false
set_option linter.unusedSimpArgs false
theorem bw_val {l : List Int} (hv : ∀ v ∈ l, 1 ≤ v) : ∀ p ∈ bw l, 1 ≤ p.2 := fun p hp => by
  obtain ⟨j, hj, rfl⟩ := bw_mem hp
  exact hv _ (rd_mem hj)
theorem bw_pre (l : List Int) {p : Int × Int} {k : Nat} (h : p ∈ (bw l).take k) : p ∈ bw l := List.mem_of_mem_take h
def greI (h : Int) (l : List Int) : Int × Int := if tickI h l = 0 then grR (firstN (grP h l (fewI h l)) 0 (fewI h l).length) else (0, tickI h l)
theorem okG_of {h : Int} {l : List Int} (o : OkT h l) : okG l (fewI h l) := by
  have hl := o.len
  have ht := o.top
  have h1 := fewI_len h l
  exact ⟨by omega, fun v hv => by have := o.val v hv; omega, by omega⟩
theorem greedy_ev (h : Int) (l : List Int) : Ev (fun k => stamp_Greedy.f k h l) (greI h l) := by
  unfold stamp_Greedy.f greI
  refine Ev.bind (read_ev h l) ?_
  by_cases c : tickI h l = 0
  · simp only [if_pos c]
    refine Ev.bind (fewest_ev (tickI_zero c).1) ?_
    simp only [if_pos (okG_of (tickI_zero c).1)]
    exact Ev.pure _
  · simp only [if_neg c]
    exact Ev.pure _
theorem grP_zero {h : Int} {l : List Int} (o : OkT h l) : ¬ grP h l (fewI h l) 0 := by
  have hv : ∀ p ∈ bw l, 1 ≤ p.2 := bw_val (fun v hv => (o.val v hv).1)
  have key : ∀ (n : Nat) (ps : List (Int × Int)), ps.length = n → (∀ p ∈ ps, 1 ≤ p.2) → ps.foldl grS (0, 0) = (0, 0) := by
    intro n ps hn
    clear hn
    induction ps with
    | nil => intro _; rfl
    | cons p t ih =>
      intro hp
      rw [List.foldl_cons]
      have : grS (0, 0) p = (0, 0) := by simp [grS]
      rw [this]
      exact ih (fun q hq => hp q (by simp [hq]))
  have e : grF (bw l) ((0 : Nat) : Int) = (0, 0) := key _ _ rfl hv
  rintro ⟨_, q⟩
  rw [e] at q
  have := o.h
  rcases q with q | q
  · simp at q
  · have : h < 0 := q
    omega
end Go.Proofs.Ythbalcbibmdpnaa.OAll
