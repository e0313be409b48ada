/- A part of the proof of 'stampNext_holds', for every input, without a condition. -/
import Derived.Test.YthbalcbibmdpnaaSNeQg
import Derived.Test.YthbalcbibmdpnaaSNeOAllx11
namespace Go.Proofs.Ythbalcbibmdpnaa.OAll
open Go.RowKit Go.Proofs.YthbalcbibmdpnaaW.PrintWords Go.Proofs.YthbalcbibmdpnaaW.PrintLast Go.Proofs.YthbalcbibmdpnaaW.PrintMore
set_option linter.unusedVariables false
set_option linter.unusedSimpArgs false
def run : List Int → Nat
  | [] => 0
  | x :: t => if 0 ≤ x then run t + 1 else 0
theorem run_le : ∀ t : List Int, run t ≤ t.length
  | [] => Nat.le_refl _
  | x :: t => by
    have := run_le t
    unfold run
    split <;> simp <;> omega
theorem index_loop (w : List Int) (hw : w.length ≤ 2000) : ∀ t s : List Int, w = s ++ t → (∀ x ∈ t, -1 ≤ x) →
    Ev (fun k => slices_Index_int_int.l0 k w (-1) (w.length : Int) (s.length : Int)) (if run t < t.length then ((s.length + run t : Nat) : Int) else -1)
  | [], s, e, _ => by
    refine Ev.succ ?_
    simp only [slices_Index_int_int.l0]
    simp only [if_neg (show ¬ (s.length : Int) < (w.length : Int) by rw [e]; simp), run, List.length_nil, if_neg (Nat.lt_irrefl 0)]
    exact Ev.pure _
  | x :: t, s, e, hg => by
    have hi : (s.length : Int) < (w.length : Int) := by rw [e]; simp; omega
    have hri : rd w (s.length : Int) = x := by rw [e]; exact rd_mid s t x
    have hw1 : wrap64 ((s.length : Int) + 1) = (((s ++ [x]).length : Nat) : Int) := by rw [w64 (by omega) (by omega)]; simp
    have ih := index_loop w hw t (s ++ [x]) (by rw [e]; simp) (fun y hy => hg y (by simp [hy]))
    have hx := hg x (by simp)
    refine Ev.succ ?_
    simp only [slices_Index_int_int.l0, hri, hw1]
    simp only [if_pos hi, if_pos (show (0 : Int) ≤ (s.length : Int) by omega)]
    by_cases c : -1 = x
    · subst c
      simp only [if_true]
      rw [if_pos (by simp [run])]
      simp only [run, if_neg (show ¬ (0 : Int) ≤ -1 by omega), Nat.add_zero]
      exact Ev.pure _
    · simp only [if_neg c]
      have hx0 : 0 ≤ x := by omega
      have e1 : (if run (x :: t) < (x :: t).length then ((s.length + run (x :: t) : Nat) : Int) else -1) = if run t < t.length then (((s ++ [x]).length + run t : Nat) : Int) else -1 := by
        simp only [run, if_pos hx0, List.length_cons, List.length_append, List.length_nil]
        by_cases hr : run t < t.length
        · rw [if_pos hr, if_pos (by omega)]; congr 1; omega
        · rw [if_neg hr, if_neg (by omega)]
      rw [e1]
      exact ih
theorem fwP_cons (h : Int) (l : List Int) : ∀ n, ∃ t, fwP h l n = 0 :: t ∧ t.length = n
  | 0 => ⟨[], rfl, rfl⟩
  | n + 1 => by
    obtain ⟨t, e, hl⟩ := fwP_cons h l n
    refine ⟨t ++ [cellI h l (fwP h l n)], ?_, by simp [hl]⟩
    have : fwP h l (n + 1) = fwP h l n ++ [cellI h l (fwP h l n)] := rfl
    generalize cellI h l (fwP h l n) = c at this ⊢
    rw [this, e]
    rfl
def rangeI (h : Int) (l : List Int) : Nat := run (fewI h l).tail
theorem fewI_parts {h : Int} {l : List Int} (o : OkT h l) : ∃ t, fewI h l = 0 :: t ∧ t.length = topN h l ∧ rangeI h l = run t ∧ ∀ x ∈ t, -1 ≤ x ∧ x ≤ h := by
  obtain ⟨t, e, hl⟩ := fwP_cons h l (topN h l)
  refine ⟨t, e, hl, by unfold rangeI fewI; rw [e]; rfl, fun x hx => ?_⟩
  have := fwP_good (show 0 ≤ h by have := o.h; omega) (fun v hv => (o.val v hv).1) (topN h l) x (by rw [e]; simp [hx])
  exact this
theorem reach_ev {h : Int} {l : List Int} (o : OkT h l) : Ev (fun k => stamp_reach.f k h l) ((rangeI h l : Nat) : Int) := by
  obtain ⟨t, e, hl, hr, hg⟩ := fewI_parts o
  obtain ⟨_, ht, _⟩ := o.top
  unfold stamp_reach.f
  refine Ev.bind (fewest_ev o) ?_
  have hlen : (fewI h l).length = topN h l + 1 := by rw [e]; simp [hl]
  have hi := index_loop (fewI h l) (by omega) t [0] e (fun x hx => (hg x hx).1)
  have h0 : Ev (fun k => slices_Index_int_int.f k (fewI h l) (-1)) (if run t < t.length then ((1 + run t : Nat) : Int) else -1) := by
    unfold slices_Index_int_int.f
    refine Ev.succ ?_
    simp only [slices_Index_int_int.l0]
    have hr0 : rd (fewI h l) 0 = 0 := by rw [e]; rfl
    simp only [if_pos (show (0 : Int) < ((fewI h l).length : Int) by omega), if_pos (Int.le_refl 0), hr0, if_neg (show ¬ (-1 : Int) = 0 by omega)]
    rw [show wrap64 (0 + 1) = ((([0] : List Int).length : Nat) : Int) by rw [w64 (by omega) (by omega)]; rfl]
    exact hi
  refine Ev.bind h0 ?_
  have hrl := run_le t
  rw [hr]
  by_cases c : run t < t.length
  · simp only [if_pos c, if_pos (show ((1 + run t : Nat) : Int) ≥ 0 by omega)]
    rw [show wrap64 (((1 + run t : Nat) : Int) - 1) = ((run t : Nat) : Int) by rw [w64 (by omega) (by omega)]; omega]
    exact Ev.pure _
  · simp only [if_neg c, if_neg (show ¬ (-1 : Int) ≥ 0 by omega)]
    rw [show wrap64 (((fewI h l).length : Int) - 1) = ((run t : Nat) : Int) by rw [w64 (by omega) (by omega)]; omega]
    exact Ev.pure _
theorem rreach_loop (w : List Int) (hw : w.length ≤ 2000) : ∀ t s : List Int, w = s ++ t → 1 ≤ s.length →
    Ev (fun k => trishawref04_reach.l0 k w ((s.length - 1 : Nat) : Int)) ((s.length - 1 + run t : Nat) : Int)
  | [], s, e, h1 => by
    have hw1 : wrap64 (((s.length - 1 : Nat) : Int) + 1) = (s.length : Int) := by rw [w64 (by omega) (by have := congrArg List.length e; simp at this; omega)]; omega
    refine Ev.succ ?_
    simp only [trishawref04_reach.l0, hw1]
    simp only [if_neg (show ¬ (s.length : Int) < (w.length : Int) by rw [e]; simp)]
    exact Ev.pure _
  | x :: t, s, e, h1 => by
    have hsl := congrArg List.length e
    simp at hsl
    have hw1 : wrap64 (((s.length - 1 : Nat) : Int) + 1) = (s.length : Int) := by rw [w64 (by omega) (by omega)]; omega
    have hri : rd w (s.length : Int) = x := by rw [e]; exact rd_mid s t x
    have ih := rreach_loop w hw t (s ++ [x]) (by rw [e]; simp) (by simp)
    refine Ev.succ ?_
    simp only [trishawref04_reach.l0, hw1, hri]
    simp only [if_pos (show (s.length : Int) < (w.length : Int) by omega), if_pos (show (0 : Int) ≤ (s.length : Int) by omega)]
    by_cases c : x ≥ 0
    · simp only [if_pos c]
      have e1 : s.length - 1 + run (x :: t) = (s ++ [x]).length - 1 + run t := by
        simp only [run, if_pos (show 0 ≤ x from c), List.length_append, List.length_cons, List.length_nil]; omega
      rw [e1, show ((s.length : Nat) : Int) = (((s ++ [x]).length - 1 : Nat) : Int) by simp]
      exact ih
    · simp only [if_neg c]
      have e1 : run (x :: t) = 0 := by simp only [run, if_neg (show ¬ 0 ≤ x from c)]
      rw [e1]
      exact Ev.pure _
theorem rreach_ev {h : Int} {l : List Int} (o : OkT h l) : Ev (fun k => trishawref04_reach.f k h l) ((rangeI h l : Nat) : Int) := by
  obtain ⟨t, e, hl, hr, hg⟩ := fewI_parts o
  obtain ⟨_, ht, _⟩ := o.top
  unfold trishawref04_reach.f
  refine Ev.bind (rfew_ev o) ?_
  have := rreach_loop (fewI h l) (by rw [e]; simp; omega) t [0] e (by simp)
  rw [hr]
  simpa using this
end Go.Proofs.Ythbalcbibmdpnaa.OAll
