/- A part of the proof of 'tripCosts_holds', for every input, without a condition. -/
import Derived.Test.YtlmlneneakpohaaTCoQd
import Derived.Test.YtlmlneneakpohaaTCoOAllx23
namespace Go.Proofs.Ytlmlneneakpohaa.OAll
open Go.RowKit Go.Proofs.YtlmlneneakpohaaW.PrintWords Go.Proofs.YtlmlneneakpohaaW.PrintLast Go.Proofs.YtlmlneneakpohaaW.PrintMore
set_option linter.unusedVariables false
set_option linter.unusedSimpArgs false
theorem rcost_ev (l : List S36) (U D : Int) (o : List Int) (h30 : o.length ≤ 30) : Ev (fun k => trishawref06_Cost.f k l U D o) (costR l U D o) := by
  unfold trishawref06_Cost.f costR
  refine Ev.bind (ref_day l U D) ?_
  by_cases c : dayE l U D = 0
  · simp only [if_pos c]
    refine Ev.bind (isorder_ev l.length (day_right c).len.2 o h30) ?_
    by_cases c1 : IsOrd l.length o
    · simp only [decide_eq_true c1, if_true, if_pos c1]
      exact Ev.bind (total_ev (day_right c) c1.1 h30) (Ev.pure _)
    · simp only [decide_eq_false c1, Bool.false_eq_true, if_false, if_neg c1]; exact Ev.pure _
  · simp only [if_neg c]; exact Ev.pure _
def emptyR (l : List S36) (U D i k : Int) : Int × Int := if dayE l U D = 0 then (if 0 ≤ i ∧ i < (l.length : Int) ∧ 0 ≤ k ∧ k < (l.length : Int) then (emp l U D i k, 0) else (0, 2)) else (0, dayE l U D)
theorem empty_eq (l : List S36) (U D i k : Int) : trip_Empty.f l U D i k = some (emptyR l U D i k) := by
  unfold trip_Empty.f emptyR
  simp only [read_eq, Option.bind_some]
  by_cases c : dayE l U D = 0
  · simp only [if_pos c]
    have hm : mn i k < 0 ↔ i < 0 ∨ k < 0 := by unfold mn; split <;> omega
    have hx : mx i k ≥ (l.length : Int) ↔ i ≥ (l.length : Int) ∨ k ≥ (l.length : Int) := by unfold mx; split <;> omega
    by_cases c1 : mn i k < 0
    · rw [if_pos c1, if_neg (by omega)]
    · rw [if_neg c1]
      by_cases c2 : mx i k ≥ (l.length : Int)
      · rw [if_pos c2, if_neg (by omega)]
      · have h4 : 0 ≤ i ∧ i < (l.length : Int) ∧ 0 ≤ k ∧ k < (l.length : Int) := by omega
        rw [if_neg c2, if_pos h4, dempty_eq (day_right c) h4.1 h4.2.1 h4.2.2.1 h4.2.2.2]
        rfl
  · simp only [if_neg c]
theorem rempt_ev (l : List S36) (U D i k : Int) : Ev (fun n => trishawref06_Empty.f n l U D i k) (emptyR l U D i k) := by
  unfold trishawref06_Empty.f emptyR
  refine Ev.bind (ref_day l U D) ?_
  by_cases c : dayE l U D = 0
  · simp only [if_pos c]
    by_cases c1 : i < 0
    · simp only [if_pos c1, if_neg (show ¬ (0 ≤ i ∧ i < (l.length : Int) ∧ 0 ≤ k ∧ k < (l.length : Int)) by omega)]; exact Ev.pure _
    · simp only [if_neg c1]
      by_cases c2 : i ≥ (l.length : Int)
      · simp only [if_pos c2, if_neg (show ¬ (0 ≤ i ∧ i < (l.length : Int) ∧ 0 ≤ k ∧ k < (l.length : Int)) by omega)]; exact Ev.pure _
      · simp only [if_neg c2]
        by_cases c3 : k < 0
        · simp only [if_pos c3, if_neg (show ¬ (0 ≤ i ∧ i < (l.length : Int) ∧ 0 ≤ k ∧ k < (l.length : Int)) by omega)]; exact Ev.pure _
        · simp only [if_neg c3]
          by_cases c4 : k ≥ (l.length : Int)
          · simp only [if_pos c4, if_neg (show ¬ (0 ≤ i ∧ i < (l.length : Int) ∧ 0 ≤ k ∧ k < (l.length : Int)) by omega)]; exact Ev.pure _
          · have h4 : 0 ≤ i ∧ i < (l.length : Int) ∧ 0 ≤ k ∧ k < (l.length : Int) := by omega
            have hR := day_right c
            simp only [if_neg c4, if_pos h4, if_pos h4.1, if_pos h4.2.1, if_pos h4.2.2.1, if_pos h4.2.2.2, rempty_eq hR.U_ hR.D_ (hR.get h4.1 h4.2.1).2 (hR.get h4.2.2.1 h4.2.2.2).1]
            exact Ev.pure _
  · simp only [if_neg c]; exact Ev.pure _
theorem costs_l0 (o : List Int) (ho : o.length ≤ 30) (a b : Int) : ∀ t p : List S36, (p ++ t).length ≤ 30 → Ev (fun k => trishawlaw06_TripCosts.l0 k (p ++ t) o (p ++ t) o a b a b (p.length : Int)) true
  | [], p, hl => by
    refine Ev.succ ?_
    simp only [trishawlaw06_TripCosts.l0, if_neg (mid_end p), if_true]
    refine Ev.bind (same_ev o o (by omega)) ?_
    simp only [decide_true, if_true]
    exact alive_ev'
  | x :: t, p, hl => by
    refine Ev.succ ?_
    have e2 : wrap64 ((p.length : Int) + 1) = (((p ++ [x]).length : Nat) : Int) := mid_next p t x (by omega)
    have ih := costs_l0 o ho a b t (p ++ [x]) (by simpa using hl)
    rw [← mid_assoc] at ih
    simp only [trishawlaw06_TripCosts.l0, if_pos (mid_lt p t x), if_pos (nonneg_len p), e2, beq_self_eq_true, Bool.not_true, Bool.or_self, Bool.false_eq_true, if_false]
    exact ih
theorem TripCosts_ev (l : List S36) (U D : Int) (o : List Int) (i j : Int) : Ev (fun k => trishawlaw06_TripCosts.f k l U D o i j) true := by
  unfold trishawlaw06_TripCosts.f
  simp only [few_eq, Option.bind_some, List.nil_append, List.length_nil, Nat.zero_add]
  by_cases c : fewN l o = true
  · have hl : (l.length : Int) ≤ 30 ∧ (o.length : Int) ≤ 30 := by unfold fewN at c; simpa using c
    simp only [if_pos c, if_pos (show l.length < 8796093022208 by omega), if_pos (show o.length < 17592186044416 by omega)]
    refine Ev.bind (cost_ev l U D o (by omega)) (Ev.bind (rcost_ev l U D o (by omega)) ?_)
    simp only [if_true]
    refine Ev.succ ?_
    simp only [trishawlaw06_TripCosts.j0, bne_self_eq_false, Bool.false_eq_true, if_false, empty_eq, Option.bind_some]
    exact Ev.bind (rempt_ev l U D i j) (costs_l0 o (by omega) _ _ l [] (by simp; omega))
  · simp only [if_neg c]; exact alive_ev'
end Go.Proofs.Ytlmlneneakpohaa.OAll
