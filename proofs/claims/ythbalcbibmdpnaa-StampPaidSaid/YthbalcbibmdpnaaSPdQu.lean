/- A part of the proof of 'stampPaid_holds', for every input, without a condition. -/
import Derived.Test.YthbalcbibmdpnaaSPdQr
import Derived.Test.YthbalcbibmdpnaaSPdOAllx8
namespace Go.Proofs.Ythbalcbibmdpnaa.OAll
open Go.RowKit Go.Proofs.YthbalcbibmdpnaaW.PrintWords Go.Proofs.YthbalcbibmdpnaaW.PrintLast Go.Proofs.YthbalcbibmdpnaaW.PrintMore
set_option linter.unusedVariables false
set_option linter.unusedSimpArgs false
theorem in_loop (l : List Int) (x : Int) (hl : l.length ≤ 2000) : ∀ t s : List Int, l = s ++ t → Ev (fun k => trishawref04_In.l0 k l x (s.length : Int)) (decide (x ∈ t))
  | [], s, e => by
    refine Ev.succ ?_
    simp only [trishawref04_In.l0]
    simp only [if_neg (show ¬ (s.length : Int) < (l.length : Int) by rw [e]; simp), List.not_mem_nil, decide_false]
    exact Ev.pure _
  | y :: t, s, e => by
    have hi : (s.length : Int) < (l.length : Int) := by rw [e]; simp; omega
    have hri : rd l (s.length : Int) = y := by rw [e]; exact rd_mid s t y
    have hw1 : wrap64 ((s.length : Int) + 1) = (((s ++ [y]).length : Nat) : Int) := by rw [w64 (by omega) (by omega)]; simp
    have ih := in_loop l x hl t (s ++ [y]) (by rw [e]; simp)
    refine Ev.succ ?_
    simp only [trishawref04_In.l0, hri, hw1]
    simp only [if_pos hi, if_pos (show (0 : Int) ≤ (s.length : Int) by omega)]
    by_cases c : y = x
    · simp only [if_pos c]
      rw [decide_eq_true (show x ∈ y :: t by rw [c]; simp)]
      exact Ev.pure _
    · simp only [if_neg c]
      have : decide (x ∈ y :: t) = decide (x ∈ t) := decide_eq_decide.mpr ⟨fun h => (List.mem_cons.mp h).resolve_left (fun q => c q.symm), fun h => List.mem_cons_of_mem _ h⟩
      rw [this]
      exact ih
theorem in_ev (l : List Int) (x : Int) (hl : l.length ≤ 2000) : Ev (fun k => trishawref04_In.f k l x) (decide (x ∈ l)) := in_loop l x hl l [] rfl
end Go.Proofs.Ythbalcbibmdpnaa.OAll
