/- A part of the proof of 'stampBest_holds', for every input, without a condition. -/
import Derived.Test.YthbalcbibmdpnaaSBeQb
namespace Go.Proofs.Ythbalcbibmdpnaa.OAll
open Go.RowKit Go.Proofs.YthbalcbibmdpnaaW.PrintWords Go.Proofs.YthbalcbibmdpnaaW.PrintLast Go.Proofs.YthbalcbibmdpnaaW.PrintMore
set_option linter.unusedVariables false
set_option linter.unusedSimpArgs false
def okAt (l : List Int) (i : Nat) : Prop := 1 ≤ rd l (i : Int) ∧ rd l (i : Int) ≤ 200 ∧ (0 < i → rd l ((i - 1 : Nat) : Int) < rd l (i : Int))
instance (l : List Int) (i : Nat) : Decidable (okAt l i) := by unfold okAt; infer_instance
def okFrom (l : List Int) (i : Nat) : Prop := ∀ j, j < l.length → i ≤ j → okAt l j
instance (l : List Int) (i : Nat) : Decidable (okFrom l i) := by unfold okFrom; infer_instance
theorem same_loop (l : List Int) (hl : l.length < 9223372036854775807) : ∀ d i : Nat, i + d = l.length → Ev (fun k => trishawlaw04_same.l0 k l l (i : Int)) true
  | 0, i, hi => by
    refine Ev.succ ?_
    simp only [trishawlaw04_same.l0]
    simp only [if_neg (show ¬ (i : Int) < (l.length : Int) by omega)]
    exact Ev.pure _
  | d + 1, i, hi => by
    refine Ev.succ ?_
    simp only [trishawlaw04_same.l0]
    simp only [if_pos (show (i : Int) < (l.length : Int) by omega), if_pos (show (0 : Int) ≤ (i : Int) by omega), w64s i (by omega)]
    simp only [if_true]
    exact same_loop l hl d (i + 1) (by omega)
theorem same_ev (l : List Int) (hl : l.length < 9223372036854775807) : Ev (fun k => trishawlaw04_same.f k l l) true := by
  unfold trishawlaw04_same.f
  simp only [if_true]
  exact same_loop l hl l.length 0 (by omega)
end Go.Proofs.Ythbalcbibmdpnaa.OAll
