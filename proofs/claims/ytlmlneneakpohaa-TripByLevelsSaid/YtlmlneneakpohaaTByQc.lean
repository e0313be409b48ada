/- A part of the proof of 'tripByLevels_holds', for every input, without a condition. -/
import Derived.Test.YtlmlneneakpohaaTByQb
import Derived.Test.YtlmlneneakpohaaTByOAllx19
namespace Go.Proofs.Ytlmlneneakpohaa.OAll
open Go.RowKit Go.Proofs.YtlmlneneakpohaaW.PrintWords Go.Proofs.YtlmlneneakpohaaW.PrintLast Go.Proofs.YtlmlneneakpohaaW.PrintMore
set_option linter.unusedVariables false
set_option linter.unusedSimpArgs false
def upN (h : Int) : List S36 → Nat
  | [] => 0
  | x :: t => (if x.f0 < h ∧ h ≤ x.f1 then 1 else 0) + upN h t
def dnN (h : Int) : List S36 → Nat
  | [] => 0
  | x :: t => (if h ≤ x.f0 ∧ x.f1 < h then 1 else 0) + dnN h t
theorem level_l0 (h : Int) : ∀ (t p : List S36) (u d : Nat), (p ++ t).length ≤ 9 → u ≤ p.length → d ≤ p.length →
    Ev (fun k => trip_Level.l0 k h (u : Int) (d : Int) (p ++ t) ((p ++ t).length : Int) (p.length : Int)) (((u + upN h t : Nat) : Int), ((d + dnN h t : Nat) : Int), 0)
  | [], p, u, d, hl, hu, hd => by
    refine Ev.succ ?_
    simp only [trip_Level.l0, if_neg (mid_end p)]
    exact Ev.pure _
  | x :: t, p, u, d, hl, hu, hd => by
    refine Ev.succ ?_
    have e1 := mid_lt p t x
    have e2 : wrap64 ((p.length : Int) + 1) = (((p ++ [x]).length : Nat) : Int) := mid_next p t x (by omega)
    have hlp : p.length ≤ 9 := by simp at hl; omega
    have hl' : ((p ++ [x]) ++ t).length ≤ 9 := by simpa using hl
    have wu : wrap64 ((u : Int) + 1) = ((u + 1 : Nat) : Int) := w64s u (by omega)
    have wd : wrap64 ((d : Int) + 1) = ((d + 1 : Nat) : Int) := w64s d (by omega)
    have ihU := level_l0 h t (p ++ [x]) (u + 1) d hl' (by simp; omega) (by simp; omega)
    have ihD := level_l0 h t (p ++ [x]) u (d + 1) hl' (by simp; omega) (by simp; omega)
    have ih0 := level_l0 h t (p ++ [x]) u d hl' (by simp; omega) (by simp; omega)
    rw [← mid_assoc] at ihU ihD ih0
    simp only [trip_Level.l0, if_pos e1, if_pos (nonneg_len p), rd36_mid]
    by_cases c0 : x.f0 < h
    · simp only [if_pos c0]
      refine Ev.succ ?_
      have cD : ¬ (h ≤ x.f0 ∧ x.f1 < h) := by omega
      by_cases c1 : x.f1 ≥ h
      · simp only [trip_Level.j1, if_pos (decide_eq_true c1), e2, wu, upN, dnN, if_pos (show x.f0 < h ∧ h ≤ x.f1 from ⟨c0, c1⟩), if_neg cD, Nat.zero_add, ← Nat.add_assoc]
        exact ihU
      · have cU : ¬ (x.f0 < h ∧ h ≤ x.f1) := by omega
        have e3 : ¬ decide (x.f1 ≥ h) = true := by simp; omega
        simp only [trip_Level.j1, if_neg e3, if_neg (show ¬ x.f0 ≥ h by omega), e2, upN, dnN, if_neg cU, if_neg cD, Nat.zero_add]
        exact ih0
    · simp only [if_neg c0]
      refine Ev.succ ?_
      have cU : ¬ (x.f0 < h ∧ h ≤ x.f1) := by omega
      have e3 : ¬ (false : Bool) = true := by simp
      by_cases c1 : x.f1 < h
      · simp only [trip_Level.j1, if_neg e3, if_pos (show x.f0 ≥ h by omega), if_pos c1, e2, wd, upN, dnN, if_neg cU, if_pos (show h ≤ x.f0 ∧ x.f1 < h by omega), Nat.zero_add, ← Nat.add_assoc]
        exact ihD
      · simp only [trip_Level.j1, if_neg e3, if_pos (show x.f0 ≥ h by omega), if_neg c1, e2, upN, dnN, if_neg cU, if_neg (show ¬ (h ≤ x.f0 ∧ x.f1 < h) by omega), Nat.zero_add]
        exact ih0
def levelR (l : List S36) (h : Int) : Int × Int × Int := if ridesE l = 0 then ((upN h l : Int), (dnN h l : Int), 0) else (0, 0, ridesE l)
theorem level_ev (l : List S36) (h : Int) : Ev (fun k => trip_Level.f k l h) (levelR l h) := by
  unfold trip_Level.f levelR
  simp only [toured_eq, Option.bind_some]
  by_cases c : ridesE l = 0
  · simp only [if_pos c]
    have := level_l0 h l [] 0 0 (by have := (rides_right c).1; simp; omega) (Nat.le_refl _) (Nat.le_refl _)
    simpa using this
  · simp only [if_neg c]; exact Ev.pure _
end Go.Proofs.Ytlmlneneakpohaa.OAll
