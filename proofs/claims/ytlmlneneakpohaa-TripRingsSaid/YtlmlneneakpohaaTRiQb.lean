/- A part of the proof of 'tripRings_holds', for every input, without a condition. -/
import Derived.Test.YtlmlneneakpohaaTRiQa
import Derived.Test.YtlmlneneakpohaaTRiOAllx9
namespace Go.Proofs.Ytlmlneneakpohaa.OAll
open Go.RowKit Go.Proofs.YtlmlneneakpohaaW.PrintWords Go.Proofs.YtlmlneneakpohaaW.PrintLast Go.Proofs.YtlmlneneakpohaaW.PrintMore
set_option linter.unusedVariables false
set_option linter.unusedSimpArgs false
theorem rd36_mid (p t : List S36) (x : S36) : rd_T36 (p ++ x :: t) (p.length : Int) = x := by simp [rd_T36]
theorem rd36_get {l : List S36} {j : Nat} (h : j < l.length) : rd_T36 l (j : Int) = l[j] := by simp [rd_T36, h]
theorem alive_ev : Ev (fun k => trishawlaw06_alive.f k) true :=
  Ev.mono (fun k => trishawlaw06_alive.mono k) (k := 60) (by kernel_rfl)
theorem alive_ev' : Ev (fun k => (trishawlaw06_alive.f k).bind fun t => some t) true := Ev.bind alive_ev (Ev.pure _)
theorem few_nil (l : List S36) : trishawlaw06_few.f l [] = some (decide ((l.length : Int) ≤ 30)) := by
  unfold trishawlaw06_few.f; split <;> simp_all
def ridesE (l : List S36) : Int := if 9 < l.length then 3 else if l.length = 0 then 2 else if l.any outR = true then 2 else 0
def dayE (l : List S36) (U D : Int) : Int := if ridesE l = 0 then (if U < 0 ∨ U > 1000 ∨ D < 0 ∨ D > 1000 then 2 else 0) else ridesE l
theorem toured_eq (l : List S36) : trip_toured.f l = some (ridesE l) := rfl
theorem read_eq (l : List S36) (U D : Int) : trip_read.f l U D = some (U, D, l, dayE l U D) := by
  unfold trip_read.f dayE
  rw [toured_eq, Option.bind_some]
  have hm : mn U D < 0 ↔ U < 0 ∨ D < 0 := by unfold mn; split <;> omega
  have hx : mx U D > 1000 ↔ U > 1000 ∨ D > 1000 := by unfold mx; split <;> omega
  by_cases h : ridesE l = 0
  · rw [if_pos h, if_pos h]
    by_cases h1 : mn U D < 0
    · rw [if_pos h1, if_pos (by omega)]
    · rw [if_neg h1]
      by_cases h2 : mx U D > 1000
      · rw [if_pos h2, if_pos (by omega)]
      · rw [if_neg h2, if_neg (by omega), h]
  · rw [if_neg h, if_neg h]
theorem ref_rides_l0 : ∀ (t p : List S36), (p ++ t).length ≤ 9 → Ev (fun k => trishawref06_Rides.l0 k (p ++ t) (p.length : Int)) (if t.any outR = true then 2 else 0)
  | [], p, h => by
    refine Ev.succ ?_
    simp only [trishawref06_Rides.l0, if_neg (mid_end p)]
    simpa using Ev.pure (0 : Int)
  | x :: t, p, h => by
    refine Ev.succ ?_
    have e1 := mid_lt p t x
    have e2 : wrap64 ((p.length : Int) + 1) = (((p ++ [x]).length : Nat) : Int) := mid_next p t x (by omega)
    have ih := ref_rides_l0 t (p ++ [x]) (by simpa using h)
    rw [← mid_assoc] at ih
    simp only [trishawref06_Rides.l0, if_pos e1, if_pos (nonneg_len p), rd36_mid, e2]
    by_cases h0 : x.f0 < 0
    · simp only [if_pos h0]
      have : (x :: t).any outR = true := by simp [outR, outH]; omega
      rw [if_pos this]; exact Ev.pure _
    · simp only [if_neg h0]
      by_cases h1 : x.f0 > 1000
      · simp only [if_pos h1]
        have : (x :: t).any outR = true := by simp [outR, outH]; omega
        rw [if_pos this]; exact Ev.pure _
      · simp only [if_neg h1]
        by_cases h2 : x.f1 < 0
        · simp only [if_pos h2]
          have : (x :: t).any outR = true := by simp [outR, outH]; omega
          rw [if_pos this]; exact Ev.pure _
        · simp only [if_neg h2]
          by_cases h3 : x.f1 > 1000
          · simp only [if_pos h3]
            have : (x :: t).any outR = true := by simp [outR, outH]; omega
            rw [if_pos this]; exact Ev.pure _
          · simp only [if_neg h3]
            have e3 : (x :: t).any outR = t.any outR := by
              have : outR x = false := by simp [outR, outH]; omega
              simp [this]
            rw [e3]; exact ih
theorem ref_rides (l : List S36) : Ev (fun k => trishawref06_Rides.f k l) (ridesE l) := by
  unfold trishawref06_Rides.f ridesE
  by_cases h : (l.length : Int) > 9
  · simp only [if_pos h, if_pos (show 9 < l.length by omega)]; exact Ev.pure _
  · simp only [if_neg h, if_neg (show ¬ 9 < l.length by omega)]
    by_cases h2 : (l.length : Int) = 0
    · simp only [if_pos h2, if_pos (show l.length = 0 by omega)]; exact Ev.pure _
    · simp only [if_neg h2, if_neg (show ¬ l.length = 0 by omega)]
      exact ref_rides_l0 l [] (by simp; omega)
theorem ref_day (l : List S36) (U D : Int) : Ev (fun k => trishawref06_Day.f k l U D) (dayE l U D) := by
  unfold trishawref06_Day.f dayE
  refine Ev.bind (ref_rides l) ?_
  by_cases h : ridesE l = 0
  · simp only [if_pos h]
    by_cases h1 : U < 0
    · simp only [if_pos h1, if_pos (show U < 0 ∨ U > 1000 ∨ D < 0 ∨ D > 1000 by omega)]; exact Ev.pure _
    · simp only [if_neg h1]
      by_cases h2 : U > 1000
      · simp only [if_pos h2, if_pos (show U < 0 ∨ U > 1000 ∨ D < 0 ∨ D > 1000 by omega)]; exact Ev.pure _
      · simp only [if_neg h2]
        by_cases h3 : D < 0
        · simp only [if_pos h3, if_pos (show U < 0 ∨ U > 1000 ∨ D < 0 ∨ D > 1000 by omega)]; exact Ev.pure _
        · simp only [if_neg h3]
          by_cases h4 : D > 1000
          · simp only [if_pos h4, if_pos (show U < 0 ∨ U > 1000 ∨ D < 0 ∨ D > 1000 by omega)]; exact Ev.pure _
          · simp only [if_neg h4, if_neg (show ¬ (U < 0 ∨ U > 1000 ∨ D < 0 ∨ D > 1000) by omega), h]; exact Ev.pure _
  · simp only [if_neg h]; exact Ev.pure _
structure Right (l : List S36) (U D : Int) : Prop where
  len : 1 ≤ l.length ∧ l.length ≤ 9
  at_ : ∀ x ∈ l, 0 ≤ x.f0 ∧ x.f0 ≤ 1000 ∧ 0 ≤ x.f1 ∧ x.f1 ≤ 1000
  U_ : 0 ≤ U ∧ U ≤ 1000
  D_ : 0 ≤ D ∧ D ≤ 1000
theorem rides_right {l : List S36} (h : ridesE l = 0) : (1 ≤ l.length ∧ l.length ≤ 9) ∧ ∀ x ∈ l, 0 ≤ x.f0 ∧ x.f0 ≤ 1000 ∧ 0 ≤ x.f1 ∧ x.f1 ≤ 1000 := by
  unfold ridesE at h
  split at h
  · omega
  · split at h
    · omega
    · split at h
      · omega
      · rename_i h1 h2 h3
        refine ⟨by omega, fun x hx => ?_⟩
        have h4 : ¬ outR x = true := fun e => h3 (List.any_eq_true.mpr ⟨x, hx, e⟩)
        simp [outR, outH] at h4
        omega
theorem day_right {l : List S36} {U D : Int} (h : dayE l U D = 0) : Right l U D := by
  unfold dayE at h
  split at h
  · rename_i h1
    split at h
    · omega
    · exact ⟨(rides_right h1).1, (rides_right h1).2, by omega, by omega⟩
  · rename_i h1; exact absurd h h1
end Go.Proofs.Ytlmlneneakpohaa.OAll
