/- A part of the proof of 'stampPaid_holds', for every input, without a condition. -/
import Derived.Test.YthbalcbibmdpnaaSPdQb
namespace Go.Proofs.Ythbalcbibmdpnaa.OAll
open Go.RowKit Go.Proofs.YthbalcbibmdpnaaW.PrintWords Go.Proofs.YthbalcbibmdpnaaW.PrintLast Go.Proofs.YthbalcbibmdpnaaW.PrintMore
set_option linter.unusedVariables false
set_option linter.unusedSimpArgs false
theorem ite_iff {α : Type} {p q : Prop} [Decidable p] [Decidable q] (h : p ↔ q) (a b : α) : (if p then a else b) = if q then a else b := by
  by_cases hq : q
  · rw [if_pos hq, if_pos (h.2 hq)]
  · rw [if_neg hq, if_neg (fun hp => hq (h.1 hp))]
def okAt (l : List Int) (i : Nat) : Prop := 1 ≤ rd l (i : Int) ∧ rd l (i : Int) ≤ 200 ∧ (0 < i → rd l ((i - 1 : Nat) : Int) < rd l (i : Int))
instance (l : List Int) (i : Nat) : Decidable (okAt l i) := by unfold okAt; infer_instance
def okFrom (l : List Int) (i : Nat) : Prop := ∀ j, j < l.length → i ≤ j → okAt l j
instance (l : List Int) (i : Nat) : Decidable (okFrom l i) := by unfold okFrom; infer_instance
theorem okFrom_end {l : List Int} {i : Nat} (h : l.length ≤ i) : okFrom l i := fun j h1 h2 => by omega
theorem okFrom_step {l : List Int} {i : Nat} (hi : i < l.length) : okFrom l i ↔ okAt l i ∧ okFrom l (i + 1) := by
  constructor
  · exact fun h => ⟨h i hi (Nat.le_refl _), fun j h1 h2 => h j h1 (by omega)⟩
  · rintro ⟨h1, h2⟩ j hj hij
    rcases Nat.eq_or_lt_of_le hij with rfl | hlt
    · exact h1
    · exact h2 j hj hlt
def valI (l : List Int) : Int := if 6 < l.length then 3 else if l.length = 0 then 2 else if okFrom l 0 then 0 else 2
theorem valued_loop (l : List Int) (hl : l.length ≤ 6) : ∀ d i : Nat, i + d = l.length → Ev (fun k => stamp_valued.l0 k l l (l.length : Int) (i : Int)) (if okFrom l i then 0 else 2)
  | 0, i, hi => by
    refine Ev.succ ?_
    simp only [stamp_valued.l0]
    simp only [if_neg (show ¬ (i : Int) < (l.length : Int) by omega), if_pos (okFrom_end (l := l) (i := i) (by omega))]
    exact Ev.pure _
  | d + 1, i, hi => by
    have ih := valued_loop l hl d (i + 1) (by omega)
    have hw : wrap64 ((i : Int) + 1) = ((i + 1 : Nat) : Int) := w64s i (by omega)
    refine Ev.succ ?_
    simp only [stamp_valued.l0]
    simp only [if_pos (show (i : Int) < (l.length : Int) by omega), if_pos (show (0 : Int) ≤ (i : Int) by omega)]
    have hs := okFrom_step (l := l) (i := i) (by omega)
    by_cases c1 : rd l (i : Int) < 1
    · simp only [if_pos c1]
      rw [if_neg (fun h => by have := (hs.1 h).1.1; omega)]
      exact Ev.pure _
    simp only [if_neg c1]
    by_cases c2 : rd l (i : Int) > 200
    · simp only [if_pos c2]
      rw [if_neg (fun h => by have := (hs.1 h).1.2.1; omega)]
      exact Ev.pure _
    simp only [if_neg c2, hw]
    by_cases c3 : 0 < i
    · have hw2 : wrap64 ((i : Int) - 1) = ((i - 1 : Nat) : Int) := by rw [w64 (by omega) (by omega)]; omega
      simp only [if_pos (show (i : Int) > 0 by omega), hw2]
      simp only [if_pos (show (0 : Int) ≤ ((i - 1 : Nat) : Int) by omega), if_pos (show ((i - 1 : Nat) : Int) < (l.length : Int) by omega)]
      by_cases c4 : rd l (i : Int) ≤ rd l ((i - 1 : Nat) : Int)
      · simp only [if_pos c4]
        rw [if_neg (fun h => by have := (hs.1 h).1.2.2 c3; omega)]
        exact Ev.pure _
      · simp only [if_neg c4]
        rw [ite_iff (q := okFrom l (i + 1)) (hs.trans ⟨fun h => h.2, fun h => ⟨⟨by omega, by omega, fun _ => by omega⟩, h⟩⟩)]
        exact ih
    · simp only [if_neg (show ¬ (i : Int) > 0 by omega)]
      rw [ite_iff (q := okFrom l (i + 1)) (hs.trans ⟨fun h => h.2, fun h => ⟨⟨by omega, by omega, fun h3 => absurd h3 c3⟩, h⟩⟩)]
      exact ih
theorem valued_ev (l : List Int) : Ev (fun k => stamp_valued.f k l) (valI l) := by
  unfold stamp_valued.f valI
  by_cases c1 : 6 < l.length
  · simp only [if_pos c1, if_pos (show (l.length : Int) > 6 by omega)]
    exact Ev.pure _
  · simp only [if_neg c1, if_neg (show ¬ (l.length : Int) > 6 by omega)]
    by_cases c2 : l.length = 0
    · simp only [if_pos c2, if_pos (show (l.length : Int) = 0 by omega)]
      exact Ev.pure _
    · simp only [if_neg c2, if_neg (show ¬ (l.length : Int) = 0 by omega)]
      exact valued_loop l (by omega) l.length 0 (by omega)
theorem rvalues_loop (l : List Int) (hl : l.length ≤ 6) : ∀ d i : Nat, i + d = l.length → Ev (fun k => trishawref04_Values.l0 k l (i : Int)) (if okFrom l i then 0 else 2)
  | 0, i, hi => by
    refine Ev.succ ?_
    simp only [trishawref04_Values.l0]
    simp only [if_neg (show ¬ (i : Int) < (l.length : Int) by omega), if_pos (okFrom_end (l := l) (i := i) (by omega))]
    exact Ev.pure _
  | d + 1, i, hi => by
    have ih := rvalues_loop l hl d (i + 1) (by omega)
    have hw : wrap64 ((i : Int) + 1) = ((i + 1 : Nat) : Int) := w64s i (by omega)
    refine Ev.succ ?_
    simp only [trishawref04_Values.l0]
    simp only [if_pos (show (i : Int) < (l.length : Int) by omega), if_pos (show (0 : Int) ≤ (i : Int) by omega)]
    have hs := okFrom_step (l := l) (i := i) (by omega)
    by_cases c1 : rd l (i : Int) < 1
    · simp only [if_pos c1]
      rw [if_neg (fun h => by have := (hs.1 h).1.1; omega)]
      exact Ev.pure _
    simp only [if_neg c1]
    by_cases c2 : rd l (i : Int) > 200
    · simp only [if_pos c2]
      rw [if_neg (fun h => by have := (hs.1 h).1.2.1; omega)]
      exact Ev.pure _
    simp only [if_neg c2, hw]
    by_cases c3 : 0 < i
    · have hw2 : wrap64 ((i : Int) - 1) = ((i - 1 : Nat) : Int) := by rw [w64 (by omega) (by omega)]; omega
      simp only [if_pos (show (i : Int) > 0 by omega), hw2]
      simp only [if_pos (show (0 : Int) ≤ ((i - 1 : Nat) : Int) by omega), if_pos (show ((i - 1 : Nat) : Int) < (l.length : Int) by omega)]
      by_cases c4 : rd l (i : Int) ≤ rd l ((i - 1 : Nat) : Int)
      · simp only [if_pos c4]
        rw [if_neg (fun h => by have := (hs.1 h).1.2.2 c3; omega)]
        exact Ev.pure _
      · simp only [if_neg c4]
        rw [ite_iff (q := okFrom l (i + 1)) (hs.trans ⟨fun h => h.2, fun h => ⟨⟨by omega, by omega, fun _ => by omega⟩, h⟩⟩)]
        exact ih
    · simp only [if_neg (show ¬ (i : Int) > 0 by omega)]
      rw [ite_iff (q := okFrom l (i + 1)) (hs.trans ⟨fun h => h.2, fun h => ⟨⟨by omega, by omega, fun h3 => absurd h3 c3⟩, h⟩⟩)]
      exact ih
theorem rvalues_ev (l : List Int) : Ev (fun k => trishawref04_Values.f k l) (valI l) := by
  unfold trishawref04_Values.f valI
  by_cases c1 : 6 < l.length
  · simp only [if_pos c1, if_pos (show (l.length : Int) > 6 by omega)]
    exact Ev.pure _
  · simp only [if_neg c1, if_neg (show ¬ (l.length : Int) > 6 by omega)]
    by_cases c2 : l.length = 0
    · simp only [if_pos c2, if_pos (show (l.length : Int) = 0 by omega)]
      exact Ev.pure _
    · simp only [if_neg c2, if_neg (show ¬ (l.length : Int) = 0 by omega)]
      exact rvalues_loop l (by omega) l.length 0 (by omega)
theorem valI_zero {l : List Int} (h : valI l = 0) : 1 ≤ l.length ∧ l.length ≤ 6 ∧ okFrom l 0 := by
  unfold valI at h
  split at h
  · cases h
  · split at h
    · cases h
    · split at h
      · rename_i h3; exact ⟨by omega, by omega, h3⟩
      · cases h
end Go.Proofs.Ythbalcbibmdpnaa.OAll
