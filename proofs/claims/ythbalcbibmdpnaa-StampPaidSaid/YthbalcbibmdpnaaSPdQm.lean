/- A part of the proof of 'stampPaid_holds', for every input, without a condition. -/
import Derived.Test.YthbalcbibmdpnaaSPdQl
namespace Go.Proofs.Ythbalcbibmdpnaa.OAll
open Go.RowKit Go.Proofs.YthbalcbibmdpnaaW.PrintWords Go.Proofs.YthbalcbibmdpnaaW.PrintLast Go.Proofs.YthbalcbibmdpnaaW.PrintMore
set_option linter.unusedVariables false
set_option linter.unusedSimpArgs false
def askI (h : Int) (l : List Int) (a : Int) : Int := if tickI h l = 0 then (if a < 0 then 4 else if a > (topN h l : Int) then 4 else 0) else tickI h l
theorem asked_ev (h : Int) (l : List Int) (a : Int) : Ev (fun k => stamp_asked.f k h l a) (askI h l a) := by
  unfold stamp_asked.f askI
  refine Ev.bind (read_ev h l) ?_
  by_cases c : tickI h l = 0
  · have o := (tickI_zero c).1
    obtain ⟨et, ht, ht1⟩ := o.top
    have hlo := o.len
    have q1 : (0 : Int) ≤ ((l.length - 1 : Nat) : Int) := by omega
    have q2 : ((l.length - 1 : Nat) : Int) < (l.length : Int) := by omega
    have hw1 : wrap64 ((l.length : Int) - 1) = ((l.length - 1 : Nat) : Int) := by rw [w64 (by omega) (by omega)]; omega
    have hw2 : wrap64 ((topN h l : Nat) : Int) = ((topN h l : Nat) : Int) := w64n _ (by clear hw1; omega)
    simp only [if_pos c, hw1, et, hw2, if_pos q1, if_pos q2, c]
    by_cases c2 : a < 0
    · simp only [if_pos c2]; exact Ev.pure _
    · simp only [if_neg c2]
      by_cases c3 : a > (topN h l : Int)
      · simp only [if_pos c3]; exact Ev.pure _
      · simp only [if_neg c3]; exact Ev.pure _
  · simp only [if_neg c]
    exact Ev.pure _
theorem askI_zero {h : Int} {l : List Int} {a : Int} (e : askI h l a = 0) : OkT h l ∧ Asc l ∧ 0 ≤ a ∧ a ≤ (topN h l : Int) := by
  unfold askI at e
  split at e
  · rename_i c
    obtain ⟨o, hok⟩ := tickI_zero c
    refine ⟨o, ⟨o.len, hok⟩, ?_⟩
    split at e
    · cases e
    · split at e
      · cases e
      · omega
  · rename_i c; exact absurd e c
def payO (o : Option (List Int)) (c : Int) : List Int × Int := match o with
  | some x => if 0 ≤ c then (x, 0) else ([], 10)
  | none => ([], 10)
theorem payO_neg (o : Option (List Int)) {c : Int} (h : ¬ 0 ≤ c) : payO o c = ([], 10) := by
  cases o with
  | none => rfl
  | some x => exact if_neg h
theorem payO_some (x : List Int) {c : Int} (h : 0 ≤ c) : payO (some x) c = (x, 0) := if_pos h
def payI (h : Int) (l : List Int) (a : Int) : List Int × Int := if askI h l a = 0 then payO (exN l (rd (fewI h l) a).toNat 0 a) (rd (fewI h l) a) else ([], askI h l a)
theorem pay_ev (h : Int) (l : List Int) (a : Int) : Ev (fun k => stamp_Pay.f k h l a) (payI h l a) := by
  unfold stamp_Pay.f payI
  refine Ev.bind (asked_ev h l a) ?_
  by_cases c : askI h l a = 0
  · obtain ⟨o, s, a0, a1⟩ := askI_zero c
    have hlo := s.len
    have hh := o.h
    obtain ⟨et, ht, ht1⟩ := o.top
    obtain ⟨s1, s2, s3, s4⟩ := fewI_says o a0 a1
    have f1 := fewI_len h l
    simp only [if_pos c]
    refine Ev.bind (fewest_ev o) ?_
    simp only [if_pos (show 0 ≤ a ∧ a < ((fewI h l).length : Int) by omega)]
    by_cases c2 : rd (fewI h l) a = -1
    · simp only [if_pos c2]
      rw [payO_neg _ (by omega)]
      exact Ev.pure _
    · have c3 : 0 ≤ rd (fewI h l) a := by omega
      have hok : okL l (rd (fewI h l) a).toNat a := ⟨⟨by omega, by omega⟩, fun v hv => by have := o.val v hv; omega, by omega, by omega⟩
      have hs := (exN_iff s _ _).2 (s3 c3).1
      obtain ⟨x, hx⟩ := Option.isSome_iff_exists.mp hs
      have hxl := (exN_sound s _ 0 a x (by omega) hx).1
      have hhd := enum_head s (rd (fewI h l) a).toNat 0 a (by omega)
      rw [hx] at hhd
      obtain ⟨t, he⟩ : ∃ t, enumL l (rd (fewI h l) a).toNat 0 a = x :: t := by
        cases hq : enumL l (rd (fewI h l) a).toNat 0 a with
        | nil => rw [hq] at hhd; cases hhd
        | cons y t => rw [hq] at hhd; simp at hhd; exact ⟨t, by rw [hhd]⟩
      simp only [if_neg c2, if_pos (And.intro c3 hok), hx, payO_some x c3, he]
      unfold payL
      simp only [if_pos (show x.length < 17592186044416 by omega)]
      exact Ev.pure _
  · simp only [if_neg c]
    exact Ev.pure _
end Go.Proofs.Ythbalcbibmdpnaa.OAll
