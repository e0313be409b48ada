/- A part of the proof of 'stampMore_holds', for every input, without a condition. -/
import Derived.Test.YthbalcbibmdpnaaSMoQu
import Derived.Test.YthbalcbibmdpnaaSMoOAllx9
namespace Go.Proofs.Ythbalcbibmdpnaa.OAll
open Go.RowKit Go.Proofs.YthbalcbibmdpnaaW.PrintWords Go.Proofs.YthbalcbibmdpnaaW.PrintLast Go.Proofs.YthbalcbibmdpnaaW.PrintMore
set_option linter.unusedVariables false
set_option linter.unusedSimpArgs false
theorem more_l1 {h : Int} {l : List Int} (o : OkT h l) (o' : OkT (h + 1) l) (ht : topN h l ≤ topN (h + 1) l) : ∀ d i : Nat, i + d = topN h l + 1 → Ev (fun k => trishawlaw04_StampMore.l1 k h (fewI h l) (fewI (h + 1) l) (i : Int)) true
  | 0, i, hi => by
    have h1 := fewI_len h l
    refine Ev.succ ?_
    simp only [trishawlaw04_StampMore.l1]
    simp only [if_neg (show ¬ (i : Int) < ((fewI h l).length : Int) by omega)]
    exact alive_ev'
  | d + 1, i, hi => by
    have h1 := fewI_len h l
    have h2 := fewI_len (h + 1) l
    have hh := o.h
    have htp := o.top
    have hw3 : wrap64 ((i : Int) + 1) = ((i + 1 : Nat) : Int) := w64s i (by omega)
    have HW3 := Aside0.mk hw3
    clear hw3
    have hw4 : wrap64 (h + 1) = h + 1 := w64 (by omega) (by omega)
    have HW4 := Aside0.mk hw4
    clear hw4
    have ih := more_l1 o o' ht d (i + 1) (by omega)
    obtain ⟨f1, f2⟩ := few_place o o' (a := (i : Int)) (by omega) (by omega) (by omega)
    refine Ev.succ ?_
    simp only [trishawlaw04_StampMore.l1, HW3.out, HW4.out]
    simp only [if_pos (show (i : Int) < ((fewI h l).length : Int) by omega), if_pos (show (0 : Int) ≤ (i : Int) by omega), if_pos (show (i : Int) < ((fewI (h + 1) l).length : Int) by omega)]
    by_cases c : rd (fewI h l) (i : Int) ≥ 0
    · simp only [if_pos c, if_pos (f1 c), if_neg (show ¬ rd (fewI h l) (i : Int) < 0 by omega)]
      exact ih
    · simp only [if_neg c, if_pos (show rd (fewI h l) (i : Int) < 0 by omega)]
      by_cases c2 : rd (fewI (h + 1) l) (i : Int) ≥ 0
      · simp only [if_pos c2, if_pos (f2 (by omega) c2)]
        exact ih
      · simp only [if_neg c2]
        exact ih
theorem more_j5 {h : Int} {l : List Int} (o : OkT h l) (a : Asc l) : Ev (fun k => trishawlaw04_StampMore.j5 k h l (rangeI h l : Int) (fewI h l)) true := by
  have hh := o.h
  refine Ev.succ ?_
  simp only [trishawlaw04_StampMore.j5]
  by_cases c : h = 6
  · simp only [if_pos c]
    exact alive_ev'
  · have o' := okT_of (h := h + 1) (by omega) a
    have ht := top_more o o' a (by omega) (fun v hv => hv)
    have hr := range_more o o' (by omega) (fun v hv => hv) ht
    have e1 := range_ev (h + 1) l
    have e2 := fst_ev (h + 1) l
    unfold rngI at e1
    unfold fstI at e2
    rw [if_pos (tick_of (h := h + 1) (by omega) a)] at e1 e2
    have hw4 : wrap64 (h + 1) = h + 1 := w64 (by omega) (by omega)
    have HW4 := Aside0.mk hw4
    clear hw4
    have h1 := fewI_len h l
    have h2 := fewI_len (h + 1) l
    simp only [if_neg c, HW4.out]
    refine Ev.bind e1 (Ev.bind e2 ?_)
    simp only [if_true, if_neg (show ¬ ((rangeI (h + 1) l : Nat) : Int) < (rangeI h l : Int) by omega)]
    refine Ev.succ ?_
    have hd : decide (((fewI (h + 1) l).length : Int) < ((fewI h l).length : Int)) = false := decide_eq_false (by omega)
    simp only [trishawlaw04_StampMore.j6, hd, Bool.false_eq_true, if_false]
    exact more_l1 o o' ht (topN h l + 1) 0 (by omega)
theorem more_l0 {h : Int} {l l' : List Int} (o : OkT h l) (o' : OkT h l') (a : Asc l) (hs : ∀ v ∈ l, v ∈ l') (ht : topN h l ≤ topN h l') : ∀ d i : Nat, i + d = topN h l + 1 →
    Ev (fun k => trishawlaw04_StampMore.l0 k h l (rangeI h l : Int) (fewI h l) (fewI h l') (i : Int)) true
  | 0, i, hi => by
    have h1 := fewI_len h l
    refine Ev.succ ?_
    simp only [trishawlaw04_StampMore.l0]
    simp only [if_neg (show ¬ (i : Int) < ((fewI h l).length : Int) by omega)]
    exact more_j5 o a
  | d + 1, i, hi => by
    have h1 := fewI_len h l
    have h2 := fewI_len h l'
    have htp := o.top
    have hw3 : wrap64 ((i : Int) + 1) = ((i + 1 : Nat) : Int) := w64s i (by omega)
    have HW3 := Aside0.mk hw3
    clear hw3
    have ih := more_l0 o o' a hs ht d (i + 1) (by omega)
    refine Ev.succ ?_
    simp only [trishawlaw04_StampMore.l0, HW3.out]
    simp only [if_pos (show (i : Int) < ((fewI h l).length : Int) by omega), if_pos (show (0 : Int) ≤ (i : Int) by omega), if_pos (show (i : Int) < ((fewI h l').length : Int) by omega)]
    by_cases c : rd (fewI h l) (i : Int) ≥ 0
    · obtain ⟨p1, p2⟩ := pays_more o o' (Int.le_refl h) hs (a := (i : Int)) (by omega) (by omega) (by omega) c
      simp only [if_pos c, if_neg (show ¬ rd (fewI h l') (i : Int) < 0 by omega), if_neg (show ¬ rd (fewI h l') (i : Int) > rd (fewI h l) (i : Int) by omega)]
      exact ih
    · simp only [if_neg c]
      exact ih
theorem more_j2 {h : Int} {l : List Int} (o : OkT h l) (a : Asc l) (x : Int) (hx : 1 ≤ x ∧ x ≤ 200) (b : Bool) (hb : b = true → l.length ≤ 5 ∧ x ∉ l) : Ev (fun k => trishawlaw04_StampMore.j2 k h l (rangeI h l : Int) (fewI h l) x b) true := by
  have hh := o.h
  have hl := a.len
  refine Ev.succ ?_
  cases b with
  | false =>
    simp only [trishawlaw04_StampMore.j2, Bool.false_eq_true, if_false]
    exact more_j5 o a
  | true =>
    obtain ⟨hl5, hn⟩ := hb rfl
    have a' := asc_ins a hl5 hx hn
    have o' := okT_of hh a'
    have hs : ∀ v ∈ l, v ∈ insI x l := fun v hv => insI_mem.mpr (.inr hv)
    have ht := top_more o o' a' (Int.le_refl h) hs
    have hr := range_more o o' (Int.le_refl h) hs ht
    have e0 := with_ev l x (by omega)
    have e1 := range_ev h (insI x l)
    have e2 := fst_ev h (insI x l)
    unfold rngI at e1
    unfold fstI at e2
    rw [if_pos (tick_of hh a')] at e1 e2
    have h1 := fewI_len h l
    have h2 := fewI_len h (insI x l)
    simp only [trishawlaw04_StampMore.j2, if_true]
    refine Ev.bind e0 (Ev.bind e1 (Ev.bind e0 (Ev.bind e2 ?_)))
    simp only [if_true, if_neg (show ¬ ((rangeI h (insI x l) : Nat) : Int) < (rangeI h l : Int) by omega)]
    refine Ev.succ ?_
    have hd : decide (((fewI h (insI x l)).length : Int) < ((fewI h l).length : Int)) = false := decide_eq_false (by omega)
    simp only [trishawlaw04_StampMore.j3, hd, Bool.false_eq_true, if_false]
    exact more_l0 o o' a hs ht (topN h l + 1) 0 (by omega)
theorem more_j1 {h : Int} {l : List Int} (o : OkT h l) (a : Asc l) (y : Int) (hy : 0 ≤ y ∧ y ≤ 255) : Ev (fun k => trishawlaw04_StampMore.j1 k h l y (rangeI h l : Int) (fewI h l) false) true := by
  have hl := a.len
  have hwy : wrap64 y = y := w64 (by omega) (by omega)
  have HWY := Aside0.mk hwy
  clear hwy
  obtain ⟨t, ht⟩ : ∃ t, t = Int.tmod y 200 := ⟨_, rfl⟩
  have ht2 : 0 ≤ t ∧ t < 200 := by
    rw [ht, Int.tmod_eq_emod_of_nonneg hy.1]
    omega
  have hw : wrap64 (1 + t) = 1 + t := w64 (by omega) (by omega)
  have HW := Aside0.mk hw
  clear hw
  refine Ev.succ ?_
  simp only [trishawlaw04_StampMore.j1, Bool.false_eq_true, if_false, HWY.out, ← ht, HW.out]
  by_cases c : (l.length : Int) < 6
  · simp only [if_pos c]
    refine Ev.bind (in_ev l (1 + t) (by omega)) ?_
    exact more_j2 o a (1 + t) (by omega) _ (fun hb => ⟨by omega, by simpa using hb⟩)
  · simp only [if_neg c]
    exact more_j2 o a (1 + t) (by omega) false (fun hb => by cases hb)
theorem StampMore_ev (h : Int) (l : List Int) (y : Int) (hy : 0 ≤ y ∧ y ≤ 255) : Ev (fun k => trishawlaw04_StampMore.f k h l y) true := by
  unfold trishawlaw04_StampMore.f
  by_cases c1 : (l.length : Int) > 30
  · simp only [if_pos c1]
    refine Ev.succ ?_
    simp only [trishawlaw04_StampMore.j0, if_true]
    exact alive_ev'
  · simp only [if_neg c1]
    refine Ev.bind (ticket_ev h l) ?_
    refine Ev.succ ?_
    simp only [trishawlaw04_StampMore.j0]
    by_cases c : tickI h l = 0
    · have hne : (tickI h l != 0) = false := bne_eq_false_iff_eq.mpr c
      obtain ⟨o, hok⟩ := tickI_zero c
      have a : Asc l := ⟨o.len, hok⟩
      have hl := a.len
      have hh := o.h
      have e1 := range_ev h l
      have e2 := fst_ev h l
      unfold rngI at e1
      unfold fstI at e2
      rw [if_pos c] at e1 e2
      have hw4 : wrap64 (h + 1) = h + 1 := w64 (by omega) (by omega)
      have HW4 := Aside0.mk hw4
      clear hw4
      simp only [hne, Bool.false_eq_true, if_false, HW4.out]
      refine Ev.bind e1 (Ev.bind e2 ?_)
      simp only [if_true]
      by_cases c2 : (l.length : Int) > 1
      · simp only [if_pos c2, if_pos (show 1 < (l.length : Int) by omega)]
        by_cases c3 : rd l 1 > h + 1
        · have hs := second_far o a (by omega) (by omega)
          have hd : decide ((rangeI h l : Int) > h) = false := decide_eq_false (by omega)
          simp only [if_pos c3, hd]
          exact more_j1 o a y hy
        · simp only [if_neg c3]
          exact more_j1 o a y hy
      · simp only [if_neg c2]
        exact more_j1 o a y hy
    · have hne : (tickI h l != 0) = true := bne_iff_ne.mpr c
      simp only [hne, if_true]
      exact alive_ev'
theorem StampMore_ex (h : Int) (l : List Int) (y : Int) (hy : (Lit.int .u8 y).wf = true) : ∃ k, trishawlaw04_StampMore.f k h l y = some true := by
  have h1 : IntKind.u8.min = 0 := by decide
  have h2 : IntKind.u8.max = 255 := by decide
  simp [Lit.wf, h1, h2] at hy
  exact (StampMore_ev h l y (by omega)).ex
end Go.Proofs.Ythbalcbibmdpnaa.OAll
