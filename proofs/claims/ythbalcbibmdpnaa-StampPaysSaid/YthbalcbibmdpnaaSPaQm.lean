/- A part of the proof of 'stampPays_holds', for every input, without a condition. -/
import Derived.Test.YthbalcbibmdpnaaSPaQl
namespace Go.Proofs.Ythbalcbibmdpnaa.OAll
open Go.RowKit Go.Proofs.YthbalcbibmdpnaaW.PrintWords Go.Proofs.YthbalcbibmdpnaaW.PrintLast Go.Proofs.YthbalcbibmdpnaaW.PrintMore
set_option linter.unusedVariables false
set_option linter.unusedSimpArgs false
def exR (o : Option (List Int)) : List Int × Bool := match o with
  | some l => (l, true)
  | none => ([], false)
theorem exactly_ev {v : List Int} (s : Asc v) : ∀ (m lo : Nat) (a : Int), m ≤ 6 → lo < v.length → (a.natAbs + 200 * m ≤ 100000) → Ev (fun k => trishawref04_exactly.f k v (m : Int) (lo : Int) a) (exR (exN v m lo a))
  | 0, lo, a, _, _, _ => by
    refine Ev.succ ?_
    simp only [trishawref04_exactly.f, exN]
    simp only [show ((0 : Nat) : Int) = 0 from rfl, if_true]
    by_cases c : a = 0
    · simp only [if_pos c, exR, beq_iff_eq.mpr c]
      exact Ev.pure _
    · simp only [if_neg c, exR, beq_eq_false_iff_ne.mpr c]
      exact Ev.pure _
  | m + 1, lo, a, hm, hlo, ha => by
    have hl := s.len
    have hw1 : wrap64 ((v.length : Int) - 1) = (lo : Int) + ((v.length - lo : Nat) : Int) - 1 := by rw [w64 (by omega) (by omega)]; omega
    refine Ev.succ ?_
    simp only [trishawref04_exactly.f, hw1]
    simp only [if_neg (show ¬ ((m + 1 : Nat) : Int) = 0 by omega)]
    rw [exN]
    have loop : ∀ d : Nat, lo + d ≤ v.length → Ev (fun k => trishawref04_exactly.l0 k v ((m + 1 : Nat) : Int) (lo : Int) a ((lo : Int) + (d : Int) - 1)) (exR (scan (fun i => if rd v (i : Int) > a then none else (exN v m i (a - rd v (i : Int))).map (rd v (i : Int) :: ·)) lo d)) := by
      intro d
      induction d with
      | zero =>
        intro _
        refine Ev.succ ?_
        simp only [trishawref04_exactly.l0]
        simp only [if_neg (show ¬ ((lo : Int) + ((0 : Nat) : Int) - 1) ≥ (lo : Int) by omega), scan, exR]
        exact Ev.pure _
      | succ d ihd =>
        intro hd
        have ihd := ihd (by omega)
        have ei : (lo : Int) + ((d + 1 : Nat) : Int) - 1 = ((lo + d : Nat) : Int) := by omega
        have hij : lo + d < v.length := by omega
        have hv := s.range (lo + d) hij
        have h1 : ((lo + d : Nat) : Int) ≥ (lo : Int) := by omega
        have h2 : (0 : Int) ≤ ((lo + d : Nat) : Int) := by omega
        have h3 : ((lo + d : Nat) : Int) < (v.length : Int) := by omega
        have hwd : wrap64 (((lo + d : Nat) : Int) - 1) = (lo : Int) + (d : Int) - 1 := by rw [w64 (by omega) (by omega)]; omega
        have HWD := Aside0.mk hwd
        clear hwd
        have hwm : wrap64 (((m + 1 : Nat) : Int) - 1) = (m : Int) := by rw [w64 (by omega) (by omega)]; omega
        have HWM := Aside0.mk hwm
        clear hwm
        rw [scan]
        refine Ev.succ ?_
        simp only [trishawref04_exactly.l0, ei]
        simp only [if_pos h1, if_pos h2, if_pos h3]
        by_cases c : rd v ((lo + d : Nat) : Int) > a
        · simp only [if_pos c, HWD.out]
          exact ihd
        · have hwa : wrap64 (a - rd v ((lo + d : Nat) : Int)) = a - rd v ((lo + d : Nat) : Int) := w64 (by clear hw1; omega) (by clear hw1; omega)
          have ih := exactly_ev s m (lo + d) (a - rd v ((lo + d : Nat) : Int)) (by omega) hij (by clear hw1 hwa; omega)
          simp only [if_neg c, HWM.out, hwa]
          cases hx : exN v m (lo + d) (a - rd v ((lo + d : Nat) : Int)) with
          | none =>
            rw [hx] at ih
            refine Ev.bind ih ?_
            simp only [exR, Option.map_none, Bool.false_eq_true, if_false, HWD.out]
            exact ihd
          | some l' =>
            rw [hx] at ih
            have hll := (exN_sound s m (lo + d) _ l' hij hx).1
            refine Ev.bind ih ?_
            have hlt : ([rd v ((lo + d : Nat) : Int)] : List Int).length + l'.length < 17592186044416 := by rw [hll]; simp; clear hw1 hwa; omega
            refine Ev.congr (h := fun _ => some (rd v ((lo + d : Nat) : Int) :: l', true)) (fun k => ?_) (Ev.pure _)
            show (if true = true then ((some ([rd v ((lo + d : Nat) : Int)] : List Int)).bind fun y185 => if y185.length + l'.length < 17592186044416 then some (y185 ++ l', true) else none) else _) = _
            rw [if_pos rfl, Option.bind_some, if_pos hlt]
            rfl
    exact loop (v.length - lo) (by omega)
def askI (h : Int) (l : List Int) (a : Int) : Int := if tickI h l = 0 then (if a < 0 then 4 else if a > (topN h l : Int) then 4 else 0) else tickI h l
theorem asked_ev (h : Int) (l : List Int) (a : Int) : Ev (fun k => stamp_asked.f k h l a) (askI h l a) := by
  unfold stamp_asked.f askI
  refine Ev.bind (read_ev h l) ?_
  by_cases c : tickI h l = 0
  · have o := (tickI_zero c).1
    obtain ⟨et, ht, ht1⟩ := o.top
    have hlo := o.len
    have q1 : (0 : Int) ≤ ((l.length - 1 : Nat) : Int) := by omega
    have q2 : ((l.length - 1 : Nat) : Int) < (l.length : Int) := by omega
    have hw1 : wrap64 ((l.length : Int) - 1) = ((l.length - 1 : Nat) : Int) := by rw [w64 (by omega) (by omega)]; omega
    have hw2 : wrap64 ((topN h l : Nat) : Int) = ((topN h l : Nat) : Int) := w64n _ (by clear hw1; omega)
    simp only [if_pos c, hw1, et, hw2, if_pos q1, if_pos q2, c]
    by_cases c2 : a < 0
    · simp only [if_pos c2]; exact Ev.pure _
    · simp only [if_neg c2]
      by_cases c3 : a > (topN h l : Int)
      · simp only [if_pos c3]; exact Ev.pure _
      · simp only [if_neg c3]; exact Ev.pure _
  · simp only [if_neg c]
    exact Ev.pure _
theorem rasked_ev (h : Int) (l : List Int) (a : Int) : Ev (fun k => trishawref04_asked.f k h l a) (askI h l a) := by
  unfold trishawref04_asked.f askI
  refine Ev.bind (ticket_ev h l) ?_
  by_cases c : tickI h l = 0
  · have o := (tickI_zero c).1
    obtain ⟨et, ht, ht1⟩ := o.top
    have hlo := o.len
    have q1 : (0 : Int) ≤ ((l.length - 1 : Nat) : Int) := by omega
    have q2 : ((l.length - 1 : Nat) : Int) < (l.length : Int) := by omega
    have hw1 : wrap64 ((l.length : Int) - 1) = ((l.length - 1 : Nat) : Int) := by rw [w64 (by omega) (by omega)]; omega
    have hw2 : wrap64 ((topN h l : Nat) : Int) = ((topN h l : Nat) : Int) := w64n _ (by clear hw1; omega)
    simp only [if_pos c, hw1, et, hw2, if_pos q1, if_pos q2, c]
    by_cases c2 : a < 0
    · simp only [if_pos c2]; exact Ev.pure _
    · simp only [if_neg c2]
      by_cases c3 : a > (topN h l : Int)
      · simp only [if_pos c3]; exact Ev.pure _
      · simp only [if_neg c3]; exact Ev.pure _
  · simp only [if_neg c]
    exact Ev.pure _
theorem askI_zero {h : Int} {l : List Int} {a : Int} (e : askI h l a = 0) : OkT h l ∧ Asc l ∧ 0 ≤ a ∧ a ≤ (topN h l : Int) := by
  unfold askI at e
  split at e
  · rename_i c
    obtain ⟨o, hok⟩ := tickI_zero c
    refine ⟨o, ⟨o.len, hok⟩, ?_⟩
    split at e
    · cases e
    · split at e
      · cases e
      · omega
  · rename_i c; exact absurd e c
def payO (o : Option (List Int)) (c : Int) : List Int × Int := match o with
  | some x => if 0 ≤ c then (x, 0) else ([], 10)
  | none => ([], 10)
theorem payO_neg (o : Option (List Int)) {c : Int} (h : ¬ 0 ≤ c) : payO o c = ([], 10) := by
  cases o with
  | none => rfl
  | some x => exact if_neg h
theorem payO_some (x : List Int) {c : Int} (h : 0 ≤ c) : payO (some x) c = (x, 0) := if_pos h
def payI (h : Int) (l : List Int) (a : Int) : List Int × Int := if askI h l a = 0 then payO (exN l (rd (fewI h l) a).toNat 0 a) (rd (fewI h l) a) else ([], askI h l a)
theorem pay_ev (h : Int) (l : List Int) (a : Int) : Ev (fun k => stamp_Pay.f k h l a) (payI h l a) := by
  unfold stamp_Pay.f payI
  refine Ev.bind (asked_ev h l a) ?_
  by_cases c : askI h l a = 0
  · obtain ⟨o, s, a0, a1⟩ := askI_zero c
    have hlo := s.len
    have hh := o.h
    obtain ⟨et, ht, ht1⟩ := o.top
    obtain ⟨s1, s2, s3, s4⟩ := fewI_says o a0 a1
    have f1 := fewI_len h l
    simp only [if_pos c]
    refine Ev.bind (fewest_ev o) ?_
    simp only [if_pos (show 0 ≤ a ∧ a < ((fewI h l).length : Int) by omega)]
    by_cases c2 : rd (fewI h l) a = -1
    · simp only [if_pos c2]
      rw [payO_neg _ (by omega)]
      exact Ev.pure _
    · have c3 : 0 ≤ rd (fewI h l) a := by omega
      have hok : okL l (rd (fewI h l) a).toNat a := ⟨⟨by omega, by omega⟩, fun v hv => by have := o.val v hv; omega, by omega, by omega⟩
      have hs := (exN_iff s _ _).2 (s3 c3).1
      obtain ⟨x, hx⟩ := Option.isSome_iff_exists.mp hs
      have hxl := (exN_sound s _ 0 a x (by omega) hx).1
      have hhd := enum_head s (rd (fewI h l) a).toNat 0 a (by omega)
      rw [hx] at hhd
      obtain ⟨t, he⟩ : ∃ t, enumL l (rd (fewI h l) a).toNat 0 a = x :: t := by
        cases hq : enumL l (rd (fewI h l) a).toNat 0 a with
        | nil => rw [hq] at hhd; cases hhd
        | cons y t => rw [hq] at hhd; simp at hhd; exact ⟨t, by rw [hhd]⟩
      simp only [if_neg c2, if_pos (And.intro c3 hok), hx, payO_some x c3, he]
      unfold payL
      simp only [if_pos (show x.length < 17592186044416 by omega)]
      exact Ev.pure _
  · simp only [if_neg c]
    exact Ev.pure _
theorem rpay_loop {h : Int} {l : List Int} {a : Int} (o : OkT h l) (s : Asc l) (a0 : 0 ≤ a) (a1 : a ≤ (topN h l : Int)) (r : List Int × Int)
    (hr : ∀ m : Nat, (m : Int) ≤ h → (∀ j, j < m → exN l j 0 a = none) → ∀ x, exN l m 0 a = some x → r = (x, 0)) (hn : (∀ m : Nat, (m : Int) ≤ h → exN l m 0 a = none) → r = ([], 10)) :
    ∀ d m : Nat, ((m + d : Nat) : Int) = h + 1 → (∀ j, j < m → exN l j 0 a = none) → Ev (fun k => trishawref04_Pay.l0 k h l a (m : Int)) r
  | 0, m, hm, hz => by
    refine Ev.succ ?_
    simp only [trishawref04_Pay.l0]
    simp only [if_neg (show ¬ (m : Int) ≤ h by omega)]
    rw [hn (fun j hj => hz j (by omega))]
    exact Ev.pure _
  | d + 1, m, hm, hz => by
    have hh := o.h
    obtain ⟨et, ht, ht1⟩ := o.top
    have hlo := s.len
    have hex := exactly_ev s m 0 a (by omega) (by omega) (by omega)
    have hw : wrap64 ((m : Int) + 1) = ((m + 1 : Nat) : Int) := w64s m (by omega)
    refine Ev.succ ?_
    simp only [trishawref04_Pay.l0, hw]
    simp only [if_pos (show (m : Int) ≤ h by clear hw; omega)]
    refine Ev.bind hex ?_
    cases hx : exN l m 0 a with
    | none =>
      simp only [exR, Bool.false_eq_true, if_false]
      exact rpay_loop o s a0 a1 r hr hn d (m + 1) (by clear hw; omega) (fun j hj => by
        rcases Nat.eq_or_lt_of_le (show j ≤ m by omega) with rfl | hlt
        · exact hx
        · exact hz j hlt)
    | some x =>
      simp only [exR, if_true]
      rw [hr m (by clear hw; omega) hz x hx]
      exact Ev.pure _
theorem rpay_ev (h : Int) (l : List Int) (a : Int) : Ev (fun k => trishawref04_Pay.f k h l a) (payI h l a) := by
  unfold trishawref04_Pay.f payI
  refine Ev.bind (rasked_ev h l a) ?_
  by_cases c : askI h l a = 0
  · obtain ⟨o, s, a0, a1⟩ := askI_zero c
    have hh := o.h
    obtain ⟨s1, s2, s3, s4⟩ := fewI_says o a0 a1
    simp only [if_pos c]
    have hnone : ∀ m : Nat, ¬ SumN l m a → exN l m 0 a = none := fun m hS => by
      cases hx : exN l m 0 a with
      | none => rfl
      | some x => exact absurd ((exN_iff s m a).1 (by rw [hx]; rfl)) hS
    refine rpay_loop o s a0 a1 _ ?_ ?_ (h.toNat + 1) 0 (by omega) (fun j hj => by omega)
    · intro m hm hz x hx
      have hS : SumN l m a := (exN_iff s m a).1 (by rw [hx]; rfl)
      have c3 : 0 ≤ rd (fewI h l) a := by
        rcases Int.lt_or_le (rd (fewI h l) a) 0 with cc | cc
        · exact absurd hS (s4 cc m hm)
        · exact cc
      have e : (rd (fewI h l) a).toNat = m := by
        rcases Nat.lt_trichotomy (rd (fewI h l) a).toNat m with hlt | heq | hgt
        · have := hz _ hlt
          have h2 := (exN_iff s _ _).2 (s3 c3).1
          rw [this] at h2; cases h2
        · exact heq
        · exact absurd hS ((s3 c3).2 m hgt)
      rw [e, hx, payO_some x c3]
    · intro hz
      by_cases c3 : 0 ≤ rd (fewI h l) a
      · have h2 := (exN_iff s _ _).2 (s3 c3).1
        rw [hz _ (by omega)] at h2; cases h2
      · exact payO_neg _ c3
  · simp only [if_neg c]
    exact Ev.pure _
theorem payI_len (h : Int) (l : List Int) (a : Int) : (payI h l a).1.length ≤ 100 := by
  unfold payI
  split
  · rename_i c
    obtain ⟨o, s, a0, a1⟩ := askI_zero c
    have hh := o.h
    obtain ⟨s1, s2, s3, s4⟩ := fewI_says o a0 a1
    cases hx : exN l (rd (fewI h l) a).toNat 0 a with
    | none => simp [payO]
    | some x =>
      have := (exN_sound s _ 0 a x (by have := s.len; omega) hx).1
      by_cases c3 : 0 ≤ rd (fewI h l) a
      · rw [payO_some x c3]
        show x.length ≤ 100
        omega
      · rw [payO_neg _ c3]
        simp
  · simp
theorem StampPays_ev (h : Int) (l : List Int) (a : Int) : Ev (fun k => trishawlaw04_StampPays.f k h l a) true := by
  unfold trishawlaw04_StampPays.f
  by_cases c1 : (l.length : Int) > 30
  · simp only [if_pos c1]
    exact alive_ev'
  · simp only [if_neg c1, Option.bind_some]
    simp only [List.nil_append, List.length_nil, Nat.zero_add, if_pos (show l.length < 17592186044416 by omega)]
    refine Ev.bind (pay_ev h l a) (Ev.bind (rpay_ev h l a) (Ev.bind (same_ev _ (by have := payI_len h l a; omega)) ?_))
    simp only [if_true]
    refine Ev.bind (same_ev l (by omega)) ?_
    simp only [if_true]
    exact alive_ev'
end Go.Proofs.Ythbalcbibmdpnaa.OAll
