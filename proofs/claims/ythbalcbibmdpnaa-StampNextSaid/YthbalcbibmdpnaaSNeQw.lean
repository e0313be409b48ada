/- A part of the proof of 'stampNext_holds', for every input, without a condition. -/
import Derived.Test.YthbalcbibmdpnaaSNeQu
import Derived.Test.YthbalcbibmdpnaaSNeOAllx12
import Derived.Test.YthbalcbibmdpnaaSNeOAllx0
import Derived.Test.YthbalcbibmdpnaaSNeOAllx2
import Derived.Test.YthbalcbibmdpnaaSNeOAllx3
import Derived.Test.YthbalcbibmdpnaaSNeOAllx4
import Derived.Test.YthbalcbibmdpnaaSNeOAllx8
import Derived.Test.YthbalcbibmdpnaaSNeOAllx11
import Derived.Test.YthbalcbibmdpnaaSNeRx
namespace Go.Proofs.Ythbalcbibmdpnaa.OAll
open Go.RowKit Go.Proofs.YthbalcbibmdpnaaW.PrintWords Go.Proofs.YthbalcbibmdpnaaW.PrintLast Go.Proofs.YthbalcbibmdpnaaW.PrintMore
set_option linter.unusedVariables false
set_option linter.unusedSimpArgs false
theorem at_lt (x : Int) : ∀ (l : List Int), l.Pairwise (· < ·) → ∀ j : Nat, j < l.length → (rd l (j : Int) < x ↔ j < atI x l)
  | [], _, j, h => by simp at h
  | y :: t, hp, j, h => by
    obtain ⟨h1, h2⟩ := List.pairwise_cons.mp hp
    cases j with
    | zero =>
      have e : rd (y :: t) ((0 : Nat) : Int) = y := rfl
      rw [e, atI]
      split <;> omega
    | succ j =>
      have ih := at_lt x t h2 j (by simp at h; omega)
      rw [rd_cons, atI]
      split
      · omega
      · have : y < rd t (j : Int) := h1 _ (rd_mem (by simp at h; omega))
        omega
theorem at_mem {x : Int} {l : List Int} (a : Asc l) : x ∈ l ↔ atI x l < l.length ∧ rd l (atI x l : Int) = x := by
  have hp := asc_pair a
  constructor
  · intro hx
    obtain ⟨j, hj, e⟩ := mem_rd hx
    have h1 := at_lt x l hp j hj
    have h2 : ¬ atI x l < j := fun hlt => by
      have := a.lt j (atI x l) hlt hj
      have := (at_lt x l hp (atI x l) (by omega)).1 (by omega)
      omega
    have h3 : j = atI x l := by omega
    rw [← h3]
    exact ⟨hj, e.symm⟩
  · rintro ⟨h1, h2⟩
    have := rd_mem h1
    rw [h2] at this
    exact this
theorem less_ev (a b : Int) : cmp_Less_int.f a b = some (decide (a < b)) := by
  have h : cmp_isNaN_int.f a = some false := by
    unfold cmp_isNaN_int.f
    simp
  unfold cmp_Less_int.f
  rw [h, Option.bind_some, if_neg (by simp)]
theorem search_loop {l : List Int} (a : Asc l) (x : Int) : ∀ (n lo hi : Nat), hi - lo = n → lo ≤ atI x l → atI x l ≤ hi → hi ≤ l.length →
    Ev (fun k => slices_BinarySearch_int_int.l0 k l x (l.length : Int) (lo : Int) (hi : Int)) ((atI x l : Int), decide (x ∈ l)) := by
  intro n
  induction n using Nat.strongRecOn with
  | _ n ih =>
  intro lo hi hn h1 h2 h3
  have hl := a.len
  have hp := asc_pair a
  refine Ev.succ ?_
  by_cases c : lo < hi
  · obtain ⟨m, hm⟩ : ∃ m, m = (lo + hi) / 2 := ⟨_, rfl⟩
    have hmid : wrap64 ((IntKind.u64.wrap (wrap64 ((lo : Int) + (hi : Int)))) / 2) = (m : Int) := by
      have e1 : wrap64 ((lo : Int) + (hi : Int)) = ((lo + hi : Nat) : Int) := by rw [w64 (by omega) (by omega)]; omega
      have e2 : IntKind.u64.wrap ((lo + hi : Nat) : Int) = ((lo + hi : Nat) : Int) := by
        have : (lo + hi) ≤ 100 := by omega
        rw [IntKind.wrap_u64]; omega
      rw [e1, e2, w64 (by omega) (by omega)]
      omega
    have HM := Aside0.mk hmid
    clear hmid
    have hw : wrap64 ((m : Int) + 1) = ((m + 1 : Nat) : Int) := w64s m (by omega)
    have HW := Aside0.mk hw
    clear hw
    simp only [slices_BinarySearch_int_int.l0, HM.out, HW.out]
    simp only [if_pos (show (lo : Int) < (hi : Int) by omega), if_pos (show (0 : Int) ≤ (m : Int) by omega), if_pos (show (m : Int) < (l.length : Int) by omega), less_ev, Option.bind_some]
    have hm1 := at_lt x l hp m (by omega)
    by_cases c2 : rd l (m : Int) < x
    · simp only [decide_eq_true c2, if_true]
      exact ih (hi - (m + 1)) (by omega) (m + 1) hi rfl (by omega) h2 h3
    · simp only [decide_eq_false c2, Bool.false_eq_true, if_false]
      exact ih (m - lo) (by omega) lo m rfl h1 (by omega) (by omega)
  · have e : lo = atI x l := by omega
    subst e
    have hm := at_mem (x := x) a
    simp only [slices_BinarySearch_int_int.l0, if_neg (show ¬ ((atI x l : Nat) : Int) < (hi : Int) by omega)]
    by_cases c2 : atI x l < l.length
    · simp only [if_pos (show ((atI x l : Nat) : Int) < (l.length : Int) by omega), if_pos (show (0 : Int) ≤ ((atI x l : Nat) : Int) by omega)]
      by_cases c3 : rd l (atI x l : Int) = x
      · simp only [if_pos c3]
        rw [decide_eq_true (hm.2 ⟨c2, c3⟩)]
        exact Ev.pure _
      · have hnan : slices_isNaN_int.f (rd l (atI x l : Int)) = some false := by unfold slices_isNaN_int.f; simp
        simp only [if_neg c3, hnan, Option.bind_some, Bool.false_eq_true, if_false]
        rw [decide_eq_false (fun q => c3 (hm.1 q).2)]
        exact Ev.pure _
    · simp only [if_neg (show ¬ ((atI x l : Nat) : Int) < (l.length : Int) by omega)]
      rw [decide_eq_false (fun q => c2 (hm.1 q).1)]
      exact Ev.pure _
theorem search_ev {l : List Int} (a : Asc l) (x : Int) : Ev (fun k => slices_BinarySearch_int_int.f k l x) ((atI x l : Int), decide (x ∈ l)) :=
  search_loop a x _ 0 l.length rfl (Nat.zero_le _) (atI_le x l) (Nat.le_refl _)
def nxS (h : Int) (l : List Int) (s : Int × Int) (v : Int) : Int × Int := if v ∈ l then s else if s.2 < (rangeI h (insI v l) : Int) then (v, (rangeI h (insI v l) : Int)) else s
def nxF (h : Int) (l : List Int) : Nat → Int → Int × Int → Int × Int
  | 0, _, s => s
  | n + 1, v, s => nxF h l n (v + 1) (nxS h l s v)
theorem next_loop {h : Int} {l : List Int} (hh : 1 ≤ h ∧ h ≤ 6) (a : Asc l) (hl : l.length ≤ 5) : ∀ (n : Nat) (v : Int) (s : Int × Int), 1 ≤ v → v + (n : Int) = 201 →
    Ev (fun k => stamp_Next.l0 k h l s.1 s.2 v) (nxF h l n v s)
  | 0, v, s, h1, h2 => by
    refine Ev.succ ?_
    simp only [stamp_Next.l0, if_neg (show ¬ v ≤ 200 by omega)]
    exact Ev.pure _
  | n + 1, v, s, h1, h2 => by
    have hw : wrap64 (v + 1) = v + 1 := w64 (by omega) (by omega)
    have HW := Aside0.mk hw
    clear hw
    have ih := next_loop hh a hl n (v + 1) (nxS h l s v) (by omega) (by omega)
    have hat := atI_le v l
    refine Ev.succ ?_
    simp only [stamp_Next.l0, HW.out]
    simp only [if_pos (show v ≤ 200 by omega)]
    refine Ev.bind (search_ev a v) ?_
    rw [nxF]
    by_cases c : v ∈ l
    · simp only [decide_eq_true c, if_true]
      rw [nxS, if_pos c] at ih ⊢
      exact ih
    · have o' := okT_of hh (asc_ins a hl (by omega) c)
      simp only [decide_eq_false c, Bool.false_eq_true, if_false, Int.toNat_natCast]
      simp only [if_pos (show (0 : Int) ≤ ((atI v l : Nat) : Int) ∧ ((atI v l : Nat) : Int) ≤ (l.length : Int) by omega)]
      refine Ev.bind (reach_ev o') ?_
      show Ev (fun k => if s.2 < (rangeI h (insI v l) : Int) then stamp_Next.l0 k h l v (rangeI h (insI v l) : Int) (v + 1) else stamp_Next.l0 k h l s.1 s.2 (v + 1)) _
      by_cases c2 : s.2 < (rangeI h (insI v l) : Int)
      · simp only [if_pos c2]
        rw [nxS, if_neg c, if_pos c2] at ih ⊢
        exact ih
      · simp only [if_neg c2]
        rw [nxS, if_neg c, if_neg c2] at ih ⊢
        exact ih
theorem rnext_loop {h : Int} {l : List Int} (hh : 1 ≤ h ∧ h ≤ 6) (a : Asc l) (hl : l.length ≤ 5) : ∀ (n : Nat) (v : Int) (s : Int × Int), 1 ≤ v → v + (n : Int) = 201 →
    Ev (fun k => trishawref04_Next.l0 k h l s.1 s.2 v) ((nxF h l n v s).1, (nxF h l n v s).2, 0)
  | 0, v, s, h1, h2 => by
    refine Ev.succ ?_
    simp only [trishawref04_Next.l0, if_neg (show ¬ v ≤ 200 by omega)]
    exact Ev.pure _
  | n + 1, v, s, h1, h2 => by
    have hw : wrap64 (v + 1) = v + 1 := w64 (by omega) (by omega)
    have HW := Aside0.mk hw
    clear hw
    have ih := rnext_loop hh a hl n (v + 1) (nxS h l s v) (by omega) (by omega)
    refine Ev.succ ?_
    simp only [trishawref04_Next.l0, HW.out]
    simp only [if_pos (show v ≤ 200 by omega)]
    refine Ev.bind (in_ev l v (by omega)) ?_
    rw [nxF]
    by_cases c : v ∈ l
    · simp only [decide_eq_true c, if_true]
      rw [nxS, if_pos c] at ih ⊢
      exact ih
    · have o' := okT_of hh (asc_ins a hl (by omega) c)
      simp only [decide_eq_false c, Bool.false_eq_true, if_false]
      refine Ev.bind (with_ev l v (by omega)) (Ev.bind (rreach_ev o') ?_)
      by_cases c2 : s.2 < (rangeI h (insI v l) : Int)
      · simp only [if_pos (show (rangeI h (insI v l) : Int) > s.2 from c2)]
        rw [nxS, if_neg c, if_pos c2] at ih ⊢
        exact ih
      · simp only [if_neg (show ¬ (rangeI h (insI v l) : Int) > s.2 from c2)]
        rw [nxS, if_neg c, if_neg c2] at ih ⊢
        exact ih
def nxI (h : Int) (l : List Int) : Int × Int := nxF h l 200 1 (0, -1)
def nextI (h : Int) (l : List Int) : Int × Int × Int := if tickI h l = 0 then (if (l.length : Int) = 6 then (0, 0, 8) else ((nxI h l).1, (nxI h l).2, 0)) else (0, 0, tickI h l)
theorem next_ev (h : Int) (l : List Int) : Ev (fun k => stamp_Next.f k h l) (nextI h l) := by
  unfold stamp_Next.f nextI
  refine Ev.bind (read_ev h l) ?_
  by_cases c : tickI h l = 0
  · simp only [if_pos c]
    obtain ⟨o, hok⟩ := tickI_zero c
    by_cases c2 : (l.length : Int) = 6
    · simp only [if_pos c2]; exact Ev.pure _
    · have hl := o.len
      simp only [if_neg c2, if_pos (show 1 ≤ l.length ∧ l.length ≤ 100 by omega)]
      exact Ev.bind (next_loop o.h ⟨o.len, hok⟩ (by omega) 200 1 (0, -1) (by omega) (by omega)) (Ev.pure _)
  · simp only [if_neg c]
    exact Ev.pure _
theorem rnext_ev (h : Int) (l : List Int) : Ev (fun k => trishawref04_Next.f k h l) (nextI h l) := by
  unfold trishawref04_Next.f nextI
  refine Ev.bind (ticket_ev h l) ?_
  by_cases c : tickI h l = 0
  · simp only [if_pos c]
    obtain ⟨o, hok⟩ := tickI_zero c
    by_cases c2 : (l.length : Int) = 6
    · simp only [if_pos c2]; exact Ev.pure _
    · have hl := o.len
      simp only [if_neg c2]
      exact rnext_loop o.h ⟨o.len, hok⟩ (by omega) 200 1 (0, -1) (by omega) (by omega)
  · simp only [if_neg c]
    exact Ev.pure _
structure IsNext (h : Int) (l : List Int) (x n : Int) : Prop where
  val : 1 ≤ x ∧ x ≤ 200
  out : x ∉ l
  num : n = (rangeI h (insI x l) : Int)
  best : ∀ y, 1 ≤ y → y ≤ 200 → y ∉ l → (rangeI h (insI y l) : Int) ≤ n ∧ ((rangeI h (insI y l) : Int) = n → x ≤ y)
end Go.Proofs.Ythbalcbibmdpnaa.OAll
