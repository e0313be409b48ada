/- A part of the proof of 'stampCounted_holds', for every input, without a condition. -/
import Derived.Test.YthbalcbibmdpnaaSCoQo
import Derived.Test.YthbalcbibmdpnaaSCoQp
import Derived.Test.YthbalcbibmdpnaaSCoOAllx6
import Derived.Test.YthbalcbibmdpnaaSCoRr
import Derived.Test.YthbalcbibmdpnaaSCoRm
import Derived.Test.YthbalcbibmdpnaaSCoOAllx0
import Derived.Test.YthbalcbibmdpnaaSCoOAllx2
import Derived.Test.YthbalcbibmdpnaaSCoOAllx3
namespace Go.Proofs.Ythbalcbibmdpnaa.OAll
open Go.RowKit Go.Proofs.YthbalcbibmdpnaaW.PrintWords Go.Proofs.YthbalcbibmdpnaaW.PrintLast Go.Proofs.YthbalcbibmdpnaaW.PrintMore
set_option linter.unusedVariables false
set_option linter.unusedSimpArgs false
def wayI (h : Int) (l : List Int) (a : Int) : Int × Int := if askI h l a = 0 then (((atM l (h.toNat + 1) l.length a : Nat) : Int), 0) else (0, askI h l a)
theorem ways_all (h : Int) (l : List Int) (a : Int) : Ev (fun k => stamp_Ways.f k h l a) (wayI h l a) := by
  unfold stamp_Ways.f wayI
  refine Ev.bind (asked_ev h l a) ?_
  by_cases c : askI h l a = 0
  · obtain ⟨o, s, a0, a1⟩ := askI_zero c
    have hl := s.len
    have hh := o.h
    obtain ⟨et, ht, ht1⟩ := o.top
    have hok : okL l h.toNat a := ⟨⟨by omega, by omega⟩, fun v hv => by have := o.val v hv; omega, by omega, by omega⟩
    have hb := atM_le l l.length a hl.2 (h.toNat + 1) (by omega)
    simp only [if_pos c, if_pos (And.intro (show 0 ≤ h by omega) hok)]
    rw [waysN_atM s, w64n _ (by omega)]
    exact Ev.pure _
  · simp only [if_neg c]
    exact Ev.pure _
def allW (h n : Nat) : Nat := sumR (fun m => allT m n) (h + 1)
theorem choose_at (h n : Nat) (hh : 1 ≤ h ∧ h ≤ 6) (hn : 1 ≤ n ∧ n ≤ 6) : trishawlaw04_choose.f 20 ((h : Int) + (n : Int)) (h : Int) = some ((allW h n : Nat) : Int) := by
  have h1 : h = 1 ∨ h = 2 ∨ h = 3 ∨ h = 4 ∨ h = 5 ∨ h = 6 := by omega
  have n1 : n = 1 ∨ n = 2 ∨ n = 3 ∨ n = 4 ∨ n = 5 ∨ n = 6 := by omega
  rcases h1 with rfl | rfl | rfl | rfl | rfl | rfl <;> rcases n1 with rfl | rfl | rfl | rfl | rfl | rfl <;> decide +kernel
theorem choose_ev (h n : Nat) (hh : 1 ≤ h ∧ h ≤ 6) (hn : 1 ≤ n ∧ n ≤ 6) : Ev (fun k => trishawlaw04_choose.f k ((h : Int) + (n : Int)) (h : Int)) ((allW h n : Nat) : Int) :=
  Ev.mono (fun k => trishawlaw04_choose.mono _ _ k) (choose_at h n hh hn)
theorem allW_le (h n : Nat) (hh : 1 ≤ h ∧ h ≤ 6) (hn : 1 ≤ n ∧ n ≤ 6) : allW h n ≤ 1000 := by
  have h1 : h = 1 ∨ h = 2 ∨ h = 3 ∨ h = 4 ∨ h = 5 ∨ h = 6 := by omega
  have n1 : n = 1 ∨ n = 2 ∨ n = 3 ∨ n = 4 ∨ n = 5 ∨ n = 6 := by omega
  rcases h1 with rfl | rfl | rfl | rfl | rfl | rfl <;> rcases n1 with rfl | rfl | rfl | rfl | rfl | rfl <;> decide +kernel
def sumW (h : Int) (l : List Int) (n : Nat) : Nat := sumR (fun a => atM l (h.toNat + 1) l.length (a : Int)) n
theorem sumW_all {h : Int} {l : List Int} (o : OkT h l) (s : Asc l) : sumW h l (topN h l + 1) = allW h.toNat l.length := by
  have hl := s.len
  have hh := o.h
  have hla := o.last
  obtain ⟨et, ht, ht1⟩ := o.top
  obtain ⟨L, hL⟩ := Int.eq_ofNat_of_zero_le (show 0 ≤ rd l ((l.length - 1 : Nat) : Int) by omega)
  refine atM_all L h.toNat (topN h l) (fun j hj => ?_) ?_
  · have := s.range j hj
    have := s.le (show j ≤ l.length - 1 by omega) (by omega)
    omega
  · rw [hL] at et
    have : ((h.toNat * L : Nat) : Int) = h * (L : Int) := by rw [Int.natCast_mul, show ((h.toNat : Nat) : Int) = h by omega]
    omega
theorem sc_loop {h : Int} {l : List Int} (o : OkT h l) (s : Asc l) : ∀ d i : Nat, i + d = topN h l + 1 →
    Ev (fun k => trishawlaw04_StampCounted.l0 k h l ((allW h.toNat l.length : Nat) : Int) ((rangeI h l : Nat) : Int) ((sumW h l i : Nat) : Int) (i : Int)) true
  | d, i, hi => by
    have hl := s.len
    have hh := o.h
    obtain ⟨et, ht, ht1⟩ := o.top
    have hrl := range_le o
    have hall := sumW_all o s
    have hle := allW_le h.toNat l.length (by omega) (by omega)
    have hw1 : wrap64 ((l.length : Int) - 1) = ((l.length - 1 : Nat) : Int) := by rw [w64 (by omega) (by omega)]; omega
    have HW1 := Aside0.mk hw1
    clear hw1
    have hw2 : wrap64 ((topN h l : Nat) : Int) = ((topN h l : Nat) : Int) := w64n _ (by omega)
    have HW2 := Aside0.mk hw2
    clear hw2
    refine Ev.succ ?_
    simp only [trishawlaw04_StampCounted.l0, HW1.out, et, HW2.out]
    simp only [if_pos (show (0 : Int) ≤ ((l.length - 1 : Nat) : Int) by omega), if_pos (show ((l.length - 1 : Nat) : Int) < (l.length : Int) by omega)]
    cases d with
    | zero =>
      rw [show i = topN h l + 1 by omega, hall]
      simp only [if_neg (show ¬ ((topN h l + 1 : Nat) : Int) ≤ ((topN h l : Nat) : Int) by omega), if_true]
      exact alive_ev'
    | succ d =>
      have a1 : (i : Int) ≤ ((topN h l : Nat) : Int) := by omega
      have hask : askI h l (i : Int) = 0 := by
        unfold askI
        rw [tick_of hh s, if_pos rfl, if_neg (by omega), if_neg (by omega)]
      have hwy := ways_all h l (i : Int)
      unfold wayI at hwy
      rw [if_pos hask] at hwy
      have hp := atM_pays o s (a := (i : Int)) (by omega) a1
      obtain ⟨W, hWe⟩ : ∃ W, W = atM l (h.toNat + 1) l.length (i : Int) := ⟨_, rfl⟩
      have hst : sumW h l (i + 1) = sumW h l i + W := by rw [hWe]; rfl
      have hmo : sumW h l (i + 1) ≤ sumW h l (topN h l + 1) := sumR_mono _ _ (by omega)
      rw [← hWe] at hwy hp
      have ih := sc_loop o s d (i + 1) (by omega)
      have hw3 : wrap64 (((sumW h l i : Nat) : Int) + (W : Int)) = ((sumW h l (i + 1) : Nat) : Int) := by rw [w64 (by omega) (by omega)]; omega
      have HW3 := Aside0.mk hw3
      clear hw3
      have hw4 : wrap64 ((i : Int) + 1) = ((i + 1 : Nat) : Int) := w64s i (by omega)
      have HW4 := Aside0.mk hw4
      clear hw4
      have hw5 : wrap64 (((rangeI h l : Nat) : Int) + 1) = ((rangeI h l + 1 : Nat) : Int) := w64s _ (by omega)
      have HW5 := Aside0.mk hw5
      clear hw5
      simp only [if_pos a1]
      refine Ev.bind hwy ?_
      simp only [if_true, if_neg (show ¬ (W : Int) < 0 by omega), HW3.out, HW4.out, HW5.out]
      by_cases c1 : (i : Int) ≤ ((rangeI h l : Nat) : Int)
      · have h1 := hp.2 (range_pays o (by omega))
        simp only [if_pos c1, if_neg (show ¬ (W : Int) = 0 by omega), if_neg (show ¬ (i : Int) = ((rangeI h l + 1 : Nat) : Int) by omega)]
        exact ih
      · simp only [if_neg c1]
        by_cases c2 : (i : Int) = ((rangeI h l + 1 : Nat) : Int)
        · have h1 := range_stop o (by omega)
          rw [← c2] at h1
          have h2 : ¬ 0 < W := fun q => by have := hp.1 q; omega
          simp only [if_pos c2, if_neg (show ¬ (W : Int) > 0 by omega)]
          exact ih
        · simp only [if_neg c2]
          exact ih
theorem StampCounted_ev (h : Int) (l : List Int) : Ev (fun k => trishawlaw04_StampCounted.f k h l) true := by
  unfold trishawlaw04_StampCounted.f
  by_cases c1 : (l.length : Int) > 30
  · simp only [if_pos c1]
    refine Ev.succ ?_
    simp only [trishawlaw04_StampCounted.j0, if_true]
    exact alive_ev'
  · simp only [if_neg c1]
    refine Ev.bind (ticket_ev h l) ?_
    refine Ev.succ ?_
    simp only [trishawlaw04_StampCounted.j0]
    by_cases c : tickI h l = 0
    · have hne : (tickI h l != 0) = false := bne_eq_false_iff_eq.mpr c
      obtain ⟨o, hok⟩ := tickI_zero c
      have s : Asc l := ⟨o.len, hok⟩
      have hl := s.len
      have hh := o.h
      have hrl := range_le o
      obtain ⟨et, ht, ht1⟩ := o.top
      have hch := choose_ev h.toNat l.length (by omega) (by omega)
      rw [show ((h.toNat : Nat) : Int) = h by omega] at hch
      have hrng := range_ev h l
      unfold rngI at hrng
      rw [if_pos c] at hrng
      have hle := allW_le h.toNat l.length (by omega) (by omega)
      have hall := sumW_all o s
      have hone : rangeI h l + 1 ≤ allW h.toNat l.length := by
        rw [← hall]
        refine Nat.le_trans ?_ (sumR_mono _ _ (show rangeI h l + 1 ≤ topN h l + 1 by omega))
        exact sumR_ones _ (fun j hj => (atM_pays o s (by omega) (by omega)).2 (range_pays o (by omega)))
      have hw1 : wrap64 (h + (l.length : Int)) = h + (l.length : Int) := w64 (by omega) (by omega)
      have HW1 := Aside0.mk hw1
      clear hw1
      have hw2 : wrap64 (((allW h.toNat l.length : Nat) : Int) - 1) = ((allW h.toNat l.length : Nat) : Int) - 1 := w64 (by omega) (by omega)
      have HW2 := Aside0.mk hw2
      clear hw2
      simp only [hne, Bool.false_eq_true, if_false, HW1.out]
      refine Ev.bind hch (Ev.bind hrng ?_)
      simp only [if_true, if_neg (show ¬ ((rangeI h l : Nat) : Int) < 0 by omega), HW2.out]
      refine Ev.succ ?_
      have hd : decide (((rangeI h l : Nat) : Int) > ((allW h.toNat l.length : Nat) : Int) - 1) = false := decide_eq_false (by omega)
      simp only [trishawlaw04_StampCounted.j1, hd, Bool.false_eq_true, if_false]
      exact sc_loop o s (topN h l + 1) 0 (by omega)
    · have hne : (tickI h l != 0) = true := bne_iff_ne.mpr c
      simp only [hne, if_true]
      exact alive_ev'
end Go.Proofs.Ythbalcbibmdpnaa.OAll
