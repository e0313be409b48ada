/- A part of the proof of 'stampFewest_holds', for every input, without a condition. -/
import Derived.Test.YthbalcbibmdpnaaSFeQo
import Derived.Test.YthbalcbibmdpnaaSFeQh
import Derived.Test.YthbalcbibmdpnaaSFeQi
import Derived.Test.YthbalcbibmdpnaaSFeOAllx6
import Derived.Test.YthbalcbibmdpnaaSFeOAllx7
namespace Go.Proofs.Ythbalcbibmdpnaa.OAll
open Go.RowKit Go.Proofs.YthbalcbibmdpnaaW.PrintWords Go.Proofs.YthbalcbibmdpnaaW.PrintLast Go.Proofs.YthbalcbibmdpnaaW.PrintMore
set_option linter.unusedVariables false
set_option linter.unusedSimpArgs false
theorem rways_ev {v : List Int} (s : Asc v) : ∀ (M d : Nat) (a : Int), M ≤ 6 → d ≤ v.length → 0 ≤ a → a ≤ 100000 → Ev (fun k => trishawref04_ways.f k v (M : Int) ((d : Int) - 1) a) ((atM v (M + 1) d a : Nat) : Int)
  | M, d, a, hM, hd, a0, a1 => by
    have hl := s.len
    have hv1 : ∀ j : Nat, j < v.length → 1 ≤ rd v (j : Int) := fun j hj => (s.range j hj).1
    have hv0 : ∀ j : Nat, j < v.length → 0 ≤ rd v (j : Int) := fun j hj => by have := hv1 j hj; omega
    refine Ev.succ ?_
    simp only [trishawref04_ways.f]
    by_cases ca : a = 0
    · subst ca
      simp only [if_true]
      rw [atM_zero hv1 M d hd]
      exact Ev.pure _
    · simp only [if_neg ca]
      cases M with
      | zero =>
        simp only [show ((0 : Nat) : Int) = 0 from rfl, if_true]
        refine Ev.succ ?_
        simp only [trishawref04_ways.j0, if_true]
        rw [atM_one v d ca]
        exact Ev.pure _
      | succ n =>
        simp only [if_neg (show ¬ ((n + 1 : Nat) : Int) = 0 by omega)]
        refine Ev.succ ?_
        cases d with
        | zero =>
          simp only [trishawref04_ways.j0, show decide (((0 : Nat) : Int) - 1 < 0) = true from rfl, if_true]
          rw [atM_none v (n + 1) ca]
          exact Ev.pure _
        | succ d =>
          have e1 : ((d + 1 : Nat) : Int) - 1 = (d : Int) := by omega
          have hlt : decide ((d : Int) < 0) = false := decide_eq_false (by omega)
          have hw1 : wrap64 ((d : Int) - 1) = (d : Int) - 1 := w64 (by omega) (by omega)
          have HW1 := Aside0.mk hw1
          clear hw1
          have hw2 : wrap64 (((n + 1 : Nat) : Int) - 1) = (n : Int) := by rw [w64 (by omega) (by omega)]; omega
          have HW2 := Aside0.mk hw2
          clear hw2
          have hv := s.range d (by omega)
          have ih1 := rways_ev s (n + 1) d a hM (by omega) a0 a1
          simp only [trishawref04_ways.j0, e1, hlt, Bool.false_eq_true, if_false, HW1.out, HW2.out]
          refine Ev.bind ih1 ?_
          simp only [if_pos (show (0 : Int) ≤ (d : Int) by omega), if_pos (show (d : Int) < (v.length : Int) by omega)]
          rw [atM_step v n d ca]
          by_cases c : rd v (d : Int) ≤ a
          · have hw3 : wrap64 (a - rd v (d : Int)) = a - rd v (d : Int) := w64 (by omega) (by omega)
            have HW3 := Aside0.mk hw3
            clear hw3
            have ih2 := rways_ev s n (d + 1) (a - rd v (d : Int)) (by omega) hd (by omega) (by omega)
            rw [e1] at ih2
            simp only [if_pos c, HW3.out]
            refine Ev.bind ih2 ?_
            have b1 : atM v (n + 1 + 1) d a ≤ (n + 2) * 4096 := atM_le v d a (by omega) (n + 2) (by omega)
            have b2 := atM_le v (d + 1) (a - rd v (d : Int)) (by omega) (n + 1) (by omega)
            have hw4 : wrap64 (((atM v (n + 1 + 1) d a : Nat) : Int) + ((atM v (n + 1) (d + 1) (a - rd v (d : Int)) : Nat) : Int)) = ((atM v (n + 1 + 1) d a + atM v (n + 1) (d + 1) (a - rd v (d : Int)) : Nat) : Int) := by
              rw [w64 (by omega) (by omega)]; omega
            simp only [hw4]
            exact Ev.pure _
          · simp only [if_neg c]
            rw [atM_neg hv0 (n + 1) (d + 1) hd (show a - rd v (d : Int) < 0 by omega)]
            exact Ev.pure _
termination_by M d => M + d
def wayI (h : Int) (l : List Int) (a : Int) : Int × Int := if askI h l a = 0 then (((atM l (h.toNat + 1) l.length a : Nat) : Int), 0) else (0, askI h l a)
theorem rways_all (h : Int) (l : List Int) (a : Int) : Ev (fun k => trishawref04_Ways.f k h l a) (wayI h l a) := by
  unfold trishawref04_Ways.f wayI
  refine Ev.bind (rasked_ev h l a) ?_
  by_cases c : askI h l a = 0
  · obtain ⟨o, s, a0, a1⟩ := askI_zero c
    have hl := s.len
    have hh := o.h
    obtain ⟨et, ht, ht1⟩ := o.top
    have hw : wrap64 ((l.length : Int) - 1) = (l.length : Int) - 1 := w64 (by omega) (by omega)
    have HW := Aside0.mk hw
    clear hw
    have e := rways_ev s h.toNat l.length a (by omega) (Nat.le_refl _) a0 (by omega)
    rw [show ((h.toNat : Nat) : Int) = h by omega] at e
    simp only [if_pos c, HW.out]
    exact Ev.bind e (Ev.pure _)
  · simp only [if_neg c]
    exact Ev.pure _
theorem ways_all (h : Int) (l : List Int) (a : Int) : Ev (fun k => stamp_Ways.f k h l a) (wayI h l a) := by
  unfold stamp_Ways.f wayI
  refine Ev.bind (asked_ev h l a) ?_
  by_cases c : askI h l a = 0
  · obtain ⟨o, s, a0, a1⟩ := askI_zero c
    have hl := s.len
    have hh := o.h
    obtain ⟨et, ht, ht1⟩ := o.top
    have hok : okL l h.toNat a := ⟨⟨by omega, by omega⟩, fun v hv => by have := o.val v hv; omega, by omega, by omega⟩
    have hb := atM_le l l.length a hl.2 (h.toNat + 1) (by omega)
    simp only [if_pos c, if_pos (And.intro (show 0 ≤ h by omega) hok)]
    rw [waysN_atM s, w64n _ (by omega)]
    exact Ev.pure _
  · simp only [if_neg c]
    exact Ev.pure _
theorem rfst_ev (h : Int) (l : List Int) : Ev (fun k => trishawref04_Fewest.f k h l) (fstI h l) := by
  unfold trishawref04_Fewest.f fstI
  refine Ev.bind (ticket_ev h l) ?_
  by_cases c : tickI h l = 0
  · simp only [if_pos c]
    exact Ev.bind (rfew_ev (tickI_zero c).1) (Ev.pure _)
  · simp only [if_neg c]
    exact Ev.pure _
theorem fstI_len (h : Int) (l : List Int) : (fstI h l).1.length ≤ 2000 := by
  unfold fstI
  split
  · rename_i c
    have o := (tickI_zero c).1
    obtain ⟨_, ht, _⟩ := o.top
    have h2 := fewI_len h l
    show (fewI h l).length ≤ 2000
    omega
  · simp
theorem StampFewest_ev (h : Int) (l : List Int) (a : Int) : Ev (fun k => trishawlaw04_StampFewest.f k h l a) true := by
  unfold trishawlaw04_StampFewest.f
  by_cases c1 : (l.length : Int) > 30
  · simp only [if_pos c1]
    exact alive_ev'
  · simp only [if_neg c1]
    refine Ev.bind (fst_ev h l) (Ev.bind (rfst_ev h l) (Ev.bind (same_ev _ (by have := fstI_len h l; omega)) ?_))
    simp only [if_true, bne_self_eq_false]
    refine Ev.succ ?_
    simp only [trishawlaw04_StampFewest.j0, Bool.false_eq_true, if_false]
    refine Ev.bind (ways_all h l a) (Ev.bind (rways_all h l a) ?_)
    simp only [if_true]
    exact alive_ev'
end Go.Proofs.Ythbalcbibmdpnaa.OAll
