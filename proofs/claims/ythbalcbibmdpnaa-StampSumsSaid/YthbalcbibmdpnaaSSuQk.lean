/- A part of the proof of 'stampSums_holds', for every input, without a condition. -/
import Derived.Test.YthbalcbibmdpnaaSSuQi
import Derived.Test.YthbalcbibmdpnaaSSuOAllx10
namespace Go.Proofs.Ythbalcbibmdpnaa.OAll
open Go.RowKit Go.Proofs.YthbalcbibmdpnaaW.PrintWords Go.Proofs.YthbalcbibmdpnaaW.PrintLast Go.Proofs.YthbalcbibmdpnaaW.PrintMore
set_option linter.unusedVariables false
set_option linter.unusedSimpArgs false
def fstI' (h : Int) (l : List Int) : List Int × Int := if tickI h l = 0 then (fewI h l, 0) else ([], tickI h l)
theorem fst_ev' (h : Int) (l : List Int) : Ev (fun k => stamp_Fewest.f k h l) (fstI' h l) := by
  unfold stamp_Fewest.f fstI'
  refine Ev.bind (read_ev h l) ?_
  by_cases c : tickI h l = 0
  · simp only [if_pos c]
    exact Ev.bind (fewest_ev (tickI_zero c).1) (Ev.pure _)
  · simp only [if_neg c]
    exact Ev.pure _
theorem few_add {h : Int} {l : List Int} (o : OkT h l) {a b : Int} (ha : 0 ≤ a) (hb : 0 ≤ b) (hab : a + b ≤ (topN h l : Int)) (ra : 0 ≤ rd (fewI h l) a) (rb : 0 ≤ rd (fewI h l) b) (hs : rd (fewI h l) a + rd (fewI h l) b ≤ h) :
    0 ≤ rd (fewI h l) (a + b) ∧ rd (fewI h l) (a + b) ≤ rd (fewI h l) a + rd (fewI h l) b := by
  obtain ⟨_, _, sa, _⟩ := fewI_says o ha (by omega)
  obtain ⟨_, _, sb, _⟩ := fewI_says o hb (by omega)
  obtain ⟨_, _, s3, s4⟩ := fewI_says o (show 0 ≤ a + b by omega) hab
  have hS := SumN.add _ _ _ _ (sa ra).1 (sb rb).1
  have h0 : 0 ≤ rd (fewI h l) (a + b) := by
    rcases Int.lt_or_le (rd (fewI h l) (a + b)) 0 with c | c
    · exact absurd hS (s4 c _ (by omega))
    · exact c
  refine ⟨h0, ?_⟩
  have hn : ¬ (rd (fewI h l) a).toNat + (rd (fewI h l) b).toNat < (rd (fewI h l) (a + b)).toNat := fun hlt => (s3 h0).2 _ hlt hS
  omega
theorem rd_zero (h : Int) (l : List Int) : rd (fewI h l) 0 = 0 := by
  have : ∀ n, rd (fwP h l n) 0 = 0 := fun n => by
    induction n with
    | zero => rfl
    | succ n ih =>
      rw [fwP, rd_pre _ _ _ _ (Int.le_refl 0) (by have := fwP_len h l n; omega)]
      exact ih
  exact this _
theorem StampSums_ev (h : Int) (l : List Int) (x y : Int) (hx : 0 ≤ x ∧ x ≤ 65535) (hy : 0 ≤ y ∧ y ≤ 65535) : Ev (fun k => trishawlaw04_StampSums.f k h l x y) true := by
  unfold trishawlaw04_StampSums.f
  by_cases c1 : (l.length : Int) > 30
  · simp only [if_pos c1]
    refine Ev.succ ?_
    simp only [trishawlaw04_StampSums.j0, if_true]
    exact alive_ev'
  · simp only [if_neg c1]
    refine Ev.bind (ticket_ev h l) ?_
    refine Ev.succ ?_
    simp only [trishawlaw04_StampSums.j0]
    by_cases c : tickI h l = 0
    · have hne : (tickI h l != 0) = false := bne_eq_false_iff_eq.mpr c
      obtain ⟨o, hok⟩ := tickI_zero c
      have s1 : fstI' h l = (fewI h l, 0) := by unfold fstI'; rw [if_pos c]
      have k3 := fst_ev' h l
      rw [s1] at k3
      obtain ⟨et, ht, ht1⟩ := o.top
      have hlo := o.len
      have hh := o.h
      have hw1 : wrap64 ((l.length : Int) - 1) = ((l.length - 1 : Nat) : Int) := by rw [w64 (by omega) (by omega)]; omega
      have Hhw1 := Aside0.mk hw1
      clear hw1
      have hw2 : wrap64 ((topN h l : Nat) : Int) = ((topN h l : Nat) : Int) := w64n _ (by omega)
      have Hhw2 := Aside0.mk hw2
      clear hw2
      have hw3 : wrap64 (((topN h l : Nat) : Int) + 1) = ((topN h l : Nat) : Int) + 1 := w64 (by omega) (by omega)
      have Hhw3 := Aside0.mk hw3
      clear hw3
      have hwx : wrap64 x = x := w64 (by omega) (by omega)
      have Hhwx := Aside0.mk hwx
      clear hwx
      have hwy : wrap64 y = y := w64 (by omega) (by omega)
      have Hhwy := Aside0.mk hwy
      clear hwy
      have f1 := fewI_len h l
      have hz : (rd (fewI h l) 0 != 0) = false := by rw [rd_zero]; rfl
      obtain ⟨a, hA⟩ : ∃ a, a = Int.tmod x (((topN h l : Nat) : Int) + 1) := ⟨_, rfl⟩
      obtain ⟨b, hB⟩ : ∃ b, b = Int.tmod y (((topN h l : Nat) : Int) + 1) := ⟨_, rfl⟩
      have ha : 0 ≤ a ∧ a ≤ (topN h l : Int) := by
        rw [hA, Int.tmod_eq_emod_of_nonneg hx.1]
        have h1 := Int.emod_nonneg x (show ((topN h l : Nat) : Int) + 1 ≠ 0 by omega)
        have h2 := Int.emod_lt_of_pos x (show 0 < ((topN h l : Nat) : Int) + 1 by omega)
        omega
      have hb : 0 ≤ b ∧ b ≤ (topN h l : Int) := by
        rw [hB, Int.tmod_eq_emod_of_nonneg hy.1]
        have h1 := Int.emod_nonneg y (show ((topN h l : Nat) : Int) + 1 ≠ 0 by omega)
        have h2 := Int.emod_lt_of_pos y (show 0 < ((topN h l : Nat) : Int) + 1 by omega)
        omega
      have hw4 : wrap64 (a + b) = a + b := w64 (by omega) (by omega)
      have Hhw4 := Aside0.mk hw4
      clear hw4
      have g1 := fewI_says o ha.1 ha.2
      have g2 := fewI_says o hb.1 hb.2
      have hw5 : wrap64 (rd (fewI h l) a + rd (fewI h l) b) = rd (fewI h l) a + rd (fewI h l) b := w64 (by have := g1.1; have := g2.1; omega) (by have := g1.2.1; have := g2.2.1; omega)
      have Hhw5 := Aside0.mk hw5
      clear hw5
      have stop : Ev (fun k => trishawlaw04_StampSums.j2 k (fewI h l) a b true) true := by
        refine Ev.succ ?_
        simp only [trishawlaw04_StampSums.j2, if_true]
        exact alive_ev'
      simp only [hne, Bool.false_eq_true, if_false]
      refine Ev.bind k3 ?_
      simp only [Hhw1.out, et, Hhw2.out, Hhw3.out, if_true]
      simp only [if_pos (show (0 : Int) ≤ ((l.length - 1 : Nat) : Int) by omega), if_pos (show ((l.length - 1 : Nat) : Int) < (l.length : Int) by omega), if_pos (show ((fewI h l).length : Int) = ((topN h l : Nat) : Int) + 1 by omega), if_pos (show (0 : Int) < ((fewI h l).length : Int) by omega), hz]
      refine Ev.succ ?_
      simp only [trishawlaw04_StampSums.j1, Bool.false_eq_true, if_false, Hhw3.out, Hhwx.out, Hhwy.out, ← hA, ← hB, Hhw4.out]
      simp only [if_neg (show ¬ ((topN h l : Nat) : Int) + 1 = 0 by omega)]
      by_cases c2 : a + b > ((topN h l : Nat) : Int)
      · simp only [if_pos c2]
        exact stop
      simp only [if_neg c2, if_pos ha.1, if_pos (show a < ((fewI h l).length : Int) by omega)]
      by_cases c3 : rd (fewI h l) a < 0
      · simp only [if_pos c3]
        exact stop
      simp only [if_neg c3, if_pos hb.1, if_pos (show b < ((fewI h l).length : Int) by omega)]
      by_cases c4 : rd (fewI h l) b < 0
      · simp only [if_pos c4]
        exact stop
      simp only [if_neg c4, Hhw5.out]
      by_cases c5 : rd (fewI h l) a + rd (fewI h l) b > h
      · simp only [decide_eq_true c5]
        exact stop
      simp only [decide_eq_false c5]
      obtain ⟨q1, q2⟩ := few_add o ha.1 hb.1 (by omega) (by omega) (by omega) (by omega)
      refine Ev.succ ?_
      simp only [trishawlaw04_StampSums.j2, Bool.false_eq_true, if_false, Hhw4.out, Hhw5.out]
      simp only [if_pos (show (0 : Int) ≤ a + b by omega), if_pos (show a + b < ((fewI h l).length : Int) by omega), if_pos (show rd (fewI h l) (a + b) ≥ 0 from q1), if_pos ha.1, if_pos hb.1, if_pos (show a < ((fewI h l).length : Int) by omega), if_pos (show b < ((fewI h l).length : Int) by omega), if_pos q2]
      exact alive_ev'
    · have hne : (tickI h l != 0) = true := bne_iff_ne.mpr c
      simp only [hne, if_true]
      exact alive_ev'
theorem StampSums_ex (h : Int) (l : List Int) (x y : Int) (hx : (Lit.int .u16 x).wf = true) (hy : (Lit.int .u16 y).wf = true) : ∃ k, trishawlaw04_StampSums.f k h l x y = some true := by
  have h1 : IntKind.u16.min = 0 := by decide
  have h2 : IntKind.u16.max = 65535 := by decide
  simp [Lit.wf, h1, h2] at hx hy
  exact (StampSums_ev h l x y (by omega) (by omega)).ex
end Go.Proofs.Ythbalcbibmdpnaa.OAll
