/- A part of the proof of 'stampNext_holds', for every input, without a condition. -/
import Derived.Test.YthbalcbibmdpnaaSNeQw
import Derived.Test.YthbalcbibmdpnaaSNeOAllx16
namespace Go.Proofs.Ythbalcbibmdpnaa.OAll
open Go.RowKit Go.Proofs.YthbalcbibmdpnaaW.PrintWords Go.Proofs.YthbalcbibmdpnaaW.PrintLast Go.Proofs.YthbalcbibmdpnaaW.PrintMore
set_option linter.unusedVariables false
set_option linter.unusedSimpArgs false
theorem bw_val {l : List Int} (hv : ∀ v ∈ l, 1 ≤ v) : ∀ p ∈ bw l, 1 ≤ p.2 := fun p hp => by
  obtain ⟨j, hj, rfl⟩ := bw_mem hp
  exact hv _ (rd_mem hj)
theorem bw_pre (l : List Int) {p : Int × Int} {k : Nat} (h : p ∈ (bw l).take k) : p ∈ bw l := List.mem_of_mem_take h
def greR (s : Int × Int) : Int := if s.2 > 0 then -1 else s.1
theorem rgreedy_loop {l : List Int} (hv : ∀ v ∈ l, 1 ≤ v) (hl : l.length ≤ 6) {a : Int} (ha : 0 ≤ a ∧ a ≤ 100000) : ∀ d k : Nat, k + d = l.length →
    Ev (fun r => trishawref04_greedy.l0 r l (grF ((bw l).take k) a).2 (grF ((bw l).take k) a).1 ((d : Int) - 1)) (greR (grF (bw l) a))
  | 0, k, hk => by
    have e : (bw l).take k = bw l := List.take_of_length_le (by rw [bw_len]; omega)
    rw [e]
    refine Ev.succ ?_
    simp only [trishawref04_greedy.l0, if_neg (show ¬ ((0 : Nat) : Int) - 1 ≥ 0 by omega)]
    unfold greR
    by_cases c : (grF (bw l) a).2 > 0
    · simp only [if_pos c]; exact Ev.pure _
    · simp only [if_neg c]; exact Ev.pure _
  | d + 1, k, hk => by
    have hkl : k < l.length := by omega
    have e1 : ((d + 1 : Nat) : Int) - 1 = (d : Int) := by omega
    have hd : l.length - 1 - k = d := by omega
    have hvd := hv _ (rd_mem (show d < l.length by omega))
    have hlen : ((bw l).take k).length = k := by rw [List.length_take, bw_len]; omega
    obtain ⟨g1, g2, g3, g4⟩ := grF_range ha k ((bw l).take k) hlen (fun p hp => bw_val hv p (bw_pre l hp))
    have ih := rgreedy_loop hv hl ha d (k + 1) (by omega)
    have hst : grF ((bw l).take (k + 1)) a = ((grF ((bw l).take k) a).1 + (grF ((bw l).take k) a).2 / rd l (d : Int), (grF ((bw l).take k) a).2 % rd l (d : Int)) := by
      rw [bw_take_succ l hkl, hd]
      unfold grF
      rw [List.foldl_append]
      rfl
    rw [hst] at ih
    obtain ⟨us, hus⟩ : ∃ us, us = (grF ((bw l).take k) a).1 := ⟨_, rfl⟩
    obtain ⟨lf, hlf⟩ : ∃ lf, lf = (grF ((bw l).take k) a).2 := ⟨_, rfl⟩
    obtain ⟨v, hvv⟩ : ∃ v, v = rd l (d : Int) := ⟨_, rfl⟩
    rw [← hus] at ih g3 g4 ⊢
    rw [← hlf] at ih g1 g2 ⊢
    rw [← hvv] at ih hvd
    have d1 : 0 ≤ lf / v := Int.ediv_nonneg g1 (by omega)
    have d2 : lf / v ≤ lf := Int.ediv_le_self _ g1
    have t1 : Int.tdiv lf v = lf / v := Int.tdiv_eq_ediv_of_nonneg g1
    have t2 : Int.tmod lf v = lf % v := Int.tmod_eq_emod_of_nonneg g1
    obtain ⟨q, hq⟩ : ∃ q, q = lf / v := ⟨_, rfl⟩
    rw [← hq] at d1 d2 t1 ih
    have t3 : wrap64 q = q := w64 (by omega) (by omega)
    have T3 := Aside0.mk t3
    clear t3
    have t4 : wrap64 (us + q) = us + q := w64 (by omega) (by omega)
    have T4 := Aside0.mk t4
    clear t4
    have t5 : wrap64 ((d : Int) - 1) = (d : Int) - 1 := w64 (by omega) (by omega)
    have T5 := Aside0.mk t5
    clear t5
    refine Ev.succ ?_
    simp only [trishawref04_greedy.l0, e1, ← hvv, t1, t2, T3.out, T4.out, T5.out]
    simp only [if_pos (show (d : Int) ≥ 0 by omega), if_pos (show (0 : Int) ≤ (d : Int) by omega), if_pos (show (d : Int) < (l.length : Int) by omega), if_neg (show ¬ v = 0 by omega)]
    exact ih
theorem rgreedy_ev {l : List Int} (hv : ∀ v ∈ l, 1 ≤ v) (hl : 1 ≤ l.length ∧ l.length ≤ 6) {a : Int} (ha : 0 ≤ a ∧ a ≤ 100000) : Ev (fun r => trishawref04_greedy.f r l a) (greR (grF (bw l) a)) := by
  have hw : wrap64 ((l.length : Int) - 1) = (l.length : Int) - 1 := w64 (by omega) (by omega)
  have HW := Aside0.mk hw
  clear hw
  unfold trishawref04_greedy.f
  simp only [HW.out]
  exact rgreedy_loop hv hl.2 ha l.length 0 (by omega)
def greI (h : Int) (l : List Int) : Int × Int := if tickI h l = 0 then grR (firstN (grP h l (fewI h l)) 0 (fewI h l).length) else (0, tickI h l)
theorem okG_of {h : Int} {l : List Int} (o : OkT h l) : okG l (fewI h l) := by
  have hl := o.len
  have ht := o.top
  have h1 := fewI_len h l
  exact ⟨by omega, fun v hv => by have := o.val v hv; omega, by omega⟩
theorem greedy_ev (h : Int) (l : List Int) : Ev (fun k => stamp_Greedy.f k h l) (greI h l) := by
  unfold stamp_Greedy.f greI
  refine Ev.bind (read_ev h l) ?_
  by_cases c : tickI h l = 0
  · simp only [if_pos c]
    refine Ev.bind (fewest_ev (tickI_zero c).1) ?_
    simp only [if_pos (okG_of (tickI_zero c).1)]
    exact Ev.pure _
  · simp only [if_neg c]
    exact Ev.pure _
theorem grP_zero {h : Int} {l : List Int} (o : OkT h l) : ¬ grP h l (fewI h l) 0 := by
  have hv : ∀ p ∈ bw l, 1 ≤ p.2 := bw_val (fun v hv => (o.val v hv).1)
  have key : ∀ (n : Nat) (ps : List (Int × Int)), ps.length = n → (∀ p ∈ ps, 1 ≤ p.2) → ps.foldl grS (0, 0) = (0, 0) := by
    intro n ps hn
    clear hn
    induction ps with
    | nil => intro _; rfl
    | cons p t ih =>
      intro hp
      rw [List.foldl_cons]
      have : grS (0, 0) p = (0, 0) := by simp [grS]
      rw [this]
      exact ih (fun q hq => hp q (by simp [hq]))
  have e : grF (bw l) ((0 : Nat) : Int) = (0, 0) := key _ _ rfl hv
  rintro ⟨_, q⟩
  rw [e] at q
  have := o.h
  rcases q with q | q
  · simp at q
  · have : h < 0 := q
    omega
theorem rgr_loop {h : Int} {l : List Int} (o : OkT h l) : ∀ d i : Nat, i + d = (fewI h l).length → Ev (fun k => trishawref04_Greedy.l0 k h l (fewI h l) (i : Int)) (grR (firstN (grP h l (fewI h l)) i d))
  | 0, i, hi => by
    refine Ev.succ ?_
    simp only [trishawref04_Greedy.l0, if_neg (show ¬ (i : Int) < ((fewI h l).length : Int) by omega), firstN, grR]
    exact Ev.pure _
  | d + 1, i, hi => by
    have h1 := fewI_len h l
    have ht := o.top
    have hl := o.len
    have hh := o.h
    have hv : ∀ v ∈ l, 1 ≤ v := fun v hv => (o.val v hv).1
    have hw : wrap64 ((i : Int) + 1) = ((i + 1 : Nat) : Int) := w64s i (by omega)
    have HW := Aside0.mk hw
    clear hw
    have ih := rgr_loop o d (i + 1) (by omega)
    obtain ⟨hs, _⟩ := fewI_says o (j := (i : Int)) (by omega) (by omega)
    obtain ⟨g1, g2, g3, g4⟩ := grF_range (a := (i : Int)) (by omega) (bw l).length (bw l) rfl (bw_val hv)
    refine Ev.succ ?_
    simp only [trishawref04_Greedy.l0, HW.out]
    simp only [if_pos (show (i : Int) < ((fewI h l).length : Int) by omega)]
    refine Ev.bind (rgreedy_ev hv hl (a := (i : Int)) (by omega)) ?_
    simp only [if_pos (show (0 : Int) ≤ (i : Int) by omega)]
    rw [firstN]
    unfold greR
    by_cases c : rd (fewI h l) (i : Int) ≥ 0
    · simp only [if_pos c]
      by_cases c2 : (grF (bw l) (i : Int)).2 > 0
      · have hG : grP h l (fewI h l) i := ⟨by omega, .inl c2⟩
        simp only [if_pos c2, if_pos hG, if_pos (show (-1 : Int) < 0 by omega), grR]
        exact Ev.pure _
      · simp only [if_neg c2, if_neg (show ¬ (grF (bw l) (i : Int)).1 < 0 by omega)]
        by_cases c3 : (grF (bw l) (i : Int)).1 > h
        · have hG : grP h l (fewI h l) i := ⟨by omega, .inr c3⟩
          simp only [if_pos c3, if_pos hG, grR]
          exact Ev.pure _
        · have hG : ¬ grP h l (fewI h l) i := fun q => q.2.elim (fun q => c2 q) (fun q => c3 q)
          simp only [if_neg c3, if_neg hG]
          exact ih
    · have hG : ¬ grP h l (fewI h l) i := fun q => q.1 (by omega)
      simp only [if_neg c, if_neg hG]
      exact ih
theorem rgreedy_all (h : Int) (l : List Int) : Ev (fun k => trishawref04_Greedy.f k h l) (greI h l) := by
  unfold trishawref04_Greedy.f greI
  refine Ev.bind (ticket_ev h l) ?_
  by_cases c : tickI h l = 0
  · have o := (tickI_zero c).1
    have h1 := fewI_len h l
    simp only [if_pos c]
    refine Ev.bind (rfew_ev o) ?_
    rw [show (fewI h l).length = topN h l + 1 from h1, firstN, if_neg (grP_zero o)]
    exact rgr_loop o (topN h l) 1 (by omega)
  · simp only [if_neg c]
    exact Ev.pure _
theorem StampNext_ev (h : Int) (l : List Int) : Ev (fun k => trishawlaw04_StampNext.f k h l) true := by
  unfold trishawlaw04_StampNext.f
  by_cases c1 : (l.length : Int) > 30
  · simp only [if_pos c1]
    exact alive_ev'
  · simp only [if_neg c1]
    refine Ev.bind (next_ev h l) (Ev.bind (rnext_ev h l) ?_)
    simp only [if_true, bne_self_eq_false]
    refine Ev.succ ?_
    simp only [trishawlaw04_StampNext.j0, Bool.false_eq_true, if_false]
    refine Ev.bind (greedy_ev h l) (Ev.bind (rgreedy_all h l) ?_)
    simp only [if_true]
    exact alive_ev'
end Go.Proofs.Ythbalcbibmdpnaa.OAll
