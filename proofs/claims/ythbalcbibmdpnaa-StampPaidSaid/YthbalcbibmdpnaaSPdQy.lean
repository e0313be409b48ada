/- A part of the proof of 'stampPaid_holds', for every input, without a condition. -/
import Derived.Test.YthbalcbibmdpnaaSPdQs
import Derived.Test.YthbalcbibmdpnaaSPdQt
import Derived.Test.YthbalcbibmdpnaaSPdQx
import Derived.Test.YthbalcbibmdpnaaSPdOAllx14
namespace Go.Proofs.Ythbalcbibmdpnaa.OAll
open Go.RowKit Go.Proofs.YthbalcbibmdpnaaW.PrintWords Go.Proofs.YthbalcbibmdpnaaW.PrintLast Go.Proofs.YthbalcbibmdpnaaW.PrintMore
set_option linter.unusedVariables false
set_option linter.unusedSimpArgs false
theorem paid_l1 {h : Int} {l : List Int} (o : OkT h l) {a : Int} (ha : 0 ≤ a ∧ a ≤ 100000) (hg : (grF (bw l) a).2 = 0 ∧ (grF (bw l) a).1 ≤ h) : ∀ d k : Nat, k + d = l.length →
    Ev (fun r => trishawlaw04_StampPaid.l1 r h l (grF ((bw l).take k) a).1 (grF ((bw l).take k) a).2 ((d : Int) - 1)) true
  | 0, k, hk => by
    have e : (bw l).take k = bw l := List.take_of_length_le (by rw [bw_len]; omega)
    rw [e]
    refine Ev.succ ?_
    simp only [trishawlaw04_StampPaid.l1, if_neg (show ¬ ((0 : Nat) : Int) - 1 ≥ 0 by omega), if_pos hg.1, if_pos hg.2]
    exact alive_ev'
  | d + 1, k, hk => by
    have hl := o.len
    have hv : ∀ v ∈ l, 1 ≤ v := fun v hv => (o.val v hv).1
    have hkl : k < l.length := by omega
    have e1 : ((d + 1 : Nat) : Int) - 1 = (d : Int) := by omega
    have hd : l.length - 1 - k = d := by omega
    have hvd := hv _ (rd_mem (show d < l.length by omega))
    have hlen : ((bw l).take k).length = k := by rw [List.length_take, bw_len]; omega
    obtain ⟨g1, g2, g3, g4⟩ := grF_range ha k ((bw l).take k) hlen (fun p hp => bw_val hv p (bw_pre l hp))
    have ih := paid_l1 o ha hg d (k + 1) (by omega)
    have hst : grF ((bw l).take (k + 1)) a = ((grF ((bw l).take k) a).1 + (grF ((bw l).take k) a).2 / rd l (d : Int), (grF ((bw l).take k) a).2 % rd l (d : Int)) := by
      rw [bw_take_succ l hkl, hd]
      unfold grF
      rw [List.foldl_append]
      rfl
    rw [hst] at ih
    obtain ⟨us, hus⟩ : ∃ us, us = (grF ((bw l).take k) a).1 := ⟨_, rfl⟩
    obtain ⟨lf, hlf⟩ : ∃ lf, lf = (grF ((bw l).take k) a).2 := ⟨_, rfl⟩
    obtain ⟨v, hvv⟩ : ∃ v, v = rd l (d : Int) := ⟨_, rfl⟩
    rw [← hus] at ih g3 g4 ⊢
    rw [← hlf] at ih g1 g2 ⊢
    rw [← hvv] at ih hvd
    have d1 : 0 ≤ lf / v := Int.ediv_nonneg g1 (by omega)
    have d2 : lf / v ≤ lf := Int.ediv_le_self _ g1
    have t1 : Int.tdiv lf v = lf / v := Int.tdiv_eq_ediv_of_nonneg g1
    have t2 : Int.tmod lf v = lf % v := Int.tmod_eq_emod_of_nonneg g1
    obtain ⟨q, hq⟩ : ∃ q, q = lf / v := ⟨_, rfl⟩
    rw [← hq] at d1 d2 t1 ih
    have t3 : wrap64 q = q := w64 (by omega) (by omega)
    have T3 := Aside0.mk t3
    clear t3
    have t4 : wrap64 (us + q) = us + q := w64 (by omega) (by omega)
    have T4 := Aside0.mk t4
    clear t4
    have t5 : wrap64 ((d : Int) - 1) = (d : Int) - 1 := w64 (by omega) (by omega)
    have T5 := Aside0.mk t5
    clear t5
    refine Ev.succ ?_
    simp only [trishawlaw04_StampPaid.l1, e1, ← hvv, t1, t2, T3.out, T4.out, T5.out]
    simp only [if_pos (show (d : Int) ≥ 0 by omega), if_pos (show (0 : Int) ≤ (d : Int) by omega), if_pos (show (d : Int) < (l.length : Int) by omega), if_neg (show ¬ v = 0 by omega)]
    exact ih
theorem paid_j5 {h : Int} {l : List Int} (o : OkT h l) {a : Int} (a0 : 0 ≤ a) (a1 : a ≤ (topN h l : Int)) (b : Bool) (hb : b = false → (grF (bw l) a).2 = 0 ∧ (grF (bw l) a).1 ≤ h) : Ev (fun r => trishawlaw04_StampPaid.j5 r h l a b) true := by
  have hl := o.len
  have ht := o.top
  refine Ev.succ ?_
  cases b with
  | true =>
    simp only [trishawlaw04_StampPaid.j5, if_true]
    exact alive_ev'
  | false =>
    have hw : wrap64 ((l.length : Int) - 1) = (l.length : Int) - 1 := w64 (by omega) (by omega)
    have HW := Aside0.mk hw
    clear hw
    simp only [trishawlaw04_StampPaid.j5, Bool.false_eq_true, if_false, HW.out]
    exact paid_l1 o (a := a) (by omega) (hb rfl) l.length 0 (by omega)
theorem paid_j3 {h : Int} {l : List Int} (o : OkT h l) (s : Asc l) {a : Int} (a0 : 0 ≤ a) (a1 : a ≤ (topN h l : Int)) (hc : 0 ≤ rd (fewI h l) a) : Ev (fun r => trishawlaw04_StampPaid.j3 r h l (topN h l : Int) a (fewI h l) false) true := by
  have hl := o.len
  have ht := o.top
  have hh := o.h
  have h1 := fewI_len h l
  have hv : ∀ v ∈ l, 1 ≤ v := fun v hv => (o.val v hv).1
  have e0 := greedy_ev h l
  unfold greI at e0
  rw [if_pos (tick_of hh s)] at e0
  obtain ⟨g1, g2, g3, g4⟩ := grF_range (a := a) (by omega) (bw l).length (bw l) rfl (bw_val hv)
  obtain ⟨n, rfl⟩ := Int.eq_ofNat_of_zero_le a0
  have hnot : ¬ grP h l (fewI h l) n → (grF (bw l) (n : Int)).2 = 0 ∧ (grF (bw l) (n : Int)).1 ≤ h := fun q => by
    have q1 : ¬ 0 < (grF (bw l) (n : Int)).2 := fun c => q ⟨by omega, .inl c⟩
    have q2 : ¬ h < (grF (bw l) (n : Int)).1 := fun c => q ⟨by omega, .inr c⟩
    omega
  refine Ev.succ ?_
  simp only [trishawlaw04_StampPaid.j3, Bool.false_eq_true, if_false]
  refine Ev.bind e0 ?_
  cases hf : firstN (grP h l (fewI h l)) 0 (fewI h l).length with
  | none =>
    simp only [grR, if_neg (show ¬ (10 : Int) = 0 by omega), if_true]
    refine Ev.succ ?_
    simp only [trishawlaw04_StampPaid.j4, Bool.false_eq_true, if_false, if_neg (show ¬ (10 : Int) = 0 by omega)]
    exact paid_j5 o a0 a1 false (fun _ => hnot (firstN_none _ _ hf n (by omega) (by omega)))
  | some b =>
    obtain ⟨f1, f2, f3, f4⟩ := firstN_some _ _ _ hf
    have hb0 : b ≠ 0 := fun e => grP_zero o (e ▸ f3)
    obtain ⟨s1, _⟩ := fewI_says o (j := (b : Int)) (by omega) (by omega)
    have hb1 : ¬ rd (fewI h l) (b : Int) < 0 := by
      have := f3.1
      omega
    rw [show grR (some b) = ((b : Int), (0 : Int)) from rfl]
    simp only [if_true, if_neg (show ¬ (b : Int) < 1 by omega), if_neg (show ¬ (b : Int) > (topN h l : Int) by omega), if_pos (show (0 : Int) ≤ (b : Int) by omega), if_pos (show (b : Int) < ((fewI h l).length : Int) by omega), decide_eq_false hb1]
    refine Ev.succ ?_
    simp only [trishawlaw04_StampPaid.j4, Bool.false_eq_true, if_false, if_true]
    refine paid_j5 o a0 a1 _ (fun hd => ?_)
    have hlt : ¬ (n : Int) ≥ (b : Int) := of_decide_eq_false hd
    exact hnot (f4 n (by omega) (by omega))
theorem sum_200 : ∀ q : List Int, (∀ z ∈ q, 0 ≤ z ∧ z ≤ 200) → 0 ≤ q.sum ∧ q.sum ≤ 200 * (q.length : Int)
  | [], _ => by simp
  | z :: t, h => by
    have h1 := h z (by simp)
    have h2 := sum_200 t (fun y hy => h y (by simp [hy]))
    simp only [List.sum_cons, List.length_cons]
    omega
theorem paid_l0 {h : Int} {l : List Int} (o : OkT h l) (s : Asc l) {a : Int} (a0 : 0 ≤ a) (a1 : a ≤ (topN h l : Int)) (hc : 0 ≤ rd (fewI h l) a) (p : List Int) (hp : (p.length : Int) = rd (fewI h l) a) (hpm : ∀ x ∈ p, x ∈ l) (hps : p.sum = a) (hpp : p.Pairwise (· ≤ ·)) (hph : (p.length : Int) ≤ h) :
    ∀ t q : List Int, p = q ++ t → Ev (fun r => trishawlaw04_StampPaid.l0 r h l (topN h l : Int) a p (fewI h l) q.sum (q.length : Int)) true
  | [], q, e => by
    have h1 := fewI_len h l
    have hh := o.h
    have e' : p = q := by rw [e, List.append_nil]
    subst e'
    refine Ev.succ ?_
    simp only [trishawlaw04_StampPaid.l0, if_neg (Int.lt_irrefl _), if_pos hps, if_pos a0, if_pos (show a < ((fewI h l).length : Int) by omega), if_pos hp, decide_eq_false (show ¬ (p.length : Int) > h by omega)]
    exact paid_j3 o s a0 a1 hc
  | x :: t, q, e => by
    have hh := o.h
    have hi : (q.length : Int) < (p.length : Int) := by rw [e]; simp; omega
    have hri : rd p (q.length : Int) = x := by rw [e]; exact rd_mid q t x
    have hxm : x ∈ l := hpm x (by rw [e]; simp)
    have hxv := o.val x hxm
    have hw1 : wrap64 ((q.length : Int) + 1) = (((q ++ [x]).length : Nat) : Int) := by rw [w64 (by omega) (by omega)]; simp
    have HW1 := Aside0.mk hw1
    clear hw1
    have hqs : 0 ≤ q.sum ∧ q.sum ≤ 200 * (q.length : Int) := by
      have : ∀ z ∈ q, 0 ≤ z ∧ z ≤ 200 := fun z hz => by have := o.val z (hpm z (by rw [e]; simp [hz])); omega
      exact sum_200 q this
    have hw2 : wrap64 (q.sum + x) = (q ++ [x]).sum := by rw [w64 (by omega) (by omega)]; simp
    have HW2 := Aside0.mk hw2
    clear hw2
    have ih := paid_l0 o s a0 a1 hc p hp hpm hps hpp hph t (q ++ [x]) (by rw [e]; simp)
    refine Ev.succ ?_
    simp only [trishawlaw04_StampPaid.l0, hri, HW1.out, HW2.out]
    simp only [if_pos hi, if_pos (show (0 : Int) ≤ (q.length : Int) by omega)]
    have hin := in_ev l x (by have := o.len; omega)
    rw [decide_eq_true hxm] at hin
    refine Ev.bind hin ?_
    simp only [if_true]
    by_cases c : (q.length : Int) > 0
    · have hw3 : wrap64 ((q.length : Int) - 1) = ((q.length - 1 : Nat) : Int) := by rw [w64 (by omega) (by omega)]; omega
      have HW3 := Aside0.mk hw3
      clear hw3
      have hle : ¬ x < rd p ((q.length - 1 : Nat) : Int) := by
        rw [List.pairwise_iff_getElem] at hpp
        have := hpp (q.length - 1) q.length (by omega) (by omega) (by omega)
        rw [← rd_get, ← rd_get, hri] at this
        omega
      simp only [if_pos c, HW3.out, if_pos (show (0 : Int) ≤ ((q.length - 1 : Nat) : Int) by omega), if_pos (show ((q.length - 1 : Nat) : Int) < (p.length : Int) by omega), if_neg hle]
      exact ih
    · simp only [if_neg c]
      exact ih
theorem StampPaid_ev (h : Int) (l : List Int) (y : Int) (hy : 0 ≤ y ∧ y ≤ 65535) : Ev (fun k => trishawlaw04_StampPaid.f k h l y) true := by
  unfold trishawlaw04_StampPaid.f
  by_cases c1 : (l.length : Int) > 30
  · simp only [if_pos c1]
    refine Ev.succ ?_
    simp only [trishawlaw04_StampPaid.j0, if_true]
    exact alive_ev'
  · simp only [if_neg c1]
    refine Ev.bind (ticket_ev h l) ?_
    refine Ev.succ ?_
    simp only [trishawlaw04_StampPaid.j0]
    by_cases c : tickI h l = 0
    · have hne : (tickI h l != 0) = false := bne_eq_false_iff_eq.mpr c
      obtain ⟨o, hok⟩ := tickI_zero c
      have s : Asc l := ⟨o.len, hok⟩
      have hl := s.len
      have hh := o.h
      obtain ⟨et, ht, ht1⟩ := o.top
      have h1 := fewI_len h l
      have hw1 : wrap64 ((l.length : Int) - 1) = ((l.length - 1 : Nat) : Int) := by rw [w64 (by omega) (by omega)]; omega
      have HW1 := Aside0.mk hw1
      clear hw1
      have hw2 : wrap64 ((topN h l : Nat) : Int) = ((topN h l : Nat) : Int) := w64n _ (by omega)
      have HW2 := Aside0.mk hw2
      clear hw2
      have hw3 : wrap64 (((topN h l : Nat) : Int) + 1) = ((topN h l : Nat) : Int) + 1 := w64 (by omega) (by omega)
      have HW3 := Aside0.mk hw3
      clear hw3
      have hwy : wrap64 y = y := w64 (by omega) (by omega)
      have HWY := Aside0.mk hwy
      clear hwy
      obtain ⟨a, hA⟩ : ∃ a, a = Int.tmod y (((topN h l : Nat) : Int) + 1) := ⟨_, rfl⟩
      have ha : 0 ≤ a ∧ a ≤ (topN h l : Int) := by
        rw [hA, Int.tmod_eq_emod_of_nonneg hy.1]
        have q1 := Int.emod_nonneg y (show ((topN h l : Nat) : Int) + 1 ≠ 0 by omega)
        have q2 := Int.emod_lt_of_pos y (show 0 < ((topN h l : Nat) : Int) + 1 by omega)
        omega
      have hask : askI h l a = 0 := by
        unfold askI
        rw [if_pos c, if_neg (by omega), if_neg (by omega)]
      have e1 := pay_ev h l a
      unfold payI at e1
      rw [if_pos hask] at e1
      have e2 := fst_ev h l
      unfold fstI at e2
      rw [if_pos c] at e2
      have e3 := ways_all h l a
      unfold wayI at e3
      rw [if_pos hask] at e3
      have hp := atM_pays o s ha.1 ha.2
      obtain ⟨s1, s2, s3, s4⟩ := fewI_says o ha.1 ha.2
      simp only [hne, Bool.false_eq_true, if_false, HW1.out, et, HW2.out, HW3.out, HWY.out, ← hA]
      simp only [if_pos (show (0 : Int) ≤ ((l.length - 1 : Nat) : Int) by omega), if_pos (show ((l.length - 1 : Nat) : Int) < (l.length : Int) by omega), if_neg (show ¬ ((topN h l : Nat) : Int) + 1 = 0 by omega)]
      refine Ev.bind e1 (Ev.bind e2 (Ev.bind e3 ?_))
      simp only [if_true, if_pos (show ((fewI h l).length : Int) = ((topN h l : Nat) : Int) + 1 by omega), if_pos ha.1, if_pos (show a < ((fewI h l).length : Int) by omega)]
      have hnb : ((decide (((atM l (h.toNat + 1) l.length a : Nat) : Int) > 0)) != (decide (rd (fewI h l) a ≥ 0))) = false := by
        have : decide (((atM l (h.toNat + 1) l.length a : Nat) : Int) > 0) = decide (rd (fewI h l) a ≥ 0) := decide_eq_decide.mpr ⟨fun q => hp.1 (by omega), fun q => by have := hp.2 q; omega⟩
        rw [this]; simp
      rw [hnb]
      refine Ev.succ ?_
      simp only [trishawlaw04_StampPaid.j1, Bool.false_eq_true, if_false]
      by_cases c3 : 0 ≤ rd (fewI h l) a
      · have hs := (exN_iff s _ _).2 (s3 c3).1
        obtain ⟨p, hx⟩ := Option.isSome_iff_exists.mp hs
        have hxl := (exN_sound s _ 0 a p (by omega) hx).1
        obtain ⟨g1, g2, g3⟩ := exN_good s _ 0 a p (by omega) hx
        rw [hx, payO_some p c3]
        simp only [if_true]
        exact paid_l0 o s ha.1 ha.2 c3 p (by omega) (fun x hx => (g1 x hx).1) g2 g3 (by omega) p [] rfl
      · rw [payO_neg _ c3]
        simp only [if_neg (show ¬ (10 : Int) = 0 by omega), if_true, if_pos ha.1, if_pos (show a < ((fewI h l).length : Int) by omega), if_pos (show rd (fewI h l) a = -1 by omega)]
        simp only [List.length_nil, if_pos (show (((0 : Nat) : Int) = 0) from rfl)]
        exact alive_ev'
    · have hne : (tickI h l != 0) = true := bne_iff_ne.mpr c
      simp only [hne, if_true]
      exact alive_ev'
theorem StampPaid_ex (h : Int) (l : List Int) (y : Int) (hy : (Lit.int .u16 y).wf = true) : ∃ k, trishawlaw04_StampPaid.f k h l y = some true := by
  have h1 : IntKind.u16.min = 0 := by decide
  have h2 : IntKind.u16.max = 65535 := by decide
  simp [Lit.wf, h1, h2] at hy
  exact (StampPaid_ev h l y (by omega)).ex
end Go.Proofs.Ythbalcbibmdpnaa.OAll
