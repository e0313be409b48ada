/- A part of the proof of 'stampNext_holds', for every input, without a condition. -/
import Derived.Test.YthbalcbibmdpnaaSNeQf
namespace Go.Proofs.Ythbalcbibmdpnaa.OAll
open Go.RowKit Go.Proofs.YthbalcbibmdpnaaW.PrintWords Go.Proofs.YthbalcbibmdpnaaW.PrintLast Go.Proofs.YthbalcbibmdpnaaW.PrintMore
set_option linter.unusedVariables false
set_option linter.unusedSimpArgs false
theorem mn_min (a b : Int) : mn a b = min a b := by unfold mn; omega
theorem few_in (h : Int) (l P Z r : List Int) (hh : 0 ≤ h ∧ h ≤ 6) (hv : ∀ v ∈ l, 1 ≤ v ∧ v ≤ 200) (hl : l.length ≤ 6) (hP : P.length ≤ 2000) (g : GoodP h P) : ∀ (t s : List Int) (b : Int), l = s ++ t → (0 ≤ b ∧ b ≤ h + 1) →
    Ev (fun k => trishawref04_few.l0 k h l (P ++ shut h (t.foldl (bstep P) b) :: Z) (wrap64 ((P.length : Int) + 1))) r →
    Ev (fun k => trishawref04_few.l1 k h l (P ++ 0 :: Z) (P.length : Int) b (s.length : Int)) r
  | [], s, b, hs, hb, hr => by
    have hn : ¬ (s.length : Int) < (l.length : Int) := by rw [hs]; simp
    have hlt : (P.length : Int) < ((P ++ (0 : Int) :: Z).length : Int) := by simp; omega
    refine Ev.succ ?_
    simp only [trishawref04_few.l1, set_mid]
    simp only [if_neg hn, if_pos (show (0 : Int) ≤ (P.length : Int) by omega), if_pos hlt]
    rw [List.foldl_nil] at hr
    unfold shut at hr
    by_cases c : b > h
    · simp only [if_pos c] at hr ⊢
      exact hr
    · simp only [if_neg c] at hr ⊢
      exact hr
  | v :: t, s, b, hs, hb, hr => by
    have hi : (s.length : Int) < (l.length : Int) := by rw [hs]; simp; omega
    have hvl := hv v (by rw [hs]; simp)
    have hri : rd l (s.length : Int) = v := by rw [hs]; exact rd_mid s t v
    have hw1 : wrap64 ((s.length : Int) + 1) = (((s ++ [v]).length : Nat) : Int) := by rw [w64 (by omega) (by omega)]; simp
    have hs2 : l = (s ++ [v]) ++ t := by rw [hs]; simp
    have hbr := bstep_range g hvl.1 hb
    have ih := few_in h l P Z r hh hv hl hP g t (s ++ [v]) (bstep P b v) hs2 hbr hr
    rw [← hw1] at ih
    have hlen : ((P ++ (0 : Int) :: Z).length : Int) = (P.length : Int) + 1 + (Z.length : Int) := by simp; omega
    refine Ev.succ ?_
    simp only [trishawref04_few.l1, hri]
    simp only [if_pos hi, if_pos (show (0 : Int) ≤ (s.length : Int) by omega)]
    by_cases c1 : v ≤ (P.length : Int)
    · have hw2 : wrap64 ((P.length : Int) - v) = (P.length : Int) - v := w64 (by omega) (by omega)
      have hrp := rd_pre P Z 0 ((P.length : Int) - v) (by omega) (by omega)
      have hx := goodP_rd g (j := (P.length : Int) - v) (by omega) (by omega)
      simp only [if_pos c1, hw2, hrp]
      simp only [if_pos (show (0 : Int) ≤ (P.length : Int) - v by omega), if_pos (show (P.length : Int) - v < ((P ++ (0 : Int) :: Z).length : Int) by omega)]
      obtain ⟨x, hxe⟩ : ∃ x, x = rd P ((P.length : Int) - v) := ⟨_, rfl⟩
      rw [← hxe] at hx
      by_cases c2 : x ≥ 0
      · have e : bstep P b v = min b (x + 1) := by unfold bstep; rw [← hxe, if_pos ⟨c1, by omega⟩]
        have hw3 : wrap64 (x + 1) = x + 1 := w64 (by omega) (by omega)
        rw [e] at ih
        simp only [← hxe, if_pos c2, hw3, mn_min]
        exact ih
      · have e : bstep P b v = b := by unfold bstep; rw [← hxe, if_neg (by omega)]
        rw [e] at ih
        simp only [← hxe, if_neg c2]
        exact ih
    · have e : bstep P b v = b := by unfold bstep; rw [if_neg (fun h => c1 h.1)]
      rw [e] at ih
      simp only [if_neg c1]
      exact ih
theorem few_loop (h : Int) (l : List Int) (hh : 0 ≤ h ∧ h ≤ 6) (hv : ∀ v ∈ l, 1 ≤ v ∧ v ≤ 200) (hl : l.length ≤ 6) (N : Nat) (hN : N ≤ 1500) : ∀ d n : Nat, n + d = N →
    Ev (fun k => trishawref04_few.l0 k h l (fwP h l n ++ List.replicate d 0) ((n : Int) + 1)) (fwP h l N)
  | 0, n, hn => by
    refine Ev.succ ?_
    simp only [trishawref04_few.l0]
    have hlen := fwP_len h l n
    simp only [List.replicate_zero, List.append_nil]
    simp only [if_neg (show ¬ ((n : Int) + 1) < ((fwP h l n).length : Int) by omega)]
    rw [show N = n by omega]
    exact Ev.pure _
  | d + 1, n, hn => by
    have ih := few_loop h l hh hv hl N hN d (n + 1) (by omega)
    have hlen := fwP_len h l n
    have hw : wrap64 (h + 1) = h + 1 := w64 (by omega) (by omega)
    refine Ev.succ ?_
    simp only [trishawref04_few.l0, hw]
    simp only [if_pos (show ((n : Int) + 1) < ((fwP h l n ++ List.replicate (d + 1) 0).length : Int) by rw [List.length_append, List.length_replicate]; omega)]
    have := few_in h l (fwP h l n) (List.replicate d 0) (fwP h l N) hh hv hl (by omega) (fwP_good hh.1 (fun v hx => (hv v hx).1) n) l [] (h + 1) rfl (by omega) (by
      rw [hlen, show wrap64 (((n + 1 : Nat) : Int) + 1) = ((n + 1 : Nat) : Int) + 1 from w64 (by omega) (by omega)]
      rw [fwP, List.append_assoc] at ih
      exact ih)
    rw [hlen] at this
    rw [List.replicate_succ]
    exact this
theorem rfew_ev {h : Int} {l : List Int} (o : OkT h l) : Ev (fun k => trishawref04_few.f k h l) (fewI h l) := by
  have hl := o.len
  obtain ⟨e, ht, ht1⟩ := o.top
  have hw1 : wrap64 ((l.length : Int) - 1) = ((l.length - 1 : Nat) : Int) := by rw [w64 (by omega) (by omega)]; omega
  have hw2 : wrap64 ((topN h l : Nat) : Int) = ((topN h l : Nat) : Int) := w64n _ (by omega)
  have hw3 : wrap64 (((topN h l : Nat) : Int) + 1) = ((topN h l + 1 : Nat) : Int) := w64s _ (by omega)
  unfold trishawref04_few.f
  simp only [hw1, e, hw2, hw3]
  simp only [if_pos (show (0 : Int) ≤ ((l.length - 1 : Nat) : Int) by omega), if_pos (show ((l.length - 1 : Nat) : Int) < (l.length : Int) by omega), if_pos (show (0 : Int) ≤ ((topN h l + 1 : Nat) : Int) by omega), if_pos (show (((topN h l + 1 : Nat) : Int)).toNat ≤ 35184372088832 by omega)]
  have := few_loop h l ⟨by have := o.h; omega, o.h.2⟩ o.val hl.2 (topN h l) (by omega) (topN h l) 0 (by omega)
  rw [show (((topN h l + 1 : Nat) : Int)).toNat = topN h l + 1 by omega, List.replicate_succ]
  simpa [fwP, fewI] using this
def tickI (h : Int) (l : List Int) : Int := if h < 1 then 2 else if h > 6 then 2 else valI l
theorem read_ev (h : Int) (l : List Int) : Ev (fun k => stamp_read.f k h l) (tickI h l) := by
  unfold stamp_read.f tickI
  by_cases c1 : h < 1
  · simp only [if_pos c1]; exact Ev.pure _
  · simp only [if_neg c1]
    by_cases c2 : h > 6
    · simp only [if_pos c2]; exact Ev.pure _
    · simp only [if_neg c2]; exact Ev.bind (valued_ev l) (Ev.pure _)
theorem ticket_ev (h : Int) (l : List Int) : Ev (fun k => trishawref04_Ticket.f k h l) (tickI h l) := by
  unfold trishawref04_Ticket.f tickI
  by_cases c1 : h < 1
  · simp only [if_pos c1]; exact Ev.pure _
  · simp only [if_neg c1]
    by_cases c2 : h > 6
    · simp only [if_pos c2]; exact Ev.pure _
    · simp only [if_neg c2]; exact Ev.bind (rvalues_ev l) (Ev.pure _)
theorem tickI_zero {h : Int} {l : List Int} (e : tickI h l = 0) : OkT h l ∧ okFrom l 0 := by
  unfold tickI at e
  split at e
  · cases e
  · split at e
    · cases e
    · obtain ⟨h1, h2, h3⟩ := valI_zero e
      refine ⟨⟨by omega, ⟨h1, h2⟩, fun v hv => ?_⟩, h3⟩
      obtain ⟨j, hj, rfl⟩ := List.getElem_of_mem hv
      have := h3 j hj (Nat.zero_le _)
      unfold okAt at this
      rw [rd_get hj] at this
      exact ⟨this.1, this.2.1⟩
end Go.Proofs.Ythbalcbibmdpnaa.OAll
