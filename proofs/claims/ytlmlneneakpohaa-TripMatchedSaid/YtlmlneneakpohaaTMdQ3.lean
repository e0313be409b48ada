/- A part of the proof of 'tripMatched_holds', for every input, without a condition. -/
import Derived.Test.YtlmlneneakpohaaTMdQ2
import Derived.Test.YtlmlneneakpohaaTMdQe
import Derived.Test.YtlmlneneakpohaaTMdOAllx27
namespace Go.Proofs.Ytlmlneneakpohaa.OAll
open Go.RowKit Go.Proofs.YtlmlneneakpohaaW.PrintWords Go.Proofs.YtlmlneneakpohaaW.PrintLast Go.Proofs.YtlmlneneakpohaaW.PrintMore
set_option linter.unusedVariables false
set_option linter.unusedSimpArgs false
theorem match_ord {l : List S36} (hn : 1 ≤ l.length) : IsOrd l.length (matchI l) := by
  refine ⟨matchI_in hn, ?_, matchI_len l⟩
  rw [List.nodup_iff_pairwise_ne, List.pairwise_iff_getElem]
  intro i j hi hj hij e
  have hi' : i < l.length := by rw [matchI_len] at hi; exact hi
  have hj' : j < l.length := by rw [matchI_len] at hj; exact hj
  rw [← rd_get hi, ← rd_get hj, (match_rd hi').1, (match_rd hj').1] at e
  have := (nxt_perm l).inj i j hi' hj' (by omega)
  omega
theorem match_ge {l : List S36} {U D : Int} (h : Right l U D) {o : List Int} (ho : IsOrd l.length o) : worthI l U D ≤ sumE (fun i : Nat => emp l U D (i : Int) (rd o (i : Int))) l.length := by
  have h9 := h.len
  have pT := ord_perm (sort_ord true l)
  have pF := ord_perm (sort_ord false l)
  have pO := ord_perm ho
  obtain ⟨qF, hqF, eF⟩ := pF.inv
  have hp : PermF (fun k => qF (fN_ o (fN_ (sortI true l) k))) l.length := hqF.comp (pO.comp pT)
  obtain ⟨p, hpe⟩ : ∃ p : Nat → Nat, p = fun k => qF (fN_ o (fN_ (sortI true l) k)) := ⟨_, rfl⟩
  rw [← hpe] at hp
  have ec : sumE (fun i : Nat => emp l U D (i : Int) (rd o (i : Int))) l.length = costP (Tk l) (Fk l) l.length U D p := by
    unfold costP
    rw [← pT.sum (fun i : Nat => emp l U D (i : Int) (rd o (i : Int)))]
    refine sumE_cg _ (fun k hk => ?_)
    have hT := pT.maps k hk
    have e1 : rd o (fN_ (sortI true l) k : Int) = (fN_ (sortI false l) (p k) : Int) := by
      have hpk : p k = qF (fN_ o (fN_ (sortI true l) k)) := by rw [hpe]
      rw [(ord_rd ho hT).1, hpk, eF _ (pO.maps _ hT)]
    show emp l U D (fN_ (sortI true l) k : Int) (rd o (fN_ (sortI true l) k : Int)) = _
    rw [e1]
    exact emp_pos hk (hp.maps k hk)
  have hH := hts_ok h
  rw [ec, worthI_costP, costP_ex hH hp]
  have h1 : 0 ≤ sumE (fun j => exP (Tk l) (Fk l) l.length p ((j : Int) + 1)) 1000 := sumE_nonneg _ (fun j _ => exP_nonneg hH hp _)
  have h2 := Int.mul_nonneg (show 0 ≤ U + D by have := h.U_; have := h.D_; omega) h1
  omega
theorem empR_ok {l : List S36} {U D : Int} (c : dayE l U D = 0) {i k : Int} (h : 0 ≤ i ∧ i < (l.length : Int)) (h' : 0 ≤ k ∧ k < (l.length : Int)) : trip_Empty.f l U D i k = some (emp l U D i k, 0) := by
  rw [empty_eq, emptyR, if_pos c, if_pos ⟨h.1, h.2, h'.1, h'.2⟩]
theorem matched_l1 {l : List S36} {U D : Int} (c : dayE l U D = 0) {o : List Int} (ho : IsOrd l.length o) : ∀ d k : Nat, k + d = l.length →
    Ev (fun f => trishawlaw06_TripMatched.l1 f l o (worthI l U D) (sumE (fun i : Nat => emp l U D (i : Int) (rd o (i : Int))) k) (k : Int) U D) true
  | 0, k, e => by
    refine Ev.succ ?_
    obtain rfl : k = l.length := by omega
    have := match_ge (day_right c) ho
    simp only [trishawlaw06_TripMatched.l1, if_neg (show ¬ (l.length : Int) < (l.length : Int) by omega), if_pos (show sumE (fun i : Nat => emp l U D (i : Int) (rd o (i : Int))) l.length ≥ worthI l U D from this)]
    exact alive_ev'
  | d + 1, k, e => by
    refine Ev.succ ?_
    have hR := day_right c
    have h9 := hR.len
    have hk : k < l.length := by omega
    have hb := sumE_bound (f := fun i : Nat => emp l U D (i : Int) (rd o (i : Int))) (B := 1000000) k (fun j hj => by
      have h1 := ho.1 _ (rd_mem (show j < o.length by rw [ho.2.2]; omega))
      exact emp_bound hR (show (0 : Int) ≤ (j : Int) by omega) (by omega) h1.1 h1.2)
    have hm := ho.1 _ (rd_mem (show k < o.length by rw [ho.2.2]; omega))
    have he := emp_bound hR (show (0 : Int) ≤ (k : Int) by omega) (by omega) hm.1 hm.2
    have ih := matched_l1 c ho d (k + 1) (by omega)
    simp only [trishawlaw06_TripMatched.l1, if_pos (show (k : Int) < (l.length : Int) by omega), if_pos (show (0 : Int) ≤ (k : Int) by omega), ho.2.2, empR_ok c (show (0 : Int) ≤ (k : Int) ∧ (k : Int) < (l.length : Int) by omega) hm, Option.bind_some, if_true, w64s k (show k < 9223372036854775807 by omega)]
    rw [w64 (n := sumE (fun i : Nat => emp l U D (i : Int) (rd o (i : Int))) k + emp l U D (k : Int) (rd o (k : Int))) (by omega) (by omega)]
    exact ih
theorem matched_l0 {l : List S36} {U D : Int} (c : dayE l U D = 0) (o : List Int) (h30 : o.length ≤ 30) : ∀ d k : Nat, k + d = l.length →
    Ev (fun f => trishawlaw06_TripMatched.l0 f l o (matchI l) (worthI l U D) (sumE (worthE l U D) k) 0 (k : Int) U D) true
  | 0, k, e => by
    refine Ev.succ ?_
    obtain rfl : k = l.length := by omega
    have hR := day_right c
    have h9 := hR.len
    simp only [trishawlaw06_TripMatched.l0, if_neg (show ¬ (l.length : Int) < (l.length : Int) by omega), if_pos (show sumE (worthE l U D) l.length = worthI l U D from rfl)]
    refine Ev.bind (isorder_ev l.length h9.2 o h30) ?_
    by_cases ho : IsOrd l.length o
    · simp only [decide_eq_true ho, if_true]
      exact matched_l1 c ho l.length 0 (by omega)
    · simp only [decide_eq_false ho, Bool.false_eq_true, if_false]
      exact alive_ev'
  | d + 1, k, e => by
    refine Ev.succ ?_
    have hR := day_right c
    have h9 := hR.len
    have ho := match_ord h9.1
    have hk : k < l.length := by omega
    have hb := sumE_bound (f := worthE l U D) (B := 1000000) k (fun j hj => by
      have h1 := ho.1 _ (rd_mem (show j < (matchI l).length by rw [ho.2.2]; omega))
      exact emp_bound hR (show (0 : Int) ≤ (j : Int) by omega) (by omega) h1.1 h1.2)
    have hm := ho.1 _ (rd_mem (show k < (matchI l).length by rw [ho.2.2]; omega))
    have he := emp_bound hR (show (0 : Int) ≤ (k : Int) by omega) (by omega) hm.1 hm.2
    have ih := matched_l0 c o h30 d (k + 1) (by omega)
    simp only [trishawlaw06_TripMatched.l0, if_pos (show (k : Int) < (l.length : Int) by omega), if_pos (show (0 : Int) ≤ (k : Int) by omega), ho.2.2, empR_ok c (show (0 : Int) ≤ (k : Int) ∧ (k : Int) < (l.length : Int) by omega) hm, Option.bind_some, if_true, w64s k (show k < 9223372036854775807 by omega)]
    rw [w64 (n := sumE (worthE l U D) k + emp l U D (k : Int) (rd (matchI l) (k : Int))) (by omega) (by omega)]
    exact ih
theorem one_patch {l : List S36} {U D : Int} (h : Right l U D) (h1 : (headR l l.length).length = 1) : (patchI l U D).2 = 0 := by
  obtain ⟨x, x1, x2, x3, x4⟩ := patch_ex h
  have e : memb x (l.length - 1) = [] := List.eq_nil_of_length_eq_zero (by omega)
  have e2 : (patchI l U D).2 = gsum l U D x (l.length - 1) := by rw [x3]; rfl
  rw [e2, gsum, e]
  rfl
theorem matched_j0 (l : List S36) (o : List Int) (b : Bool) (U D : Int) (hb : b = false → o.length ≤ 30 ∧ dayE l U D = 0) : Ev (fun k => trishawlaw06_TripMatched.j0 k l o b U D) true := by
  refine Ev.succ ?_
  simp only [trishawlaw06_TripMatched.j0]
  cases b
  · obtain ⟨h30, c⟩ := hb rfl
    have hR := day_right c
    have h9 := hR.len
    have w2 := patchI_ok hR
    have hp := headR_pos h9.1
    simp only [Bool.false_eq_true, if_false]
    refine Ev.bind (Matching_ev l U D) (Ev.bind (Rings_ev l) (Ev.bind (Least_ev l U D) ?_))
    simp only [ringsR, matchR, leastR, if_pos c, if_pos (rides_day c), if_true]
    refine Ev.bind (isorder_ev l.length h9.2 (matchI l) (by rw [matchI_len]; omega)) ?_
    simp only [decide_eq_true (match_ord h9.1), if_true, if_neg (show ¬ worthI l U D + (patchI l U D).2 < worthI l U D by omega), ringsN_len, if_neg (show ¬ ((headR l l.length).length : Int) < 1 by omega)]
    have hj : Ev (fun k => trishawlaw06_TripMatched.j1 k l o (matchI l) (worthI l U D) false U D) true := by
      refine Ev.succ ?_
      simp only [trishawlaw06_TripMatched.j1, Bool.false_eq_true, if_false]
      exact matched_l0 c o h30 l.length 0 (by omega)
    by_cases c1 : ((headR l l.length).length : Int) = 1
    · have e0 := one_patch hR (show (headR l l.length).length = 1 by omega)
      simp only [if_pos c1, e0, Int.add_zero, bne_self_eq_false]
      exact hj
    · simp only [if_neg c1]
      exact hj
  · simp only [if_true]; exact alive_ev'
theorem TripMatched_ev (l : List S36) (U D : Int) (o : List Int) : Ev (fun k => trishawlaw06_TripMatched.f k l U D o) true := by
  unfold trishawlaw06_TripMatched.f
  simp only [few_eq, Option.bind_some]
  by_cases cf : fewN l o = true
  · have hl : (l.length : Int) ≤ 30 ∧ (o.length : Int) ≤ 30 := by unfold fewN at cf; simpa using cf
    simp only [if_pos cf]
    refine Ev.bind (ref_day l U D) ?_
    refine matched_j0 l o _ U D (fun h => ⟨by omega, ?_⟩)
    simpa using h
  · simp only [if_neg cf]
    exact matched_j0 l o true U D (fun h => by cases h)
end Go.Proofs.Ytlmlneneakpohaa.OAll
