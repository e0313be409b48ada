/- A part of the proof of 'tripMatches_holds', for every input, without a condition. -/
import Derived.Test.YtlmlneneakpohaaTMaQ1
import Derived.Test.YtlmlneneakpohaaTMaOAllx28
namespace Go.Proofs.Ytlmlneneakpohaa.OAll
open Go.RowKit Go.Proofs.YtlmlneneakpohaaW.PrintWords Go.Proofs.YtlmlneneakpohaaW.PrintLast Go.Proofs.YtlmlneneakpohaaW.PrintMore
set_option linter.unusedVariables false
set_option linter.unusedSimpArgs false
theorem rRings_l1 {l : List S36} (h9 : l.length ≤ 9) {i : Nat} (x6 : List (List Int)) {r : List (List Int) × Int} (hx6 : x6.length ≤ 1000)
    (hr : Ev (fun k => trishawref06_Rings.l0 k l (ringI l) (x6 ++ [nI (memR l i l.length)]) (wrap64 ((i : Int) + 1))) r) : ∀ d j : Nat, j + d = l.length →
    Ev (fun k => trishawref06_Rings.l1 k l (ringI l) x6 (i : Int) (nI (memR l i j)) (j : Int)) r
  | 0, j, e => by
    refine Ev.succ ?_
    obtain rfl : j = l.length := by omega
    simp only [trishawref06_Rings.l1, if_neg (show ¬ (l.length : Int) < (l.length : Int) by omega), if_pos (show x6.length < 5864062014805 by omega)]
    exact hr
  | d + 1, j, e => by
    refine Ev.succ ?_
    have hj : j < l.length := by omega
    have ih := rRings_l1 h9 x6 hx6 hr d (j + 1) (by omega)
    have hm := memR_len l i j
    rw [memR_succ] at ih
    simp only [trishawref06_Rings.l1, ringI_len, if_pos (show (j : Int) < (l.length : Int) by omega), if_pos (show (0 : Int) ≤ (j : Int) by omega), ringI_rd hj, w64s j (show j < 9223372036854775807 by omega), nI_len, if_pos (show (memR l i j).length < 17592186044416 by omega)]
    by_cases c : loN l j = i
    · simp only [if_pos (show (loN l j : Int) = (i : Int) by omega)]
      rw [if_pos c] at ih
      have e2 : nI (memR l i j) ++ [(j : Int)] = nI (memR l i j ++ [j]) := by simp [nI]
      rw [e2]
      exact ih
    · simp only [if_neg (show ¬ (loN l j : Int) = (i : Int) by omega)]
      rw [if_neg c] at ih
      exact ih
theorem rRings_l0 {l : List S36} (h9 : l.length ≤ 9) : ∀ d i : Nat, i + d = l.length → Ev (fun k => trishawref06_Rings.l0 k l (ringI l) ((headR l i).map (fun i => nI (memR l i l.length))) (i : Int)) (ringsN l, 0)
  | 0, i, e => by
    refine Ev.succ ?_
    obtain rfl : i = l.length := by omega
    simp only [trishawref06_Rings.l0, if_neg (show ¬ (l.length : Int) < (l.length : Int) by omega)]
    exact Ev.pure _
  | d + 1, i, e => by
    refine Ev.succ ?_
    have hi : i < l.length := by omega
    have ih := rRings_l0 h9 d (i + 1) (by omega)
    have hh := headR_len l i
    rw [headR_succ] at ih
    simp only [trishawref06_Rings.l0, ringI_len, if_pos (show (i : Int) < (l.length : Int) by omega), if_pos (show (0 : Int) ≤ (i : Int) by omega), ringI_rd hi]
    by_cases c : loN l i = i
    · simp only [if_pos (show (loN l i : Int) = (i : Int) by omega)]
      rw [if_pos c, List.map_append] at ih
      have h0 : memR l i i = [] := List.eq_nil_iff_forall_not_mem.mpr (fun k hk => by
        obtain ⟨h1, h2⟩ := memR_in.mp hk
        have := loN_le (show k < l.length by omega)
        omega)
      have := rRings_l1 h9 (i := i) ((headR l i).map (fun i => nI (memR l i l.length))) (r := (ringsN l, 0)) (by rw [List.length_map]; omega) (by
        rw [w64s i (show i < 9223372036854775807 by omega)]
        exact ih) (l.length - i) i (by omega)
      rw [h0] at this
      exact this
    · simp only [if_neg (show ¬ (loN l i : Int) = (i : Int) by omega), w64s i (show i < 9223372036854775807 by omega)]
      rw [if_neg c] at ih
      exact ih
theorem rRings_ev (l : List S36) : Ev (fun k => trishawref06_Rings.f k l) (ringsR l) := by
  unfold trishawref06_Rings.f ringsR
  refine Ev.bind (ref_rides l) ?_
  by_cases c : ridesE l = 0
  · simp only [if_pos c]
    have hr := rides_right c
    have hR : Right l 0 0 := ⟨hr.1, hr.2, by omega, by omega⟩
    exact Ev.bind (ringed_ev hR) (rRings_l0 hr.1.2 l.length 0 (by omega))
  · simp only [if_neg c]
    exact Ev.pure _
theorem rdL1_set {x : List (List Int)} {j k : Nat} (hne : j ≠ k) (v : List Int) : rd_L1 (x.set j v) (k : Int) = rd_L1 x (k : Int) := by
  unfold rd_L1
  rw [Int.toNat_natCast, List.getD_eq_getElem?_getD, List.getD_eq_getElem?_getD, List.getElem?_set_ne hne]
theorem ringsN_row {l : List S36} {k : Nat} (hk : k < (ringsN l).length) : 0 < (rd_L1 (ringsN l) (k : Int)).length ∧ (rd_L1 (ringsN l) (k : Int)).length ≤ l.length := by
  rw [ringsN_len] at hk
  have e : rd_L1 (ringsN l) (k : Int) = nI (memR l ((headR l l.length)[k]) l.length) := by
    unfold rd_L1 ringsN
    rw [Int.toNat_natCast, List.getD_eq_getElem?_getD, List.getElem?_map, List.getElem?_eq_getElem hk]
    rfl
  have h := headR_in.mp (List.getElem_mem hk)
  rw [e, nI_len]
  exact ⟨List.length_pos_iff.mpr (memR_head h.1 h.2), memR_len _ _ _⟩
theorem matches_l1 (l : List S36) (h9 : l.length ≤ 9) (e : Int) (y : List (List Int)) (hy : y = ringsN l ∨ y = []) (a : Nat) (ha : a < 2) (hr : Ev (fun k => trishawlaw06_TripMatches.l0 k l e y ((a + 1 : Nat) : Int)) true) : ∀ (d j : Nat) (x : List (List Int)), j + d = y.length → x.length = y.length → (∀ k, j ≤ k → rd_L1 x (k : Int) = rd_L1 y (k : Int)) →
    Ev (fun k => trishawlaw06_TripMatches.l1 k l e y (a : Int) x (j : Int)) true
  | 0, j, x, ej, hx, h => by
    refine Ev.succ ?_
    simp only [trishawlaw06_TripMatches.l1, if_neg (show ¬ (j : Int) < (x.length : Int) by omega), w64s a (show a < 9223372036854775807 by omega)]
    exact hr
  | d + 1, j, x, ej, hx, h => by
    refine Ev.succ ?_
    have hyl : y = ringsN l := by
      rcases hy with h | h
      · exact h
      · rw [h] at ej; simp at ej
    have hrow := ringsN_row (l := l) (k := j) (by rw [← hyl]; omega)
    have hyn : y.length ≤ 9 := by
      rw [hyl, ringsN_len]
      have := headR_len l l.length
      omega
    have e1 : rd_L1 x (j : Int) = rd_L1 y (j : Int) := h j (Nat.le_refl _)
    simp only [trishawlaw06_TripMatches.l1, if_pos (show (j : Int) < (x.length : Int) by omega), if_pos (show (0 : Int) ≤ (j : Int) by omega), if_pos (show (j : Int) < (y.length : Int) by omega), e1]
    refine Ev.bind (same_ev _ _ (by rw [hyl]; omega)) ?_
    simp only [decide_true, if_true, if_pos (show (0 : Int) < ((rd_L1 y (j : Int)).length : Int) by rw [hyl]; omega), w64s j (show j < 9223372036854775807 by omega), Int.toNat_natCast]
    exact matches_l1 l h9 e y hy a ha hr d (j + 1) _ (by omega) (by rw [List.length_set]; exact hx) (fun k hk => by rw [rdL1_set (by omega)]; exact h k (by omega))
theorem matches_l0 (l : List S36) : ∀ d a : Nat, a + d = 2 → Ev (fun k => trishawlaw06_TripMatches.l0 k l (ringsR l).2 (ringsR l).1 (a : Int)) true
  | 0, a, e => by
    refine Ev.succ ?_
    simp only [trishawlaw06_TripMatches.l0, if_neg (show ¬ (a : Int) < 2 by omega)]
    exact alive_ev'
  | d + 1, a, e => by
    refine Ev.succ ?_
    simp only [trishawlaw06_TripMatches.l0, if_pos (show (a : Int) < 2 by omega)]
    refine Ev.bind (Rings_ev l) ?_
    simp only [if_true, bne_self_eq_false]
    refine Ev.succ ?_
    simp only [trishawlaw06_TripMatches.j2, Bool.false_eq_true, if_false]
    have ih := matches_l0 l d (a + 1) (by omega)
    by_cases c : ridesE l = 0
    · have h9 := (rides_right c).1.2
      have ey : (ringsR l).1 = ringsN l := by unfold ringsR; rw [if_pos c]
      exact matches_l1 l h9 _ _ (.inl ey) a (by omega) ih (ringsR l).1.length 0 _ (by omega) rfl (fun _ _ => rfl)
    · have ey : (ringsR l).1 = [] := by unfold ringsR; rw [if_neg c]
      rw [ey] at ih ⊢
      refine Ev.succ ?_
      simp only [trishawlaw06_TripMatches.l1, List.length_nil, Int.natCast_zero, if_neg (show ¬ (0 : Int) < 0 by omega), w64s a (show a < 9223372036854775807 by omega)]
      exact ih
theorem TripMatches_ev (l : List S36) (U D : Int) : Ev (fun k => trishawlaw06_TripMatches.f k l U D) true := by
  unfold trishawlaw06_TripMatches.f
  simp only [few_nil, Option.bind_some]
  by_cases cf : decide ((l.length : Int) ≤ 30) = true
  · have hl : (l.length : Int) ≤ 30 := of_decide_eq_true cf
    simp only [cf, if_true]
    refine Ev.bind (Matching_ev l U D) (Ev.bind (rMatching_ev l U D) (Ev.bind (same_ev _ _ ?_) ?_))
    · unfold matchR
      split
      · show (matchI l).length ≤ _
        rw [matchI_len]; omega
      · simp
    · simp only [decide_true, if_true, bne_self_eq_false]
      refine Ev.succ ?_
      simp only [trishawlaw06_TripMatches.j0, Bool.false_eq_true, if_false]
      refine Ev.bind (rRings_ev l) ?_
      exact matches_l0 l 2 0 rfl
  · simp only [if_neg cf]
    exact alive_ev'
end Go.Proofs.Ytlmlneneakpohaa.OAll
