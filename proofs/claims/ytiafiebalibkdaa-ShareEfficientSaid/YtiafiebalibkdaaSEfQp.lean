/- A part of the proof of 'shareEfficient_holds', for every input, without a condition. -/
import Derived.Test.YtiafiebalibkdaaSEfQo
import Derived.Test.YtiafiebalibkdaaSEfOAllx33
import Derived.Test.YtiafiebalibkdaaSEfOAllx34
import Derived.Test.YtiafiebalibkdaaSEfOAllx35
namespace Go.Proofs.Ytiafiebalibkdaa.OAll
open Go.RowKit Go.Proofs.YtiafiebalibkdaaW.PrintWords Go.Proofs.YtiafiebalibkdaaW.PrintLast Go.Proofs.YtiafiebalibkdaaW.PrintMore
set_option linter.unusedVariables false
set_option linter.unusedSimpArgs false
theorem little_ok {x y : Int} (h0 : 0 ≤ x) (h1 : x < 4294967296) (h2 : 1 ≤ y) (h3 : y < 1073741824) : trishawlaw08_little.f x y = some true := by
  have e1 : y ≥ 1 := h2
  have e2 : x > -4294967296 := by omega
  unfold trishawlaw08_little.f
  rw [if_pos e1, if_pos h3, if_pos h1, decide_eq_true e2]
theorem win_bound {a b : List Int} (hc : codeP a b = 0) : 0 ≤ (winN a b).2.2 ∧ (winN a b).2.2 ≤ 160000 := by
  have h8 := codeP_ok hc
  have hz := all_zip hc
  have z1 := zipS_len a b h8.2.2.2
  have hlen := winN_len a b
  have c := winN_cert hc
  have d0 := c.d0
  have d2 := c.d200
  have e1 := dotL_ordIn (zipS a b) (winN a b).1 [] (by omega)
  simp only [List.nil_append, List.length_nil] at e1
  rw [c.sa] at e1
  have hb := dotA_bound (winN a b).2.1 (by omega) (zipS a b) (winN a b).1 (zip_in a b hz.1 hz.2) c.bn
  rw [z1, ← e1] at hb
  have m1 : 100 * (winN a b).2.1 * (a.length : Int) ≤ 20000 * (a.length : Int) := Int.mul_le_mul_of_nonneg_right (by omega) (nonneg_len _)
  omega
theorem dotA_le (D : Int) (hD : 0 ≤ D) : ∀ (a b l : List Int), a.all inR = true → (∀ x ∈ l, 0 ≤ x ∧ x ≤ D) → dotA (zipS a b) l ≤ a.sum * D
  | [], _, l, _, _ => by simp [zipS, dotA]
  | u :: a, [], l, ha, _ => by
    simp only [zipS, dotA]
    exact Int.mul_nonneg (sum_bound (u :: a) ha).1 hD
  | u :: a, v :: b, [], ha, _ => by
    simp only [zipS, dotA]
    exact Int.mul_nonneg (sum_bound (u :: a) ha).1 hD
  | u :: a, v :: b, x :: l, ha, hx => by
    rw [List.all_cons, Bool.and_eq_true] at ha
    have ih := dotA_le D hD a b l ha.2 fun y hy => hx y (List.mem_cons_of_mem _ hy)
    have := Int.mul_le_mul_of_nonneg_left (hx x List.mem_cons_self).2 (inR_iff.mp ha.1).1
    simp only [zipS, dotA, List.sum_cons]
    rw [Int.add_mul]
    omega
theorem dots_small {a b l : List Int} {D : Int} (hc : codeP a b = 0) (hp : partsOk l D a.length = true) : dotA (zipS a b) l ≤ 1000000000 ∧ dotB D (zipS a b) l ≤ 1000000000 := by
  have h8 := codeP_ok hc
  have hz := all_zip hc
  have hq := partsOk_of hp
  have hA := h8.2.1
  have hB := h8.2.2.1
  rw [okP, Bool.and_eq_true, decide_eq_true_eq] at hA hB
  have b1 := dotA_le D (by omega) a b l hz.1 hq.2.2.2
  have b2 := dotA_le D (by omega) b a (l.map (D - ·)) hz.2 (fun x hx => by
    obtain ⟨y, hy, rfl⟩ := List.mem_map.mp hx
    have := hq.2.2.2 y hy
    omega)
  rw [dotA_compl D b a l h8.2.2.2.symm] at b2
  rw [hA.2] at b1
  rw [hB.2] at b2
  omega
theorem atMost_ok {S D S' D' : Int} (hS : 0 ≤ S) (hS1 : S ≤ 1000000000) (hD : 0 < D) (hD1 : D ≤ 10000000) (hS' : 0 ≤ S') (hS1' : S' ≤ 1000000000) (hD' : 0 < D') (hD1' : D' ≤ 10000000) :
    trishawlaw08_atMost.f (lowR S D).1 (lowR S D).2 (lowR S' D').1 (lowR S' D').2 = some (decide (S * D' ≤ S' * D)) := by
  obtain ⟨h, h0, k1, k2, k3, k4, k5, k6⟩ := low_spec hS hD
  obtain ⟨g, g0, j1, j2, j3, j4, j5, j6⟩ := low_spec hS' hD'
  have m1 := mul_b (B := 1000000000) (C := 10000000) k3 (show (lowR S D).1 ≤ 1000000000 by omega) (show 0 ≤ (lowR S' D').2 by omega) (by omega)
  have m2 := mul_b (B := 1000000000) (C := 10000000) j3 (show (lowR S' D').1 ≤ 1000000000 by omega) (show 0 ≤ (lowR S D).2 by omega) (by omega)
  unfold trishawlaw08_atMost.f
  rw [w64 (by omega) (by omega), w64 (by omega) (by omega)]
  have := low_le hS hD hS' hD'
  rw [Option.some.injEq, decide_eq_decide]
  exact this
theorem ShareEfficient_ev (a b x : List Int) (D : Int) (y : List Int) (D' : Int) : Ev (fun k => trishawlaw08_ShareEfficient.f k a b x D y D') true := by
  have easy : Ev (fun k => trishawlaw08_ShareEfficient.j0 k a b true x D y D') true := by
    refine Ev.succ ?_
    simp only [trishawlaw08_ShareEfficient.j0, if_true]
    exact alive_ev'
  unfold trishawlaw08_ShareEfficient.f
  simp only [few_eq, Option.bind_some]
  generalize fewN a b x = f
  cases f
  · simp only [Bool.false_eq_true, if_false]; exact easy
  simp only [if_true]
  by_cases h30 : (y.length : Int) > 30
  · simp only [h30, if_true]; exact easy
  simp only [h30, if_false]
  refine Ev.bind (points_ev a b) ?_
  by_cases hc : codeP a b = 0
  · have h8 := codeP_ok hc
    simp only [hc, bne_self_eq_false]
    refine Ev.succ ?_
    simp only [trishawlaw08_ShareEfficient.j0, Bool.false_eq_true, if_false]
    refine Ev.bind (Scores_ev a b x D) ?_
    refine Ev.bind (Scores_ev a b y D') ?_
    have r5 : ∀ (l : List Int) (d : Int), (scoreR a b l d).2.2.2.2 = codeS a b l d := fun l d => by
      unfold scoreR
      by_cases h : codeS a b l d = 0
      · rw [if_pos h, h]
      · rw [if_neg h]
    have cS : ∀ (l : List Int) (d : Int), (codeS a b l d == 0) = partsOk l d a.length := fun l d => by
      rw [codeS, if_pos hc]
      cases partsOk l d a.length <;> rfl
    have refused : ∀ p0 p1 p2 p3 q0 q1 q2 q3 : Int, Ev (fun k => trishawlaw08_ShareEfficient.j1 k a b (codeS a b x D) (codeS a b y D') true x D y D' p0 p1 p2 p3 q0 q1 q2 q3) true := fun p0 p1 p2 p3 q0 q1 q2 q3 => by
      refine Ev.succ ?_
      simp only [trishawlaw08_ShareEfficient.j1, if_true]
      refine Ev.bind (isParts_ev x D a.length (by omega)) ?_
      simp only [cS, beq_self_eq_true, if_true]
      refine Ev.bind (isParts_ev y D' a.length (by omega)) ?_
      simp only [cS, beq_self_eq_true, if_true]
      exact alive_ev'
    rw [r5, r5]
    by_cases hx : codeS a b x D = 0
    · simp only [hx, if_true]
      by_cases hy : codeS a b y D' = 0
      · have ex : partsOk x D a.length = true := (codeS_ok hx).2
        have ey : partsOk y D' a.length = true := (codeS_ok hy).2
        have px := partsOk_of ex
        have py := partsOk_of ey
        have sx := dot_sm hc ex
        have sy := dot_sm hc ey
        have tx := dots_small hc ex
        have ty := dots_small hc ey
        have c := winN_cert hc
        have d0 := c.d0
        have d2 := c.d200
        have sb := win_bound hc
        have hbest := best_dots hc (l := y) (D' := D') (by omega) (by omega) py.2.2.2
        have heff := eff_best hc ex ey
        have hwr : winR a b = ((lowN (winN a b).1 (winN a b).2.1).1, (lowN (winN a b).1 (winN a b).2.1).2, (lowR (winN a b).2.2 (winN a b).2.1).1, (lowR (winN a b).2.2 (winN a b).2.1).2, 0) := by
          rw [winR, if_pos hc]; rfl
        have lt : ∀ S E : Int, 0 ≤ S → S ≤ 1000000000 → 0 < E → E ≤ 10000000 → trishawlaw08_little.f (lowR S E).1 (lowR S E).2 = some true := fun S E h1 h2 h3 h4 => by
          obtain ⟨h, h0, k1, k2, k3, k4, k5, k6⟩ := low_spec h1 h3
          exact little_ok k3 (by omega) k5 (by omega)
        have a1 := atMost_ok (S := dotA (zipS a b) x) (D := D) (S' := dotA (zipS a b) y) (D' := D') (by omega) (by omega) (by omega) (by omega) (by omega) (by omega) (by omega) (by omega)
        have a2 := atMost_ok (S := dotB D (zipS a b) x) (D := D) (S' := dotB D' (zipS a b) y) (D' := D') (by omega) (by omega) (by omega) (by omega) (by omega) (by omega) (by omega) (by omega)
        have a3 := atMost_ok (S := dotA (zipS a b) y) (D := D') (S' := dotA (zipS a b) x) (D' := D) (by omega) (by omega) (by omega) (by omega) (by omega) (by omega) (by omega) (by omega)
        have a4 := atMost_ok (S := dotB D' (zipS a b) y) (D := D') (S' := dotB D (zipS a b) x) (D' := D) (by omega) (by omega) (by omega) (by omega) (by omega) (by omega) (by omega) (by omega)
        have a5 := atMost_ok (S := dotA (zipS a b) y) (D := D') (S' := (winN a b).2.2) (D' := (winN a b).2.1) (by omega) (by omega) (by omega) (by omega) (by omega) (by omega) (by omega) (by omega)
        have a6 := atMost_ok (S := dotB D' (zipS a b) y) (D := D') (S' := (winN a b).2.2) (D' := (winN a b).2.1) (by omega) (by omega) (by omega) (by omega) (by omega) (by omega) (by omega) (by omega)
        simp only [hy, bne_self_eq_false]
        refine Ev.succ ?_
        simp only [trishawlaw08_ShareEfficient.j1, Bool.false_eq_true, if_false]
        refine Ev.bind (Efficient_ev a b x D) ?_
        refine Ev.bind (win_ev a b) ?_
        rw [hwr, effR, if_pos hx, scoreR, if_pos hx, scoreR, if_pos hy]
        simp only [if_true, lt (dotA (zipS a b) x) D (by omega) (by omega) (by omega) (by omega), lt (dotB D (zipS a b) x) D (by omega) (by omega) (by omega) (by omega), lt (dotA (zipS a b) y) D' (by omega) (by omega) (by omega) (by omega), lt (dotB D' (zipS a b) y) D' (by omega) (by omega) (by omega) (by omega), lt (winN a b).2.2 (winN a b).2.1 (by omega) (by omega) (by omega) (by omega), Option.bind_some, Bool.not_true]
        have j3 : Ev (fun k => trishawlaw08_ShareEfficient.j3 k false (lowR (dotA (zipS a b) y) D').1 (lowR (dotA (zipS a b) y) D').2 (lowR (dotB D' (zipS a b) y) D').1 (lowR (dotB D' (zipS a b) y) D').2 (lowR (winN a b).2.2 (winN a b).2.1).1 (lowR (winN a b).2.2 (winN a b).2.1).2) true := by
          refine Ev.succ ?_
          simp only [trishawlaw08_ShareEfficient.j3, Bool.false_eq_true, if_false, a5, a6, Option.bind_some]
          by_cases h1 : dotA (zipS a b) y * (winN a b).2.1 ≤ (winN a b).2.2 * D'
          · simp only [h1, decide_true, if_true]; exact alive_ev'
          · simp only [h1, decide_false, Bool.false_eq_true, if_false]
            have h2 : dotB D' (zipS a b) y * (winN a b).2.1 ≤ (winN a b).2.2 * D' := by
              by_cases h2 : dotB D' (zipS a b) y * (winN a b).2.1 ≤ (winN a b).2.2 * D'
              · exact h2
              · exact absurd ⟨by omega, by omega⟩ hbest
            simp only [h2, decide_true, if_true]; exact alive_ev'
        refine Ev.succ ?_
        simp only [trishawlaw08_ShareEfficient.j2, Bool.false_eq_true, if_false, a1, a2, a3, a4, Option.bind_some]
        cases he : effB (ordIn 0 (zipS a b)) x D
        · simp only [Bool.false_eq_true, if_false]; exact j3
        · simp only [if_true]
          by_cases h1 : dotA (zipS a b) x * D' ≤ dotA (zipS a b) y * D
          · simp only [h1, decide_true, if_true]
            by_cases h2 : dotB D (zipS a b) x * D' ≤ dotB D' (zipS a b) y * D
            · have := heff he h1 h2
              simp only [h2, decide_true, if_true, this.1, this.2, Bool.not_true]
              exact j3
            · simp only [h2, decide_false, Bool.false_eq_true, if_false]; exact j3
          · simp only [h1, decide_false, Bool.false_eq_true, if_false]; exact j3
      · have : (codeS a b y D' != 0) = true := by rw [bne_iff_ne]; exact hy
        have hr := refused
        rw [hx] at hr
        simp only [this]
        exact hr _ _ _ _ _ _ _ _
    · simp only [hx, if_false]
      exact refused _ _ _ _ _ _ _ _
  · have : (codeP a b != 0) = true := by rw [bne_iff_ne]; exact hc
    simp only [this]; exact easy
end Go.Proofs.Ytiafiebalibkdaa.OAll
