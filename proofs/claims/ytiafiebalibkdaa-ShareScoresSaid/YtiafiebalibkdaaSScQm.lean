/- A part of the proof of 'shareScores_holds', for every input, without a condition. -/
import Derived.Test.YtiafiebalibkdaaSScQl
import Derived.Test.YtiafiebalibkdaaSScOAllx20
import Derived.Test.YtiafiebalibkdaaSScOAllx23
import Derived.Test.YtiafiebalibkdaaSScOAllx29
import Derived.Test.YtiafiebalibkdaaSScOAllx30
namespace Go.Proofs.Ytiafiebalibkdaa.OAll
open Go.RowKit Go.Proofs.YtiafiebalibkdaaW.PrintWords Go.Proofs.YtiafiebalibkdaaW.PrintLast Go.Proofs.YtiafiebalibkdaaW.PrintMore
set_option linter.unusedVariables false
set_option linter.unusedSimpArgs false
def inD (D x : Int) : Bool := decide (0 ≤ x) && decide (x ≤ D)
theorem inD_iff {D x : Int} : inD D x = true ↔ 0 ≤ x ∧ x ≤ D := by simp [inD]
def partsOk (l : List Int) (D n : Int) : Bool := decide (1 ≤ D) && decide (D ≤ 10000000) && decide ((l.length : Int) = n) && l.all (inD D) && (gcdL D.natAbs l == 1)
theorem gcd_snoc (g : Nat) (pre : List Int) (x : Int) : (((gcdL g pre : Nat) : Int).natAbs.gcd x.natAbs) = gcdL g (pre ++ [x]) := by
  rw [gcdL, gcdL, List.foldl_append]; rfl
theorem areParts_l0 (l : List Int) (D : Int) (hD : 1 ≤ D) (hD' : D ≤ 10000000) (hl : l.length ≤ 1000) : ∀ (suf pre : List Int), l = pre ++ suf →
    Ev (fun k => ratio_AreParts.l0 k 0 1 ((gcdL D.natAbs pre : Nat) : Int) l (l.length : Int) pre.length l D) (suf.all (inD D) && (gcdL D.natAbs l == 1))
  | [], pre, e => by
    refine Ev.succ ?_
    have e3 : ¬ (pre.length : Int) < (l.length : Int) := by rw [e]; simp
    have el : l = pre := by rw [e]; simp
    have hle := gcdL_le (show 0 < D.natAbs by omega) pre
    have hg : Sm ((gcdL D.natAbs pre : Nat) : Int) := by unfold Sm; omega
    simp only [ratio_AreParts.l0, e3, if_false, mx_abs hg, Int.natAbs_natCast, List.all_nil, Bool.true_and]
    have : ((((gcdL D.natAbs pre : Nat) : Int)) == 1) = (gcdL D.natAbs l == 1) := by
      rw [Bool.eq_iff_iff, beq_iff_eq, beq_iff_eq, el]; omega
    rw [this]; exact Ev.pure _
  | x :: t, pre, e => by
    refine Ev.succ ?_
    have hlt : pre.length < l.length := by rw [e]; simp
    have e3 : (pre.length : Int) < (l.length : Int) := by omega
    have e2 : rd l (pre.length : Int) = x := by rw [e]; exact rd_mid _ _ _
    have e1 : wrap64 ((pre.length : Int) + 1) = (((pre ++ [x]).length : Nat) : Int) := by rw [w64s _ (by omega)]; simp
    have w0 : wrap64 (0 * D) = 0 := by rw [Int.zero_mul]; unfold wrap64; omega
    have w1 : wrap64 (1 * D) = D := by rw [Int.one_mul]; exact w64 (by omega) (by omega)
    have hle := gcdL_le (show 0 < D.natAbs by omega) pre
    have hg : Sm ((gcdL D.natAbs pre : Nat) : Int) := by unfold Sm; omega
    simp only [ratio_AreParts.l0, e3, if_true, nonneg_len, e2, e1, w0, w1]
    by_cases h0 : x < 0
    · have : (x :: t).all (inD D) = false := by rw [List.all_cons]; simp [inD]; omega
      rw [this]; simp only [h0, if_true, Bool.false_and]; exact Ev.pure _
    · by_cases h1 : x > D
      · have : (x :: t).all (inD D) = false := by rw [List.all_cons]; simp [inD]; omega
        rw [this]; simp only [h0, h1, if_true, if_false, Bool.false_and]; exact Ev.pure _
      · simp only [h0, h1, if_false]
        refine Ev.bind (divisor_ev _ _ _ (Nat.le_refl _) hg ⟨by omega, by omega⟩) ?_
        rw [gcd_snoc]
        have := areParts_l0 l D hD hD' hl t (pre ++ [x]) (by rw [e]; simp)
        have e6 : inD D x = true := inD_iff.mpr ⟨by omega, by omega⟩
        rw [List.all_cons, e6, Bool.true_and]
        exact this
theorem isParts_l0 (l : List Int) (D : Int) (hD : 1 ≤ D) (hD' : D ≤ 10000000) (hl : l.length ≤ 1000) : ∀ (suf pre : List Int), l = pre ++ suf →
    Ev (fun k => trishawref02_IsParts.l0 k (l.length : Int) 0 1 ((gcdL D.natAbs pre : Nat) : Int) pre.length l D) (suf.all (inD D) && (gcdL D.natAbs l == 1))
  | [], pre, e => by
    refine Ev.succ ?_
    have e3 : ¬ (pre.length : Int) < (l.length : Int) := by rw [e]; simp
    have el : l = pre := by rw [e]; simp
    simp only [trishawref02_IsParts.l0, e3, if_false, List.all_nil, Bool.true_and]
    have : ((((gcdL D.natAbs pre : Nat) : Int)) == 1) = (gcdL D.natAbs l == 1) := by
      rw [Bool.eq_iff_iff, beq_iff_eq, beq_iff_eq, el]; omega
    rw [this]; exact Ev.pure _
  | x :: t, pre, e => by
    refine Ev.succ ?_
    have hlt : pre.length < l.length := by rw [e]; simp
    have e3 : (pre.length : Int) < (l.length : Int) := by omega
    have e2 : rd l (pre.length : Int) = x := by rw [e]; exact rd_mid _ _ _
    have e1 : wrap64 ((pre.length : Int) + 1) = (((pre ++ [x]).length : Nat) : Int) := by rw [w64s _ (by omega)]; simp
    have w0 : wrap64 (0 * D) = 0 := by rw [Int.zero_mul]; unfold wrap64; omega
    have w1 : wrap64 (1 * D) = D := by rw [Int.one_mul]; exact w64 (by omega) (by omega)
    have hle := gcdL_le (show 0 < D.natAbs by omega) pre
    have hg : Sm ((gcdL D.natAbs pre : Nat) : Int) := by unfold Sm; omega
    simp only [trishawref02_IsParts.l0, e3, if_true, nonneg_len, e2, e1, w0, w1]
    by_cases h0 : x < 0
    · have : (x :: t).all (inD D) = false := by rw [List.all_cons]; simp [inD]; omega
      rw [this]; simp only [h0, if_true, Bool.false_and]; exact Ev.pure _
    · by_cases h1 : x > D
      · have : (x :: t).all (inD D) = false := by rw [List.all_cons]; simp [inD]; omega
        rw [this]; simp only [h0, h1, if_true, if_false, Bool.false_and]; exact Ev.pure _
      · have hs : Sm x := ⟨by omega, by omega⟩
        have hs2 : Sm ((x.natAbs : Nat) : Int) := ⟨by omega, by omega⟩
        simp only [h0, h1, if_false, mx_abs hs]
        refine Ev.bind (gcd_ev _ _ _ (Nat.le_refl _) hg hs2) ?_
        rw [Int.natAbs_natCast x.natAbs, gcd_snoc]
        have := isParts_l0 l D hD hD' hl t (pre ++ [x]) (by rw [e]; simp)
        have e6 : inD D x = true := inD_iff.mpr ⟨by omega, by omega⟩
        rw [List.all_cons, e6, Bool.true_and]
        exact this
theorem areParts_ev (l : List Int) (D n : Int) (hn : n ≤ 8) : Ev (fun k => ratio_AreParts.f k l D n 0 1) (partsOk l D n) := by
  have no : partsOk l D n = false → Ev (fun k => ratio_AreParts.j0 k 0 1 true l D) (partsOk l D n) := fun h => by
    refine Ev.succ ?_
    rw [h]
    simp only [ratio_AreParts.j0, if_true]
    exact Ev.pure _
  unfold ratio_AreParts.f
  by_cases h0 : D < 1
  · simp only [h0, if_true]; exact no (by simp [partsOk]; intros; omega)
  by_cases h1 : D > 10000000
  · simp only [h0, h1, if_true, if_false]; exact no (by simp [partsOk]; intros; omega)
  simp only [h0, h1, if_false]
  by_cases h2 : (l.length : Int) = n
  · have : ((l.length : Int) != n) = false := by rw [bne_eq_false_iff_eq]; exact h2
    rw [this]
    refine Ev.succ ?_
    simp only [ratio_AreParts.j0, Bool.false_eq_true, if_false]
    have := areParts_l0 l D (by omega) (by omega) (by omega) l [] rfl
    have e : partsOk l D n = (l.all (inD D) && (gcdL D.natAbs l == 1)) := by
      simp [partsOk, h2, show 1 ≤ D by omega, show D ≤ 10000000 by omega]
    rw [e]
    have e5 : ((gcdL D.natAbs [] : Nat) : Int) = D := by show (D.natAbs : Int) = D; omega
    rw [e5] at this
    exact this
  · have : ((l.length : Int) != n) = true := by rw [bne_iff_ne]; exact h2
    rw [this]
    exact no (by simp [partsOk, h2])
theorem isParts_ev (l : List Int) (D n : Int) (hn : n ≤ 8) : Ev (fun k => trishawref08_IsParts.f k l D n) (partsOk l D n) := by
  unfold trishawref08_IsParts.f
  refine Ev.bind (a := partsOk l D n) ?_ (Ev.pure _)
  have no : partsOk l D n = false → Ev (fun k => trishawref02_IsParts.j0 k n 0 1 true l D) (partsOk l D n) := fun h => by
    refine Ev.succ ?_
    rw [h]
    simp only [trishawref02_IsParts.j0, if_true]
    exact Ev.pure _
  unfold trishawref02_IsParts.f
  by_cases h2 : (l.length : Int) = n
  · simp only [h2, if_true]
    by_cases h0 : D < 1
    · simp only [h0, if_true]; exact no (by simp [partsOk]; intros; omega)
    simp only [h0, if_false]
    by_cases h1 : D > 10000000
    · rw [decide_eq_true h1]; exact no (by simp [partsOk]; intros; omega)
    rw [decide_eq_false h1]
    refine Ev.succ ?_
    simp only [trishawref02_IsParts.j0, Bool.false_eq_true, if_false]
    have := isParts_l0 l D (by omega) (by omega) (by omega) l [] rfl
    have e : partsOk l D n = (l.all (inD D) && (gcdL D.natAbs l == 1)) := by
      simp [partsOk, h2, show 1 ≤ D by omega, show D ≤ 10000000 by omega]
    rw [e]
    have e5 : ((gcdL D.natAbs [] : Nat) : Int) = D := by show (D.natAbs : Int) = D; omega
    rw [e5, h2] at this
    exact this
  · simp only [h2, if_false]
    exact no (by simp [partsOk, h2])
theorem partsOk_of {l : List Int} {D n : Int} (h : partsOk l D n = true) : 1 ≤ D ∧ D ≤ 10000000 ∧ (l.length : Int) = n ∧ ∀ x ∈ l, 0 ≤ x ∧ x ≤ D := by
  simp only [partsOk, Bool.and_eq_true, decide_eq_true_eq, List.all_eq_true] at h
  exact ⟨h.1.1.1.1, h.1.1.1.2, h.1.1.2, fun x hx => inD_iff.mp (h.1.2 x hx)⟩
def codeS (a b l : List Int) (D : Int) : Int := if codeP a b = 0 then (if partsOk l D a.length = true then 0 else 2) else codeP a b
theorem codeS_ok {a b l : List Int} {D : Int} (h : codeS a b l D = 0) : codeP a b = 0 ∧ partsOk l D a.length = true := by
  unfold codeS at h
  by_cases hc : codeP a b = 0
  · rw [if_pos hc] at h
    by_cases hp : partsOk l D a.length = true
    · exact ⟨hc, hp⟩
    · rw [if_neg hp] at h; omega
  · rw [if_neg hc] at h; exact absurd h hc
theorem divided_ev (a b l : List Int) (D : Int) : Ev (fun k => share_divided.f k a b l D) (if codeP a b = 0 then zipS a b else [], codeS a b l D) := by
  unfold share_divided.f
  refine Ev.bind (read_ev a b) ?_
  unfold readN codeS
  by_cases hc : codeP a b = 0
  · have h8 := codeP_ok hc
    simp only [hc, if_true]
    rw [zipS_len a b h8.2.2.2]
    refine Ev.bind (areParts_ev l D a.length (by omega)) ?_
    cases partsOk l D a.length
    · simp only [Bool.false_eq_true, if_false]; exact Ev.pure _
    · simp only [if_true]; exact Ev.pure _
  · simp only [hc, if_false]; exact Ev.pure _
def scoreR (a b l : List Int) (D : Int) : Int × Int × Int × Int × Int := if codeS a b l D = 0 then ((lowR (dotA (zipS a b) l) D).1, (lowR (dotA (zipS a b) l) D).2, (lowR (dotB D (zipS a b) l) D).1, (lowR (dotB D (zipS a b) l) D).2, 0) else (0, 0, 0, 0, codeS a b l D)
theorem dot_sm {a b l : List Int} {D : Int} (hc : codeP a b = 0) (hp : partsOk l D a.length = true) : (0 ≤ dotA (zipS a b) l ∧ dotA (zipS a b) l ≤ 8000000000) ∧ (0 ≤ dotB D (zipS a b) l ∧ dotB D (zipS a b) l ≤ 8000000000) := by
  have h8 := codeP_ok hc
  have hz := all_zip hc
  have hq := partsOk_of hp
  have b1 := dotA_bound D (by omega) (zipS a b) l (zip_in a b hz.1 hz.2) hq.2.2.2
  have b2 := dotA_bound D (by omega) (zipS b a) (l.map (D - ·)) (zip_in b a hz.2 hz.1) (fun x hx => by
    obtain ⟨y, hy, rfl⟩ := List.mem_map.mp hx
    have := hq.2.2.2 y hy
    omega)
  rw [dotA_compl D b a l h8.2.2.2.symm] at b2
  rw [zipS_len a b h8.2.2.2] at b1
  rw [zipS_len b a h8.2.2.2.symm] at b2
  have m1 : 100 * D * (a.length : Int) ≤ 1000000000 * (a.length : Int) := Int.mul_le_mul_of_nonneg_right (by omega) (nonneg_len _)
  have m2 : 100 * D * (b.length : Int) ≤ 1000000000 * (b.length : Int) := Int.mul_le_mul_of_nonneg_right (by omega) (nonneg_len _)
  omega
theorem Scores_ev (a b l : List Int) (D : Int) : Ev (fun k => share_Scores.f k a b l D) (scoreR a b l D) := by
  unfold share_Scores.f scoreR
  refine Ev.bind (divided_ev a b l D) ?_
  by_cases hs : codeS a b l D = 0
  · have ⟨hc, hp⟩ := codeS_ok hs
    have hq := partsOk_of hp
    have hb := dot_sm hc hp
    simp only [hs, hc, if_true]
    refine Ev.bind (scores_ev hc l D (by omega) (by omega) (by omega) hq.2.2.2) ?_
    refine Ev.bind (of_ev ⟨by omega, by omega⟩ ⟨by omega, by omega⟩ (by omega)) ?_
    refine Ev.bind (of_ev ⟨by omega, by omega⟩ ⟨by omega, by omega⟩ (by omega)) ?_
    exact Ev.pure _
  · simp only [hs, if_false]; exact Ev.pure _
theorem rscores_l0 (a b l : List Int) (D : Int) (hd : 0 ≤ D) (hd' : D ≤ 10000000) (hl : a.length ≤ 8) : ∀ (sa sb sl pa pb pl : List Int) (p q : Int), a = pa ++ sa → b = pb ++ sb → l = pl ++ sl → pa.length = pb.length → pa.length = pl.length → sa.length = sb.length → sa.length = sl.length → sa.all inR = true → sb.all inR = true → (∀ x ∈ sl, 0 ≤ x ∧ x ≤ D) → 0 ≤ p → p ≤ 1000000000 * pa.length → 0 ≤ q → q ≤ 1000000000 * pa.length →
    Ev (fun k => trishawref08_scores.l0 k a b p q pa.length l D) (p + dotA (zipS sa sb) sl, q + dotB D (zipS sa sb) sl)
  | [], [], [], pa, pb, pl, p, q, e, _, _, _, _, _, _, _, _, _, _, _, _, _ => by
    refine Ev.succ ?_
    have e3 : ¬ (pa.length : Int) < (a.length : Int) := by rw [e]; simp
    simp only [trishawref08_scores.l0, e3, if_false, zipS, dotA, dotB, Int.add_zero]
    exact Ev.pure _
  | u :: sa, v :: sb, x :: sl, pa, pb, pl, p, q, e, e', e'', hpb, hpl, hsb, hsl, ha, hb, hx, hp, hp', hq, hq' => by
    refine Ev.succ ?_
    rw [List.all_cons, Bool.and_eq_true] at ha hb
    have hu := inR_iff.mp ha.1
    have hv := inR_iff.mp hb.1
    have hx0 := hx x List.mem_cons_self
    have hlt : pa.length < a.length := by rw [e]; simp
    have e3 : (pa.length : Int) < (a.length : Int) := by omega
    have e4 : (pa.length : Int) < (b.length : Int) := by rw [e', hpb]; exact mid_lt _ _ _
    have e5 : (pa.length : Int) < (l.length : Int) := by rw [e'', hpl]; exact mid_lt _ _ _
    have r1 : rd a (pa.length : Int) = u := by rw [e]; exact rd_mid _ _ _
    have r2 : rd b (pa.length : Int) = v := by rw [e', hpb]; exact rd_mid _ _ _
    have r3 : rd l (pa.length : Int) = x := by rw [e'', hpl]; exact rd_mid _ _ _
    have m1 := mul_b (B := 100) (C := 10000000) hu.1 hu.2 hx0.1 (by omega)
    have m2 := mul_b (B := 100) (C := 10000000) hv.1 hv.2 (show 0 ≤ D - x by omega) (by omega)
    have w1 : wrap64 (u * x) = u * x := w64 (by omega) (by omega)
    have w2 : wrap64 (D - x) = D - x := w64 (by omega) (by omega)
    have w3 : wrap64 (v * (D - x)) = v * (D - x) := w64 (by omega) (by omega)
    have w4 : wrap64 (p + u * x) = p + u * x := w64 (by omega) (by omega)
    have w5 : wrap64 (q + v * (D - x)) = q + v * (D - x) := w64 (by omega) (by omega)
    have e1 : wrap64 ((pa.length : Int) + 1) = (((pa ++ [u]).length : Nat) : Int) := by rw [w64s _ (by omega)]; simp
    simp only [trishawref08_scores.l0, e3, e4, e5, if_true, nonneg_len, r1, r2, r3, w1, w2, w3, w4, w5, e1]
    have el : ((pa ++ [u]).length : Int) = pa.length + 1 := by simp
    have := rscores_l0 a b l D hd hd' hl sa sb sl (pa ++ [u]) (pb ++ [v]) (pl ++ [x]) (p + u * x) (q + v * (D - x)) (by rw [e]; simp) (by rw [e']; simp) (by rw [e'']; simp) (by simp [hpb]) (by simp [hpl]) (by simpa using hsb) (by simpa using hsl) ha.2 hb.2 (fun y hy => hx y (List.mem_cons_of_mem _ hy)) (by omega) (by omega) (by omega) (by omega)
    simp only [zipS, dotA, dotB]
    rw [← Int.add_assoc, ← Int.add_assoc]
    exact this
  | [], v :: sb, _, _, _, _, _, _, _, _, _, _, _, h, _, _, _, _, _, _, _, _ => by simp at h
  | u :: sa, [], _, _, _, _, _, _, _, _, _, _, _, h, _, _, _, _, _, _, _, _ => by simp at h
  | [], [], x :: sl, _, _, _, _, _, _, _, _, _, _, _, h, _, _, _, _, _, _, _ => by simp at h
  | u :: sa, v :: sb, [], _, _, _, _, _, _, _, _, _, _, _, h, _, _, _, _, _, _, _ => by simp at h
theorem rScores_ev (a b l : List Int) (D : Int) : Ev (fun k => trishawref08_Scores.f k a b l D) (scoreR a b l D) := by
  unfold trishawref08_Scores.f
  refine Ev.bind (points_ev a b) ?_
  have j1 : ∀ c : Int, c = codeS a b l D → Ev (fun k => trishawref08_Scores.j1 k a b c l D) (scoreR a b l D) := fun c hcc => by
    refine Ev.succ ?_
    unfold scoreR
    simp only [trishawref08_Scores.j1]
    by_cases hs : codeS a b l D = 0
    · have ⟨hc, hp⟩ := codeS_ok hs
      have h8 := codeP_ok hc
      have hz := all_zip hc
      have hq := partsOk_of hp
      have hb := dot_sm hc hp
      have hcz : c = 0 := by rw [hcc, hs]
      simp only [hs, hcz, if_true]
      have hsc := rscores_l0 a b l D (by omega) (by omega) h8.1 a b l [] [] [] 0 0 rfl rfl rfl rfl rfl h8.2.2.2 (by omega) hz.1 hz.2 hq.2.2.2 (Int.le_refl _) (by simp) (Int.le_refl _) (by simp)
      rw [Int.zero_add, Int.zero_add] at hsc
      refine Ev.bind (a := (dotA (zipS a b) l, dotB D (zipS a b) l)) hsc ?_
      refine Ev.bind (ratio_ev ⟨by omega, by omega⟩ ⟨by omega, by omega⟩ (by omega)) ?_
      refine Ev.bind (ratio_ev ⟨by omega, by omega⟩ ⟨by omega, by omega⟩ (by omega)) ?_
      exact Ev.pure _
    · have hcz : ¬ c = 0 := by rw [hcc]; exact hs
      simp only [hs, hcz, if_false]
      rw [hcc]; exact Ev.pure _
  by_cases hc : codeP a b = 0
  · have h8 := codeP_ok hc
    simp only [hc, if_true]
    refine Ev.bind (isParts_ev l D a.length (by omega)) ?_
    refine Ev.succ ?_
    cases hp : partsOk l D a.length
    · simp only [trishawref08_Scores.j0, Bool.not_false, if_true]
      exact j1 2 (by rw [codeS, if_pos hc, hp]; rfl)
    · simp only [trishawref08_Scores.j0, Bool.not_true, Bool.false_eq_true, if_false]
      exact j1 0 (by rw [codeS, if_pos hc, hp]; rfl)
  · simp only [hc, if_false]
    refine Ev.succ ?_
    simp only [trishawref08_Scores.j0, Bool.false_eq_true, if_false]
    exact j1 _ (by rw [codeS, if_neg hc])
end Go.Proofs.Ytiafiebalibkdaa.OAll
