/- A part of the proof of 'shareLimits_holds', for every input, without a condition. -/
import Derived.Test.YtiafiebalibkdaaSLiQz
import Derived.Test.YtiafiebalibkdaaSLiOAllx36
namespace Go.Proofs.Ytiafiebalibkdaa.OAll
open Go.RowKit Go.Proofs.YtiafiebalibkdaaW.PrintWords Go.Proofs.YtiafiebalibkdaaW.PrintLast Go.Proofs.YtiafiebalibkdaaW.PrintMore
set_option linter.unusedVariables false
set_option linter.unusedSimpArgs false
set_option linter.unusedSectionVars false
theorem cross_le2 (x y u v : Int) {h g : Int} (hh : 0 < h) (hg : 0 < g) : x * v ≤ u * y ↔ x * h * (v * g) ≤ u * g * (y * h) := by
  have e1 : x * h * (v * g) = x * v * (h * g) := by grind
  have e2 : u * g * (y * h) = u * y * (h * g) := by grind
  rw [e1, e2]
  have p : 0 < h * g := Int.mul_pos hh hg
  exact ⟨fun k => Int.mul_le_mul_of_nonneg_right k (Int.le_of_lt p), fun k => Int.le_of_mul_le_mul_right k p⟩
theorem lowR_spec {S D : Int} (hD : 0 < D) : ∃ h : Int, 0 < h ∧ (lowR S D).1 * h = S ∧ (lowR S D).2 * h = D ∧ 1 ≤ (lowR S D).2 ∧ (lowR S D).2 ≤ D ∧ (∀ B : Int, 0 ≤ B → -B ≤ S → S ≤ B → -B ≤ (lowR S D).1 ∧ (lowR S D).1 ≤ B) := by
  unfold lowR
  obtain ⟨g, hg⟩ : ∃ g : Nat, g = S.natAbs.gcd D.natAbs := ⟨_, rfl⟩
  rw [← hg]
  have gp : 0 < g := by rw [hg]; exact Nat.gcd_pos_of_pos_right _ (by omega)
  have d1 : (g : Int) ∣ S := Int.ofNat_dvd_left.mpr (by rw [hg]; exact Nat.gcd_dvd_left _ _)
  have d2 : (g : Int) ∣ D := Int.ofNat_dvd_left.mpr (by rw [hg]; exact Nat.gcd_dvd_right _ _)
  have e1 : Int.tdiv S g * g = S := Int.tdiv_mul_cancel d1
  have e2 : Int.tdiv D g * g = D := Int.tdiv_mul_cancel d2
  have n2 : 0 ≤ Int.tdiv D g := Int.tdiv_nonneg (by omega) (by omega)
  have p2 : 1 ≤ Int.tdiv D g := by
    by_cases h : Int.tdiv D g = 0
    · rw [h] at e2; omega
    · omega
  have m2 := Int.mul_le_mul_of_nonneg_left (show 1 ≤ (g : Int) by omega) n2
  refine ⟨g, by omega, e1, e2, p2, by omega, fun B hB h1 h2 => ?_⟩
  show -B ≤ Int.tdiv S g ∧ Int.tdiv S g ≤ B
  by_cases h : 0 ≤ Int.tdiv S g
  · have m1 := Int.mul_le_mul_of_nonneg_left (show 1 ≤ (g : Int) by omega) h
    omega
  · have m1 := Int.mul_le_mul_of_nonpos_left (show Int.tdiv S g ≤ 0 by omega) (show 1 ≤ (g : Int) by omega)
    omega
theorem little_sg {x y : Int} (h0 : -1000000 ≤ x) (h1 : x ≤ 1000000) (h2 : 1 ≤ y) (h3 : y ≤ 1000000) : trishawlaw08_little.f x y = some true := by
  have e1 : y ≥ 1 := h2
  have e2 : x > -4294967296 := by omega
  have e3 : y < 1073741824 := by omega
  have e4 : x < 4294967296 := by omega
  unfold trishawlaw08_little.f
  rw [if_pos e1, if_pos e3, if_pos e4, decide_eq_true e2]
theorem mul_sg {a b A B : Int} (hA : 0 ≤ A) (ha : -A ≤ a) (ha' : a ≤ A) (hb : 0 ≤ b) (hb' : b ≤ B) : -(A * B) ≤ a * b ∧ a * b ≤ A * B := by
  have h1 := Int.mul_le_mul_of_nonneg_right ha hb
  have h2 := Int.mul_le_mul_of_nonneg_right ha' hb
  have h3 := Int.mul_le_mul_of_nonneg_left hb' hA
  rw [Int.neg_mul] at h1
  omega
theorem atMost_sg {x y u v : Int} (hx : -100000000000 ≤ x) (hx' : x ≤ 100000000000) (hy : 1 ≤ y) (hy' : y ≤ 10000000) (hu : -100000000000 ≤ u) (hu' : u ≤ 100000000000) (hv : 1 ≤ v) (hv' : v ≤ 10000000)
    {h g S T N : Int} (hh : 0 < h) (hg : 0 < g) (e1 : x * h = S) (e2 : y * h = N) (e3 : u * g = T) {M : Int} (e4 : v * g = M) (hle : S * M ≤ T * N) : trishawlaw08_atMost.f x y u v = some true := by
  have m1 := mul_sg (A := 100000000000) (B := 10000000) (by omega) hx hx' (show 0 ≤ v by omega) hv'
  have m2 := mul_sg (A := 100000000000) (B := 10000000) (by omega) hu hu' (show 0 ≤ y by omega) hy'
  unfold trishawlaw08_atMost.f
  rw [w64 (by omega) (by omega), w64 (by omega) (by omega)]
  have := (cross_le2 x y u v hh hg).mpr (by rw [e1, e2, e3, e4]; exact hle)
  rw [decide_eq_true this]
section
variable {W : List (List Int)} {s : Int} (hs : rentR W = some s) (hsm : smallB W = true) {x : List Int} {D : Int} {j : Nat} (hj : j < W.length)
include hs hj
theorem lim_bounds : (-5000 ≤ s - rowS W W.length j ∧ s - rowS W W.length j ≤ 10000) ∧ (-5000 ≤ s + colS W W.length j ∧ s + colS W W.length j ≤ 10000) := by
  have hW := rent_wish hs
  have h5 := hW.five
  have b1 := hW.rent_b
  have b2 := hW.rowS_b hj
  have b3 := hW.colS_b hj
  omega
theorem lim_le : s - rowS W W.length j ≤ s + colS W W.length j := by
  have hW := rent_wish hs
  have hd := hW.dear
  have := isum_le (f := fun _ => (0 : Int)) (g := fun y => wN (dearT W W.length) j y + wN (dearT W W.length) y j) (List.range W.length) (fun y hy => by
    have hy' : y < W.length := by simpa using hy
    have h1 := hd.2.tri hj hj hy'
    rw [hd.2.tab.diag hW.posT Wish.step0 hj] at h1
    exact h1)
  rw [isum_add, isum_const] at this
  have e1 : isum ((List.range W.length).map fun y => wN (dearT W W.length) j y) = rowS W W.length j := rfl
  have e2 : isum ((List.range W.length).map fun y => wN (dearT W W.length) y j) = colS W W.length j := rfl
  rw [e1, e2] at this
  omega
theorem lim_between (hR : isRents W x D = true) (hE : EF W x D W.length (bestA (wN W) W.length).1) : (s - rowS W W.length j) * D ≤ rd x (j : Int) * (W.length : Int) ∧ rd x (j : Int) * (W.length : Int) ≤ (s + colS W W.length j) * D := by
  have hW := rent_wish hs
  simp only [isRents, hs, Bool.and_eq_true, beq_iff_eq] at hR
  obtain ⟨hp, hsum⟩ := hR
  obtain ⟨p1, p2, p3, p4⟩ := partsE_of hp
  rw [ef_table hW (by omega)] at hE
  have eS := isum_rows x (show x.length = W.length by omega)
  rw [hsum] at eS
  have h1 := isum_le (f := fun y : Nat => rd x (y : Int) - rd x (j : Int)) (g := fun y => D * wN (dearT W W.length) j y) (List.range W.length) (fun y hy => by
    have hy' : y < W.length := by simpa using hy
    have := hE j y hj hy'
    rw [Int.mul_comm] at this; exact this)
  have h2 := isum_le (f := fun y : Nat => rd x (j : Int) - rd x (y : Int)) (g := fun y => D * wN (dearT W W.length) y j) (List.range W.length) (fun y hy => by
    have hy' : y < W.length := by simpa using hy
    have := hE y j hy' hj
    rw [Int.mul_comm] at this; exact this)
  rw [isum_sub, isum_const, isum_mul, List.length_range, ← eS] at h1 h2
  have e1 : isum ((List.range W.length).map fun y => wN (dearT W W.length) j y) = rowS W W.length j := rfl
  have e2 : isum ((List.range W.length).map fun y => wN (dearT W W.length) y j) = colS W W.length j := rfl
  rw [e1] at h1
  rw [e2] at h2
  rw [Int.sub_mul, Int.add_mul, Int.mul_comm (rd x (j : Int)), Int.mul_comm (rowS W W.length j), Int.mul_comm (colS W W.length j)]
  omega
include hsm
theorem limits_j4 : Ev (fun k => trishawlaw08_ShareLimits.j4 k W (j : Int) (cs (bestA (wN W) W.length).1) false x D (lowR (s - rowS W W.length j) (W.length : Int)).1 (lowR (s - rowS W W.length j) (W.length : Int)).2 (lowR (s + colS W W.length j) (W.length : Int)).1 (lowR (s + colS W W.length j) (W.length : Int)).2) true := by
  have hW := rent_wish hs
  have h0 := hW.pos
  have h5 := hW.five
  have hm := hW.best
  have yes : Ev (fun k => trishawlaw08_ShareLimits.j5 k (j : Int) true x D (lowR (s - rowS W W.length j) (W.length : Int)).1 (lowR (s - rowS W W.length j) (W.length : Int)).2 (lowR (s + colS W W.length j) (W.length : Int)).1 (lowR (s + colS W W.length j) (W.length : Int)).2) true := by
    refine Ev.succ ?_
    simp only [trishawlaw08_ShareLimits.j5, if_true]
    exact alive_ev'
  refine Ev.succ ?_
  simp only [trishawlaw08_ShareLimits.j4, Bool.false_eq_true, if_false]
  refine Ev.bind (envy_ev W hsm _ x D) ?_
  have eB : envR W (cs (bestA (wN W) W.length).1) x D = if isRents W x D = true then (envN W (cs (bestA (wN W) W.length).1) x D W.length, 0) else ([], 2) := by
    unfold envR; rw [isAsg_cs hm, Bool.and_true]
  rw [eB]
  cases hR : isRents W x D
  · simp only [Bool.false_eq_true, if_false, show ¬ (2 : Int) = 0 by decide]
    exact yes
  · simp only [if_true]
    by_cases hE : EF W x D W.length (bestA (wN W) W.length).1
    · have hz : ¬ ((envN W (cs (bestA (wN W) W.length).1) x D W.length).length : Int) > 0 := by rw [(env_nil hm).mpr hE]; simp
      simp only [if_neg hz]
      refine Ev.bind (isRents_ev W x D) ?_
      rw [hR]
      simp only [Bool.not_true]
      refine Ev.succ ?_
      have hb := lim_between hs hj hR hE
      obtain ⟨b1, b2⟩ := lim_bounds hs hj
      have hp : partsE x D (W.length : Int) = true := by simp only [isRents, hs, Bool.and_eq_true] at hR; exact hR.1
      obtain ⟨p1, p2, p3, p4⟩ := partsE_of hp
      have k1 : (0 : Int) ≤ (j : Int) := by omega
      have k2 : (j : Int) < (x.length : Int) := by omega
      have hxj : -5000 * D ≤ rd x (j : Int) ∧ rd x (j : Int) ≤ 5000 * D := by rw [rd_get (by omega)]; exact p4 _ (List.getElem_mem _)
      obtain ⟨g, g0, g1, g2, g3, g4, g5⟩ := lowR_spec (S := s - rowS W W.length j) (show 0 < (W.length : Int) by omega)
      obtain ⟨h, q0, q1, q2, q3, q4, q5⟩ := lowR_spec (S := s + colS W W.length j) (show 0 < (W.length : Int) by omega)
      have g6 := g5 10000 (by omega) (by omega) (by omega)
      have q6 := q5 10000 (by omega) (by omega) (by omega)
      have t1 : trishawlaw08_atMost.f (lowR (s - rowS W W.length j) (W.length : Int)).1 (lowR (s - rowS W W.length j) (W.length : Int)).2 (rd x (j : Int)) D = some true :=
        atMost_sg (by omega) (by omega) g3 (by omega) (by omega) (by omega) p1 p2 g0 (show (0 : Int) < 1 by omega) g1 g2 (Int.mul_one _) (Int.mul_one _) hb.1
      have t2 : trishawlaw08_atMost.f (rd x (j : Int)) D (lowR (s + colS W W.length j) (W.length : Int)).1 (lowR (s + colS W W.length j) (W.length : Int)).2 = some true :=
        atMost_sg (by omega) (by omega) p1 p2 (by omega) (by omega) q3 (by omega) (show (0 : Int) < 1 by omega) q0 (Int.mul_one _) (Int.mul_one _) q1 q2 hb.2
      simp only [trishawlaw08_ShareLimits.j5, Bool.false_eq_true, if_false, if_pos k1, if_pos k2, t1, t2, Option.bind_some, if_true]
      exact alive_ev'
    · have hz : ((envN W (cs (bestA (wN W) W.length).1) x D W.length).length : Int) > 0 := by
        have : (envN W (cs (bestA (wN W) W.length).1) x D W.length).length ≠ 0 := fun h' => hE ((env_nil hm).mp (List.eq_nil_of_length_eq_zero h'))
        omega
      simp only [if_pos hz]
      exact yes
end
theorem frac_eq {x y S N h : Int} (hh : 0 < h) (e1 : x * h = S) (e2 : y * h = N) : x * N = S * y := by
  rw [← e1, ← e2]; grind
theorem ShareLimits_ev (W : List (List Int)) (a1 : Int) (w1 : (Lit.int .u8 a1).wf = true) (x : List Int) (D : Int) : Ev (fun k => trishawlaw08_ShareLimits.f k W a1 x D) true := by
  have w1' := wf8 w1
  have yes : ∀ r : Int, Ev (fun k => trishawlaw08_ShareLimits.j0 k W a1 r true x D) true := fun r => by
    refine Ev.succ ?_
    simp only [trishawlaw08_ShareLimits.j0, if_true]
    exact alive_ev'
  unfold trishawlaw08_ShareLimits.f
  refine Ev.bind (rrent_ev W) ?_
  refine Ev.bind (small_ev W) ?_
  cases hsm : smallB W
  · simp only [Bool.false_eq_true, if_false]; exact yes _
  simp only [if_true]
  cases hs : rentR W with
  | none => rw [rentB_none hs]; simp only [Bool.false_eq_true, if_false]; exact yes _
  | some s =>
    rw [rentB_some hs]
    simp only [if_true]
    cases h30 : decide ((x.length : Int) > 30)
    · have hW := rent_wish hs
      have h0 := hW.pos
      have h5 := hW.five
      have hm := hW.best
      have hd := hW.dear
      have hdl := hd.1.len
      have hne : ¬ (W.length : Int) = 0 := by omega
      obtain ⟨q, rfl⟩ : ∃ q : Nat, a1 = (q : Int) := ⟨a1.toNat, by omega⟩
      have e1 : Aside0 (Int.tmod (wrap64 (q : Int)) (W.length : Int) = ((q % W.length : Nat) : Int)) := ⟨by rw [w64n q (by omega), tmod_nat q (by omega)]⟩
      have hj : q % W.length < W.length := Nat.mod_lt _ (by omega)
      generalize q % W.length = j at e1 hj
      have hkk : kOk W (j : Int) = true := by simp [kOk, hs, hj]
      obtain ⟨b1, b2⟩ := lim_bounds hs hj
      obtain ⟨g, g0, g1, g2, g3, g4, g5⟩ := lowR_spec (S := s - rowS W W.length j) (show 0 < (W.length : Int) by omega)
      obtain ⟨h, q0, q1, q2, q3, q4, q5⟩ := lowR_spec (S := s + colS W W.length j) (show 0 < (W.length : Int) by omega)
      have g6 := g5 10000 (by omega) (by omega) (by omega)
      have q6 := q5 10000 (by omega) (by omega) (by omega)
      refine Ev.succ ?_
      simp only [trishawlaw08_ShareLimits.j0, Bool.false_eq_true, if_false, if_neg hne, e1.out]
      refine Ev.bind (Dearer_ev W hsm hs) ?_
      refine Ev.bind (limits_ev W hsm _) ?_
      refine Ev.bind (rents_ev W hsm _) ?_
      refine Ev.bind (Assign_ev W hsm hs) ?_
      rw [limits_eq hkk hs, rentsR_some hs hj]
      have t1 : trishawlaw08_little.f (lowR (s - rowS W W.length j) (W.length : Int)).1 (lowR (s - rowS W W.length j) (W.length : Int)).2 = some true := little_sg (by omega) (by omega) g3 (by omega)
      have t2 : trishawlaw08_little.f (lowR (s + colS W W.length j) (W.length : Int)).1 (lowR (s + colS W W.length j) (W.length : Int)).2 = some true := little_sg (by omega) (by omega) q3 (by omega)
      simp only [if_true, t1, t2, Option.bind_some, hdl]
      obtain ⟨r1, r2⟩ := rents_good hW hj hs rfl
      refine Ev.bind (isRents_ev W _ _) ?_
      rw [r1]
      obtain ⟨u, u0, uD, uD1, ulen, ux, _⟩ := lowN_spec (N := numsW W W.length s j) (show 0 < (W.length : Int) by omega)
      have hnl : (numsW W W.length s j).length = W.length := by simp [numsW]
      have hrj := ux j (by omega)
      rw [nums_rd hW hj] at hrj
      have hjj : wN (dearT W W.length) j j = 0 := hd.2.tab.diag hW.posT Wish.step0 hj
      rw [hjj, Int.mul_zero, Int.add_zero] at hrj
      have hrl : (lowN (numsW W W.length s j) (W.length : Int)).1.length = W.length := by rw [ulen, hnl]
      have hrp : partsE (lowN (numsW W W.length s j) (W.length : Int)).1 (lowN (numsW W W.length s j) (W.length : Int)).2 (W.length : Int) = true := by
        simp only [isRents, hs, Bool.and_eq_true] at r1; exact r1.1
      obtain ⟨p1, p2, p3, p4⟩ := partsE_of hrp
      have hD5 : (lowN (numsW W W.length s j) (W.length : Int)).2 ≤ (W.length : Int) := by
        have := Int.mul_le_mul_of_nonneg_left (show 1 ≤ u by omega) (show 0 ≤ (lowN (numsW W W.length s j) (W.length : Int)).2 by omega)
        omega
      have hxj := p4 _ (List.getElem_mem (show j < (lowN (numsW W W.length s j) (W.length : Int)).1.length by omega))
      rw [← rd_get] at hxj
      generalize (lowN (numsW W W.length s j) (W.length : Int)).1 = l at *
      generalize (lowN (numsW W W.length s j) (W.length : Int)).2 = E at *
      have F1 := frac_eq g0 g1 g2
      have F2 := frac_eq q0 q1 q2
      have F3 : rd l (j : Int) * (lowR (s - rowS W W.length j) (W.length : Int)).2 = (lowR (s - rowS W W.length j) (W.length : Int)).1 * E := by
        have a1 := frac_eq u0 hrj uD
        have hug : 0 < u * g := Int.mul_pos u0 g0
        refine Int.eq_of_mul_eq_mul_right (Int.ne_of_gt hug) ?_
        have c1 : rd l (j : Int) * (lowR (s - rowS W W.length j) (W.length : Int)).2 * (u * g) = (rd l (j : Int) * u) * ((lowR (s - rowS W W.length j) (W.length : Int)).2 * g) := by grind
        have c2 : (lowR (s - rowS W W.length j) (W.length : Int)).1 * E * (u * g) = ((lowR (s - rowS W W.length j) (W.length : Int)).1 * g) * (E * u) := by grind
        rw [c1, c2, hrj, g1, g2, uD]
      have T3 : trishawlaw08_atMost.f (lowR (s - rowS W W.length j) (W.length : Int)).1 (lowR (s - rowS W W.length j) (W.length : Int)).2 (lowR (s + colS W W.length j) (W.length : Int)).1 (lowR (s + colS W W.length j) (W.length : Int)).2 = some true :=
        atMost_sg (by omega) (by omega) g3 (by omega) (by omega) (by omega) q3 (by omega) g0 q0 g1 g2 q1 q2 (Int.mul_le_mul_of_nonneg_right (lim_le hs hj) (by omega))
      have J4 := limits_j4 hs hsm hj (x := x) (D := D)
      have mw1 := mul_sg (A := 10000) (B := 5) (by omega) g6.1 g6.2 (show 0 ≤ (W.length : Int) by omega) (by omega)
      have mw2 := mul_sg (A := 10000) (B := 5) (by omega) (show -10000 ≤ s - rowS W W.length j by omega) (by omega) (show 0 ≤ (lowR (s - rowS W W.length j) (W.length : Int)).2 by omega) (by omega)
      have mw3 := mul_sg (A := 10000) (B := 5) (by omega) q6.1 q6.2 (show 0 ≤ (W.length : Int) by omega) (by omega)
      have mw4 := mul_sg (A := 10000) (B := 5) (by omega) (show -10000 ≤ s + colS W W.length j by omega) (by omega) (show 0 ≤ (lowR (s + colS W W.length j) (W.length : Int)).2 by omega) (by omega)
      have mw5 := mul_sg (A := 25000) (B := 5) (by omega) (show -25000 ≤ rd l (j : Int) by omega) (by omega) (show 0 ≤ (lowR (s - rowS W W.length j) (W.length : Int)).2 by omega) (by omega)
      have mw6 := mul_sg (A := 10000) (B := 5) (by omega) g6.1 g6.2 (show 0 ≤ E by omega) (by omega)
      have A1 : Aside0 (wrap64 ((lowR (s - rowS W W.length j) (W.length : Int)).1 * (W.length : Int)) = (lowR (s - rowS W W.length j) (W.length : Int)).1 * (W.length : Int)) := ⟨w64 (by omega) (by omega)⟩
      have A2 : Aside0 (wrap64 ((s - rowS W W.length j) * (lowR (s - rowS W W.length j) (W.length : Int)).2) = (s - rowS W W.length j) * (lowR (s - rowS W W.length j) (W.length : Int)).2) := ⟨w64 (by omega) (by omega)⟩
      have A3 : Aside0 (wrap64 ((lowR (s + colS W W.length j) (W.length : Int)).1 * (W.length : Int)) = (lowR (s + colS W W.length j) (W.length : Int)).1 * (W.length : Int)) := ⟨w64 (by omega) (by omega)⟩
      have A4 : Aside0 (wrap64 ((s + colS W W.length j) * (lowR (s + colS W W.length j) (W.length : Int)).2) = (s + colS W W.length j) * (lowR (s + colS W W.length j) (W.length : Int)).2) := ⟨w64 (by omega) (by omega)⟩
      have A5 : Aside0 (wrap64 (rd l (j : Int) * (lowR (s - rowS W W.length j) (W.length : Int)).2) = rd l (j : Int) * (lowR (s - rowS W W.length j) (W.length : Int)).2) := ⟨w64 (by omega) (by omega)⟩
      have A6 : Aside0 (wrap64 ((lowR (s - rowS W W.length j) (W.length : Int)).1 * E) = (lowR (s - rowS W W.length j) (W.length : Int)).1 * E) := ⟨w64 (by omega) (by omega)⟩
      refine Ev.succ ?_
      simp only [trishawlaw08_ShareLimits.j1, Bool.not_true, Bool.false_eq_true, if_false]
      have hrow := hW.rowS_b hj
      have hrent := hW.rent_b
      generalize (lowR (s - rowS W W.length j) (W.length : Int)).1 = P at *
      generalize (lowR (s - rowS W W.length j) (W.length : Int)).2 = Q at *
      generalize (lowR (s + colS W W.length j) (W.length : Int)).1 = U at *
      generalize (lowR (s + colS W W.length j) (W.length : Int)).2 = V at *
      have c1 : (0 : Int) ≤ (j : Int) := by omega
      have c2 : (j : Int) < ((dearT W W.length).length : Int) := by omega
      have hrj' := hd.1.row j hj
      have go1 : ∀ (c i : Nat), W.length - i = c → i ≤ W.length → Ev (fun f => trishawlaw08_ShareLimits.l1 f W (W.length : Int) (j : Int) (dearT W W.length) (cs (bestA (wN W) W.length).1) (s - isum ((List.range i).map fun y => wN (dearT W W.length) j y)) (s + isum ((List.range i).map fun y => wN (dearT W W.length) y j)) (i : Int) x D P Q U V l E) true := by
        intro c
        induction c with
        | zero =>
          intro i hc hi
          refine Ev.succ ?_
          obtain rfl : i = W.length := by omega
          have k1 : ¬ (W.length : Int) < (W.length : Int) := by omega
          have f1 : s - isum ((List.range W.length).map fun y => wN (dearT W W.length) j y) = s - rowS W W.length j := rfl
          have f2 : s + isum ((List.range W.length).map fun y => wN (dearT W W.length) y j) = s + colS W W.length j := rfl
          have k2 : (j : Int) < (l.length : Int) := by omega
          simp only [trishawlaw08_ShareLimits.l1, if_neg k1, f1, f2, A1.out, A2.out, A3.out, A4.out, A5.out, A6.out, if_pos F1, if_pos F2, if_pos c1, if_pos k2, if_pos F3, T3, Option.bind_some, Bool.not_true]
          exact J4
        | succ c ih =>
          intro i hc hi
          refine Ev.succ ?_
          have hin : i < W.length := by omega
          have hri := hd.1.row i hin
          have k1 : (i : Int) < (W.length : Int) := by omega
          have k2 : (0 : Int) ≤ (i : Int) := by omega
          have k3 : (i : Int) < ((rd_L1 (dearT W W.length) (j : Int)).length : Int) := by omega
          have k4 : (i : Int) < ((dearT W W.length).length : Int) := by omega
          have k5 : (j : Int) < ((rd_L1 (dearT W W.length) (i : Int)).length : Int) := by omega
          have v1 := hW.db hin hj
          have v2 := hW.db hj hin
          have v3 := isum_b (fun x => wN (dearT W W.length) x j) (List.range i) (fun x hx => hW.db (by simp at hx; omega) hj)
          have v4 := isum_b (fun y => wN (dearT W W.length) j y) (List.range i) (fun x hx => hW.db hj (by simp at hx; omega))
          rw [List.length_range] at v3 v4
          have f1 : rd (rd_L1 (dearT W W.length) (i : Int)) (j : Int) = wN (dearT W W.length) i j := rfl
          have f2 : rd (rd_L1 (dearT W W.length) (j : Int)) (i : Int) = wN (dearT W W.length) j i := rfl
          have w1 : Aside0 (wrap64 (s + isum ((List.range i).map fun x => wN (dearT W W.length) x j) + wN (dearT W W.length) i j) = s + isum ((List.range (i + 1)).map fun x => wN (dearT W W.length) x j)) := ⟨by rw [w64 (by omega) (by omega), col_succ]; omega⟩
          have w2 : Aside0 (wrap64 (s - isum ((List.range i).map fun y => wN (dearT W W.length) j y) - wN (dearT W W.length) j i) = s - isum ((List.range (i + 1)).map fun y => wN (dearT W W.length) j y)) := ⟨by rw [w64 (by omega) (by omega), row_succ]; omega⟩
          have w3 : Aside0 (wrap64 ((i : Int) + 1) = ((i + 1 : Nat) : Int)) := ⟨w64s i (by omega)⟩
          simp only [trishawlaw08_ShareLimits.l1, if_pos k1, if_pos c1, if_pos c2, if_pos k2, if_pos k3, if_pos k4, if_pos k5, f1, f2, w1.out, w2.out, w3.out]
          exact ih (i + 1) (by omega) (by omega)
      have go0 : ∀ (c i : Nat), W.length - i = c → i ≤ W.length → Ev (fun f => trishawlaw08_ShareLimits.l0 f W (W.length : Int) (j : Int) (dearT W W.length) (cs (bestA (wN W) W.length).1) s s (i : Int) x D P Q U V l E) true := by
        intro c
        induction c with
        | zero =>
          intro i hc hi
          refine Ev.succ ?_
          have k1 : ¬ (i : Int) < (W.length : Int) := by omega
          simp only [trishawlaw08_ShareLimits.l0, if_neg k1]
          have := go1 W.length 0 (by omega) (by omega)
          simp only [List.range_zero, List.map_nil, isum, Int.sub_zero, Int.add_zero] at this
          exact this
        | succ c ih =>
          intro i hc hi
          refine Ev.succ ?_
          have hri := hd.1.row i (by omega)
          have k1 : (i : Int) < (W.length : Int) := by omega
          have k2 : (0 : Int) ≤ (i : Int) := by omega
          have k3 : (i : Int) < ((dearT W W.length).length : Int) := by omega
          have k4 : ((rd_L1 (dearT W W.length) (i : Int)).length : Int) = (W.length : Int) := by omega
          have w3 : Aside0 (wrap64 ((i : Int) + 1) = ((i + 1 : Nat) : Int)) := ⟨w64s i (by omega)⟩
          simp only [trishawlaw08_ShareLimits.l0, if_pos k1, if_pos k2, if_pos k3, if_pos k4, w3.out]
          exact ih (i + 1) (by omega) (by omega)
      exact go0 W.length 0 (by omega) (by omega)
    · exact yes _
end Go.Proofs.Ytiafiebalibkdaa.OAll
