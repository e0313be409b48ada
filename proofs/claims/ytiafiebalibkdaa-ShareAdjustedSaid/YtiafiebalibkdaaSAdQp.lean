/- A part of the proof of 'shareAdjusted_holds', for every input, without a condition. -/
import Derived.Test.YtiafiebalibkdaaSAdQo
import Derived.Test.YtiafiebalibkdaaSAdOAllx33
import Derived.Test.YtiafiebalibkdaaSAdOAllx34
import Derived.Test.YtiafiebalibkdaaSAdOAllx0
import Derived.Test.YtiafiebalibkdaaSAdOAllx4
import Derived.Test.YtiafiebalibkdaaSAdOAllx7
import Derived.Test.YtiafiebalibkdaaSAdOAllx10
import Derived.Test.YtiafiebalibkdaaSAdOAllx29
import Derived.Test.YtiafiebalibkdaaSAdOAllx31
namespace Go.Proofs.Ytiafiebalibkdaa.OAll
open Go.RowKit Go.Proofs.YtiafiebalibkdaaW.PrintWords Go.Proofs.YtiafiebalibkdaaW.PrintLast Go.Proofs.YtiafiebalibkdaaW.PrintMore
set_option linter.unusedVariables false
set_option linter.unusedSimpArgs false
theorem dotB_div (g D : Int) (hg : g ≠ 0) (hD : g ∣ D) : ∀ (Z : List S76) (l : List Int), (∀ x ∈ l, g ∣ x) → dotB (Int.tdiv D g) Z (l.map (Int.tdiv · g)) * g = dotB D Z l
  | [], _, _ => by simp [dotB]
  | z :: Z, [], _ => by simp [dotB]
  | z :: Z, x :: l, h => by
    have ih := dotB_div g D hg hD Z l fun y hy => h y (List.mem_cons_of_mem _ hy)
    have e : Int.tdiv x g * g = x := Int.tdiv_mul_cancel (h x List.mem_cons_self)
    have e2 : Int.tdiv D g * g = D := Int.tdiv_mul_cancel hD
    simp only [List.map_cons, dotB]
    rw [Int.add_mul, ih, Int.mul_assoc, Int.sub_mul, e, e2]
theorem rd_div {g : Int} (hg : g ≠ 0) {l : List Int} (h : ∀ x ∈ l, g ∣ x) (i : Int) : rd (l.map (Int.tdiv · g)) i * g = rd l i := by
  simp only [rd, List.getD_eq_getElem?_getD, List.getElem?_map]
  cases e : l[i.toNat]? with
  | none => simp
  | some x =>
    show Int.tdiv x g * g = x
    exact Int.tdiv_mul_cancel (h x (List.mem_of_getElem? e))
theorem win_low {a b : List Int} (hc : codeP a b = 0) : ∃ g : Int, 0 < g ∧ g ∣ (winN a b).2.1 ∧ (∀ x ∈ (winN a b).1, g ∣ x) ∧ (lowN (winN a b).1 (winN a b).2.1).1 = (winN a b).1.map (Int.tdiv · g) ∧ (lowN (winN a b).1 (winN a b).2.1).2 = Int.tdiv (winN a b).2.1 g ∧ partsOk (lowN (winN a b).1 (winN a b).2.1).1 (lowN (winN a b).1 (winN a b).2.1).2 a.length = true := by
  have c := winN_cert hc
  have hlen := winN_len a b
  have d0 := c.d0
  have d2 := c.d200
  have bn := c.bn
  generalize (winN a b).1 = N at *
  generalize (winN a b).2.1 = D at *
  have hg := gcdL_dvd N D.natAbs
  have hg0 : 0 < gcdL D.natAbs N := gcdL_pos (by omega) N
  obtain ⟨G, hG⟩ : ∃ G : Nat, G = gcdL D.natAbs N := ⟨_, rfl⟩
  rw [← hG] at hg hg0
  have gD : (G : Int) ∣ D := Int.ofNat_dvd_left.mpr hg.1
  have gx : ∀ x ∈ N, (G : Int) ∣ x := fun x hx => Int.ofNat_dvd_left.mpr (hg.2 x hx)
  have eN : (lowN N D).1 = N.map (Int.tdiv · (G : Int)) := by rw [hG]; rfl
  have eD : (lowN N D).2 = Int.tdiv D G := by rw [hG]; rfl
  have eDG : Int.tdiv D G * G = D := Int.tdiv_mul_cancel gD
  refine ⟨G, by omega, gD, gx, eN, eD, ?_⟩
  rw [eN, eD]
  have n2 : 0 ≤ Int.tdiv D G := Int.tdiv_nonneg (by omega) (by omega)
  have p2 : 1 ≤ Int.tdiv D G := by
    by_cases h : Int.tdiv D G = 0
    · rw [h] at eDG; omega
    · omega
  have m2 := Int.mul_le_mul_of_nonneg_left (show 1 ≤ (G : Int) by omega) n2
  have hin : ∀ x ∈ N.map (Int.tdiv · (G : Int)), inD (Int.tdiv D G) x = true := fun x hx => by
    obtain ⟨y, hy, rfl⟩ := List.mem_map.mp hx
    have e : Int.tdiv y G * G = y := Int.tdiv_mul_cancel (gx y hy)
    have hy0 := bn y hy
    exact inD_iff.mpr ⟨Int.tdiv_nonneg hy0.1 (by omega), Int.le_of_mul_le_mul_right (by show Int.tdiv y G * G ≤ _; omega) (show 0 < (G : Int) by omega)⟩
  have h1 : gcdL (Int.tdiv D G).natAbs (N.map (Int.tdiv · (G : Int))) = 1 := by
    obtain ⟨d, hd⟩ : ∃ d, d = gcdL (Int.tdiv D G).natAbs (N.map (Int.tdiv · (G : Int))) := ⟨_, rfl⟩
    have q := gcdL_dvd (N.map (Int.tdiv · (G : Int))) (Int.tdiv D G).natAbs
    have qp : 0 < gcdL (Int.tdiv D G).natAbs (N.map (Int.tdiv · (G : Int))) := gcdL_pos (by omega) _
    rw [← hd] at q qp ⊢
    have k1 : d * G ∣ D.natAbs := by
      have := Nat.mul_dvd_mul_right q.1 G
      rw [show (Int.tdiv D G).natAbs * G = D.natAbs by
        have := congrArg Int.natAbs eDG
        rw [Int.natAbs_mul, Int.natAbs_natCast] at this; exact this] at this
      exact this
    have k2 : ∀ x ∈ N, d * G ∣ x.natAbs := fun x hx => by
      have := Nat.mul_dvd_mul_right (q.2 _ (List.mem_map.mpr ⟨x, hx, rfl⟩)) G
      rw [show (Int.tdiv x G).natAbs * G = x.natAbs by
        have := congrArg Int.natAbs (Int.tdiv_mul_cancel (gx x hx))
        rw [Int.natAbs_mul, Int.natAbs_natCast] at this; exact this] at this
      exact this
    have k3 := gcdL_great N D.natAbs (d * G) k1 k2
    rw [← hG] at k3
    have k4 := Nat.le_of_dvd hg0 k3
    by_cases h : d ≤ 1
    · omega
    · have := Nat.mul_le_mul_right G (show 2 ≤ d by omega); omega
  simp only [partsOk, Bool.and_eq_true, decide_eq_true_eq, List.all_eq_true, beq_iff_eq, List.length_map]
  exact ⟨⟨⟨⟨p2, by omega⟩, by omega⟩, hin⟩, h1⟩
theorem win_scores {a b : List Int} (hc : codeP a b = 0) : scoreR a b (lowN (winN a b).1 (winN a b).2.1).1 (lowN (winN a b).1 (winN a b).2.1).2 = ((lowR (winN a b).2.2 (winN a b).2.1).1, (lowR (winN a b).2.2 (winN a b).2.1).2, (lowR (winN a b).2.2 (winN a b).2.1).1, (lowR (winN a b).2.2 (winN a b).2.1).2, 0) := by
  obtain ⟨g, g0, gD, gx, eN, eD, hp⟩ := win_low hc
  have h8 := codeP_ok hc
  have z1 := zipS_len a b h8.2.2.2
  have hlen := winN_len a b
  have c := winN_cert hc
  have e1 := dotL_ordIn (zipS a b) (winN a b).1 [] (by omega)
  have e2 := dotM_ordIn (winN a b).2.1 (zipS a b) (winN a b).1 [] (by omega)
  simp only [List.nil_append, List.length_nil] at e1 e2
  rw [c.sa] at e1
  rw [c.sb] at e2
  have s : codeS a b (lowN (winN a b).1 (winN a b).2.1).1 (lowN (winN a b).1 (winN a b).2.1).2 = 0 := by rw [codeS, if_pos hc, if_pos hp]
  have k1 := dotA_div g (by omega) (zipS a b) (winN a b).1 gx
  have k2 := dotB_div g (winN a b).2.1 (by omega) gD (zipS a b) (winN a b).1 gx
  have eDG : Int.tdiv (winN a b).2.1 g * g = (winN a b).2.1 := Int.tdiv_mul_cancel gD
  rw [scoreR, if_pos s, eN, eD]
  have l1 := lowR_scale (dotA (zipS a b) ((winN a b).1.map (Int.tdiv · g))) (Int.tdiv (winN a b).2.1 g) g0
  have l2 := lowR_scale (dotB (Int.tdiv (winN a b).2.1 g) (zipS a b) ((winN a b).1.map (Int.tdiv · g))) (Int.tdiv (winN a b).2.1 g) g0
  rw [k1, eDG, ← e1] at l1
  rw [k2, eDG, ← e2] at l2
  rw [← l1, ← l2]
theorem win_eff {a b : List Int} (hc : codeP a b = 0) : effB (ordIn 0 (zipS a b)) (lowN (winN a b).1 (winN a b).2.1).1 (lowN (winN a b).1 (winN a b).2.1).2 = true := by
  obtain ⟨g, g0, gD, gx, eN, eD, hp⟩ := win_low hc
  have c := winN_cert hc
  rw [eN, eD, effB_iff]
  have eDG : Int.tdiv (winN a b).2.1 g * g = (winN a b).2.1 := Int.tdiv_mul_cancel gD
  have r := fun i => rd_div (show g ≠ 0 by omega) gx i
  intro x hx
  refine ⟨fun ⟨h1, h2⟩ => ?_, fun ⟨h1, h2⟩ => ?_, fun y hy ⟨h1, h2, h3⟩ => ?_⟩
  · have := c.k2 x hx h2
    rw [← r x.f1] at this
    have := Int.mul_pos h1 g0
    omega
  · have := c.k0 x hx h2
    rw [← r x.f1, ← eDG] at this
    have := Int.mul_lt_mul_of_pos_right h1 g0
    omega
  · have k1 := Int.mul_pos h1 g0
    have k2 := Int.mul_lt_mul_of_pos_right h2 g0
    rw [r] at k1 k2
    rw [eDG] at k2
    have := c.ef y hy x hx k2 k1
    omega
def cntB (D : Int) : List Int → Int
  | [] => 0
  | x :: t => (if 0 < x ∧ x < D then 1 else 0) + cntB D t
theorem cnt_zero (D : Int) : ∀ l : List Int, (∀ x ∈ l, ¬ (0 < x ∧ x < D)) → cntB D l = 0
  | [], _ => rfl
  | x :: t, h => by rw [cntB, if_neg (h x List.mem_cons_self), cnt_zero D t fun y hy => h y (List.mem_cons_of_mem _ hy)]; rfl
theorem cnt_one (D : Int) : ∀ (l : List Int) (j : Nat), (∀ i : Nat, i ≠ j → ∀ x, l[i]? = some x → ¬ (0 < x ∧ x < D)) → cntB D l ≤ 1
  | [], _, _ => by simp [cntB]
  | x :: t, 0, h => by
    rw [cntB, cnt_zero D t fun y hy => by
      obtain ⟨i, hi⟩ := List.mem_iff_getElem?.mp hy
      exact h (i + 1) (by omega) y (by simpa using hi)]
    split <;> omega
  | x :: t, j + 1, h => by
    have := cnt_one D t j fun i hi y hy => h (i + 1) (by omega) y (by simpa using hy)
    rw [cntB, if_neg (h 0 (by omega) x rfl)]
    omega
theorem win_cnt {a b : List Int} (hc : codeP a b = 0) : cntB (lowN (winN a b).1 (winN a b).2.1).2 (lowN (winN a b).1 (winN a b).2.1).1 ≤ 1 := by
  obtain ⟨g, g0, gD, gx, eN, eD, hp⟩ := win_low hc
  have h8 := codeP_ok hc
  have z1 := zipS_len a b h8.2.2.2
  have hlen := winN_len a b
  have c := winN_cert hc
  obtain ⟨x, hx, ho⟩ := c.one
  rw [eN, eD]
  have eDG : Int.tdiv (winN a b).2.1 g * g = (winN a b).2.1 := Int.tdiv_mul_cancel gD
  refine cnt_one _ _ x.f1.toNat fun i hi v hv hb => ?_
  have hl : i < (winN a b).1.length := by
    have := (List.getElem?_eq_some_iff.mp hv).1
    rw [List.length_map] at this; exact this
  have hz : i < (zipS a b).length := by omega
  have hm : (⟨(zipS a b)[i], ((0 + i : Nat) : Int)⟩ : S78) ∈ ordIn 0 (zipS a b) := by
    refine List.mem_of_getElem? (i := i) ?_
    rw [ordIn_get, List.getElem?_eq_getElem hz]; rfl
  have hn := (at_all hc x hx).n0
  have := ho _ hm (by show ((0 + i : Nat) : Int) ≠ x.f1; omega)
  have r := rd_div (show g ≠ 0 by omega) gx ((0 + i : Nat) : Int)
  have rv : rd ((winN a b).1.map (Int.tdiv · g)) ((0 + i : Nat) : Int) = v := by
    simp only [rd, List.getD_eq_getElem?_getD]
    rw [show (((0 + i : Nat) : Int)).toNat = i by omega, hv]; rfl
  rw [rv] at r
  have k1 := Int.mul_pos hb.1 g0
  have k2 := Int.mul_lt_mul_of_pos_right hb.2 g0
  rw [eDG] at k2
  rcases this with e | e
  · have e' : rd (winN a b).1 ((0 + i : Nat) : Int) = 0 := e
    omega
  · have e' : rd (winN a b).1 ((0 + i : Nat) : Int) = (winN a b).2.1 := e
    omega
theorem adj_l0 (l : List Int) (D m s1 s2 : Int) (hl : l.length ≤ 1000) (h1 : 0 ≤ s1) (h1' : s1 ≤ 1000000) (h2 : 1 ≤ s2) (h2' : s2 ≤ 1000) (hh : 100 * s2 ≤ s1 * 2) (hm0 : 0 ≤ m) (hm1 : m ≤ 1000) (hm : m * s2 ≤ s1) : ∀ (suf pre : List Int) (c : Int), l = pre ++ suf → 0 ≤ c → c + cntB D suf ≤ 1 → c ≤ 1 →
    Ev (fun k => trishawlaw08_ShareAdjusted.l0 k 0 true 0 m 0 c pre.length l D s1 s2 s1 s2 s1 s2) true
  | [], pre, c, e, h0, hc, hc1 => by
    refine Ev.succ ?_
    have e3 : ¬ (pre.length : Int) < (l.length : Int) := by rw [e]; simp
    have mb := mul_b (B := 1000) (C := 1000) hm0 hm1 (show 0 ≤ s2 by omega) h2'
    have w1 : wrap64 (s1 * 2) = s1 * 2 := w64 (by omega) (by omega)
    have w2 : wrap64 (100 * s2) = 100 * s2 := w64 (by omega) (by omega)
    have w3 : wrap64 (m * s2) = m * s2 := w64 (by omega) (by omega)
    have g1 : s1 * 2 ≥ 100 * s2 := hh
    simp only [trishawlaw08_ShareAdjusted.l0, e3, if_false, if_true, beq_self_eq_true, Bool.and_self, w1, w2, w3, g1, hm, hc1]
    exact alive_ev'
  | x :: t, pre, c, e, h0, hc, hc1 => by
    refine Ev.succ ?_
    have e3 : (pre.length : Int) < (l.length : Int) := by rw [e]; exact mid_lt _ _ _
    have e2 : rd l (pre.length : Int) = x := by rw [e]; exact rd_mid _ _ _
    have e1 : wrap64 ((pre.length : Int) + 1) = (((pre ++ [x]).length : Nat) : Int) := by rw [w64s _ (by omega)]; simp
    have ee : l = (pre ++ [x]) ++ t := by rw [e]; simp
    have cn : ∀ t : List Int, 0 ≤ cntB D t := by
      intro t
      induction t with
      | nil => exact Int.le_refl _
      | cons y t ih => rw [cntB]; split <;> omega
    have := cn t
    rw [cntB] at hc
    simp only [trishawlaw08_ShareAdjusted.l0, e3, if_true, nonneg_len, e2, e1]
    by_cases c1 : x > 0
    · by_cases c2 : x < D
      · have w : wrap64 (c + 1) = c + 1 := w64 (by omega) (by omega)
        rw [if_pos ⟨c1, c2⟩] at hc
        simp only [c1, c2, if_true, w]
        exact adj_l0 l D m s1 s2 hl h1 h1' h2 h2' hh hm0 hm1 hm t (pre ++ [x]) (c + 1) ee (by omega) (by omega) (by omega)
      · rw [if_neg (fun hh => c2 hh.2)] at hc
        simp only [c1, c2, if_true, if_false]
        exact adj_l0 l D m s1 s2 hl h1 h1' h2 h2' hh hm0 hm1 hm t (pre ++ [x]) c ee h0 (by omega) hc1
    · rw [if_neg (fun hh => c1 hh.1)] at hc
      simp only [c1, if_false]
      exact adj_l0 l D m s1 s2 hl h1 h1' h2 h2' hh hm0 hm1 hm t (pre ++ [x]) c ee h0 (by omega) hc1
theorem little_ok {x y : Int} (h0 : 0 ≤ x) (h1 : x < 4294967296) (h2 : 1 ≤ y) (h3 : y < 1073741824) : trishawlaw08_little.f x y = some true := by
  have e1 : y ≥ 1 := h2
  have e2 : x > -4294967296 := by omega
  unfold trishawlaw08_little.f
  rw [if_pos e1, if_pos h3, if_pos h1, decide_eq_true e2]
theorem win_bound {a b : List Int} (hc : codeP a b = 0) : 0 ≤ (winN a b).2.2 ∧ (winN a b).2.2 ≤ 160000 := by
  have h8 := codeP_ok hc
  have hz := all_zip hc
  have z1 := zipS_len a b h8.2.2.2
  have hlen := winN_len a b
  have c := winN_cert hc
  have d0 := c.d0
  have d2 := c.d200
  have e1 := dotL_ordIn (zipS a b) (winN a b).1 [] (by omega)
  simp only [List.nil_append, List.length_nil] at e1
  rw [c.sa] at e1
  have hb := dotA_bound (winN a b).2.1 (by omega) (zipS a b) (winN a b).1 (zip_in a b hz.1 hz.2) c.bn
  rw [z1, ← e1] at hb
  have m1 : 100 * (winN a b).2.1 * (a.length : Int) ≤ 20000 * (a.length : Int) := Int.mul_le_mul_of_nonneg_right (by omega) (nonneg_len _)
  omega
theorem ShareAdjusted_ev (a b : List Int) : Ev (fun k => trishawlaw08_ShareAdjusted.f k a b) true := by
  have easy : Ev (fun k => trishawlaw08_ShareAdjusted.j0 k a b true) true := by
    refine Ev.succ ?_
    simp only [trishawlaw08_ShareAdjusted.j0, if_true]
    exact alive_ev'
  unfold trishawlaw08_ShareAdjusted.f
  simp only [few_eq, Option.bind_some]
  generalize fewN a b [] = f
  cases f
  · simp only [Bool.false_eq_true, if_false]; exact easy
  · simp only [if_true]
    refine Ev.bind (points_ev a b) ?_
    by_cases hc : codeP a b = 0
    · have h8 := codeP_ok hc
      have c := winN_cert hc
      have d0 := c.d0
      have d2 := c.d200
      have sb := win_bound hc
      obtain ⟨g, g0, gD, gx, eN, eD, hp⟩ := win_low hc
      obtain ⟨h, h0, k1, k2, k3, k4, k5, k6⟩ := low_spec sb.1 d0
      have hwr : winR a b = ((lowN (winN a b).1 (winN a b).2.1).1, (lowN (winN a b).1 (winN a b).2.1).2, (lowR (winN a b).2.2 (winN a b).2.1).1, (lowR (winN a b).2.2 (winN a b).2.1).2, 0) := by
        rw [winR, if_pos hc]; rfl
      simp only [hc, bne_self_eq_false]
      refine Ev.succ ?_
      simp only [trishawlaw08_ShareAdjusted.j0, Bool.false_eq_true, if_false]
      refine Ev.bind (win_ev a b) ?_
      rw [hwr]
      simp only [if_true]
      refine Ev.bind (isParts_ev _ _ a.length (by omega)) ?_
      simp only [hp, if_true, little_ok k3 (show (lowR (winN a b).2.2 (winN a b).2.1).1 < 4294967296 by omega) k5 (show (lowR (winN a b).2.2 (winN a b).2.1).2 < 1073741824 by omega), Option.bind_some, Bool.not_true]
      refine Ev.succ ?_
      simp only [trishawlaw08_ShareAdjusted.j1, Bool.false_eq_true, if_false]
      refine Ev.bind (Scores_ev a b _ _) ?_
      rw [win_scores hc]
      refine Ev.bind (Efficient_ev a b _ _) ?_
      have hcs : codeS a b (lowN (winN a b).1 (winN a b).2.1).1 (lowN (winN a b).1 (winN a b).2.1).2 = 0 := by rw [codeS, if_pos hc, if_pos hp]
      rw [effR, if_pos hcs, win_eff hc]
      refine Ev.bind (whole_ev a b) ?_
      rw [wholeR, if_pos hc]
      have hpos : 0 < 2 ^ a.length := Nat.two_pow_pos _
      obtain ⟨s1, s2, s3, s4⟩ := wholeN_spec a b (2 ^ a.length) hpos (minS_nonneg hc)
      have hw := whole_win hc (wholeN a b (2 ^ a.length)).1
      rw [← s2] at hw
      have hm0 : 0 ≤ (wholeN a b (2 ^ a.length)).2 := by rw [s2]; exact minS_nonneg hc _
      have hm1 : (wholeN a b (2 ^ a.length)).2 ≤ 1000 := by
        rw [s2]
        have := (sumP_bound (wholeN a b (2 ^ a.length)).1 a 0 (all_zip hc).1).2
        unfold minS mn
        split <;> omega
      have hl := half_le hc
      have q1 : 100 * (lowR (winN a b).2.2 (winN a b).2.1).2 ≤ (lowR (winN a b).2.2 (winN a b).2.1).1 * 2 := by
        refine Int.le_of_mul_le_mul_right (a := h) ?_ h0
        have e1 : 100 * (lowR (winN a b).2.2 (winN a b).2.1).2 * h = 100 * (winN a b).2.1 := by rw [Int.mul_assoc, k2]
        have e2 : (lowR (winN a b).2.2 (winN a b).2.1).1 * 2 * h = (winN a b).2.2 * 2 := by rw [Int.mul_right_comm, k1]
        omega
      have q2 : (wholeN a b (2 ^ a.length)).2 * (lowR (winN a b).2.2 (winN a b).2.1).2 ≤ (lowR (winN a b).2.2 (winN a b).2.1).1 := by
        refine Int.le_of_mul_le_mul_right (a := h) ?_ h0
        rw [Int.mul_assoc, k2, k1]; exact hw
      have pq := partsOk_of hp
      exact adj_l0 _ _ _ _ _ (by omega) k3 (by omega) k5 (by omega) q1 hm0 hm1 q2 _ [] 0 rfl (Int.le_refl _) (by have := win_cnt hc; rw [Int.zero_add]; exact this) (by decide)
    · have : (codeP a b != 0) = true := by rw [bne_iff_ne]; exact hc
      simp only [this]; exact easy
end Go.Proofs.Ytiafiebalibkdaa.OAll
