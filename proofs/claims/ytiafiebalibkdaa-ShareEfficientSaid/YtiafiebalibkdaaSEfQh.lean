/- A part of the proof of 'shareEfficient_holds', for every input, without a condition. -/
import Derived.Test.YtiafiebalibkdaaSEfQg
namespace Go.Proofs.Ytiafiebalibkdaa.OAll
open Go.RowKit Go.Proofs.YtiafiebalibkdaaW.PrintWords Go.Proofs.YtiafiebalibkdaaW.PrintLast Go.Proofs.YtiafiebalibkdaaW.PrintMore
set_option linter.unusedVariables false
set_option linter.unusedSimpArgs false
theorem gcdL_all : ∀ (l : List Int) (g : Nat), (∀ x ∈ l, g ∣ x.natAbs) → gcdL g l = g
  | [], _, _ => rfl
  | x :: l, g, h => by
    show gcdL (g.gcd x.natAbs) l = g
    rw [Nat.gcd_eq_left (h x List.mem_cons_self)]
    exact gcdL_all l g fun y hy => h y (List.mem_cons_of_mem _ hy)
theorem lowR_scale (x y : Int) {g : Int} (hg : 0 < g) : lowR (x * g) (y * g) = lowR x y := by
  unfold lowR
  have e : (x * g).natAbs.gcd (y * g).natAbs = x.natAbs.gcd y.natAbs * g.natAbs := by rw [Int.natAbs_mul, Int.natAbs_mul, Nat.gcd_mul_right]
  have e2 : (((x.natAbs.gcd y.natAbs * g.natAbs : Nat) : Int)) = (x.natAbs.gcd y.natAbs : Int) * g := by rw [Int.natCast_mul, show ((g.natAbs : Nat) : Int) = g by omega]
  rw [e, e2, Int.mul_tdiv_mul_of_pos_left _ _ hg, Int.mul_tdiv_mul_of_pos_left _ _ hg]
theorem lowN_one (l : List Int) : lowN l 1 = (l, 1) := by
  unfold lowN
  have e : gcdL (1 : Int).natAbs l = 1 := gcdL_all l 1 fun x _ => Nat.one_dvd _
  rw [e]
  have : (l.map fun x => Int.tdiv x ((1 : Nat) : Int)) = l := by
    rw [show (fun x => Int.tdiv x ((1 : Nat) : Int)) = id from funext fun x => Int.tdiv_one x, List.map_id]
  rw [this]; rfl
theorem lowN_scale (l : List Int) {d : Int} (hd : 0 < d) : lowN (l.map (· * d)) d = (l, 1) := by
  unfold lowN
  have e : gcdL d.natAbs (l.map (· * d)) = d.natAbs := gcdL_all _ _ fun x hx => by
    obtain ⟨y, _, rfl⟩ := List.mem_map.mp hx
    rw [Int.natAbs_mul]; exact Nat.dvd_mul_left _ _
  have e2 : ((d.natAbs : Nat) : Int) = d := by omega
  rw [e, e2, List.map_map]
  have : (l.map ((fun x => Int.tdiv x d) ∘ (· * d))) = l := by
    rw [show ((fun x => Int.tdiv x d) ∘ (· * d)) = id from funext fun x => Int.mul_tdiv_cancel x (by omega), List.map_id]
  rw [this, Int.tdiv_self (by omega)]
theorem scores_l0 (den : Int) (hd : 0 ≤ den) (hd' : den ≤ 10000000) (Z : List S76) (l : List Int) (hl : Z.length ≤ 8) : ∀ (sz : List S76) (sl : List Int) (pz : List S76) (pl : List Int) (p q : Int), Z = pz ++ sz → l = pl ++ sl → pz.length = pl.length → sz.length = sl.length → (∀ z ∈ sz, 0 ≤ z.f0 ∧ z.f0 ≤ 100 ∧ 0 ≤ z.f1 ∧ z.f1 ≤ 100) → (∀ x ∈ sl, 0 ≤ x ∧ x ≤ den) → 0 ≤ p → p ≤ 1000000000 * pz.length → 0 ≤ q → q ≤ 1000000000 * pz.length →
    Ev (fun k => share_scores.l0 k p q Z (Z.length : Int) pz.length l den) (p + dotA sz sl, q + dotB den sz sl)
  | [], [], pz, pl, p, q, e, e', _, _, _, _, _, _, _, _ => by
    refine Ev.succ ?_
    have e3 : ¬ (pz.length : Int) < (Z.length : Int) := by rw [e]; simp
    simp only [share_scores.l0, e3, if_false, dotA, dotB, Int.add_zero]
    exact Ev.pure _
  | z :: sz, x :: sl, pz, pl, p, q, e, e', hpp, hss, hz, hx, hp, hp', hq, hq' => by
    refine Ev.succ ?_
    have hlt : pz.length < Z.length := by rw [e]; simp
    have e3 : (pz.length : Int) < (Z.length : Int) := by omega
    have e4 : (pz.length : Int) < (l.length : Int) := by rw [e', hpp]; exact mid_lt _ _ _
    have e2 : rd_T76 Z (pz.length : Int) = z := by rw [e]; exact rd76_mid _ _ _
    have e5 : rd l (pz.length : Int) = x := by rw [e', hpp]; exact rd_mid _ _ _
    have hz0 := hz z List.mem_cons_self
    have hx0 := hx x List.mem_cons_self
    have m1 : 0 ≤ z.f0 * x := Int.mul_nonneg hz0.1 hx0.1
    have m2 : z.f0 * x ≤ 100 * 10000000 := Int.le_trans (Int.mul_le_mul_of_nonneg_right hz0.2.1 hx0.1) (by omega)
    have m3 : 0 ≤ z.f1 * (den - x) := Int.mul_nonneg hz0.2.2.1 (by omega)
    have m4 : z.f1 * (den - x) ≤ 100 * 10000000 := Int.le_trans (Int.mul_le_mul_of_nonneg_right hz0.2.2.2 (by omega)) (by omega)
    have hlen := hl
    have w1 : wrap64 (z.f0 * x) = z.f0 * x := w64 (by omega) (by omega)
    have w2 : wrap64 (den - x) = den - x := w64 (by omega) (by omega)
    have w3 : wrap64 (z.f1 * (den - x)) = z.f1 * (den - x) := w64 (by omega) (by omega)
    have w4 : wrap64 (p + z.f0 * x) = p + z.f0 * x := w64 (by omega) (by omega)
    have w5 : wrap64 (q + z.f1 * (den - x)) = q + z.f1 * (den - x) := w64 (by omega) (by omega)
    have e1 : wrap64 ((pz.length : Int) + 1) = (((pz ++ [z]).length : Nat) : Int) := by rw [w64s _ (by omega)]; simp
    simp only [share_scores.l0, e3, e4, if_true, nonneg_len, e2, e5, w1, w2, w3, w4, w5, e1]
    have el : ((pz ++ [z]).length : Int) = pz.length + 1 := by simp
    have := scores_l0 den hd hd' Z l hl sz sl (pz ++ [z]) (pl ++ [x]) (p + z.f0 * x) (q + z.f1 * (den - x)) (by rw [e]; simp) (by rw [e']; simp) (by simp [hpp]) (by simpa using hss) (fun y hy => hz y (List.mem_cons_of_mem _ hy)) (fun y hy => hx y (List.mem_cons_of_mem _ hy)) (by omega) (by omega) (by omega) (by omega)
    simp only [dotA, dotB]
    rw [← Int.add_assoc, ← Int.add_assoc]
    exact this
  | [], x :: sl, _, _, _, _, _, _, _, h, _, _, _, _, _, _ => by simp at h
  | z :: sz, [], _, _, _, _, _, _, _, h, _, _, _, _, _, _ => by simp at h
theorem zip_in : ∀ (a b : List Int), a.all inR = true → b.all inR = true → ∀ z ∈ zipS a b, 0 ≤ z.f0 ∧ z.f0 ≤ 100 ∧ 0 ≤ z.f1 ∧ z.f1 ≤ 100
  | x :: a, y :: b, ha, hb, z, hz => by
    rw [List.all_cons, Bool.and_eq_true] at ha hb
    rw [zipS] at hz
    rcases List.mem_cons.mp hz with rfl | hz
    · have := inR_iff.mp ha.1
      have := inR_iff.mp hb.1
      show 0 ≤ x ∧ x ≤ 100 ∧ 0 ≤ y ∧ y ≤ 100
      omega
    · exact zip_in a b ha.2 hb.2 z hz
  | [], _, _, _, z, hz => by simp [zipS] at hz
  | x :: a, [], _, _, z, hz => by simp [zipS] at hz
theorem scores_ev {a b : List Int} (hc : codeP a b = 0) (l : List Int) (den : Int) (hl : l.length = a.length) (hd : 0 ≤ den) (hd' : den ≤ 10000000) (hx : ∀ x ∈ l, 0 ≤ x ∧ x ≤ den) : Ev (fun k => share_scores.f k (zipS a b) l den) (dotA (zipS a b) l, dotB den (zipS a b) l) := by
  have h8 := codeP_ok hc
  have hz := all_zip hc
  have hlen := zipS_len a b h8.2.2.2
  have := scores_l0 den hd hd' (zipS a b) l (by omega) (zipS a b) l [] [] 0 0 rfl rfl rfl (by omega) (zip_in a b hz.1 hz.2) hx (Int.le_refl _) (by simp) (Int.le_refl _) (by simp)
  rw [Int.zero_add, Int.zero_add] at this
  exact this
theorem dotA_bound (D : Int) (hD : 0 ≤ D) : ∀ (Z : List S76) (l : List Int), (∀ z ∈ Z, 0 ≤ z.f0 ∧ z.f0 ≤ 100 ∧ 0 ≤ z.f1 ∧ z.f1 ≤ 100) → (∀ x ∈ l, 0 ≤ x ∧ x ≤ D) → 0 ≤ dotA Z l ∧ dotA Z l ≤ 100 * D * Z.length
  | [], l, _, _ => by simp [dotA]
  | z :: Z, [], _, _ => by
    simp only [dotA]
    exact ⟨Int.le_refl _, Int.mul_nonneg (by omega) (nonneg_len _)⟩
  | z :: Z, x :: l, hz, hx => by
    have ih := dotA_bound D hD Z l (fun y hy => hz y (List.mem_cons_of_mem _ hy)) fun y hy => hx y (List.mem_cons_of_mem _ hy)
    have hz0 := hz z List.mem_cons_self
    have hx0 := hx x List.mem_cons_self
    have m1 : 0 ≤ z.f0 * x := Int.mul_nonneg hz0.1 hx0.1
    have m2 : z.f0 * x ≤ 100 * x := Int.mul_le_mul_of_nonneg_right hz0.2.1 hx0.1
    simp only [dotA, List.length_cons]
    have e : 100 * D * ((Z.length + 1 : Nat) : Int) = 100 * D * Z.length + 100 * D := by push_cast; grind
    rw [e]
    omega
theorem fin_ev {a b : List Int} (hc : codeP a b = 0) (l : List Int) (den : Int) (hl : l.length = a.length) (hd : 0 < den) (hd' : den ≤ 10000) (hx : ∀ x ∈ l, 0 ≤ x ∧ x ≤ den) :
    Ev (fun k => (ratio_Parts.f k l den).bind fun bt148 => ((share_scores.f k (zipS a b) bt148.1 bt148.2).bind fun bt153 => ((ratio_Of.f k bt153.1 bt148.2).bind fun bt155 => (some (bt148.1, bt148.2, bt155.1, bt155.2, 0)))))
      ((lowN l den).1, (lowN l den).2, (lowR (dotA (zipS a b) l) den).1, (lowR (dotA (zipS a b) l) den).2, (0 : Int)) := by
  have h8 := codeP_ok hc
  have hzz := all_zip hc
  refine Ev.bind (parts_ev l den hd ⟨by omega, by omega⟩ (fun x hx' => ⟨by have := hx x hx'; omega, by have := hx x hx'; omega⟩) (by omega)) ?_
  have hg := gcdL_dvd l den.natAbs
  have hg0 : 0 < gcdL den.natAbs l := gcdL_pos (by omega) l
  obtain ⟨g, hgg⟩ : ∃ g : Int, g = (gcdL den.natAbs l : Int) := ⟨_, rfl⟩
  have hgp : 0 < g := by omega
  have hgd : g ∣ den := by rw [hgg]; exact Int.ofNat_dvd_left.mpr hg.1
  have hgx : ∀ x ∈ l, g ∣ x := fun x hx' => by rw [hgg]; exact Int.ofNat_dvd_left.mpr (hg.2 x hx')
  have eN : (lowN l den).1 = l.map (Int.tdiv · g) := by rw [hgg]; rfl
  have eD : (lowN l den).2 = Int.tdiv den g := by rw [hgg]; rfl
  have hDg : Int.tdiv den g * g = den := Int.tdiv_mul_cancel hgd
  have hDpos : 0 < Int.tdiv den g := by
    by_cases h : 0 < Int.tdiv den g
    · exact h
    · have := Int.mul_nonneg (show 0 ≤ -(Int.tdiv den g) by omega) (Int.le_of_lt hgp)
      rw [Int.neg_mul] at this
      omega
  have hDle : Int.tdiv den g ≤ den := by
    have := Int.mul_le_mul_of_nonneg_left (show 1 ≤ g by omega) (Int.le_of_lt hDpos)
    omega
  have hN : ∀ x ∈ l.map (Int.tdiv · g), 0 ≤ x ∧ x ≤ Int.tdiv den g := fun x hx' => by
    obtain ⟨y, hy, rfl⟩ := List.mem_map.mp hx'
    have e : Int.tdiv y g * g = y := Int.tdiv_mul_cancel (hgx y hy)
    have hy0 := hx y hy
    exact ⟨Int.tdiv_nonneg hy0.1 (by omega), Int.le_of_mul_le_mul_right (by show Int.tdiv y g * g ≤ _; omega) hgp⟩
  rw [eN, eD]
  have hb := dotA_bound (Int.tdiv den g) (by omega) (zipS a b) (l.map (Int.tdiv · g)) (zip_in a b hzz.1 hzz.2) hN
  rw [zipS_len a b h8.2.2.2] at hb
  have hbb : 100 * Int.tdiv den g * (a.length : Int) ≤ 1000000 * 8 := by
    have h1 : 100 * Int.tdiv den g * (a.length : Int) ≤ 1000000 * (a.length : Int) := Int.mul_le_mul_of_nonneg_right (by omega) (nonneg_len _)
    omega
  refine Ev.bind (scores_ev hc _ _ (by rw [List.length_map]; exact hl) (by omega) (by omega) hN) ?_
  refine Ev.bind (of_ev ⟨by omega, by omega⟩ ⟨by omega, by omega⟩ hDpos) ?_
  have e1 := lowR_scale (dotA (zipS a b) (l.map (Int.tdiv · g))) (Int.tdiv den g) hgp
  rw [dotA_div g (by omega) (zipS a b) l hgx, hDg] at e1
  rw [e1]
  exact Ev.pure _
end Go.Proofs.Ytiafiebalibkdaa.OAll
