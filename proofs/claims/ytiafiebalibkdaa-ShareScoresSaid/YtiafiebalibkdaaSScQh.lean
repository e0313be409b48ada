/- A part of the proof of 'shareScores_holds', for every input, without a condition. -/
import Derived.Test.YtiafiebalibkdaaSScQg
namespace Go.Proofs.Ytiafiebalibkdaa.OAll
open Go.RowKit Go.Proofs.YtiafiebalibkdaaW.PrintWords Go.Proofs.YtiafiebalibkdaaW.PrintLast Go.Proofs.YtiafiebalibkdaaW.PrintMore
set_option linter.unusedVariables false
set_option linter.unusedSimpArgs false
theorem scores_l0 (den : Int) (hd : 0 ≤ den) (hd' : den ≤ 10000000) (Z : List S76) (l : List Int) (hl : Z.length ≤ 8) : ∀ (sz : List S76) (sl : List Int) (pz : List S76) (pl : List Int) (p q : Int), Z = pz ++ sz → l = pl ++ sl → pz.length = pl.length → sz.length = sl.length → (∀ z ∈ sz, 0 ≤ z.f0 ∧ z.f0 ≤ 100 ∧ 0 ≤ z.f1 ∧ z.f1 ≤ 100) → (∀ x ∈ sl, 0 ≤ x ∧ x ≤ den) → 0 ≤ p → p ≤ 1000000000 * pz.length → 0 ≤ q → q ≤ 1000000000 * pz.length →
    Ev (fun k => share_scores.l0 k p q Z (Z.length : Int) pz.length l den) (p + dotA sz sl, q + dotB den sz sl)
  | [], [], pz, pl, p, q, e, e', _, _, _, _, _, _, _, _ => by
    refine Ev.succ ?_
    have e3 : ¬ (pz.length : Int) < (Z.length : Int) := by rw [e]; simp
    simp only [share_scores.l0, e3, if_false, dotA, dotB, Int.add_zero]
    exact Ev.pure _
  | z :: sz, x :: sl, pz, pl, p, q, e, e', hpp, hss, hz, hx, hp, hp', hq, hq' => by
    refine Ev.succ ?_
    have hlt : pz.length < Z.length := by rw [e]; simp
    have e3 : (pz.length : Int) < (Z.length : Int) := by omega
    have e4 : (pz.length : Int) < (l.length : Int) := by rw [e', hpp]; exact mid_lt _ _ _
    have e2 : rd_T76 Z (pz.length : Int) = z := by rw [e]; exact rd76_mid _ _ _
    have e5 : rd l (pz.length : Int) = x := by rw [e', hpp]; exact rd_mid _ _ _
    have hz0 := hz z List.mem_cons_self
    have hx0 := hx x List.mem_cons_self
    have m1 : 0 ≤ z.f0 * x := Int.mul_nonneg hz0.1 hx0.1
    have m2 : z.f0 * x ≤ 100 * 10000000 := Int.le_trans (Int.mul_le_mul_of_nonneg_right hz0.2.1 hx0.1) (by omega)
    have m3 : 0 ≤ z.f1 * (den - x) := Int.mul_nonneg hz0.2.2.1 (by omega)
    have m4 : z.f1 * (den - x) ≤ 100 * 10000000 := Int.le_trans (Int.mul_le_mul_of_nonneg_right hz0.2.2.2 (by omega)) (by omega)
    have hlen := hl
    have w1 : wrap64 (z.f0 * x) = z.f0 * x := w64 (by omega) (by omega)
    have w2 : wrap64 (den - x) = den - x := w64 (by omega) (by omega)
    have w3 : wrap64 (z.f1 * (den - x)) = z.f1 * (den - x) := w64 (by omega) (by omega)
    have w4 : wrap64 (p + z.f0 * x) = p + z.f0 * x := w64 (by omega) (by omega)
    have w5 : wrap64 (q + z.f1 * (den - x)) = q + z.f1 * (den - x) := w64 (by omega) (by omega)
    have e1 : wrap64 ((pz.length : Int) + 1) = (((pz ++ [z]).length : Nat) : Int) := by rw [w64s _ (by omega)]; simp
    simp only [share_scores.l0, e3, e4, if_true, nonneg_len, e2, e5, w1, w2, w3, w4, w5, e1]
    have el : ((pz ++ [z]).length : Int) = pz.length + 1 := by simp
    have := scores_l0 den hd hd' Z l hl sz sl (pz ++ [z]) (pl ++ [x]) (p + z.f0 * x) (q + z.f1 * (den - x)) (by rw [e]; simp) (by rw [e']; simp) (by simp [hpp]) (by simpa using hss) (fun y hy => hz y (List.mem_cons_of_mem _ hy)) (fun y hy => hx y (List.mem_cons_of_mem _ hy)) (by omega) (by omega) (by omega) (by omega)
    simp only [dotA, dotB]
    rw [← Int.add_assoc, ← Int.add_assoc]
    exact this
  | [], x :: sl, _, _, _, _, _, _, _, h, _, _, _, _, _, _ => by simp at h
  | z :: sz, [], _, _, _, _, _, _, _, h, _, _, _, _, _, _ => by simp at h
theorem zip_in : ∀ (a b : List Int), a.all inR = true → b.all inR = true → ∀ z ∈ zipS a b, 0 ≤ z.f0 ∧ z.f0 ≤ 100 ∧ 0 ≤ z.f1 ∧ z.f1 ≤ 100
  | x :: a, y :: b, ha, hb, z, hz => by
    rw [List.all_cons, Bool.and_eq_true] at ha hb
    rw [zipS] at hz
    rcases List.mem_cons.mp hz with rfl | hz
    · have := inR_iff.mp ha.1
      have := inR_iff.mp hb.1
      show 0 ≤ x ∧ x ≤ 100 ∧ 0 ≤ y ∧ y ≤ 100
      omega
    · exact zip_in a b ha.2 hb.2 z hz
  | [], _, _, _, z, hz => by simp [zipS] at hz
  | x :: a, [], _, _, z, hz => by simp [zipS] at hz
theorem scores_ev {a b : List Int} (hc : codeP a b = 0) (l : List Int) (den : Int) (hl : l.length = a.length) (hd : 0 ≤ den) (hd' : den ≤ 10000000) (hx : ∀ x ∈ l, 0 ≤ x ∧ x ≤ den) : Ev (fun k => share_scores.f k (zipS a b) l den) (dotA (zipS a b) l, dotB den (zipS a b) l) := by
  have h8 := codeP_ok hc
  have hz := all_zip hc
  have hlen := zipS_len a b h8.2.2.2
  have := scores_l0 den hd hd' (zipS a b) l (by omega) (zipS a b) l [] [] 0 0 rfl rfl rfl (by omega) (zip_in a b hz.1 hz.2) hx (Int.le_refl _) (by simp) (Int.le_refl _) (by simp)
  rw [Int.zero_add, Int.zero_add] at this
  exact this
theorem dotA_bound (D : Int) (hD : 0 ≤ D) : ∀ (Z : List S76) (l : List Int), (∀ z ∈ Z, 0 ≤ z.f0 ∧ z.f0 ≤ 100 ∧ 0 ≤ z.f1 ∧ z.f1 ≤ 100) → (∀ x ∈ l, 0 ≤ x ∧ x ≤ D) → 0 ≤ dotA Z l ∧ dotA Z l ≤ 100 * D * Z.length
  | [], l, _, _ => by simp [dotA]
  | z :: Z, [], _, _ => by
    simp only [dotA]
    exact ⟨Int.le_refl _, Int.mul_nonneg (by omega) (nonneg_len _)⟩
  | z :: Z, x :: l, hz, hx => by
    have ih := dotA_bound D hD Z l (fun y hy => hz y (List.mem_cons_of_mem _ hy)) fun y hy => hx y (List.mem_cons_of_mem _ hy)
    have hz0 := hz z List.mem_cons_self
    have hx0 := hx x List.mem_cons_self
    have m1 : 0 ≤ z.f0 * x := Int.mul_nonneg hz0.1 hx0.1
    have m2 : z.f0 * x ≤ 100 * x := Int.mul_le_mul_of_nonneg_right hz0.2.1 hx0.1
    simp only [dotA, List.length_cons]
    have e : 100 * D * ((Z.length + 1 : Nat) : Int) = 100 * D * Z.length + 100 * D := by push_cast; grind
    rw [e]
    omega
end Go.Proofs.Ytiafiebalibkdaa.OAll
