/- A part of the proof of 'shareEfficient_holds', for every input, without a condition. -/
import Derived.Test.YtiafiebalibkdaaSEfQn
namespace Go.Proofs.Ytiafiebalibkdaa.OAll
open Go.RowKit Go.Proofs.YtiafiebalibkdaaW.PrintWords Go.Proofs.YtiafiebalibkdaaW.PrintLast Go.Proofs.YtiafiebalibkdaaW.PrintMore
set_option linter.unusedVariables false
set_option linter.unusedSimpArgs false
theorem low_spec {S D : Int} (hS : 0 ≤ S) (hD : 0 < D) : ∃ h : Int, 0 < h ∧ (lowR S D).1 * h = S ∧ (lowR S D).2 * h = D ∧ 0 ≤ (lowR S D).1 ∧ (lowR S D).1 ≤ S ∧ 1 ≤ (lowR S D).2 ∧ (lowR S D).2 ≤ D := by
  unfold lowR
  obtain ⟨g, hg⟩ : ∃ g : Nat, g = S.natAbs.gcd D.natAbs := ⟨_, rfl⟩
  rw [← hg]
  have gp : 0 < g := by rw [hg]; exact Nat.gcd_pos_of_pos_right _ (by omega)
  have d1 : (g : Int) ∣ S := Int.ofNat_dvd_left.mpr (by rw [hg]; exact Nat.gcd_dvd_left _ _)
  have d2 : (g : Int) ∣ D := Int.ofNat_dvd_left.mpr (by rw [hg]; exact Nat.gcd_dvd_right _ _)
  have e1 : Int.tdiv S g * g = S := Int.tdiv_mul_cancel d1
  have e2 : Int.tdiv D g * g = D := Int.tdiv_mul_cancel d2
  have n1 : 0 ≤ Int.tdiv S g := Int.tdiv_nonneg hS (by omega)
  have n2 : 0 ≤ Int.tdiv D g := Int.tdiv_nonneg (by omega) (by omega)
  have p2 : 1 ≤ Int.tdiv D g := by
    by_cases h : Int.tdiv D g = 0
    · rw [h] at e2; omega
    · omega
  have m1 := Int.mul_le_mul_of_nonneg_left (show 1 ≤ (g : Int) by omega) n1
  have m2 := Int.mul_le_mul_of_nonneg_left (show 1 ≤ (g : Int) by omega) n2
  exact ⟨g, by omega, e1, e2, n1, by omega, p2, by omega⟩
theorem cross_le (x y u v : Int) {h g : Int} (hh : 0 < h) (hg : 0 < g) : x * v ≤ u * y ↔ x * h * (v * g) ≤ u * g * (y * h) := by
  have e1 : x * h * (v * g) = x * v * (h * g) := by grind
  have e2 : u * g * (y * h) = u * y * (h * g) := by grind
  rw [e1, e2]
  have p : 0 < h * g := Int.mul_pos hh hg
  exact ⟨fun k => Int.mul_le_mul_of_nonneg_right k (Int.le_of_lt p), fun k => Int.le_of_mul_le_mul_right k p⟩
theorem low_le {S D S' D' : Int} (hS : 0 ≤ S) (hD : 0 < D) (hS' : 0 ≤ S') (hD' : 0 < D') : (lowR S D).1 * (lowR S' D').2 ≤ (lowR S' D').1 * (lowR S D).2 ↔ S * D' ≤ S' * D := by
  obtain ⟨h, h0, h1, h2, _⟩ := low_spec hS hD
  obtain ⟨g, g0, g1, g2, _⟩ := low_spec hS' hD'
  have := cross_le (lowR S D).1 (lowR S D).2 (lowR S' D').1 (lowR S' D').2 h0 g0
  rw [h1, h2, g1, g2] at this
  exact this
theorem best_dots {a b : List Int} (hc : codeP a b = 0) {l : List Int} {D' : Int} (hl : l.length = a.length) (hD' : 0 ≤ D') (hb : ∀ x ∈ l, 0 ≤ x ∧ x ≤ D') : ¬ ((winN a b).2.2 * D' < dotA (zipS a b) l * (winN a b).2.1 ∧ (winN a b).2.2 * D' < dotB D' (zipS a b) l * (winN a b).2.1) := by
  have h8 := codeP_ok hc
  have z1 := zipS_len a b h8.2.2.2
  have h := (winN_cert hc).best hD' hb
  have e1 := dotL_ordIn (zipS a b) l [] (by omega)
  have e2 := dotM_ordIn D' (zipS a b) l [] (by omega)
  simp only [List.nil_append, List.length_nil] at e1 e2
  rw [e1, e2] at h
  exact h
theorem ratio_trans {x m y : S78} (hm : 0 < m.f0.f1) (hx : 0 ≤ x.f0.f1) (hy : 0 ≤ y.f0.f1) (h1 : x.f0.f0 * m.f0.f1 ≤ m.f0.f0 * x.f0.f1) (h2 : m.f0.f0 * y.f0.f1 ≤ y.f0.f0 * m.f0.f1) : x.f0.f0 * y.f0.f1 ≤ y.f0.f0 * x.f0.f1 := by
  have t1 := Int.mul_le_mul_of_nonneg_right h1 hy
  have t2 := Int.mul_le_mul_of_nonneg_right h2 hx
  have u1 : x.f0.f0 * m.f0.f1 * y.f0.f1 = x.f0.f0 * y.f0.f1 * m.f0.f1 := by grind
  have u2 : m.f0.f0 * x.f0.f1 * y.f0.f1 = m.f0.f0 * y.f0.f1 * x.f0.f1 := by grind
  have u3 : y.f0.f0 * m.f0.f1 * x.f0.f1 = y.f0.f0 * x.f0.f1 * m.f0.f1 := by grind
  exact Int.le_of_mul_le_mul_right (by omega) hm
theorem most_ratio : ∀ l : List S78, l ≠ [] → (∀ x ∈ l, 0 < x.f0.f1) → ∃ m ∈ l, ∀ x ∈ l, x.f0.f0 * m.f0.f1 ≤ m.f0.f0 * x.f0.f1
  | [], h, _ => absurd rfl h
  | [x], _, _ => ⟨x, List.mem_cons_self, fun y hy => by obtain rfl : y = x := (by simpa using hy); exact Int.le_refl _⟩
  | x :: z :: l, _, hp => by
    obtain ⟨m, hm, h⟩ := most_ratio (z :: l) (by simp) fun y hy => hp y (List.mem_cons_of_mem _ hy)
    by_cases c : x.f0.f0 * m.f0.f1 ≤ m.f0.f0 * x.f0.f1
    · refine ⟨m, List.mem_cons_of_mem _ hm, fun y hy => ?_⟩
      rcases List.mem_cons.mp hy with rfl | hy
      · exact c
      · exact h y hy
    · refine ⟨x, List.mem_cons_self, fun y hy => ?_⟩
      rcases List.mem_cons.mp hy with rfl | hy
      · exact Int.le_refl _
      · exact ratio_trans (hp m (List.mem_cons_of_mem _ hm)) (Int.le_of_lt (hp y (List.mem_cons_of_mem _ hy))) (Int.le_of_lt (hp x List.mem_cons_self)) (h y hy) (by omega)
theorem least_ratio : ∀ l : List S78, l ≠ [] → (∀ x ∈ l, 0 < x.f0.f1) → ∃ m ∈ l, ∀ x ∈ l, m.f0.f0 * x.f0.f1 ≤ x.f0.f0 * m.f0.f1
  | [], h, _ => absurd rfl h
  | [x], _, _ => ⟨x, List.mem_cons_self, fun y hy => by obtain rfl : y = x := (by simpa using hy); exact Int.le_refl _⟩
  | x :: z :: l, _, hp => by
    obtain ⟨m, hm, h⟩ := least_ratio (z :: l) (by simp) fun y hy => hp y (List.mem_cons_of_mem _ hy)
    by_cases c : m.f0.f0 * x.f0.f1 ≤ x.f0.f0 * m.f0.f1
    · refine ⟨m, List.mem_cons_of_mem _ hm, fun y hy => ?_⟩
      rcases List.mem_cons.mp hy with rfl | hy
      · exact c
      · exact h y hy
    · refine ⟨x, List.mem_cons_self, fun y hy => ?_⟩
      rcases List.mem_cons.mp hy with rfl | hy
      · exact Int.le_refl _
      · exact ratio_trans (hp m (List.mem_cons_of_mem _ hm)) (Int.le_of_lt (hp x List.mem_cons_self)) (Int.le_of_lt (hp y (List.mem_cons_of_mem _ hy))) (by omega) (h y hy)
theorem effB_iff {L : List S78} {N : List Int} {D : Int} : effB L N D = true ↔ ∀ x ∈ L, ¬ (0 < rd N x.f1 ∧ kindP x = 2) ∧ ¬ (rd N x.f1 < D ∧ kindP x = 0) ∧ ∀ y ∈ L, ¬ (0 < rd N x.f1 ∧ rd N y.f1 < D ∧ x.f0.f0 * y.f0.f1 < y.f0.f0 * x.f0.f1) := by
  simp only [effB, okOne, okPair, List.all_eq_true, Bool.and_eq_true, Bool.not_eq_true', Bool.and_eq_false_iff, decide_eq_false_iff_not]
  constructor
  · intro h x hx
    have hh := h x hx
    refine ⟨fun g => ?_, fun g => ?_, fun y hy g => ?_⟩
    · rcases hh.1.1 with e | e
      · exact e g.1
      · exact e g.2
    · rcases hh.1.2 with e | e
      · exact e g.1
      · exact e g.2
    · rcases hh.2 y hy with (e | e) | e
      · exact e g.1
      · exact e g.2.1
      · exact e g.2.2
  · intro h x hx
    have hh := h x hx
    refine ⟨⟨?_, ?_⟩, fun y hy => ?_⟩
    · by_cases g : 0 < rd N x.f1
      · exact .inr fun k => hh.1 ⟨g, k⟩
      · exact .inl g
    · by_cases g : rd N x.f1 < D
      · exact .inr fun k => hh.2.1 ⟨g, k⟩
      · exact .inl g
    · by_cases g : 0 < rd N x.f1
      · by_cases g2 : rd N y.f1 < D
        · exact .inr fun k => hh.2.2 y hy ⟨g, g2, k⟩
        · exact .inl (.inr g2)
      · exact .inl (.inl g)
theorem eff_cert {L : List S78} {N : List Int} {D : Int} (hv : ∀ x ∈ L, Vl x) (h : effB L N D = true) : ∃ α β : Int, 0 < α ∧ 0 < β ∧ ∀ x ∈ L, (rd N x.f1 < D → α * x.f0.f0 ≤ β * x.f0.f1) ∧ (0 < rd N x.f1 → β * x.f0.f1 ≤ α * x.f0.f0) := by
  rw [effB_iff] at h
  have kA : ∀ x ∈ L, rd N x.f1 < D → 0 < x.f0.f0 → 0 < x.f0.f1 := fun x hx hl ha => by
    have := (h x hx).2.1
    have hvx := hv x hx
    rcases kind_val hvx with ⟨k1, p1, q1⟩ | ⟨k1, p1, q1⟩ | ⟨k1, p1, q1⟩ | ⟨k1, p1, q1⟩
    · exact absurd ⟨hl, k1⟩ this
    · exact q1
    · omega
    · omega
  have kB : ∀ x ∈ L, 0 < rd N x.f1 → 0 < x.f0.f1 → 0 < x.f0.f0 := fun x hx hl ha => by
    have := (h x hx).1
    rcases kind_val (hv x hx) with ⟨k1, p1, q1⟩ | ⟨k1, p1, q1⟩ | ⟨k1, p1, q1⟩ | ⟨k1, p1, q1⟩
    · omega
    · exact p1
    · exact absurd ⟨hl, k1⟩ this
    · omega
  by_cases cA : (L.filter fun x => decide (rd N x.f1 < D) && decide (0 < x.f0.f0)) = []
  · have nA : ∀ x ∈ L, rd N x.f1 < D → x.f0.f0 = 0 := fun x hx hl => by
      have := List.filter_eq_nil_iff.mp cA x hx
      simp only [Bool.and_eq_true, decide_eq_true_eq] at this
      have := (hv x hx).1
      omega
    by_cases cB : (L.filter fun x => decide (0 < rd N x.f1) && decide (0 < x.f0.f1)) = []
    · refine ⟨1, 1, by decide, by decide, fun x hx => ⟨fun hl => ?_, fun hl => ?_⟩⟩
      · rw [nA x hx hl]; have := (hv x hx).2.2.1; omega
      · have := List.filter_eq_nil_iff.mp cB x hx
        simp only [Bool.and_eq_true, decide_eq_true_eq] at this
        have := (hv x hx).1
        omega
    · obtain ⟨m, hm, hbest⟩ := least_ratio _ cB fun x hx => by
        have := List.mem_filter.mp hx
        simp only [Bool.and_eq_true, decide_eq_true_eq] at this
        exact this.2.2
      have hm2 := List.mem_filter.mp hm
      simp only [Bool.and_eq_true, decide_eq_true_eq] at hm2
      refine ⟨m.f0.f1, m.f0.f0, hm2.2.2, kB m hm2.1 hm2.2.1 hm2.2.2, fun x hx => ⟨fun hl => ?_, fun hl => ?_⟩⟩
      · rw [nA x hx hl, Int.mul_zero]; exact Int.mul_nonneg (hv m hm2.1).1 (hv x hx).2.2.1
      · by_cases hb : 0 < x.f0.f1
        · have := hbest x (List.mem_filter.mpr ⟨hx, by simp [hl, hb]⟩)
          rw [Int.mul_comm m.f0.f1]; exact this
        · have e : x.f0.f1 = 0 := by have := (hv x hx).2.2.1; omega
          rw [e, Int.mul_zero]; exact Int.mul_nonneg (hv m hm2.1).2.2.1 (hv x hx).1
  · obtain ⟨m, hm, hbest⟩ := most_ratio _ cA fun x hx => by
      have := List.mem_filter.mp hx
      simp only [Bool.and_eq_true, decide_eq_true_eq] at this
      exact kA x this.1 this.2.1 this.2.2
    have hm2 := List.mem_filter.mp hm
    simp only [Bool.and_eq_true, decide_eq_true_eq] at hm2
    refine ⟨m.f0.f1, m.f0.f0, kA m hm2.1 hm2.2.1 hm2.2.2, hm2.2.2, fun x hx => ⟨fun hl => ?_, fun hl => ?_⟩⟩
    · by_cases hb : 0 < x.f0.f0
      · have := hbest x (List.mem_filter.mpr ⟨hx, by simp [hl, hb]⟩)
        rw [Int.mul_comm m.f0.f1]; exact this
      · have e : x.f0.f0 = 0 := by have := (hv x hx).1; omega
        rw [e, Int.mul_zero]; exact Int.mul_nonneg (hv m hm2.1).1 (hv x hx).2.2.1
    · have := (h x hx).2.2 m hm2.1
      rw [Int.mul_comm m.f0.f1]
      by_cases c : x.f0.f0 * m.f0.f1 < m.f0.f0 * x.f0.f1
      · exact absurd ⟨hl, hm2.2.1, c⟩ this
      · omega
theorem eff_best {a b : List Int} (hc : codeP a b = 0) {x y : List Int} {D D' : Int} (hx : partsOk x D a.length = true) (hy : partsOk y D' a.length = true) (h : effB (ordIn 0 (zipS a b)) x D = true)
    (h1 : dotA (zipS a b) x * D' ≤ dotA (zipS a b) y * D) (h2 : dotB D (zipS a b) x * D' ≤ dotB D' (zipS a b) y * D) : dotA (zipS a b) y * D ≤ dotA (zipS a b) x * D' ∧ dotB D' (zipS a b) y * D ≤ dotB D (zipS a b) x * D' := by
  have h8 := codeP_ok hc
  have z1 := zipS_len a b h8.2.2.2
  have px := partsOk_of hx
  have py := partsOk_of hy
  obtain ⟨α, β, hα, hβ, hw⟩ := eff_cert (fun z hz => (at_all hc z hz).vl) h
  have hs := sum_le (α := α) (β := β) (D := D) (D' := D') (by omega) x y (ordIn 0 (zipS a b)) fun z hz => ⟨(hw z hz).1, (hw z hz).2, rd_bnd (by omega) px.2.2.2 _, rd_bnd (by omega) py.2.2.2 _⟩
  have e1 := dotL_ordIn (zipS a b) x [] (by omega)
  have e2 := dotM_ordIn D (zipS a b) x [] (by omega)
  have e3 := dotL_ordIn (zipS a b) y [] (by omega)
  have e4 := dotM_ordIn D' (zipS a b) y [] (by omega)
  simp only [List.nil_append, List.length_nil] at e1 e2 e3 e4
  rw [e1, e2, e3, e4] at hs
  generalize dotA (zipS a b) x = P at *
  generalize dotA (zipS a b) y = R at *
  generalize dotB D (zipS a b) x = Q at *
  generalize dotB D' (zipS a b) y = T at *
  have f1 : D * (α * R + β * T) = α * (R * D) + β * (T * D) := by grind
  have f2 : D' * (α * P + β * Q) = α * (P * D') + β * (Q * D') := by grind
  have g1 := Int.mul_le_mul_of_nonneg_left h1 (Int.le_of_lt hα)
  have g2 := Int.mul_le_mul_of_nonneg_left h2 (Int.le_of_lt hβ)
  have hA : α * (R * D) ≤ α * (P * D') := by omega
  have hB : β * (T * D) ≤ β * (Q * D') := by omega
  exact ⟨Int.le_of_mul_le_mul_left hA hα, Int.le_of_mul_le_mul_left hB hβ⟩
end Go.Proofs.Ytiafiebalibkdaa.OAll
