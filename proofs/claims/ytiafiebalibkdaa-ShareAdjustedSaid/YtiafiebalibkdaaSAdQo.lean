/- A part of the proof of 'shareAdjusted_holds', for every input, without a condition. -/
import Derived.Test.YtiafiebalibkdaaSAdQn
namespace Go.Proofs.Ytiafiebalibkdaa.OAll
open Go.RowKit Go.Proofs.YtiafiebalibkdaaW.PrintWords Go.Proofs.YtiafiebalibkdaaW.PrintLast Go.Proofs.YtiafiebalibkdaaW.PrintMore
set_option linter.unusedVariables false
set_option linter.unusedSimpArgs false
theorem low_spec {S D : Int} (hS : 0 ≤ S) (hD : 0 < D) : ∃ h : Int, 0 < h ∧ (lowR S D).1 * h = S ∧ (lowR S D).2 * h = D ∧ 0 ≤ (lowR S D).1 ∧ (lowR S D).1 ≤ S ∧ 1 ≤ (lowR S D).2 ∧ (lowR S D).2 ≤ D := by
  unfold lowR
  obtain ⟨g, hg⟩ : ∃ g : Nat, g = S.natAbs.gcd D.natAbs := ⟨_, rfl⟩
  rw [← hg]
  have gp : 0 < g := by rw [hg]; exact Nat.gcd_pos_of_pos_right _ (by omega)
  have d1 : (g : Int) ∣ S := Int.ofNat_dvd_left.mpr (by rw [hg]; exact Nat.gcd_dvd_left _ _)
  have d2 : (g : Int) ∣ D := Int.ofNat_dvd_left.mpr (by rw [hg]; exact Nat.gcd_dvd_right _ _)
  have e1 : Int.tdiv S g * g = S := Int.tdiv_mul_cancel d1
  have e2 : Int.tdiv D g * g = D := Int.tdiv_mul_cancel d2
  have n1 : 0 ≤ Int.tdiv S g := Int.tdiv_nonneg hS (by omega)
  have n2 : 0 ≤ Int.tdiv D g := Int.tdiv_nonneg (by omega) (by omega)
  have p2 : 1 ≤ Int.tdiv D g := by
    by_cases h : Int.tdiv D g = 0
    · rw [h] at e2; omega
    · omega
  have m1 := Int.mul_le_mul_of_nonneg_left (show 1 ≤ (g : Int) by omega) n1
  have m2 := Int.mul_le_mul_of_nonneg_left (show 1 ≤ (g : Int) by omega) n2
  exact ⟨g, by omega, e1, e2, n1, by omega, p2, by omega⟩
theorem rd_rep {n : Nat} {i : Int} (v : Int) (h0 : 0 ≤ i) (h : i < (n : Int)) : rd (List.replicate n v) i = v := by
  have hj : i.toNat < (List.replicate n v).length := by rw [List.length_replicate]; omega
  have := rd_get hj
  rw [show ((i.toNat : Nat) : Int) = i by omega] at this
  rw [this]; simp
theorem half_le {a b : List Int} (hc : codeP a b = 0) : 100 * (winN a b).2.1 ≤ (winN a b).2.2 * 2 := by
  have h8 := codeP_ok hc
  have hA := h8.2.1
  have hB := h8.2.2.1
  rw [okP, Bool.and_eq_true, decide_eq_true_eq] at hA hB
  have hr : ∀ y ∈ ordIn 0 (zipS a b), rd (List.replicate a.length 1) y.f1 = 1 := fun y hy => rd_rep 1 (at_all hc y hy).n0 (at_all hc y hy).na
  have hb := (winN_cert hc).best (l := List.replicate a.length 1) (D' := 2) (by decide) (fun x hx => by rw [List.eq_of_mem_replicate hx]; decide)
  rw [dotL_const _ 1 _ hr, dotM_const 2 _ 1 _ hr, sumA_ordIn a b 0 h8.2.2.2, sumB_ordIn a b 0 h8.2.2.2, hA.2, hB.2] at hb
  by_cases h : 100 * (winN a b).2.1 ≤ (winN a b).2.2 * 2
  · exact h
  · exact absurd ⟨by omega, by omega⟩ hb
def bitsL (s : Nat) : Nat → Nat → List Int
  | _, 0 => []
  | i, n + 1 => (if s.testBit i then 1 else 0) :: bitsL s (i + 1) n
theorem bitsL_len (s : Nat) : ∀ (n i : Nat), (bitsL s i n).length = n
  | 0, _ => rfl
  | n + 1, i => by rw [bitsL, List.length_cons, bitsL_len s n]
theorem bitsL_in (s : Nat) : ∀ (n i : Nat), ∀ x ∈ bitsL s i n, 0 ≤ x ∧ x ≤ 1
  | n + 1, i, x, hx => by
    rw [bitsL] at hx
    rcases List.mem_cons.mp hx with rfl | hx
    · split <;> decide
    · exact bitsL_in s n (i + 1) x hx
theorem dotA_bits (s : Nat) : ∀ (a b : List Int) (i : Nat), a.length = b.length → dotA (zipS a b) (bitsL s i a.length) = sumP s i a
  | [], [], _, _ => rfl
  | x :: a, y :: b, i, h => by
    rw [List.length_cons, bitsL, zipS, dotA, sumP, dotA_bits s a b (i + 1) (by simpa using h)]
    cases s.testBit i <;> simp
  | [], y :: b, _, h => by simp at h
  | x :: a, [], _, h => by simp at h
theorem dotB_bits (s : Nat) : ∀ (a b : List Int) (i : Nat), a.length = b.length → dotB 1 (zipS a b) (bitsL s i a.length) = sumQ s i b
  | [], [], _, _ => rfl
  | x :: a, y :: b, i, h => by
    rw [List.length_cons, bitsL, zipS, dotB, sumQ, dotB_bits s a b (i + 1) (by simpa using h)]
    cases s.testBit i <;> simp
  | [], y :: b, _, h => by simp at h
  | x :: a, [], _, h => by simp at h
theorem best_dots {a b : List Int} (hc : codeP a b = 0) {l : List Int} {D' : Int} (hl : l.length = a.length) (hD' : 0 ≤ D') (hb : ∀ x ∈ l, 0 ≤ x ∧ x ≤ D') : ¬ ((winN a b).2.2 * D' < dotA (zipS a b) l * (winN a b).2.1 ∧ (winN a b).2.2 * D' < dotB D' (zipS a b) l * (winN a b).2.1) := by
  have h8 := codeP_ok hc
  have z1 := zipS_len a b h8.2.2.2
  have h := (winN_cert hc).best hD' hb
  have e1 := dotL_ordIn (zipS a b) l [] (by omega)
  have e2 := dotM_ordIn D' (zipS a b) l [] (by omega)
  simp only [List.nil_append, List.length_nil] at e1 e2
  rw [e1, e2] at h
  exact h
theorem whole_win {a b : List Int} (hc : codeP a b = 0) (s : Nat) : minS a b s * (winN a b).2.1 ≤ (winN a b).2.2 := by
  have h8 := codeP_ok hc
  have c := winN_cert hc
  have h := best_dots hc (bitsL_len s a.length 0) (show (0 : Int) ≤ 1 by decide) (bitsL_in s a.length 0)
  rw [dotA_bits s a b 0 h8.2.2.2, dotB_bits s a b 0 h8.2.2.2, Int.mul_one] at h
  have d := c.d0
  have hm : minS a b s ≤ sumP s 0 a ∧ minS a b s ≤ sumQ s 0 b := by unfold minS mn; split <;> omega
  have m1 := Int.mul_le_mul_of_nonneg_right hm.1 (Int.le_of_lt d)
  have m2 := Int.mul_le_mul_of_nonneg_right hm.2 (Int.le_of_lt d)
  by_cases h1 : (winN a b).2.2 < sumP s 0 a * (winN a b).2.1
  · by_cases h2 : (winN a b).2.2 < sumQ s 0 b * (winN a b).2.1
    · exact absurd ⟨h1, h2⟩ h
    · omega
  · omega
theorem effB_iff {L : List S78} {N : List Int} {D : Int} : effB L N D = true ↔ ∀ x ∈ L, ¬ (0 < rd N x.f1 ∧ kindP x = 2) ∧ ¬ (rd N x.f1 < D ∧ kindP x = 0) ∧ ∀ y ∈ L, ¬ (0 < rd N x.f1 ∧ rd N y.f1 < D ∧ x.f0.f0 * y.f0.f1 < y.f0.f0 * x.f0.f1) := by
  simp only [effB, okOne, okPair, List.all_eq_true, Bool.and_eq_true, Bool.not_eq_true', Bool.and_eq_false_iff, decide_eq_false_iff_not]
  constructor
  · intro h x hx
    have hh := h x hx
    refine ⟨fun g => ?_, fun g => ?_, fun y hy g => ?_⟩
    · rcases hh.1.1 with e | e
      · exact e g.1
      · exact e g.2
    · rcases hh.1.2 with e | e
      · exact e g.1
      · exact e g.2
    · rcases hh.2 y hy with (e | e) | e
      · exact e g.1
      · exact e g.2.1
      · exact e g.2.2
  · intro h x hx
    have hh := h x hx
    refine ⟨⟨?_, ?_⟩, fun y hy => ?_⟩
    · by_cases g : 0 < rd N x.f1
      · exact .inr fun k => hh.1 ⟨g, k⟩
      · exact .inl g
    · by_cases g : rd N x.f1 < D
      · exact .inr fun k => hh.2.1 ⟨g, k⟩
      · exact .inl g
    · by_cases g : 0 < rd N x.f1
      · by_cases g2 : rd N y.f1 < D
        · exact .inr fun k => hh.2.2 y hy ⟨g, g2, k⟩
        · exact .inl (.inr g2)
      · exact .inl (.inl g)
end Go.Proofs.Ytiafiebalibkdaa.OAll
