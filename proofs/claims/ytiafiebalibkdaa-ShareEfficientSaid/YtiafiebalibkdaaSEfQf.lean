/- A part of the proof of 'shareEfficient_holds', for every input, without a condition. -/
import Derived.Test.YtiafiebalibkdaaSEfQe
namespace Go.Proofs.Ytiafiebalibkdaa.OAll
open Go.RowKit Go.Proofs.YtiafiebalibkdaaW.PrintWords Go.Proofs.YtiafiebalibkdaaW.PrintLast Go.Proofs.YtiafiebalibkdaaW.PrintMore
set_option linter.unusedVariables false
set_option linter.unusedSimpArgs false
def Vl (x : S78) : Prop := 0 ≤ x.f0.f0 ∧ x.f0.f0 ≤ 100 ∧ 0 ≤ x.f0.f1 ∧ x.f0.f1 ≤ 100
theorem mul_le_104 {x y : Int} (hx : 0 ≤ x) (hx' : x ≤ 100) (hy : 0 ≤ y) (hy' : y ≤ 100) : 0 ≤ x * y ∧ x * y ≤ 10000 :=
  ⟨Int.mul_nonneg hx hy, Int.le_trans (Int.mul_le_mul_of_nonneg_right hx' hy) (by omega)⟩
theorem aheadP_iff {x y : S78} (hx : Vl x) (hy : Vl y) : aheadP x y = true ↔ y.f0.f0 * x.f0.f1 < x.f0.f0 * y.f0.f1 := by
  have h1 := mul_le_104 hx.1 hx.2.1 hy.2.2.1 hy.2.2.2
  have h2 := mul_le_104 hy.1 hy.2.1 hx.2.2.1 hx.2.2.2
  rw [aheadP, decide_eq_true_eq, w64 (by omega) (by omega), w64 (by omega) (by omega)]
theorem kindP_range (x : S78) : 0 ≤ kindP x ∧ kindP x ≤ 3 := by unfold kindP; split <;> split <;> omega
theorem ltP_iff {x y : S78} (hx : Vl x) (hy : Vl y) : ltP x y = true ↔ kindP x < kindP y ∨ (kindP x = kindP y ∧ y.f0.f0 * x.f0.f1 < x.f0.f0 * y.f0.f1) := by
  have r1 := kindP_range x
  have r2 := kindP_range y
  rw [ltP, decide_eq_true_eq, pcmp]
  by_cases h : kindP x = kindP y
  · rw [if_pos h]
    by_cases ha : aheadP x y = true
    · rw [if_pos ha]
      exact ⟨fun _ => .inr ⟨h, (aheadP_iff hx hy).mp ha⟩, fun _ => by decide⟩
    · rw [if_neg ha]
      have hn : ¬ (y.f0.f0 * x.f0.f1 < x.f0.f0 * y.f0.f1) := fun hh => ha ((aheadP_iff hx hy).mpr hh)
      constructor
      · intro hh; exfalso
        by_cases hb : aheadP y x = true
        · rw [if_pos hb] at hh; omega
        · rw [if_neg hb] at hh; omega
      · rintro (hh | ⟨_, hh⟩)
        · omega
        · exact absurd hh hn
  · rw [if_neg h, w64 (by omega) (by omega)]
    constructor
    · intro hh; left; omega
    · rintro (hh | ⟨hh, _⟩)
      · omega
      · exact absurd hh h
def Ord (x y : S78) : Prop := kindP x < kindP y ∨ (kindP x = kindP y ∧ y.f0.f0 * x.f0.f1 ≤ x.f0.f0 * y.f0.f1)
theorem Ord_iff {x y : S78} (hx : Vl x) (hy : Vl y) : Ord x y ↔ ¬ ltP y x = true := by
  have r1 := kindP_range x
  have r2 := kindP_range y
  rw [ltP_iff hy hx, Ord]
  constructor
  · rintro (h | ⟨h, h'⟩) (g | ⟨g, g'⟩) <;> omega
  · intro h
    by_cases hk : kindP x < kindP y
    · exact .inl hk
    · right
      have : kindP x = kindP y := by
        by_cases e : kindP y < kindP x
        · exact absurd (.inl e) h
        · omega
      refine ⟨this, ?_⟩
      by_cases e : y.f0.f0 * x.f0.f1 ≤ x.f0.f0 * y.f0.f1
      · exact e
      · exact absurd (.inr ⟨this.symm, by omega⟩) h
theorem kind_val {x : S78} (hx : Vl x) : (kindP x = 0 ∧ 0 < x.f0.f0 ∧ x.f0.f1 = 0) ∨ (kindP x = 1 ∧ 0 < x.f0.f0 ∧ 0 < x.f0.f1) ∨ (kindP x = 2 ∧ x.f0.f0 = 0 ∧ 0 < x.f0.f1) ∨ (kindP x = 3 ∧ x.f0.f0 = 0 ∧ x.f0.f1 = 0) := by
  unfold Vl at hx
  generalize hk : kindP x = k
  unfold kindP at hk
  split at hk <;> split at hk <;> omega
theorem Ord_trans {x y z : S78} (hx : Vl x) (hy : Vl y) (hz : Vl z) (h : Ord x y) (h' : Ord y z) : Ord x z := by
  rcases h with h | ⟨h, g⟩
  · rcases h' with h' | ⟨h', g'⟩
    · exact .inl (by omega)
    · exact .inl (by omega)
  · rcases h' with h' | ⟨h', g'⟩
    · exact .inl (by omega)
    · refine .inr ⟨by omega, ?_⟩
      rcases kind_val hy with ⟨k, p, q⟩ | ⟨k, p, q⟩ | ⟨k, p, q⟩ | ⟨k, p, q⟩
      · rcases kind_val hz with ⟨k2, p2, q2⟩ | ⟨k2, p2, q2⟩ | ⟨k2, p2, q2⟩ | ⟨k2, p2, q2⟩ <;> rcases kind_val hx with ⟨k3, p3, q3⟩ | ⟨k3, p3, q3⟩ | ⟨k3, p3, q3⟩ | ⟨k3, p3, q3⟩ <;> (first | omega | (rw [q2, q3]; simp))
      ·
        have e1 : z.f0.f0 * x.f0.f1 * y.f0.f1 ≤ x.f0.f0 * z.f0.f1 * y.f0.f1 := by
          have t1 : z.f0.f0 * y.f0.f1 * x.f0.f1 ≤ y.f0.f0 * z.f0.f1 * x.f0.f1 := Int.mul_le_mul_of_nonneg_right g' hx.2.2.1
          have t2 : y.f0.f0 * x.f0.f1 * z.f0.f1 ≤ x.f0.f0 * y.f0.f1 * z.f0.f1 := Int.mul_le_mul_of_nonneg_right g hz.2.2.1
          have u1 : z.f0.f0 * x.f0.f1 * y.f0.f1 = z.f0.f0 * y.f0.f1 * x.f0.f1 := by rw [Int.mul_assoc, Int.mul_comm x.f0.f1, ← Int.mul_assoc]
          have u2 : y.f0.f0 * z.f0.f1 * x.f0.f1 = y.f0.f0 * x.f0.f1 * z.f0.f1 := by rw [Int.mul_assoc, Int.mul_comm z.f0.f1, ← Int.mul_assoc]
          have u3 : x.f0.f0 * z.f0.f1 * y.f0.f1 = x.f0.f0 * y.f0.f1 * z.f0.f1 := by rw [Int.mul_assoc, Int.mul_comm z.f0.f1, ← Int.mul_assoc]
          omega
        exact Int.le_of_mul_le_mul_right e1 q
      · rcases kind_val hz with ⟨k2, p2, q2⟩ | ⟨k2, p2, q2⟩ | ⟨k2, p2, q2⟩ | ⟨k2, p2, q2⟩ <;> rcases kind_val hx with ⟨k3, p3, q3⟩ | ⟨k3, p3, q3⟩ | ⟨k3, p3, q3⟩ | ⟨k3, p3, q3⟩ <;> (first | omega | (rw [p2, p3]; simp))
      · rcases kind_val hz with ⟨k2, p2, q2⟩ | ⟨k2, p2, q2⟩ | ⟨k2, p2, q2⟩ | ⟨k2, p2, q2⟩ <;> rcases kind_val hx with ⟨k3, p3, q3⟩ | ⟨k3, p3, q3⟩ | ⟨k3, p3, q3⟩ | ⟨k3, p3, q3⟩ <;> (first | omega | (rw [p2, p3]; simp))
theorem insR_perm (x : S78) : ∀ A B : List S78, (insR x A B).Perm (x :: (A.reverse ++ B))
  | [], B => .refl _
  | p :: A, B => by
    rw [insR]
    split
    · have := insR_perm x A (p :: B)
      simpa using this
    · have : (A.reverse ++ p :: x :: B).Perm (x :: (A.reverse ++ p :: B)) := by
        rw [show A.reverse ++ p :: x :: B = (A.reverse ++ [p]) ++ x :: B by simp, show A.reverse ++ p :: B = (A.reverse ++ [p]) ++ B by simp]
        exact List.perm_middle
      simpa using this
theorem isort_perm : ∀ (t acc : List S78), (isort acc t).Perm (acc ++ t)
  | [], acc => by simp [isort]
  | x :: t, acc => by
    rw [isort]
    refine (isort_perm t _).trans ?_
    have := (insR_perm x acc.reverse []).append_right t
    rw [List.reverse_reverse, List.append_nil] at this
    exact this.trans (by rw [List.cons_append]; exact List.perm_middle.symm)
theorem insR_ord (x : S78) (hx : Vl x) : ∀ A B : List S78, (∀ y ∈ A, Vl y) → (∀ y ∈ B, Vl y) → (A.reverse ++ B).Pairwise Ord → (∀ y ∈ B, ltP x y = true) → (insR x A B).Pairwise Ord
  | [], B, _, hB, hp, hl => by
    rw [insR, List.pairwise_cons]
    refine ⟨fun y hy => ?_, by simpa using hp⟩
    rcases (ltP_iff hx (hB y hy)).mp (hl y hy) with h | ⟨h, h'⟩
    · exact .inl h
    · exact .inr ⟨h, by omega⟩
  | p :: A, B, hA, hB, hp, hl => by
    rw [insR]
    by_cases h : ltP x p = true
    · rw [if_pos h]
      refine insR_ord x hx A (p :: B) (fun y hy => hA y (List.mem_cons_of_mem _ hy)) (fun y hy => ?_) (by simpa using hp) (fun y hy => ?_)
      · rcases List.mem_cons.mp hy with rfl | hy
        · exact hA _ List.mem_cons_self
        · exact hB y hy
      · rcases List.mem_cons.mp hy with rfl | hy
        · exact h
        · exact hl y hy
    · rw [if_neg h]
      have hpx : Ord p x := (Ord_iff (hA p List.mem_cons_self) hx).mpr h
      have hp' : (A.reverse ++ p :: B).Pairwise Ord := by simpa using hp
      rw [List.pairwise_append, List.pairwise_cons] at hp'
      obtain ⟨q1, ⟨q2, q3⟩, q4⟩ := hp'
      have hxB : ∀ y ∈ B, Ord x y := fun y hy => by
        rcases (ltP_iff hx (hB y hy)).mp (hl y hy) with h | ⟨h, h'⟩
        · exact .inl h
        · exact .inr ⟨h, by omega⟩
      rw [List.pairwise_append, List.pairwise_cons, List.pairwise_cons]
      refine ⟨q1, ⟨fun y hy => ?_, hxB, q3⟩, fun a ha y hy => ?_⟩
      · rcases List.mem_cons.mp hy with rfl | hy
        · exact hpx
        · exact q2 y hy
      · rcases List.mem_cons.mp hy with rfl | hy
        · exact q4 a ha _ List.mem_cons_self
        rcases List.mem_cons.mp hy with rfl | hy
        · exact Ord_trans (hA a (List.mem_cons_of_mem _ (by simpa using ha))) (hA p List.mem_cons_self) hx (q4 a ha p List.mem_cons_self) hpx
        · exact q4 a ha y (List.mem_cons_of_mem _ hy)
theorem isort_ord : ∀ (t acc : List S78), (∀ y ∈ acc, Vl y) → (∀ y ∈ t, Vl y) → acc.Pairwise Ord → (isort acc t).Pairwise Ord
  | [], acc, _, _, h => h
  | x :: t, acc, ha, ht, h => by
    rw [isort]
    have hx := ht x List.mem_cons_self
    refine isort_ord t _ (fun y hy => ?_) (fun y hy => ht y (List.mem_cons_of_mem _ hy)) (insR_ord x hx acc.reverse [] (fun y hy => ha y (by simpa using hy)) (fun y hy => by cases hy) (by simpa using h) (fun y hy => by cases hy))
    have := (insR_perm x acc.reverse []).mem_iff.mp hy
    rcases List.mem_cons.mp this with rfl | h'
    · exact hx
    · exact ha y (by simpa using h')
end Go.Proofs.Ytiafiebalibkdaa.OAll
