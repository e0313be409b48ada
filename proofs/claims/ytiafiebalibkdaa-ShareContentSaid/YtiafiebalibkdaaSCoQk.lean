/- A part of the proof of 'shareContent_holds', for every input, without a condition. -/
import Derived.Test.YtiafiebalibkdaaSCoQi
import Derived.Test.YtiafiebalibkdaaSCoQd
import Derived.Test.YtiafiebalibkdaaSCoOAllx0
import Derived.Test.YtiafiebalibkdaaSCoOAllx1
import Derived.Test.YtiafiebalibkdaaSCoOAllx4
import Derived.Test.YtiafiebalibkdaaSCoOAllx7
import Derived.Test.YtiafiebalibkdaaSCoOAllx8
import Derived.Test.YtiafiebalibkdaaSCoOAllx10
namespace Go.Proofs.Ytiafiebalibkdaa.OAll
open Go.RowKit Go.Proofs.YtiafiebalibkdaaW.PrintWords Go.Proofs.YtiafiebalibkdaaW.PrintLast Go.Proofs.YtiafiebalibkdaaW.PrintMore
set_option linter.unusedVariables false
set_option linter.unusedSimpArgs false
def dotL : List S78 → List Int → Int
  | [], _ => 0
  | x :: t, l => x.f0.f0 * rd l x.f1 + dotL t l
def dotM (D : Int) : List S78 → List Int → Int
  | [], _ => 0
  | x :: t, l => x.f0.f1 * (D - rd l x.f1) + dotM D t l
theorem term_le {α β A B D D' n n' : Int} (hD : 0 ≤ D) (hn : 0 ≤ n' ∧ n' ≤ D') (h1 : n < D → α * A ≤ β * B) (h2 : 0 < n → β * B ≤ α * A) (hb : 0 ≤ n ∧ n ≤ D) :
    D * (α * (A * n') + β * (B * (D' - n'))) ≤ D' * (α * (A * n) + β * (B * (D - n))) := by
  have key : 0 ≤ (α * A - β * B) * (D' * n - D * n') := by
    by_cases e1 : α * A = β * B
    · rw [e1, Int.sub_self, Int.zero_mul]; exact Int.le_refl _
    · by_cases e2 : β * B < α * A
      · have hnD : n = D := by
          by_cases hh : n < D
          · have := h1 hh; omega
          · omega
        rw [hnD]
        have : D' * D - D * n' = D * (D' - n') := by grind
        rw [this]
        exact Int.mul_nonneg (by omega) (Int.mul_nonneg hD (by omega))
      · have hn0 : n = 0 := by
          by_cases hh : 0 < n
          · have := h2 hh; omega
          · omega
        rw [hn0]
        have : (α * A - β * B) * (D' * 0 - D * n') = (β * B - α * A) * (D * n') := by grind
        rw [this]
        exact Int.mul_nonneg (by omega) (Int.mul_nonneg hD hn.1)
  have e : D' * (α * (A * n) + β * (B * (D - n))) - D * (α * (A * n') + β * (B * (D' - n'))) = (α * A - β * B) * (D' * n - D * n') := by grind
  omega
theorem sum_le {α β D D' : Int} (hD : 0 ≤ D) (N l : List Int) : ∀ t : List S78, (∀ x ∈ t, (rd N x.f1 < D → α * x.f0.f0 ≤ β * x.f0.f1) ∧ (0 < rd N x.f1 → β * x.f0.f1 ≤ α * x.f0.f0) ∧ (0 ≤ rd N x.f1 ∧ rd N x.f1 ≤ D) ∧ (0 ≤ rd l x.f1 ∧ rd l x.f1 ≤ D')) →
    D * (α * dotL t l + β * dotM D' t l) ≤ D' * (α * dotL t N + β * dotM D t N)
  | [], _ => by simp [dotL, dotM]
  | x :: t, h => by
    have hx := h x List.mem_cons_self
    have ih := sum_le hD N l t fun y hy => h y (List.mem_cons_of_mem _ hy)
    have h1 := term_le (α := α) (β := β) hD hx.2.2.2 hx.1 hx.2.1 hx.2.2.1
    simp only [dotL, dotM]
    have e1 : ∀ d u U v V : Int, d * (α * (u + U) + β * (v + V)) = d * (α * u + β * v) + d * (α * U + β * V) := by intros; grind
    rw [e1, e1]
    exact Int.add_le_add h1 ih
structure Cert (L : List S78) (N : List Int) (D S : Int) : Prop where
  d0 : 0 < D
  d200 : D ≤ 200
  bn : ∀ x ∈ N, 0 ≤ x ∧ x ≤ D
  sa : dotL L N = S
  sb : dotM D L N = S
  w : ∃ α β : Int, 0 ≤ α ∧ 0 ≤ β ∧ 0 < α + β ∧ ∀ x ∈ L, (rd N x.f1 < D → α * x.f0.f0 ≤ β * x.f0.f1) ∧ (0 < rd N x.f1 → β * x.f0.f1 ≤ α * x.f0.f0)
  ef : ∀ i ∈ L, ∀ k ∈ L, rd N i.f1 < D → 0 < rd N k.f1 → i.f0.f0 * k.f0.f1 ≤ k.f0.f0 * i.f0.f1
  k0 : ∀ i ∈ L, kindP i = 0 → rd N i.f1 = D
  k2 : ∀ i ∈ L, kindP i = 2 → rd N i.f1 = 0
  one : ∃ x ∈ L, ∀ y ∈ L, y.f1 ≠ x.f1 → rd N y.f1 = 0 ∨ rd N y.f1 = D
theorem rd_bnd {N : List Int} {D : Int} (hD : 0 ≤ D) (h : ∀ x ∈ N, 0 ≤ x ∧ x ≤ D) (i : Int) : 0 ≤ rd N i ∧ rd N i ≤ D := by
  simp only [rd, List.getD_eq_getElem?_getD]
  cases e : N[i.toNat]? with
  | none => exact ⟨Int.le_refl _, hD⟩
  | some x => exact h x (List.mem_of_getElem? e)
theorem Cert.best {L : List S78} {N : List Int} {D S : Int} (c : Cert L N D S) {l : List Int} {D' : Int} (hD' : 0 ≤ D') (hl : ∀ x ∈ l, 0 ≤ x ∧ x ≤ D') : ¬ (S * D' < dotL L l * D ∧ S * D' < dotM D' L l * D) := by
  rintro ⟨h1, h2⟩
  obtain ⟨α, β, hα, hβ, hs, hw⟩ := c.w
  have h := sum_le (α := α) (β := β) (Int.le_of_lt c.d0) N l L fun x hx => ⟨(hw x hx).1, (hw x hx).2, rd_bnd (Int.le_of_lt c.d0) c.bn _, rd_bnd hD' hl _⟩
  rw [c.sa, c.sb] at h
  have m1 := Int.mul_le_mul_of_nonneg_left (show S * D' + 1 ≤ dotL L l * D by omega) hα
  have m2 := Int.mul_le_mul_of_nonneg_left (show S * D' + 1 ≤ dotM D' L l * D by omega) hβ
  have e1 : D * (α * dotL L l + β * dotM D' L l) = α * (dotL L l * D) + β * (dotM D' L l * D) := by grind
  have e2 : D' * (α * S + β * S) = α * (S * D' + 1) + β * (S * D' + 1) - (α + β) := by grind
  omega
end Go.Proofs.Ytiafiebalibkdaa.OAll
