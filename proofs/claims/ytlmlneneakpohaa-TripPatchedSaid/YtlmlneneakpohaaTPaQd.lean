/- A part of the proof of 'tripPatched_holds', for every input, without a condition. -/
import Derived.Test.YtlmlneneakpohaaTPaQb
import Derived.Test.YtlmlneneakpohaaTPaOAllx0
import Derived.Test.YtlmlneneakpohaaTPaOAllx4
import Derived.Test.YtlmlneneakpohaaTPaOAllx2
import Derived.Test.YtlmlneneakpohaaTPaOAllx9
import Derived.Test.YtlmlneneakpohaaTPaOAllx15
namespace Go.Proofs.Ytlmlneneakpohaa.OAll
open Go.RowKit Go.Proofs.YtlmlneneakpohaaW.PrintWords Go.Proofs.YtlmlneneakpohaaW.PrintLast Go.Proofs.YtlmlneneakpohaaW.PrintMore
set_option linter.unusedVariables false
set_option linter.unusedSimpArgs false
theorem shl_pow {n : Nat} (h : n ≤ 62) : shl .i64 1 (n : Int) = ((2 ^ n : Nat) : Int) := by
  have hp := pow_small h
  unfold shl
  rw [Int.toNat_natCast, Int.one_mul, show (IntKind.i64.bits) = 64 from rfl, Nat.min_eq_left (by omega), pow_cast, wraps_i64 _ (Int.natCast_nonneg _) (by generalize 2 ^ n = m at hp ⊢; omega)]
theorem shr_pow (a : Nat) {j : Nat} (h : j ≤ 64) : shr .i64 (a : Int) (j : Int) = (a : Int) / 2 ^ j := by
  unfold shr
  rw [Int.toNat_natCast, show (IntKind.i64.bits) = 64 from rfl, Nat.min_eq_left h]
theorem and_bit (a : Nat) (ha : a < 2 ^ 63) {j : Nat} (h : j ≤ 64) : Go.bits .and .i64 (shr .i64 (a : Int) (j : Int)) 1 = if a.testBit j then 1 else 0 := by rw [shr_pow a h, bit_and a j ha]
theorem tmod_bit (a : Nat) {j : Nat} (h : j ≤ 64) : Int.tmod (shr .i64 (a : Int) (j : Int)) 2 = if a.testBit j then 1 else 0 := by rw [shr_pow a h, bit_mod a j]
def climbI (U D a b : Int) : Int := if b > a then U * (b - a) else D * (a - b)
theorem mul_bound {x y : Int} (hx : 0 ≤ x ∧ x ≤ 1000) (hy : 0 ≤ y ∧ y ≤ 1000) : 0 ≤ x * y ∧ x * y ≤ 1000000 := by
  have h1 : 0 ≤ x * y := Int.mul_nonneg hx.1 hy.1
  have h2 : x * y ≤ 1000 * 1000 := Int.mul_le_mul hx.2 hy.2 hy.1 (by decide)
  omega
theorem climbI_bound {U D a b : Int} (hU : 0 ≤ U ∧ U ≤ 1000) (hD : 0 ≤ D ∧ D ≤ 1000) (ha : 0 ≤ a ∧ a ≤ 1000) (hb : 0 ≤ b ∧ b ≤ 1000) : 0 ≤ climbI U D a b ∧ climbI U D a b ≤ 1000000 := by
  unfold climbI
  split
  · exact mul_bound hU (by omega)
  · exact mul_bound hD (by omega)
theorem climb_eq {U D a b : Int} (hU : 0 ≤ U ∧ U ≤ 1000) (hD : 0 ≤ D ∧ D ≤ 1000) (ha : 0 ≤ a ∧ a ≤ 1000) (hb : 0 ≤ b ∧ b ≤ 1000) : trip_hills_climb.f U D a b = some (climbI U D a b) := by
  unfold trip_hills_climb.f climbI
  split
  · have := mul_bound hU (show 0 ≤ b - a ∧ b - a ≤ 1000 by omega)
    rw [w64 (n := b - a) (by omega) (by omega), w64 (by omega) (by omega)]
  · have := mul_bound hD (show 0 ≤ a - b ∧ a - b ≤ 1000 by omega)
    rw [w64 (n := a - b) (by omega) (by omega), w64 (by omega) (by omega)]
def emp (l : List S36) (U D i k : Int) : Int := climbI U D (rd_T36 l i).f1 (rd_T36 l k).f0
theorem Right.get {l : List S36} {U D : Int} (h : Right l U D) {i : Int} (h0 : 0 ≤ i) (h1 : i < (l.length : Int)) : (0 ≤ (rd_T36 l i).f0 ∧ (rd_T36 l i).f0 ≤ 1000) ∧ 0 ≤ (rd_T36 l i).f1 ∧ (rd_T36 l i).f1 ≤ 1000 := by
  obtain ⟨j, rfl⟩ := Int.eq_ofNat_of_zero_le h0
  have hj : j < l.length := by omega
  rw [rd36_get hj]
  have := h.at_ _ (List.getElem_mem hj)
  omega
theorem emp_bound {l : List S36} {U D : Int} (h : Right l U D) {i k : Int} (i0 : 0 ≤ i) (i1 : i < (l.length : Int)) (k0 : 0 ≤ k) (k1 : k < (l.length : Int)) : 0 ≤ emp l U D i k ∧ emp l U D i k ≤ 1000000 :=
  climbI_bound h.U_ h.D_ (h.get i0 i1).2 (h.get k0 k1).1
theorem dempty_eq {l : List S36} {U D : Int} (h : Right l U D) {i k : Int} (i0 : 0 ≤ i) (i1 : i < (l.length : Int)) (k0 : 0 ≤ k) (k1 : k < (l.length : Int)) : trip_day_empty.f U D l i k = some (emp l U D i k) := by
  unfold trip_day_empty.f
  rw [if_pos i0, if_pos i1, if_pos k0, if_pos k1, climb_eq h.U_ h.D_ (h.get i0 i1).2 (h.get k0 k1).1]
  rfl
def sumE (f : Nat → Int) : Nat → Int
  | 0 => 0
  | n + 1 => sumE f n + f n
theorem sumE_bound {f : Nat → Int} {B : Int} : ∀ n : Nat, (∀ j, j < n → 0 ≤ f j ∧ f j ≤ B) → 0 ≤ sumE f n ∧ sumE f n ≤ n * B
  | 0, _ => by simp [sumE]
  | n + 1, h => by
    have := sumE_bound n (fun j hj => h j (by omega))
    have h2 := h n (by omega)
    have e : ((n + 1 : Nat) : Int) * B = n * B + B := by push_cast; grind
    simp only [sumE, e]
    omega
theorem rd_mem {o : List Int} {j : Nat} (h : j < o.length) : rd o (j : Int) ∈ o := by rw [rd_get h]; exact List.getElem_mem h
def IsOrd (n : Nat) (o : List Int) : Prop := (∀ x ∈ o, 0 ≤ x ∧ x < (n : Int)) ∧ o.Nodup ∧ o.length = n
instance (n : Nat) (o : List Int) : Decidable (IsOrd n o) := by unfold IsOrd; infer_instance
end Go.Proofs.Ytlmlneneakpohaa.OAll
