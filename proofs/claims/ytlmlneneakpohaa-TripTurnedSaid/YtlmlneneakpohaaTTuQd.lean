/- A part of the proof of 'tripTurned_holds', for every input, without a condition. -/
import Derived.Test.YtlmlneneakpohaaTTuQb
import Derived.Test.YtlmlneneakpohaaTTuOAllx0
import Derived.Test.YtlmlneneakpohaaTTuOAllx4
import Derived.Test.YtlmlneneakpohaaTTuOAllx2
import Derived.Test.YtlmlneneakpohaaTTuOAllx9
import Derived.Test.YtlmlneneakpohaaTTuOAllx8
import Derived.Test.YtlmlneneakpohaaTTuOAllx3
namespace Go.Proofs.Ytlmlneneakpohaa.OAll
open Go.RowKit Go.Proofs.YtlmlneneakpohaaW.PrintWords Go.Proofs.YtlmlneneakpohaaW.PrintLast Go.Proofs.YtlmlneneakpohaaW.PrintMore
set_option linter.unusedVariables false
set_option linter.unusedSimpArgs false
theorem shl_pow {n : Nat} (h : n ≤ 62) : shl .i64 1 (n : Int) = ((2 ^ n : Nat) : Int) := by
  have hp := pow_small h
  unfold shl
  rw [Int.toNat_natCast, Int.one_mul, show (IntKind.i64.bits) = 64 from rfl, Nat.min_eq_left (by omega), pow_cast, wraps_i64 _ (Int.natCast_nonneg _) (by generalize 2 ^ n = m at hp ⊢; omega)]
theorem shr_pow (a : Nat) {j : Nat} (h : j ≤ 64) : shr .i64 (a : Int) (j : Int) = (a : Int) / 2 ^ j := by
  unfold shr
  rw [Int.toNat_natCast, show (IntKind.i64.bits) = 64 from rfl, Nat.min_eq_left h]
theorem and_bit (a : Nat) (ha : a < 2 ^ 63) {j : Nat} (h : j ≤ 64) : Go.bits .and .i64 (shr .i64 (a : Int) (j : Int)) 1 = if a.testBit j then 1 else 0 := by rw [shr_pow a h, bit_and a j ha]
def climbI (U D a b : Int) : Int := if b > a then U * (b - a) else D * (a - b)
theorem mul_bound {x y : Int} (hx : 0 ≤ x ∧ x ≤ 1000) (hy : 0 ≤ y ∧ y ≤ 1000) : 0 ≤ x * y ∧ x * y ≤ 1000000 := by
  have h1 : 0 ≤ x * y := Int.mul_nonneg hx.1 hy.1
  have h2 : x * y ≤ 1000 * 1000 := Int.mul_le_mul hx.2 hy.2 hy.1 (by decide)
  omega
theorem climbI_bound {U D a b : Int} (hU : 0 ≤ U ∧ U ≤ 1000) (hD : 0 ≤ D ∧ D ≤ 1000) (ha : 0 ≤ a ∧ a ≤ 1000) (hb : 0 ≤ b ∧ b ≤ 1000) : 0 ≤ climbI U D a b ∧ climbI U D a b ≤ 1000000 := by
  unfold climbI
  split
  · exact mul_bound hU (by omega)
  · exact mul_bound hD (by omega)
theorem climb_eq {U D a b : Int} (hU : 0 ≤ U ∧ U ≤ 1000) (hD : 0 ≤ D ∧ D ≤ 1000) (ha : 0 ≤ a ∧ a ≤ 1000) (hb : 0 ≤ b ∧ b ≤ 1000) : trip_hills_climb.f U D a b = some (climbI U D a b) := by
  unfold trip_hills_climb.f climbI
  split
  · have := mul_bound hU (show 0 ≤ b - a ∧ b - a ≤ 1000 by omega)
    rw [w64 (n := b - a) (by omega) (by omega), w64 (by omega) (by omega)]
  · have := mul_bound hD (show 0 ≤ a - b ∧ a - b ≤ 1000 by omega)
    rw [w64 (n := a - b) (by omega) (by omega), w64 (by omega) (by omega)]
def emp (l : List S36) (U D i k : Int) : Int := climbI U D (rd_T36 l i).f1 (rd_T36 l k).f0
theorem Right.get {l : List S36} {U D : Int} (h : Right l U D) {i : Int} (h0 : 0 ≤ i) (h1 : i < (l.length : Int)) : (0 ≤ (rd_T36 l i).f0 ∧ (rd_T36 l i).f0 ≤ 1000) ∧ 0 ≤ (rd_T36 l i).f1 ∧ (rd_T36 l i).f1 ≤ 1000 := by
  obtain ⟨j, rfl⟩ := Int.eq_ofNat_of_zero_le h0
  have hj : j < l.length := by omega
  rw [rd36_get hj]
  have := h.at_ _ (List.getElem_mem hj)
  omega
theorem emp_bound {l : List S36} {U D : Int} (h : Right l U D) {i k : Int} (i0 : 0 ≤ i) (i1 : i < (l.length : Int)) (k0 : 0 ≤ k) (k1 : k < (l.length : Int)) : 0 ≤ emp l U D i k ∧ emp l U D i k ≤ 1000000 :=
  climbI_bound h.U_ h.D_ (h.get i0 i1).2 (h.get k0 k1).1
theorem dempty_eq {l : List S36} {U D : Int} (h : Right l U D) {i k : Int} (i0 : 0 ≤ i) (i1 : i < (l.length : Int)) (k0 : 0 ≤ k) (k1 : k < (l.length : Int)) : trip_day_empty.f U D l i k = some (emp l U D i k) := by
  unfold trip_day_empty.f
  rw [if_pos i0, if_pos i1, if_pos k0, if_pos k1, climb_eq h.U_ h.D_ (h.get i0 i1).2 (h.get k0 k1).1]
  rfl
def sumE (f : Nat → Int) : Nat → Int
  | 0 => 0
  | n + 1 => sumE f n + f n
theorem sumE_bound {f : Nat → Int} {B : Int} : ∀ n : Nat, (∀ j, j < n → 0 ≤ f j ∧ f j ≤ B) → 0 ≤ sumE f n ∧ sumE f n ≤ n * B
  | 0, _ => by simp [sumE]
  | n + 1, h => by
    have := sumE_bound n (fun j hj => h j (by omega))
    have h2 := h n (by omega)
    have e : ((n + 1 : Nat) : Int) * B = n * B + B := by push_cast; grind
    simp only [sumE, e]
    omega
def nextE (l : List S36) (U D : Int) (o : List Int) (j : Nat) : Int := emp l U D (rd o (j : Int)) (rd o (((j + 1) % o.length : Nat) : Int))
def costI (l : List S36) (U D : Int) (o : List Int) : Int := sumE (nextE l U D o) o.length
theorem rd_mem {o : List Int} {j : Nat} (h : j < o.length) : rd o (j : Int) ∈ o := by rw [rd_get h]; exact List.getElem_mem h
theorem nextE_bound {l : List S36} {U D : Int} (h : Right l U D) {o : List Int} (ho : ∀ x ∈ o, 0 ≤ x ∧ x < (l.length : Int)) {j : Nat} (hj : j < o.length) : 0 ≤ nextE l U D o j ∧ nextE l U D o j ≤ 1000000 := by
  have h1 := ho _ (rd_mem hj)
  have h2 := ho _ (rd_mem (Nat.mod_lt (j + 1) (show 0 < o.length by omega)))
  exact emp_bound h h1.1 h1.2 h2.1 h2.2
def IsOrd (n : Nat) (o : List Int) : Prop := (∀ x ∈ o, 0 ≤ x ∧ x < (n : Int)) ∧ o.Nodup ∧ o.length = n
instance (n : Nat) (o : List Int) : Decidable (IsOrd n o) := by unfold IsOrd; infer_instance
theorem same_l0 : ∀ (t s p : List Int), t.length = s.length → (p ++ t).length ≤ 4611686018427387904 → Ev (fun k => trishawlaw06_same.l0 k (p ++ t) (p ++ s) (p.length : Int)) (decide (t = s))
  | [], s, p, e, hl => by
    refine Ev.succ ?_
    have : s = [] := List.eq_nil_of_length_eq_zero e.symm
    subst this
    simp only [trishawlaw06_same.l0, if_neg (mid_end p), decide_true]
    exact Ev.pure _
  | x :: t, [], p, e, hl => by simp at e
  | x :: t, y :: s, p, e, hl => by
    refine Ev.succ ?_
    have e2 : wrap64 ((p.length : Int) + 1) = (((p ++ [x]).length : Nat) : Int) := mid_next p t x (by omega)
    simp only [trishawlaw06_same.l0, if_pos (mid_lt p t x), if_pos (mid_lt p s y), if_pos (nonneg_len p), rd_mid]
    by_cases c : x = y
    · subst c
      have ih := same_l0 t s (p ++ [x]) (by simpa using e) (by simpa using hl)
      rw [← mid_assoc, ← mid_assoc] at ih
      simp only [if_true, e2, List.cons.injEq, true_and]
      exact ih
    · simp only [if_neg c, List.cons.injEq, decide_eq_false (show ¬ (x = y ∧ t = s) from fun h => c h.1)]
      exact Ev.pure _
theorem same_ev (a b : List Int) (ha : a.length ≤ 4611686018427387904) : Ev (fun k => trishawlaw06_same.f k a b) (decide (a = b)) := by
  unfold trishawlaw06_same.f
  by_cases c : (a.length : Int) = (b.length : Int)
  · simp only [if_pos c]
    exact same_l0 a b [] (by omega) (by simpa using ha)
  · simp only [if_neg c, decide_eq_false (show ¬ a = b from fun h => c (by rw [h]))]
    exact Ev.pure _
end Go.Proofs.Ytlmlneneakpohaa.OAll
