/- A part of the proof of 'tripRings_holds', for every input, without a condition. -/
import Derived.Test.YtlmlneneakpohaaTRiQb
import Derived.Test.YtlmlneneakpohaaTRiOAllx0
import Derived.Test.YtlmlneneakpohaaTRiOAllx4
import Derived.Test.YtlmlneneakpohaaTRiOAllx20
namespace Go.Proofs.Ytlmlneneakpohaa.OAll
open Go.RowKit Go.Proofs.YtlmlneneakpohaaW.PrintWords Go.Proofs.YtlmlneneakpohaaW.PrintLast Go.Proofs.YtlmlneneakpohaaW.PrintMore
set_option linter.unusedVariables false
set_option linter.unusedSimpArgs false
def climbI (U D a b : Int) : Int := if b > a then U * (b - a) else D * (a - b)
theorem mul_bound {x y : Int} (hx : 0 ≤ x ∧ x ≤ 1000) (hy : 0 ≤ y ∧ y ≤ 1000) : 0 ≤ x * y ∧ x * y ≤ 1000000 := by
  have h1 : 0 ≤ x * y := Int.mul_nonneg hx.1 hy.1
  have h2 : x * y ≤ 1000 * 1000 := Int.mul_le_mul hx.2 hy.2 hy.1 (by decide)
  omega
theorem climbI_bound {U D a b : Int} (hU : 0 ≤ U ∧ U ≤ 1000) (hD : 0 ≤ D ∧ D ≤ 1000) (ha : 0 ≤ a ∧ a ≤ 1000) (hb : 0 ≤ b ∧ b ≤ 1000) : 0 ≤ climbI U D a b ∧ climbI U D a b ≤ 1000000 := by
  unfold climbI
  split
  · exact mul_bound hU (by omega)
  · exact mul_bound hD (by omega)
theorem climb_eq {U D a b : Int} (hU : 0 ≤ U ∧ U ≤ 1000) (hD : 0 ≤ D ∧ D ≤ 1000) (ha : 0 ≤ a ∧ a ≤ 1000) (hb : 0 ≤ b ∧ b ≤ 1000) : trip_hills_climb.f U D a b = some (climbI U D a b) := by
  unfold trip_hills_climb.f climbI
  split
  · have := mul_bound hU (show 0 ≤ b - a ∧ b - a ≤ 1000 by omega)
    rw [w64 (n := b - a) (by omega) (by omega), w64 (by omega) (by omega)]
  · have := mul_bound hD (show 0 ≤ a - b ∧ a - b ≤ 1000 by omega)
    rw [w64 (n := a - b) (by omega) (by omega), w64 (by omega) (by omega)]
def emp (l : List S36) (U D i k : Int) : Int := climbI U D (rd_T36 l i).f1 (rd_T36 l k).f0
theorem Right.get {l : List S36} {U D : Int} (h : Right l U D) {i : Int} (h0 : 0 ≤ i) (h1 : i < (l.length : Int)) : (0 ≤ (rd_T36 l i).f0 ∧ (rd_T36 l i).f0 ≤ 1000) ∧ 0 ≤ (rd_T36 l i).f1 ∧ (rd_T36 l i).f1 ≤ 1000 := by
  obtain ⟨j, rfl⟩ := Int.eq_ofNat_of_zero_le h0
  have hj : j < l.length := by omega
  rw [rd36_get hj]
  have := h.at_ _ (List.getElem_mem hj)
  omega
theorem emp_bound {l : List S36} {U D : Int} (h : Right l U D) {i k : Int} (i0 : 0 ≤ i) (i1 : i < (l.length : Int)) (k0 : 0 ≤ k) (k1 : k < (l.length : Int)) : 0 ≤ emp l U D i k ∧ emp l U D i k ≤ 1000000 :=
  climbI_bound h.U_ h.D_ (h.get i0 i1).2 (h.get k0 k1).1
theorem dempty_eq {l : List S36} {U D : Int} (h : Right l U D) {i k : Int} (i0 : 0 ≤ i) (i1 : i < (l.length : Int)) (k0 : 0 ≤ k) (k1 : k < (l.length : Int)) : trip_day_empty.f U D l i k = some (emp l U D i k) := by
  unfold trip_day_empty.f
  rw [if_pos i0, if_pos i1, if_pos k0, if_pos k1, climb_eq h.U_ h.D_ (h.get i0 i1).2 (h.get k0 k1).1]
  rfl
def sumE (f : Nat → Int) : Nat → Int
  | 0 => 0
  | n + 1 => sumE f n + f n
theorem sumE_bound {f : Nat → Int} {B : Int} : ∀ n : Nat, (∀ j, j < n → 0 ≤ f j ∧ f j ≤ B) → 0 ≤ sumE f n ∧ sumE f n ≤ n * B
  | 0, _ => by simp [sumE]
  | n + 1, h => by
    have := sumE_bound n (fun j hj => h j (by omega))
    have h2 := h n (by omega)
    have e : ((n + 1 : Nat) : Int) * B = n * B + B := by push_cast; grind
    simp only [sumE, e]
    omega
theorem rd_mem {o : List Int} {j : Nat} (h : j < o.length) : rd o (j : Int) ∈ o := by rw [rd_get h]; exact List.getElem_mem h
def IsOrd (n : Nat) (o : List Int) : Prop := (∀ x ∈ o, 0 ≤ x ∧ x < (n : Int)) ∧ o.Nodup ∧ o.length = n
instance (n : Nat) (o : List Int) : Decidable (IsOrd n o) := by unfold IsOrd; infer_instance
theorem not_ord_range {n : Nat} {p t : List Int} {x : Int} (h : x < 0 ∨ x ≥ (n : Int)) : ¬ IsOrd n (p ++ x :: t) := fun ho => by
  have := ho.1 x (by simp); omega
theorem not_ord_dup {n : Nat} {p t : List Int} {x : Int} (h : x ∈ p) : ¬ IsOrd n (p ++ x :: t) := fun ho => by
  have h1 := ho.2.1
  rw [List.nodup_append] at h1
  exact h1.2.2 x h x (by simp) rfl
theorem nodup_snoc {p : List Int} {x : Int} (h : p.Nodup) (hx : x ∉ p) : (p ++ [x]).Nodup := by
  rw [List.nodup_append]
  exact ⟨h, by simp, fun a ha b hb => by simp at hb; subst hb; exact fun e => hx (e ▸ ha)⟩
theorem isorder_l0 (n : Nat) (hn : n ≤ 9) : ∀ (t p : List Int) (ms : List Bool), (p ++ t).length ≤ 30 → ms.length = n → (∀ x ∈ p, 0 ≤ x ∧ x < (n : Int)) → p.Nodup → (∀ j, j < n → ms[j]? = some (decide ((j : Int) ∈ p))) →
    Ev (fun k => trishawref06_IsOrder.l0 k (n : Int) (p ++ t) ms (p.length : Int)) (decide (IsOrd n (p ++ t)))
  | [], p, ms, h30, hm, hp, hd, hms => by
    refine Ev.succ ?_
    simp only [trishawref06_IsOrder.l0, if_neg (mid_end p)]
    have : decide (IsOrd n (p ++ [])) = (((p ++ []).length : Int) == (n : Int)) := by
      rw [List.append_nil, Bool.eq_iff_iff, decide_eq_true_eq, beq_iff_eq]
      exact ⟨fun h => by have := h.2.2; omega, fun h => ⟨hp, hd, by omega⟩⟩
    rw [this]; exact Ev.pure _
  | x :: t, p, ms, h30, hm, hp, hd, hms => by
    refine Ev.succ ?_
    have e1 := mid_lt p t x
    have e2 : wrap64 ((p.length : Int) + 1) = (((p ++ [x]).length : Nat) : Int) := mid_next p t x (by omega)
    simp only [trishawref06_IsOrder.l0, if_pos e1, if_pos (nonneg_len p), rd_mid]
    by_cases c0 : x < 0
    · simp only [if_pos c0, decide_eq_false (not_ord_range (n := n) (p := p) (t := t) (.inl c0))]; exact Ev.pure _
    · simp only [if_neg c0]
      by_cases c1 : x ≥ (n : Int)
      · simp only [if_pos c1, decide_eq_false (not_ord_range (n := n) (p := p) (t := t) (.inr c1))]; exact Ev.pure _
      · obtain ⟨v, rfl⟩ := Int.eq_ofNat_of_zero_le (show 0 ≤ x by omega)
        have hv : v < n := by omega
        have em : rdOf false ms ((v : Int)) = decide ((v : Int) ∈ p) := by
          unfold rdOf
          rw [List.getD_eq_getElem?_getD, Int.toNat_natCast, hms v hv]; rfl
        simp only [if_neg c1, if_pos (show (0 : Int) ≤ (v : Int) by omega), if_pos (show (v : Int) < (ms.length : Int) by rw [hm]; omega), em, decide_eq_true_eq, Int.toNat_natCast]
        by_cases c2 : (v : Int) ∈ p
        · simp only [if_pos c2, decide_eq_false (not_ord_dup (n := n) (p := p) (t := t) (x := (v : Int)) c2)]; exact Ev.pure _
        · simp only [if_neg c2, e2]
          have ih := isorder_l0 n hn t (p ++ [(v : Int)]) (ms.set v true) (by simpa using h30) (by simpa using hm) (by
              intro y hy
              rcases List.mem_append.mp hy with hy | hy
              · exact hp y hy
              · simp at hy; omega) (nodup_snoc hd c2) (by
              intro j hj
              by_cases e : v = j
              · subst e; rw [List.getElem?_set_self (by omega)]; simp
              · rw [List.getElem?_set_ne e, hms j hj]
                have : ((j : Int) ∈ p ++ [(v : Int)]) ↔ (j : Int) ∈ p := by simp; omega
                simp only [this])
          rw [← mid_assoc] at ih
          exact ih
theorem isorder_ev (n : Nat) (hn : n ≤ 9) (o : List Int) (h : o.length ≤ 30) : Ev (fun k => trishawref06_IsOrder.f k (n : Int) o) (decide (IsOrd n o)) := by
  unfold trishawref06_IsOrder.f
  simp only [if_pos (Int.natCast_nonneg n), Int.toNat_natCast, if_pos (show n ≤ 281474976710656 by omega)]
  exact isorder_l0 n hn o [] (List.replicate n false) (by simpa using h) (by simp) (by simp) (by simp) (fun j hj => by simp [List.getElem?_replicate, hj])
end Go.Proofs.Ytlmlneneakpohaa.OAll
