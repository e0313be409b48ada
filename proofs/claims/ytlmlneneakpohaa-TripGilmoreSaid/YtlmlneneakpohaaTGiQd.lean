/- A part of the proof of 'tripGilmore_holds', for every input, without a condition. -/
import Derived.Test.YtlmlneneakpohaaTGiQb
import Derived.Test.YtlmlneneakpohaaTGiOAllx21
namespace Go.Proofs.Ytlmlneneakpohaa.OAll
open Go.RowKit Go.Proofs.YtlmlneneakpohaaW.PrintWords Go.Proofs.YtlmlneneakpohaaW.PrintLast Go.Proofs.YtlmlneneakpohaaW.PrintMore
set_option linter.unusedVariables false
set_option linter.unusedSimpArgs false
theorem shl_pow {n : Nat} (h : n ≤ 62) : shl .i64 1 (n : Int) = ((2 ^ n : Nat) : Int) := by
  have hp := pow_small h
  unfold shl
  rw [Int.toNat_natCast, Int.one_mul, show (IntKind.i64.bits) = 64 from rfl, Nat.min_eq_left (by omega), pow_cast, wraps_i64 _ (Int.natCast_nonneg _) (by generalize 2 ^ n = m at hp ⊢; omega)]
theorem shr_pow (a : Nat) {j : Nat} (h : j ≤ 64) : shr .i64 (a : Int) (j : Int) = (a : Int) / 2 ^ j := by
  unfold shr
  rw [Int.toNat_natCast, show (IntKind.i64.bits) = 64 from rfl, Nat.min_eq_left h]
theorem and_bit (a : Nat) (ha : a < 2 ^ 63) {j : Nat} (h : j ≤ 64) : Go.bits .and .i64 (shr .i64 (a : Int) (j : Int)) 1 = if a.testBit j then 1 else 0 := by rw [shr_pow a h, bit_and a j ha]
def climbI (U D a b : Int) : Int := if b > a then U * (b - a) else D * (a - b)
theorem mul_bound {x y : Int} (hx : 0 ≤ x ∧ x ≤ 1000) (hy : 0 ≤ y ∧ y ≤ 1000) : 0 ≤ x * y ∧ x * y ≤ 1000000 := by
  have h1 : 0 ≤ x * y := Int.mul_nonneg hx.1 hy.1
  have h2 : x * y ≤ 1000 * 1000 := Int.mul_le_mul hx.2 hy.2 hy.1 (by decide)
  omega
theorem climbI_bound {U D a b : Int} (hU : 0 ≤ U ∧ U ≤ 1000) (hD : 0 ≤ D ∧ D ≤ 1000) (ha : 0 ≤ a ∧ a ≤ 1000) (hb : 0 ≤ b ∧ b ≤ 1000) : 0 ≤ climbI U D a b ∧ climbI U D a b ≤ 1000000 := by
  unfold climbI
  split
  · exact mul_bound hU (by omega)
  · exact mul_bound hD (by omega)
theorem climb_eq {U D a b : Int} (hU : 0 ≤ U ∧ U ≤ 1000) (hD : 0 ≤ D ∧ D ≤ 1000) (ha : 0 ≤ a ∧ a ≤ 1000) (hb : 0 ≤ b ∧ b ≤ 1000) : trip_hills_climb.f U D a b = some (climbI U D a b) := by
  unfold trip_hills_climb.f climbI
  split
  · have := mul_bound hU (show 0 ≤ b - a ∧ b - a ≤ 1000 by omega)
    rw [w64 (n := b - a) (by omega) (by omega), w64 (by omega) (by omega)]
  · have := mul_bound hD (show 0 ≤ a - b ∧ a - b ≤ 1000 by omega)
    rw [w64 (n := a - b) (by omega) (by omega), w64 (by omega) (by omega)]
def emp (l : List S36) (U D i k : Int) : Int := climbI U D (rd_T36 l i).f1 (rd_T36 l k).f0
theorem Right.get {l : List S36} {U D : Int} (h : Right l U D) {i : Int} (h0 : 0 ≤ i) (h1 : i < (l.length : Int)) : (0 ≤ (rd_T36 l i).f0 ∧ (rd_T36 l i).f0 ≤ 1000) ∧ 0 ≤ (rd_T36 l i).f1 ∧ (rd_T36 l i).f1 ≤ 1000 := by
  obtain ⟨j, rfl⟩ := Int.eq_ofNat_of_zero_le h0
  have hj : j < l.length := by omega
  rw [rd36_get hj]
  have := h.at_ _ (List.getElem_mem hj)
  omega
theorem emp_bound {l : List S36} {U D : Int} (h : Right l U D) {i k : Int} (i0 : 0 ≤ i) (i1 : i < (l.length : Int)) (k0 : 0 ≤ k) (k1 : k < (l.length : Int)) : 0 ≤ emp l U D i k ∧ emp l U D i k ≤ 1000000 :=
  climbI_bound h.U_ h.D_ (h.get i0 i1).2 (h.get k0 k1).1
theorem dempty_eq {l : List S36} {U D : Int} (h : Right l U D) {i k : Int} (i0 : 0 ≤ i) (i1 : i < (l.length : Int)) (k0 : 0 ≤ k) (k1 : k < (l.length : Int)) : trip_day_empty.f U D l i k = some (emp l U D i k) := by
  unfold trip_day_empty.f
  rw [if_pos i0, if_pos i1, if_pos k0, if_pos k1, climb_eq h.U_ h.D_ (h.get i0 i1).2 (h.get k0 k1).1]
  rfl
def sumE (f : Nat → Int) : Nat → Int
  | 0 => 0
  | n + 1 => sumE f n + f n
theorem sumE_bound {f : Nat → Int} {B : Int} : ∀ n : Nat, (∀ j, j < n → 0 ≤ f j ∧ f j ≤ B) → 0 ≤ sumE f n ∧ sumE f n ≤ n * B
  | 0, _ => by simp [sumE]
  | n + 1, h => by
    have := sumE_bound n (fun j hj => h j (by omega))
    have h2 := h n (by omega)
    have e : ((n + 1 : Nat) : Int) * B = n * B + B := by push_cast; grind
    simp only [sumE, e]
    omega
def nextE (l : List S36) (U D : Int) (o : List Int) (j : Nat) : Int := emp l U D (rd o (j : Int)) (rd o (((j + 1) % o.length : Nat) : Int))
def costI (l : List S36) (U D : Int) (o : List Int) : Int := sumE (nextE l U D o) o.length
theorem rd_mem {o : List Int} {j : Nat} (h : j < o.length) : rd o (j : Int) ∈ o := by rw [rd_get h]; exact List.getElem_mem h
theorem nextE_bound {l : List S36} {U D : Int} (h : Right l U D) {o : List Int} (ho : ∀ x ∈ o, 0 ≤ x ∧ x < (l.length : Int)) {j : Nat} (hj : j < o.length) : 0 ≤ nextE l U D o j ∧ nextE l U D o j ≤ 1000000 := by
  have h1 := ho _ (rd_mem hj)
  have h2 := ho _ (rd_mem (Nat.mod_lt (j + 1) (show 0 < o.length by omega)))
  exact emp_bound h h1.1 h1.2 h2.1 h2.2
theorem tmod_next {o : List Int} {j : Nat} (hj : j < o.length) (ho : o.length ≤ 30) : Int.tmod (wrap64 ((j : Int) + 1)) (o.length : Int) = (((j + 1) % o.length : Nat) : Int) := by
  rw [w64s j (by omega), Int.tmod_eq_emod_of_nonneg (Int.natCast_nonneg _)]
  omega
theorem dcost_l0 {l : List S36} {U D : Int} (h : Right l U D) {o : List Int} (ho : ∀ x ∈ o, 0 ≤ x ∧ x < (l.length : Int)) (h30 : o.length ≤ 30) : ∀ r j : Nat, j + r = o.length →
    Ev (fun k => trip_day_cost.l0 k o (sumE (nextE l U D o) j) o (o.length : Int) (j : Int) U D l) (costI l U D o)
  | 0, j, e => by
    refine Ev.succ ?_
    simp only [trip_day_cost.l0, if_neg (show ¬ (j : Int) < (o.length : Int) by omega)]
    rw [show j = o.length by omega]; exact Ev.pure _
  | r + 1, j, e => by
    refine Ev.succ ?_
    have hj : j < o.length := by omega
    have h1 := ho _ (rd_mem hj)
    have hm := Nat.mod_lt (j + 1) (show 0 < o.length by omega)
    have h2 := ho _ (rd_mem hm)
    have b1 := nextE_bound h ho hj
    have b2 := sumE_bound (f := nextE l U D o) (B := 1000000) j (fun i hi => nextE_bound h ho (by omega))
    have ih := dcost_l0 h ho h30 r (j + 1) (by omega)
    have e0 : trip_day_empty.f U D l (rd o (j : Int)) (rd o (((j + 1) % o.length : Nat) : Int)) = some (nextE l U D o j) := dempty_eq h h1.1 h1.2 h2.1 h2.2
    simp only [trip_day_cost.l0, if_pos (show (j : Int) < (o.length : Int) by omega), if_pos (show (0 : Int) ≤ (j : Int) by omega), tmod_next hj h30, if_neg (show ¬ (o.length : Int) = 0 by omega), if_pos (Int.natCast_nonneg ((j + 1) % o.length)), if_pos (show (((j + 1) % o.length : Nat) : Int) < (o.length : Int) by omega), e0, Option.bind_some]
    have e1 : wrap64 (sumE (nextE l U D o) j + nextE l U D o j) = sumE (nextE l U D o) (j + 1) := by rw [w64 (by omega) (by omega)]; rfl
    rw [e1, w64s j (by omega)]
    exact ih
theorem dcost_ev {l : List S36} {U D : Int} (h : Right l U D) {o : List Int} (ho : ∀ x ∈ o, 0 ≤ x ∧ x < (l.length : Int)) (h30 : o.length ≤ 30) : Ev (fun k => trip_day_cost.f k U D l o) (costI l U D o) :=
  dcost_l0 h ho h30 o.length 0 (by omega)
def IsOrd (n : Nat) (o : List Int) : Prop := (∀ x ∈ o, 0 ≤ x ∧ x < (n : Int)) ∧ o.Nodup ∧ o.length = n
instance (n : Nat) (o : List Int) : Decidable (IsOrd n o) := by unfold IsOrd; infer_instance
theorem not_ord_range {n : Nat} {p t : List Int} {x : Int} (h : x < 0 ∨ x ≥ (n : Int)) : ¬ IsOrd n (p ++ x :: t) := fun ho => by
  have := ho.1 x (by simp); omega
theorem not_ord_dup {n : Nat} {p t : List Int} {x : Int} (h : x ∈ p) : ¬ IsOrd n (p ++ x :: t) := fun ho => by
  have h1 := ho.2.1
  rw [List.nodup_append] at h1
  exact h1.2.2 x h x (by simp) rfl
theorem nodup_snoc {p : List Int} {x : Int} (h : p.Nodup) (hx : x ∉ p) : (p ++ [x]).Nodup := by
  rw [List.nodup_append]
  exact ⟨h, by simp, fun a ha b hb => by simp at hb; subst hb; exact fun e => hx (e ▸ ha)⟩
theorem cost_l0 {l : List S36} {U D : Int} (h : Right l U D) : ∀ (t p : List Int) (m : Nat), (p ++ t).length = l.length → (∀ x ∈ p, 0 ≤ x ∧ x < (l.length : Int)) → p.Nodup → m < 2 ^ l.length → (∀ j, j < l.length → m.testBit j = decide ((j : Int) ∈ p)) →
    Ev (fun k => trip_Cost.l0 k l (p ++ t) (m : Int) (p ++ t) ((p ++ t).length : Int) (p.length : Int) U D l) (if IsOrd l.length (p ++ t) then (costI l U D (p ++ t), 0) else (0, 2))
  | [], p, m, hl, hp, hd, hm, hms => by
    refine Ev.succ ?_
    have h9 := h.len
    simp only [trip_Cost.l0, if_neg (mid_end p)]
    rw [if_pos (show IsOrd l.length (p ++ []) from ⟨by simpa using hp, by simpa using hd, hl⟩)]
    exact Ev.bind (dcost_ev h (by simpa using hp) (by omega)) (Ev.pure _)
  | x :: t, p, m, hl, hp, hd, hm, hms => by
    refine Ev.succ ?_
    have h9 := h.len
    have e1 := mid_lt p t x
    have e2 : wrap64 ((p.length : Int) + 1) = (((p ++ [x]).length : Nat) : Int) := mid_next p t x (by omega)
    simp only [trip_Cost.l0, if_pos e1, if_pos (nonneg_len p), rd_mid]
    by_cases c0 : x < 0
    · simp only [if_pos c0, if_neg (not_ord_range (n := l.length) (p := p) (t := t) (.inl c0))]; exact Ev.pure _
    · simp only [if_neg c0]
      by_cases c1 : x ≥ (l.length : Int)
      · simp only [if_pos c1, if_neg (not_ord_range (n := l.length) (p := p) (t := t) (.inr c1))]; exact Ev.pure _
      · obtain ⟨v, rfl⟩ := Int.eq_ofNat_of_zero_le (show 0 ≤ x by omega)
        have hv : v < l.length := by omega
        have hm63 : m < 2 ^ 63 := Nat.lt_of_lt_of_le hm (Nat.pow_le_pow_right (by decide) (by omega))
        have em : Go.bits .and .i64 (shr .i64 (m : Int) ((v : Int))) 1 = if decide ((v : Int) ∈ p) = true then 1 else 0 := by
          rw [← hms v hv]; exact and_bit m hm63 (by omega)
        simp only [if_neg c1, if_pos (show (0 : Int) ≤ (v : Int) by omega), em]
        by_cases c2 : (v : Int) ∈ p
        · simp only [decide_eq_true c2, if_true, if_neg (not_ord_dup (n := l.length) (p := p) (t := t) (x := (v : Int)) c2)]; exact Ev.pure _
        · have ep : 2 ^ v < 2 ^ l.length := Nat.pow_lt_pow_right (by decide) hv
          have e3 : Go.bits .or .i64 (m : Int) (shl .i64 1 ((v : Int))) = ((m ||| 2 ^ v : Nat) : Int) := by
            have := shl_pow (n := v) (by omega)
            rw [this]
            exact or_nat m (2 ^ v) hm63 (by have : 2 ^ l.length ≤ 2 ^ 63 := Nat.pow_le_pow_right (by decide) (by omega); omega)
          simp only [decide_eq_false c2, Bool.false_eq_true, if_false, if_neg (show ¬ (0 : Int) = 1 by decide), e2, e3]
          have ih := cost_l0 h t (p ++ [(v : Int)]) (m ||| 2 ^ v) (by simpa using hl) (by
              intro y hy
              rcases List.mem_append.mp hy with hy | hy
              · exact hp y hy
              · simp at hy; omega) (nodup_snoc hd c2) (Nat.or_lt_two_pow hm ep) (by
              intro j hj
              rw [Nat.testBit_or, Nat.testBit_two_pow, hms j hj, Bool.eq_iff_iff, Bool.or_eq_true, decide_eq_true_eq, decide_eq_true_eq, decide_eq_true_eq, List.mem_append, List.mem_singleton]
              constructor
              · rintro (h | h)
                · exact .inl h
                · exact .inr (by omega)
              · rintro (h | h)
                · exact .inl h
                · exact .inr (by omega))
          rw [← mid_assoc] at ih
          exact ih
def costR (l : List S36) (U D : Int) (o : List Int) : Int × Int := if dayE l U D = 0 then (if IsOrd l.length o then (costI l U D o, 0) else (0, 2)) else (0, dayE l U D)
theorem cost_ev (l : List S36) (U D : Int) (o : List Int) (h30 : o.length ≤ 30) : Ev (fun k => trip_Cost.f k l U D o) (costR l U D o) := by
  unfold trip_Cost.f costR
  simp only [read_eq, Option.bind_some]
  by_cases c : dayE l U D = 0
  · simp only [if_pos c]
    by_cases c1 : (o.length : Int) = (l.length : Int)
    · simp only [if_pos c1]
      exact cost_l0 (day_right c) o [] 0 (by simp; omega) (by simp) (by simp) (Nat.two_pow_pos _) (by simp)
    · simp only [if_neg c1, if_neg (show ¬ IsOrd l.length o from fun h => c1 (by have := h.2.2; omega))]; exact Ev.pure _
  · simp only [if_neg c]; exact Ev.pure _
end Go.Proofs.Ytlmlneneakpohaa.OAll
