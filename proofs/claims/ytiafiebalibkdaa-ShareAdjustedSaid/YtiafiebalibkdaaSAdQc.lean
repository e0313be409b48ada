/- A part of the proof of 'shareAdjusted_holds', for every input, without a condition. -/
import Derived.Test.YtiafiebalibkdaaSAdQb
import Derived.Test.YtiafiebalibkdaaSAdOAllx8
import Derived.Test.YtiafiebalibkdaaSAdOAllx0
import Derived.Test.YtiafiebalibkdaaSAdOAllx1
import Derived.Test.YtiafiebalibkdaaSAdOAllx4
import Derived.Test.YtiafiebalibkdaaSAdOAllx7
import Derived.Test.YtiafiebalibkdaaSAdOAllx10
import Derived.Test.YtiafiebalibkdaaSAdOAllx11
namespace Go.Proofs.Ytiafiebalibkdaa.OAll
open Go.RowKit Go.Proofs.YtiafiebalibkdaaW.PrintWords Go.Proofs.YtiafiebalibkdaaW.PrintLast Go.Proofs.YtiafiebalibkdaaW.PrintMore
set_option linter.unusedVariables false
set_option linter.unusedSimpArgs false
theorem shl_pow {n : Nat} (h : n ≤ 62) : shl .i64 1 (n : Int) = ((2 ^ n : Nat) : Int) := by
  have hp := pow_small h
  unfold shl
  rw [Int.toNat_natCast, Int.one_mul, show (IntKind.i64.bits) = 64 from rfl, Nat.min_eq_left (by omega), pow_cast, wraps_i64 _ (Int.natCast_nonneg _) (by generalize 2 ^ n = m at hp ⊢; omega)]
theorem shr_pow (a : Nat) {j : Nat} (h : j ≤ 64) : shr .i64 (a : Int) (j : Int) = (a : Int) / 2 ^ j := by
  unfold shr
  rw [Int.toNat_natCast, show (IntKind.i64.bits) = 64 from rfl, Nat.min_eq_left h]
theorem and_bit (a : Nat) (ha : a < 2 ^ 63) {j : Nat} (h : j ≤ 64) : Go.bits .and .i64 (shr .i64 (a : Int) (j : Int)) 1 = if a.testBit j then 1 else 0 := by rw [shr_pow a h, bit_and a j ha]
def sumP (s : Nat) : Nat → List Int → Int
  | _, [] => 0
  | i, x :: t => (if s.testBit i then x else 0) + sumP s (i + 1) t
def sumQ (s : Nat) : Nat → List Int → Int
  | _, [] => 0
  | i, x :: t => (if s.testBit i then 0 else x) + sumQ s (i + 1) t
theorem sumP_bound (s : Nat) : ∀ (l : List Int) (i : Nat), l.all inR = true → 0 ≤ sumP s i l ∧ sumP s i l ≤ 100 * l.length
  | [], i, _ => by simp [sumP]
  | x :: t, i, h => by
    rw [List.all_cons, Bool.and_eq_true] at h
    have := sumP_bound s t (i + 1) h.2
    have := inR_iff.mp h.1
    simp only [sumP, List.length_cons]
    split <;> omega
theorem sumQ_bound (s : Nat) : ∀ (l : List Int) (i : Nat), l.all inR = true → 0 ≤ sumQ s i l ∧ sumQ s i l ≤ 100 * l.length
  | [], i, _ => by simp [sumQ]
  | x :: t, i, h => by
    rw [List.all_cons, Bool.and_eq_true] at h
    have := sumQ_bound s t (i + 1) h.2
    have := inR_iff.mp h.1
    simp only [sumQ, List.length_cons]
    split <;> omega
def minS (a b : List Int) (s : Nat) : Int := mn (sumP s 0 a) (sumQ s 0 b)
def wholeS (a b : List Int) (r : Nat × Int) (s : Nat) : Nat × Int := if minS a b s > r.2 then (s, minS a b s) else r
def wholeN (a b : List Int) (m : Nat) : Nat × Int := (List.range m).foldl (wholeS a b) (0, -1)
theorem wholeN_succ (a b : List Int) (m : Nat) : wholeN a b (m + 1) = wholeS a b (wholeN a b m) m := by rw [wholeN, List.range_succ, List.foldl_append]; rfl
theorem all_zip {a b : List Int} (h : codeP a b = 0) : a.all inR = true ∧ b.all inR = true := by
  have := codeP_ok h
  simp only [okP, Bool.and_eq_true] at this
  exact ⟨this.2.1.1, this.2.2.1.1⟩
theorem rd76_mid (p t : List S76) (x : S76) : rd_T76 (p ++ x :: t) (p.length : Int) = x := by simp [rd_T76]
theorem whole_l1 (l : List S76) (hl : l.length ≤ 8) (s best : Nat) (most N : Int) (hs : s < 2 ^ 8) (r : Int × Int × Int) : ∀ (sa sb : List Int) (pre : List S76) (p q : Int), l = pre ++ zipS sa sb → sa.length = sb.length → sa.all inR = true → sb.all inR = true → 0 ≤ p → p ≤ 100 * pre.length → 0 ≤ q → q ≤ 100 * pre.length →
    Ev (fun k => if mn (p + sumP s pre.length sa) (q + sumQ s pre.length sb) > most then share_Whole.l0 k l s (mn (p + sumP s pre.length sa) (q + sumQ s pre.length sb)) N ((s + 1 : Nat) : Int) else share_Whole.l0 k l best most N ((s + 1 : Nat) : Int)) r →
    Ev (fun k => share_Whole.l1 k l best most s p q N s l (l.length : Int) pre.length) r
  | [], [], pre, p, q, e, _, _, _, hp, hp', hq, hq', hr => by
    refine Ev.succ ?_
    have e3 : ¬ (pre.length : Int) < (l.length : Int) := by rw [e]; simp [zipS]
    have w1 : wrap64 ((s : Int) + 1) = ((s + 1 : Nat) : Int) := w64s s (by omega)
    simp only [share_Whole.l1, e3, if_false, w1]
    simpa only [sumP, sumQ, Int.add_zero] using hr
  | x :: sa, y :: sb, pre, p, q, e, hab, ha, hb, hp, hp', hq, hq', hr => by
    refine Ev.succ ?_
    have hlt : pre.length < l.length := by rw [e]; simp [zipS]
    have e3 : (pre.length : Int) < (l.length : Int) := by omega
    have e2 : rd_T76 l (pre.length : Int) = ⟨x, y⟩ := by rw [e]; exact rd76_mid _ _ _
    rw [List.all_cons, Bool.and_eq_true] at ha hb
    have hx := inR_iff.mp ha.1
    have hy := inR_iff.mp hb.1
    have w2 : wrap64 (p + x) = p + x := w64 (by omega) (by omega)
    have w3 : wrap64 (q + y) = q + y := w64 (by omega) (by omega)
    have e1 : wrap64 ((pre.length : Int) + 1) = (((pre ++ [(⟨x, y⟩ : S76)]).length : Nat) : Int) := by rw [w64s _ (by omega)]; simp
    have el : (pre ++ [(⟨x, y⟩ : S76)]).length = pre.length + 1 := by simp
    have ee : l = (pre ++ [(⟨x, y⟩ : S76)]) ++ zipS sa sb := by rw [e, zipS]; simp
    simp only [share_Whole.l1, e3, if_true, nonneg_len, e2, w2, w3, e1, and_bit s (by omega) (show pre.length ≤ 64 by omega)]
    cases hbt : s.testBit pre.length
    · simp only [Bool.false_eq_true, if_false, Int.zero_ne_one]
      refine whole_l1 l hl s best most N hs r sa sb _ p (q + y) ee (by simpa using hab) ha.2 hb.2 hp (by rw [el]; omega) (by omega) (by rw [el]; omega) ?_
      rw [el]
      simp only [sumP, sumQ, hbt, Bool.false_eq_true, if_false, Int.zero_add] at hr
      rw [← Int.add_assoc] at hr
      exact hr
    · simp only [if_true]
      refine whole_l1 l hl s best most N hs r sa sb _ (p + x) q ee (by simpa using hab) ha.2 hb.2 (by omega) (by rw [el]; omega) hq (by rw [el]; omega) ?_
      rw [el]
      simp only [sumP, sumQ, hbt, if_true, Int.zero_add] at hr
      rw [← Int.add_assoc] at hr
      exact hr
  | [], y :: sb, pre, p, q, e, hab, _, _, _, _, _, _, _ => by simp at hab
  | x :: sa, [], pre, p, q, e, hab, _, _, _, _, _, _, _ => by simp at hab
theorem whole_l0 {a b : List Int} (hc : codeP a b = 0) : ∀ (d s : Nat), s + d = 2 ^ a.length →
    Ev (fun k => share_Whole.l0 k (zipS a b) ((wholeN a b s).1 : Int) (wholeN a b s).2 ((2 ^ a.length : Nat) : Int) s) (((wholeN a b (2 ^ a.length)).1 : Int), (wholeN a b (2 ^ a.length)).2, 0)
  | 0, s, e => by
    refine Ev.succ ?_
    have e3 : ¬ (s : Int) < ((2 ^ a.length : Nat) : Int) := by omega
    obtain rfl : s = 2 ^ a.length := by omega
    simp only [share_Whole.l0, e3, if_false]
    exact Ev.pure _
  | d + 1, s, e => by
    refine Ev.succ ?_
    have h8 := codeP_ok hc
    have hz := all_zip hc
    have hp : 2 ^ a.length ≤ 2 ^ 8 := Nat.pow_le_pow_right (by decide) h8.1
    have e3 : (s : Int) < ((2 ^ a.length : Nat) : Int) := by omega
    simp only [share_Whole.l0, e3, if_true]
    have hl := zipS_len a b h8.2.2.2
    refine whole_l1 (zipS a b) (by omega) s (wholeN a b s).1 (wholeN a b s).2 _ (by omega) _ a b [] 0 0 rfl h8.2.2.2 hz.1 hz.2 (Int.le_refl _) (by simp) (Int.le_refl _) (by simp) ?_
    simp only [List.length_nil, Int.zero_add]
    have ih := whole_l0 hc d (s + 1) (by omega)
    rw [wholeN_succ, wholeS, minS] at ih
    by_cases h : mn (sumP s 0 a) (sumQ s 0 b) > (wholeN a b s).2
    · simp only [h, if_true] at ih ⊢; exact ih
    · simp only [h, if_false] at ih ⊢; exact ih
def wholeR (a b : List Int) : Int × Int × Int := if codeP a b = 0 then (((wholeN a b (2 ^ a.length)).1 : Int), (wholeN a b (2 ^ a.length)).2, 0) else (0, 0, codeP a b)
theorem whole_ev (a b : List Int) : Ev (fun k => share_Whole.f k a b) (wholeR a b) := by
  unfold share_Whole.f wholeR
  refine Ev.bind (read_ev a b) ?_
  unfold readN
  by_cases h : codeP a b = 0
  · have h8 := codeP_ok h
    simp only [h, if_true]
    rw [zipS_len a b h8.2.2.2, shl_pow (by omega)]
    have := whole_l0 h (2 ^ a.length) 0 (by omega)
    exact this
  · simp only [h, if_false]; exact Ev.pure _
theorem wholeN_spec (a b : List Int) : ∀ m, 0 < m → (∀ s, 0 ≤ minS a b s) → (wholeN a b m).1 < m ∧ (wholeN a b m).2 = minS a b (wholeN a b m).1 ∧ (∀ t, t < m → minS a b t ≤ (wholeN a b m).2) ∧ ∀ t, t < m → minS a b t = (wholeN a b m).2 → (wholeN a b m).1 ≤ t
  | 0, h, _ => absurd h (by omega)
  | 1, _, hn => by
    have h0 := hn 0
    have e : wholeN a b 1 = (0, minS a b 0) := by
      rw [wholeN_succ, wholeS]
      have : minS a b 0 > (wholeN a b 0).2 := by show minS a b 0 > -1; omega
      rw [if_pos this]
    rw [e]
    refine ⟨Nat.lt_succ_self 0, rfl, fun t ht => ?_, fun t ht _ => Nat.zero_le _⟩
    obtain rfl : t = 0 := by omega
    exact Int.le_refl _
  | m + 2, _, hn => by
    obtain ⟨h1, h2, h3, h4⟩ := wholeN_spec a b (m + 1) (by omega) hn
    rw [wholeN_succ, wholeS]
    by_cases h : minS a b (m + 1) > (wholeN a b (m + 1)).2
    · rw [if_pos h]
      refine ⟨by show m + 1 < m + 2; omega, rfl, fun t ht => ?_, fun t ht he => ?_⟩
      · by_cases e : t = m + 1
        · subst e; exact Int.le_refl _
        · have := h3 t (by omega); show minS a b t ≤ minS a b (m + 1); omega
      · by_cases e : t = m + 1
        · subst e; exact Nat.le_refl _
        · have := h3 t (by omega)
          have he' : minS a b t = minS a b (m + 1) := he
          omega
    · rw [if_neg h]
      refine ⟨by omega, h2, fun t ht => ?_, fun t ht he => ?_⟩
      · by_cases e : t = m + 1
        · subst e; omega
        · exact h3 t (by omega)
      · by_cases e : t = m + 1
        · subst e; omega
        · exact h4 t (by omega) he
end Go.Proofs.Ytiafiebalibkdaa.OAll
