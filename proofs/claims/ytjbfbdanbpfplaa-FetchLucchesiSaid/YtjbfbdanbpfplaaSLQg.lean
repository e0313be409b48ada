/- A part of the proof of 'fetchLucchesi_holds', for every input, without a condition. -/
import Derived.Test.YtjbfbdanbpfplaaSLQe
import Derived.Test.YtjbfbdanbpfplaaSLOAllx8
import Derived.Test.YtjbfbdanbpfplaaSLOAllx13
namespace Go.Proofs.Ytjbfbdanbpfplaa.OAll
open Go.RowKit Go.Proofs.YtjbfbdanbpfplaaW.PrintWords Go.Proofs.YtjbfbdanbpfplaaW.PrintLast Go.Proofs.YtjbfbdanbpfplaaW.PrintMore
set_option linter.unusedVariables false
set_option linter.unusedSimpArgs false
def bitsFrom (X i d : Nat) : List Nat := (List.range' i d).filter fun j => X.testBit j
def bitsN (X : Nat) : List Nat := bitsFrom X 0 30
theorem bitsFrom_succ (X i d : Nat) : bitsFrom X i (d + 1) = if X.testBit i then i :: bitsFrom X (i + 1) d else bitsFrom X (i + 1) d := by
  rw [bitsFrom, List.range'_succ, List.filter_cons]; rfl
theorem bitsFrom_nil {X i : Nat} (h : X < 2 ^ i) : ∀ d j, i ≤ j → bitsFrom X j d = []
  | 0, _, _ => rfl
  | d + 1, j, hj => by
    rw [bitsFrom_succ, Nat.testBit_lt_two_pow (Nat.lt_of_lt_of_le h (Nat.pow_le_pow_right (by decide) hj))]
    exact bitsFrom_nil h d (j + 1) (by omega)
theorem bitsFrom_len (X i d : Nat) : (bitsFrom X i d).length ≤ d := by
  have := List.length_filter_le (fun j => X.testBit j) (List.range' i d)
  rw [List.length_range'] at this; exact this
theorem list_l0 (X : Nat) (hX : X < 2 ^ 30) : ∀ (d i : Nat) (acc : List Int), d + i = 30 → acc.length ≤ i → Ev (fun k => fetch_list.l0 k X acc i) (acc ++ ints (bitsFrom X i d)) := by
  intro d
  induction d with
  | zero =>
    intro i acc hi ha
    obtain rfl : i = 30 := by omega
    have e0 : ¬ ((X : Int) / 2 ^ ((30 : Nat) : Int).toNat) > 0 := by
      rw [Int.toNat_natCast, shr_nat]
      have : X / 2 ^ 30 = 0 := Nat.div_eq_of_lt hX
      omega
    have h64 : ((30 : Nat) : Int) ≤ 64 := by omega
    refine Ev.succ ?_
    simp only [fetch_list.l0, Int.natCast_nonneg, h64, if_true, e0, if_false]
    have : bitsFrom X 30 0 = [] := rfl
    rw [this, show acc ++ ints [] = acc from List.append_nil _]
    exact Ev.pure _
  | succ d ih =>
    intro i acc hi ha
    have h64 : (i : Int) ≤ 64 := by omega
    have hiw : i < 9223372036854775807 := by omega
    have hl : acc.length < 17592186044416 := by omega
    have hX63 : X < 2 ^ 63 := by omega
    refine Ev.succ ?_
    by_cases hz : X / 2 ^ i = 0
    · have hlt : X < 2 ^ i := by
        rcases Nat.lt_or_ge X (2 ^ i) with h | h
        · exact h
        · have := Nat.div_pos h (Nat.two_pow_pos i); omega
      have e0 : ¬ ((X : Int) / 2 ^ (i : Int).toNat) > 0 := by
        rw [Int.toNat_natCast, shr_nat, hz]; omega
      simp only [fetch_list.l0, Int.natCast_nonneg, h64, if_true, e0, if_false]
      rw [bitsFrom_nil hlt (d + 1) i (Nat.le_refl _), show acc ++ ints [] = acc from List.append_nil _]
      exact Ev.pure _
    · have e0 : ((X : Int) / 2 ^ i) > 0 := by
        rw [shr_nat]; exact Int.natCast_pos.mpr (Nat.pos_of_ne_zero hz)
      simp only [fetch_list.l0, Int.natCast_nonneg, h64, if_true, e0, bit_and X _ hX63, w64s i hiw, hl, Int.toNat_natCast]
      rw [bitsFrom_succ]
      rcases Bool.eq_false_or_eq_true (X.testBit i) with h | h
      · simp only [h, if_true]
        have := ih (i + 1) (acc ++ [(i : Int)]) (by omega) (by simp; omega)
        rw [List.append_assoc] at this
        exact this
      · simp only [h, Bool.false_eq_true, if_false, Int.zero_ne_one]
        exact ih (i + 1) acc (by omega) (by omega)
theorem list_ev (X : Nat) (hX : X < 2 ^ 30) : Ev (fun k => fetch_list.f k X) (ints (bitsN X)) := list_l0 X hX 30 0 [] rfl (by simp)
def lexN : List Nat → List Nat → Bool
  | [], b => decide (0 < b.length)
  | _ :: _, [] => false
  | x :: a, y :: b => if x = y then lexN a b else decide (x < y)
theorem ints_cons (x : Nat) (l : List Nat) : ints (x :: l) = (x : Int) :: ints l := rfl
theorem ints_append (a b : List Nat) : ints (a ++ b) = ints a ++ ints b := by simp [ints]
theorem rd_intsmid (p t : List Nat) (x : Nat) : rd (ints (p ++ x :: t)) (p.length : Int) = (x : Int) := by
  rw [rd_ints _ _ (by simp)]; simp
theorem compare_l0 : ∀ (a b p q : List Nat), p.length = q.length → (p ++ a).length ≤ 100000 → (q ++ b).length ≤ 100000 →
    ∃ c : Int, Ev (fun k => slices_Compare_int_int.l0 k (ints (p ++ a)) (ints (q ++ b)) (ints (p ++ a)) ((p ++ a).length : Int) p.length) c ∧ (c < 0 ↔ lexN a b = true)
  | [], b, p, q, hpq, h1, h2 => by
    have e3 : ¬ (p.length : Int) < ((p ++ ([] : List Nat)).length : Int) := by simp
    by_cases hb : 0 < b.length
    · have e4 : ((ints (p ++ ([] : List Nat))).length : Int) < ((ints (q ++ b)).length : Int) := by rw [ints_len, ints_len]; simp; omega
      refine ⟨-1, Ev.succ ?_, by simp [lexN, hb]⟩
      simp only [slices_Compare_int_int.l0, e3, if_false, e4, if_true]
      exact Ev.pure _
    · have e4 : ¬ ((ints (p ++ ([] : List Nat))).length : Int) < ((ints (q ++ b)).length : Int) := by rw [ints_len, ints_len]; simp; omega
      refine ⟨0, Ev.succ ?_, by simp [lexN, hb]⟩
      simp only [slices_Compare_int_int.l0, e3, if_false, e4]
      exact Ev.pure _
  | x :: a, [], p, q, hpq, h1, h2 => by
    have e3 : (p.length : Int) < ((p ++ x :: a).length : Int) := by simp; omega
    have e3' : (p.length : Int) < ((ints (p ++ x :: a)).length : Int) := by rw [ints_len]; exact e3
    have e5 : (p.length : Int) ≥ ((ints (q ++ ([] : List Nat))).length : Int) := by rw [ints_len]; simp; omega
    refine ⟨1, Ev.succ ?_, by simp [lexN]⟩
    simp only [slices_Compare_int_int.l0, e3, e3', if_true, Int.natCast_nonneg, e5]
    exact Ev.pure _
  | x :: a, y :: b, p, q, hpq, h1, h2 => by
    have e3 : (p.length : Int) < ((p ++ x :: a).length : Int) := by simp; omega
    have e3' : (p.length : Int) < ((ints (p ++ x :: a)).length : Int) := by rw [ints_len]; exact e3
    have e5 : ¬ (p.length : Int) ≥ ((ints (q ++ y :: b)).length : Int) := by rw [ints_len]; simp; omega
    have e6 : (p.length : Int) < ((ints (q ++ y :: b)).length : Int) := by rw [ints_len]; simp; omega
    have r1 : rd (ints (p ++ x :: a)) (p.length : Int) = (x : Int) := rd_intsmid p a x
    have r2 : rd (ints (q ++ y :: b)) (p.length : Int) = (y : Int) := by rw [hpq]; exact rd_intsmid q b y
    have hpw : p.length < 9223372036854775807 := by simp at h1; omega
    have hxx : ((x : Int) != (x : Int)) = false := bne_self_eq_false _
    have hyy : ((y : Int) != (y : Int)) = false := bne_self_eq_false _
    have cmp : cmp_Compare_int.f (x : Int) (y : Int) = some (if x < y then -1 else if x > y then 1 else 0) := by
      simp only [cmp_Compare_int.f, cmp_isNaN_int.f, hxx, hyy, Option.bind_some, Bool.false_eq_true, if_false]
      by_cases c1 : x < y
      · rw [if_pos (by omega), if_pos c1]
      · rw [if_neg (by omega), if_neg c1]
        by_cases c2 : x > y
        · rw [if_pos (by omega), if_pos c2]
        · rw [if_neg (by omega), if_neg c2]
    by_cases hxy : x = y
    · subst hxy
      obtain ⟨c, hc, hl⟩ := compare_l0 a b (p ++ [x]) (q ++ [x]) (by simp [hpq]) (by simp at h1 ⊢; omega) (by simp at h2 ⊢; omega)
      have e7 : ((p ++ [x]).length : Int) = wrap64 ((p.length : Int) + 1) := by rw [w64s _ hpw]; simp
      rw [e7, show (p ++ [x]) ++ a = p ++ x :: a from by simp, show (q ++ [x]) ++ b = q ++ x :: b from by simp] at hc
      refine ⟨c, Ev.succ ?_, by rw [lexN, if_pos rfl]; exact hl⟩
      simp only [slices_Compare_int_int.l0, e3, e3', if_true, Int.natCast_nonneg, e5, if_false, e6, r1, r2, cmp, Nat.lt_irrefl, gt_iff_lt, Option.bind_some]
      exact hc
    · by_cases c1 : x < y
      · refine ⟨-1, Ev.succ ?_, by rw [lexN, if_neg hxy, decide_eq_true_eq]; exact ⟨fun _ => c1, fun _ => by decide⟩⟩
        simp only [slices_Compare_int_int.l0, e3, e3', if_true, Int.natCast_nonneg, e5, if_false, e6, r1, r2, cmp, Option.bind_some, c1]
        exact Ev.pure _
      · have c2 : x > y := by omega
        refine ⟨1, Ev.succ ?_, by rw [lexN, if_neg hxy, decide_eq_true_eq]; exact ⟨fun h => absurd h (by decide), fun h => absurd h c1⟩⟩
        simp only [slices_Compare_int_int.l0, e3, e3', if_true, Int.natCast_nonneg, e5, if_false, e6, r1, r2, cmp, Option.bind_some, c1, c2]
        exact Ev.pure _
theorem compare_ev (a b : List Nat) (h1 : a.length ≤ 100000) (h2 : b.length ≤ 100000) : ∃ c : Int, Ev (fun k => slices_Compare_int_int.f k (ints a) (ints b)) c ∧ (c < 0 ↔ lexN a b = true) := by
  obtain ⟨c, hc, hl⟩ := compare_l0 a b [] [] rfl h1 h2
  refine ⟨c, ?_, hl⟩
  have e : ((ints a).length : Int) = (a.length : Int) := by rw [ints_len]
  unfold slices_Compare_int_int.f
  rw [e]
  exact hc
end Go.Proofs.Ytjbfbdanbpfplaa.OAll
