/- A part of the proof of 'fetchStrong_holds', for every input, without a condition. -/
import Derived.Test.YtjbfbdanbpfplaaSTQe
import Derived.Test.YtjbfbdanbpfplaaSTOAllx8
import Derived.Test.YtjbfbdanbpfplaaSTOAllx13
namespace Go.Proofs.Ytjbfbdanbpfplaa.OAll
open Go.RowKit Go.Proofs.YtjbfbdanbpfplaaW.PrintWords Go.Proofs.YtjbfbdanbpfplaaW.PrintLast Go.Proofs.YtjbfbdanbpfplaaW.PrintMore
set_option linter.unusedVariables false
set_option linter.unusedSimpArgs false
def bitsFrom (X i d : Nat) : List Nat := (List.range' i d).filter fun j => X.testBit j
def bitsN (X : Nat) : List Nat := bitsFrom X 0 30
theorem bitsFrom_succ (X i d : Nat) : bitsFrom X i (d + 1) = if X.testBit i then i :: bitsFrom X (i + 1) d else bitsFrom X (i + 1) d := by
  rw [bitsFrom, List.range'_succ, List.filter_cons]; rfl
theorem bitsFrom_nil {X i : Nat} (h : X < 2 ^ i) : ∀ d j, i ≤ j → bitsFrom X j d = []
  | 0, _, _ => rfl
  | d + 1, j, hj => by
    rw [bitsFrom_succ, Nat.testBit_lt_two_pow (Nat.lt_of_lt_of_le h (Nat.pow_le_pow_right (by decide) hj))]
    exact bitsFrom_nil h d (j + 1) (by omega)
theorem bitsN_mem {X i : Nat} (h : X < 2 ^ 30) : i ∈ bitsN X ↔ X.testBit i = true := by
  rw [bitsN, bitsFrom, List.mem_filter, List.mem_range'_1]
  exact ⟨fun h => h.2, fun h' => ⟨⟨Nat.zero_le _, by have := bit_in h h'; omega⟩, h'⟩⟩
theorem list_l0 (X : Nat) (hX : X < 2 ^ 30) : ∀ (d i : Nat) (acc : List Int), d + i = 30 → acc.length ≤ i → Ev (fun k => fetch_list.l0 k X acc i) (acc ++ ints (bitsFrom X i d)) := by
  intro d
  induction d with
  | zero =>
    intro i acc hi ha
    obtain rfl : i = 30 := by omega
    have e0 : ¬ ((X : Int) / 2 ^ ((30 : Nat) : Int).toNat) > 0 := by
      rw [Int.toNat_natCast, shr_nat]
      have : X / 2 ^ 30 = 0 := Nat.div_eq_of_lt hX
      omega
    have h64 : ((30 : Nat) : Int) ≤ 64 := by omega
    refine Ev.succ ?_
    simp only [fetch_list.l0, Int.natCast_nonneg, h64, if_true, e0, if_false]
    have : bitsFrom X 30 0 = [] := rfl
    rw [this, show acc ++ ints [] = acc from List.append_nil _]
    exact Ev.pure _
  | succ d ih =>
    intro i acc hi ha
    have h64 : (i : Int) ≤ 64 := by omega
    have hiw : i < 9223372036854775807 := by omega
    have hl : acc.length < 17592186044416 := by omega
    have hX63 : X < 2 ^ 63 := by omega
    refine Ev.succ ?_
    by_cases hz : X / 2 ^ i = 0
    · have hlt : X < 2 ^ i := by
        rcases Nat.lt_or_ge X (2 ^ i) with h | h
        · exact h
        · have := Nat.div_pos h (Nat.two_pow_pos i); omega
      have e0 : ¬ ((X : Int) / 2 ^ (i : Int).toNat) > 0 := by
        rw [Int.toNat_natCast, shr_nat, hz]; omega
      simp only [fetch_list.l0, Int.natCast_nonneg, h64, if_true, e0, if_false]
      rw [bitsFrom_nil hlt (d + 1) i (Nat.le_refl _), show acc ++ ints [] = acc from List.append_nil _]
      exact Ev.pure _
    · have e0 : ((X : Int) / 2 ^ i) > 0 := by
        rw [shr_nat]; exact Int.natCast_pos.mpr (Nat.pos_of_ne_zero hz)
      simp only [fetch_list.l0, Int.natCast_nonneg, h64, if_true, e0, bit_and X _ hX63, w64s i hiw, hl, Int.toNat_natCast]
      rw [bitsFrom_succ]
      rcases Bool.eq_false_or_eq_true (X.testBit i) with h | h
      · simp only [h, if_true]
        have := ih (i + 1) (acc ++ [(i : Int)]) (by omega) (by simp; omega)
        rw [List.append_assoc] at this
        exact this
      · simp only [h, Bool.false_eq_true, if_false, Int.zero_ne_one]
        exact ih (i + 1) acc (by omega) (by omega)
theorem list_ev (X : Nat) (hX : X < 2 ^ 30) : Ev (fun k => fetch_list.f k X) (ints (bitsN X)) := list_l0 X hX 30 0 [] rfl (by simp)
theorem members_l0 (X : Nat) : ∀ (d i : Nat) (acc : List Int), d + i = 30 → acc.length ≤ i → Ev (fun k => trishawref09_Members.l0 k X acc i) (acc ++ ints (bitsFrom X i d)) := by
  intro d
  induction d with
  | zero =>
    intro i acc hi ha
    have e0 : ¬ (i : Int) < 30 := by omega
    refine Ev.succ ?_
    simp only [trishawref09_Members.l0, e0, if_false]
    have : bitsFrom X i 0 = [] := rfl
    rw [this, show acc ++ ints [] = acc from List.append_nil _]
    exact Ev.pure _
  | succ d ih =>
    intro i acc hi ha
    have h64 : (i : Int) ≤ 64 := by omega
    have hiw : i < 9223372036854775807 := by omega
    have hl : acc.length < 17592186044416 := by omega
    have e0 : (i : Int) < 30 := by omega
    refine Ev.succ ?_
    simp only [trishawref09_Members.l0, Int.natCast_nonneg, h64, if_true, e0, bit_mod X _, w64s i hiw, hl, Int.toNat_natCast]
    rw [bitsFrom_succ]
    rcases Bool.eq_false_or_eq_true (X.testBit i) with h | h
    · simp only [h, if_true]
      have := ih (i + 1) (acc ++ [(i : Int)]) (by omega) (by simp; omega)
      rw [List.append_assoc] at this
      exact this
    · simp only [h, Bool.false_eq_true, if_false, Int.zero_ne_one]
      exact ih (i + 1) acc (by omega) (by omega)
theorem members_ev (X : Nat) : Ev (fun k => trishawref09_Members.f k X) (ints (bitsN X)) := members_l0 X 30 0 [] rfl (by simp)
end Go.Proofs.Ytjbfbdanbpfplaa.OAll
