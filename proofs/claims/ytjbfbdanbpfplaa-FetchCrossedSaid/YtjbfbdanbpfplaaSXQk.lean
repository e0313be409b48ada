/- A part of the proof of 'fetchCrossed_holds', for every input, without a condition. -/
import Derived.Test.YtjbfbdanbpfplaaSXQh
import Derived.Test.YtjbfbdanbpfplaaSXOAllx12
namespace Go.Proofs.Ytjbfbdanbpfplaa.OAll
open Go.RowKit Go.Proofs.YtjbfbdanbpfplaaW.PrintWords Go.Proofs.YtjbfbdanbpfplaaW.PrintLast Go.Proofs.YtjbfbdanbpfplaaW.PrintMore
set_option linter.unusedVariables false
set_option linter.unusedSimpArgs false
def compN (n X : Nat) : Nat := (2 ^ n - 1) ^^^ X
theorem compN_bit {n X : Nat} (hX : X < 2 ^ n) (i : Nat) : (compN n X).testBit i = (decide (i < n) && !X.testBit i) := by
  rw [compN, Nat.testBit_xor, full_bit]
  by_cases h : i < n
  · simp [h]
  · have : X.testBit i = false := Nat.testBit_lt_two_pow (Nat.lt_of_lt_of_le hX (Nat.pow_le_pow_right (by decide) (by omega)))
    simp [h, this]
theorem compN_lt {n X : Nat} (hX : X < 2 ^ n) : compN n X < 2 ^ n := Nat.xor_lt_two_pow (by have := Nat.two_pow_pos n; omega) hX
theorem compN_inb {n X : Nat} (hX : X < 2 ^ n) {v : Int} (h0 : 0 ≤ v) (h1 : v < n) : inb (compN n X) v = !inb X v := by
  rw [inb, inb, compN_bit hX, decide_eq_true (by omega), Bool.true_and]
theorem cross_ne {n : Nat} {st : List S34} (hs : Sane n st) (h1 : 1 ≤ n) (hc : connB n st = true) {X : Nat} (hX : isCutB n st X = true) : cross st X ≠ 0 := by
  intro h
  have hp := isCut_pos hX
  have hX2 : X < 2 ^ n := by omega
  have hio : ∀ s ∈ st, inb X s.f0 = inb X s.f1 := fun s hs' => by
    have hb := hp.2.2 s hs'
    have ho : outS X s = false := by
      obtain ⟨j, hj, e⟩ := List.getElem_of_mem hs'
      cases ho : outS X s
      · rfl
      · have := (cross_bit st X j).mpr ⟨s, by rw [List.getElem?_eq_getElem hj, e], ho⟩
        rw [h] at this; simp at this
    unfold outS at ho; unfold backS at hb
    revert ho hb
    cases inb X s.f0 <;> cases inb X s.f1 <;> simp
  have hci := (conn_iff hs h1).mp hc
  cases h0 : X.testBit 0
  · have hY0 : (compN n X).testBit 0 = true := by rw [compN_bit hX2, h0, decide_eq_true (by omega)]; rfl
    have hYs : shut true st (compN n X) := fun s hs' => by
      have hm := hs.2.2 s hs'
      have e := hio s hs'
      rw [shutS, compN_inb hX2 hm.1 hm.2.1, compN_inb hX2 hm.2.2.1 hm.2.2.2.1, e]
      exact ⟨id, fun _ => id⟩
    have hY := hci _ (compN_lt hX2) hY0 hYs
    apply Nat.ne_of_gt hp.1
    apply Nat.eq_of_testBit_eq; intro i
    rw [Nat.zero_testBit]
    cases hi : X.testBit i
    · rfl
    · have := compN_bit hX2 i
      rw [hY, full_bit, hi] at this
      have hin := bit_in hX2 hi
      rw [decide_eq_true hin] at this; cases this
  · have := hci X hX2 h0 (fun s hs' => by rw [shutS, hio s hs']; exact ⟨id, fun _ => id⟩)
    omega
structure Least (all : List Nat) (i : Nat) (s : Bool × List Nat × Nat) : Prop where
  low : ∀ X, X < i → hits all X = true → s.1 = true ∧ s.2.1.length ≤ (bitsN X).length
  is : s.1 = true → ∃ X, X < i ∧ hits all X = true ∧ s.2.1 = bitsN X
theorem hits_iff {all : List Nat} {X : Nat} : hits all X = true ↔ ∀ c ∈ all, c &&& X ≠ 0 := by
  simp [hits, List.all_eq_true]
end Go.Proofs.Ytjbfbdanbpfplaa.OAll
