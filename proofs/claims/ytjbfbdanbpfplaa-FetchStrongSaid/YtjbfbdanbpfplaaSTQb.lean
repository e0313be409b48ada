/- A part of the proof of 'fetchStrong_holds', for every input, without a condition. -/
import Derived.Test.YtjbfbdanbpfplaaSTQa
import Derived.Test.YtjbfbdanbpfplaaSTOAllx6
import Derived.Test.YtjbfbdanbpfplaaSTOAllx9
namespace Go.Proofs.Ytjbfbdanbpfplaa.OAll
open Go.RowKit Go.Proofs.YtjbfbdanbpfplaaW.PrintWords Go.Proofs.YtjbfbdanbpfplaaW.PrintLast Go.Proofs.YtjbfbdanbpfplaaW.PrintMore
set_option linter.unusedVariables false
set_option linter.unusedSimpArgs false
theorem sane_mem {n : Nat} {st : List S34} (h : Sane n st) {p t : List S34} {s : S34} (e : st = p ++ s :: t) : 0 ≤ s.f0 ∧ s.f0 < n ∧ 0 ≤ s.f1 ∧ s.f1 < n ∧ s.f0 ≠ s.f1 :=
  h.2.2 s (by rw [e]; simp)
theorem sane_len {n : Nat} {st : List S34} (h : Sane n st) {p t : List S34} {s : S34} (e : st = p ++ s :: t) : p.length < 14 := by
  have := h.2.1; rw [e] at this; simp at this; omega
theorem sane_le {n : Nat} {st : List S34} (h : Sane n st) {p t : List S34} {s : S34} (e : st = p ++ s :: t) : s.f0 ≤ 64 ∧ s.f1 ≤ 64 := by
  have := sane_mem h e; have := h.1; omega
theorem full_w {n : Nat} (h : n ≤ 7) : wrap64 (wrap64 (2 ^ (n : Int).toNat) - 1) = ((2 ^ n - 1 : Nat) : Int) := by
  have hp : (2 : Nat) ^ n ≤ 2 ^ 7 := Nat.pow_le_pow_right (by decide) h
  have : 1 ≤ 2 ^ n := Nat.one_le_two_pow
  rw [Int.toNat_natCast, w64pow (by omega), w64] <;> omega
theorem everybody_eq {n : Nat} (h : n ≤ 7) (st : List S34) : fetch_quarter_everybody.f (n : Int) st = some ((2 ^ n - 1 : Nat) : Int) := by
  have : (n : Int) ≤ 64 := by omega
  simp only [fetch_quarter_everybody.f, nonneg_len, Int.natCast_nonneg, this, if_true, full_w h]
theorem isCut_pos {n : Nat} {st : List S34} {X : Nat} (h : isCutB n st X = true) : 0 < X ∧ X < 2 ^ n - 1 ∧ ∀ s ∈ st, backS X s = false := by
  simp only [isCutB, Bool.and_eq_true, decide_eq_true_eq, List.all_eq_true] at h
  exact ⟨h.1.1, h.1.2, fun s hs => by simpa using h.2 s hs⟩
theorem isCut_mk {n : Nat} {st : List S34} {X : Nat} (h0 : 0 < X) (h1 : X < 2 ^ n - 1) (h2 : ∀ s ∈ st, backS X s = false) : isCutB n st X = true := by
  simp only [isCutB, Bool.and_eq_true, decide_eq_true_eq, List.all_eq_true]
  exact ⟨⟨h0, h1⟩, fun s hs => by simp [h2 s hs]⟩
end Go.Proofs.Ytjbfbdanbpfplaa.OAll
