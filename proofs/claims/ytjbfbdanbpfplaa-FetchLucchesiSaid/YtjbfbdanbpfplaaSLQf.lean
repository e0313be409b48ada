/- A part of the proof of 'fetchLucchesi_holds', for every input, without a condition. -/
import Derived.Test.YtjbfbdanbpfplaaSLQe
import Derived.Test.YtjbfbdanbpfplaaSLOAllx10
namespace Go.Proofs.Ytjbfbdanbpfplaa.OAll
open Go.RowKit Go.Proofs.YtjbfbdanbpfplaaW.PrintWords Go.Proofs.YtjbfbdanbpfplaaW.PrintLast Go.Proofs.YtjbfbdanbpfplaaW.PrintMore
set_option linter.unusedVariables false
set_option linter.unusedSimpArgs false
theorem inb_and (X Y : Nat) (v : Int) : inb (X &&& Y) v = (inb X v && inb Y v) := by simp [inb, Nat.testBit_and]
theorem inb_or (X Y : Nat) (v : Int) : inb (X ||| Y) v = (inb X v || inb Y v) := by simp [inb, Nat.testBit_or]
theorem cut_and {n : Nat} {st : List S34} {X Y : Nat} (hX : isCutB n st X = true) (hY : isCutB n st Y = true) (h : X &&& Y ≠ 0) : isCutB n st (X &&& Y) = true := by
  have hx := isCut_pos hX
  have hy := isCut_pos hY
  have hl : X &&& Y ≤ X := Nat.and_le_left
  refine isCut_mk (by omega) (by omega) fun s hs => ?_
  have h1 := hx.2.2 s hs
  have h2 := hy.2.2 s hs
  unfold backS at *
  rw [inb_and, inb_and]
  revert h1 h2
  cases inb X s.f0 <;> cases inb X s.f1 <;> cases inb Y s.f0 <;> cases inb Y s.f1 <;> decide
theorem cut_or {n : Nat} {st : List S34} {X Y : Nat} (hX : isCutB n st X = true) (hY : isCutB n st Y = true) (h : X ||| Y ≠ 2 ^ n - 1) : isCutB n st (X ||| Y) = true := by
  have hx := isCut_pos hX
  have hy := isCut_pos hY
  have hl : X ≤ X ||| Y := Nat.left_le_or
  have hu : X ||| Y < 2 ^ n := Nat.or_lt_two_pow (by omega) (by omega)
  refine isCut_mk (by omega) (by omega) fun s hs => ?_
  have h1 := hx.2.2 s hs
  have h2 := hy.2.2 s hs
  unfold backS at *
  rw [inb_or, inb_or]
  revert h1 h2
  cases inb X s.f0 <;> cases inb X s.f1 <;> cases inb Y s.f0 <;> cases inb Y s.f1 <;> decide
end Go.Proofs.Ytjbfbdanbpfplaa.OAll
