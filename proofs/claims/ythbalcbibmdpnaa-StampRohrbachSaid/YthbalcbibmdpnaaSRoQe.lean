/- A part of the proof of 'stampRohrbach_holds', for every input, without a condition. -/
import Derived.Test.YthbalcbibmdpnaaSRoQa
import Derived.Test.YthbalcbibmdpnaaSRoOAllx3
import Derived.Test.YthbalcbibmdpnaaSRoOAllx6
namespace Go.Proofs.Ythbalcbibmdpnaa.OAll
open Go.RowKit Go.Proofs.YthbalcbibmdpnaaW.PrintWords Go.Proofs.YthbalcbibmdpnaaW.PrintLast Go.Proofs.YthbalcbibmdpnaaW.PrintMore
set_option linter.unusedVariables false
set_option linter.unusedSimpArgs false
theorem rohrbach_mod (k : Nat) (a b : Int) (h : Int.tmod a 6 = Int.tmod b 6) : trishawlaw04_StampRohrbach.f k a = trishawlaw04_StampRohrbach.f k b := by
  unfold trishawlaw04_StampRohrbach.f
  rw [h]
set_option maxRecDepth 1000000 in
theorem rohr0 : trishawlaw04_StampRohrbach.f 300 0 = some true := by kernel_rfl
set_option maxRecDepth 1000000 in
theorem rohr1 : trishawlaw04_StampRohrbach.f 300 1 = some true := by kernel_rfl
set_option maxRecDepth 1000000 in
theorem rohr2 : trishawlaw04_StampRohrbach.f 300 2 = some true := by kernel_rfl
set_option maxRecDepth 1000000 in
theorem rohr3 : trishawlaw04_StampRohrbach.f 300 3 = some true := by kernel_rfl
set_option maxRecDepth 1000000 in
theorem rohr4 : trishawlaw04_StampRohrbach.f 300 4 = some true := by kernel_rfl
set_option maxRecDepth 1000000 in
theorem rohr5 : trishawlaw04_StampRohrbach.f 300 5 = some true := by kernel_rfl
theorem StampRohrbach_ex (a0 : Int) (h : (Lit.int .u8 a0).wf = true) : ∃ k, trishawlaw04_StampRohrbach.f k a0 = some true := by
  have h1 : IntKind.u8.min = 0 := by decide
  have h2 : IntKind.u8.max = 255 := by decide
  simp [Lit.wf, h1, h2] at h
  refine ⟨300, ?_⟩
  have hm : Int.tmod a0 6 = a0 % 6 := Int.tmod_eq_emod_of_nonneg h.1
  have hk : ∀ b : Int, 0 ≤ b → a0 % 6 = b % 6 → trishawlaw04_StampRohrbach.f 300 a0 = trishawlaw04_StampRohrbach.f 300 b := fun b hb e => rohrbach_mod 300 a0 b (by rw [hm, Int.tmod_eq_emod_of_nonneg hb, e])
  have : a0 % 6 = 0 ∨ a0 % 6 = 1 ∨ a0 % 6 = 2 ∨ a0 % 6 = 3 ∨ a0 % 6 = 4 ∨ a0 % 6 = 5 := by omega
  rcases this with e | e | e | e | e | e
  · exact (hk 0 (by omega) (by omega)).trans rohr0
  · exact (hk 1 (by omega) (by omega)).trans rohr1
  · exact (hk 2 (by omega) (by omega)).trans rohr2
  · exact (hk 3 (by omega) (by omega)).trans rohr3
  · exact (hk 4 (by omega) (by omega)).trans rohr4
  · exact (hk 5 (by omega) (by omega)).trans rohr5
end Go.Proofs.Ythbalcbibmdpnaa.OAll
