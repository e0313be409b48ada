/- A part of the proof of 'shareDiffers_holds', for every input, without a condition. -/
import Derived.Test.YtiafiebalibkdaaSDfQd
import Derived.Test.YtiafiebalibkdaaSDfOAllx5
import Derived.Test.YtiafiebalibkdaaSDfOAllx6
import Derived.Test.YtiafiebalibkdaaSDfOAllx11
import Derived.Test.YtiafiebalibkdaaSDfOAllx0
namespace Go.Proofs.Ytiafiebalibkdaa.OAll
open Go.RowKit Go.Proofs.YtiafiebalibkdaaW.PrintWords Go.Proofs.YtiafiebalibkdaaW.PrintLast Go.Proofs.YtiafiebalibkdaaW.PrintMore
set_option linter.unusedVariables false
set_option linter.unusedSimpArgs false
def Sm (x : Int) : Prop := -4611686018427387904 ≤ x ∧ x ≤ 4611686018427387904
theorem mx_abs {x : Int} (h : Sm x) : mx x (wrap64 (-x)) = (x.natAbs : Int) := by
  unfold Sm at h
  have e : wrap64 (-x) = -x := w64 (by omega) (by omega)
  rw [e]; unfold mx; split <;> omega
theorem gcd_step (a b : Int) : b.natAbs.gcd (Int.tmod a b).natAbs = a.natAbs.gcd b.natAbs := by
  rw [Int.natAbs_tmod, Nat.gcd_comm a.natAbs, Nat.gcd_rec b.natAbs a.natAbs, Nat.gcd_comm]
theorem tmod_sm {a b : Int} (h : Sm b) (hb : b ≠ 0) : Sm (Int.tmod a b) ∧ (Int.tmod a b).natAbs < b.natAbs := by
  have h1 : (Int.tmod a b).natAbs < b.natAbs := by rw [Int.natAbs_tmod]; exact Nat.mod_lt _ (by omega)
  unfold Sm at h ⊢
  exact ⟨by omega, h1⟩
theorem divisor_ev : ∀ (m : Nat) (a b : Int), b.natAbs ≤ m → Sm a → Sm b → Ev (fun k => ratio_divisor.f k a b) ((a.natAbs.gcd b.natAbs : Nat) : Int) := by
  intro m
  induction m with
  | zero =>
    intro a b hb ha hb'
    obtain rfl : b = 0 := by omega
    refine Ev.succ ?_
    simp only [ratio_divisor.f, if_true, mx_abs ha, Int.natAbs_zero, Nat.gcd_zero_right]
    exact Ev.pure _
  | succ m ih =>
    intro a b hb ha hb'
    refine Ev.succ ?_
    by_cases h : b = 0
    · subst h
      simp only [ratio_divisor.f, if_true, mx_abs ha, Int.natAbs_zero, Nat.gcd_zero_right]
      exact Ev.pure _
    · simp only [ratio_divisor.f, h, if_false]
      have ht := tmod_sm (a := a) hb' h
      have := ih b (Int.tmod a b) (by omega) hb' ht.1
      rw [gcd_step] at this
      exact Ev.bind this (Ev.pure _)
theorem gcd_ev : ∀ (m : Nat) (a b : Int), b.natAbs ≤ m → Sm a → Sm b → Ev (fun k => trishawref01_Gcd.f k a b) ((a.natAbs.gcd b.natAbs : Nat) : Int) := by
  intro m
  induction m with
  | zero =>
    intro a b hb ha hb'
    obtain rfl : b = 0 := by omega
    refine Ev.succ ?_
    simp only [trishawref01_Gcd.f, trishawref01_Gcd.l0, if_true, mx_abs ha, Int.natAbs_zero, Nat.gcd_zero_right]
    exact Ev.pure _
  | succ m ih =>
    intro a b hb ha hb'
    refine Ev.succ ?_
    by_cases h : b = 0
    · subst h
      simp only [trishawref01_Gcd.f, trishawref01_Gcd.l0, if_true, mx_abs ha, Int.natAbs_zero, Nat.gcd_zero_right]
      exact Ev.pure _
    · simp only [trishawref01_Gcd.f, trishawref01_Gcd.l0, h, if_false]
      have ht := tmod_sm (a := a) hb' h
      have := ih b (Int.tmod a b) (by omega) hb' ht.1
      rw [gcd_step] at this
      exact this
def gcdL (g : Nat) (l : List Int) : Nat := l.foldl (fun g x => g.gcd x.natAbs) g
theorem gcdL_dvd : ∀ (l : List Int) (g : Nat), gcdL g l ∣ g ∧ ∀ x ∈ l, (gcdL g l) ∣ x.natAbs
  | [], g => ⟨Nat.dvd_refl _, fun _ h => by cases h⟩
  | x :: t, g => by
    have h := gcdL_dvd t (g.gcd x.natAbs)
    refine ⟨Nat.dvd_trans h.1 (Nat.gcd_dvd_left _ _), fun y hy => ?_⟩
    rcases List.mem_cons.mp hy with rfl | hy
    · exact Nat.dvd_trans h.1 (Nat.gcd_dvd_right _ _)
    · exact h.2 y hy
theorem gcdL_le {g : Nat} (h : 0 < g) (l : List Int) : gcdL g l ≤ g := Nat.le_of_dvd h (gcdL_dvd l g).1
end Go.Proofs.Ytiafiebalibkdaa.OAll
