/- A part of the proof of 'stampCounted_holds', for every input, without a condition. -/
import Derived.Test.YthbalcbibmdpnaaSCoRm
import Derived.Test.YthbalcbibmdpnaaSCoOAllx0
import Derived.Test.YthbalcbibmdpnaaSCoOAllx2
import Derived.Test.YthbalcbibmdpnaaSCoOAllx3
import Derived.Test.YthbalcbibmdpnaaSCoRq
namespace Go.Proofs.Ythbalcbibmdpnaa.OAll
open Go.RowKit Go.Proofs.YthbalcbibmdpnaaW.PrintWords Go.Proofs.YthbalcbibmdpnaaW.PrintLast Go.Proofs.YthbalcbibmdpnaaW.PrintMore
attribute [local go_sem] max2_int min2_int max_two min_two max_three min_three max_four min_four
set_option linter.unusedVariables false
set_option linter.unusedSimpArgs false
def trishawlaw04_choose.l0 : Nat → Int → Int → Int → Int → Option (Int)
 | 0, _, _, _, _ => none
 | k + 1, x0, x1, x5, x6 => if x6 ≤ x1 then (if x6 = 0 then (none) else (trishawlaw04_choose.l0 k x0 x1 (wrap64 (Int.tdiv (wrap64 (x5 * (wrap64 ((wrap64 (x0 - x6)) + 1)))) x6)) (wrap64 (x6 + 1)))) else (some x5)
def trishawlaw04_choose.f (k : Nat) (a0 : Int) (a1 : Int) : Option (Int) := trishawlaw04_choose.l0 k a0 a1 1 1
theorem trishawlaw04_choose.mono_l : ∀ k, (∀ y0 y1 y2 y3, LeO (trishawlaw04_choose.l0 k y0 y1 y2 y3) (trishawlaw04_choose.l0 (k + 1) y0 y1 y2 y3))
 | 0 => fun _ _ _ _ r h => by simp [trishawlaw04_choose.l0] at h
 | k + 1 => by
  have ih0 := trishawlaw04_choose.mono_l k
  ·intro y0 y1 y2 y3
   unfold trishawlaw04_choose.l0
   repeat' first
   | (with_reducible exact ih0 _ _ _ _)
   | (with_reducible exact LeO.refl _)
   | (with_reducible exact LeO.none _)
   | (with_reducible refine LeO.ite ?_ ?_)
   | (with_reducible refine LeO.bind ?_ (fun _ => ?_))
   | exact ih0 _ _ _ _
   | exact LeO.none _
   | refine LeO.ite ?_ ?_
   | refine LeO.bind ?_ (fun _ => ?_)
theorem trishawlaw04_choose.mono : ∀ a0 a1 k, LeO (trishawlaw04_choose.f k a0 a1) (trishawlaw04_choose.f (k + 1) a0 a1) := by
 intro a0 a1 k
 have ih0 := trishawlaw04_choose.mono_l k
 unfold trishawlaw04_choose.f
 repeat' first
   | (with_reducible exact ih0 _ _ _ _)
   | (with_reducible exact LeO.refl _)
   | (with_reducible exact LeO.none _)
   | (with_reducible refine LeO.ite ?_ ?_)
   | (with_reducible refine LeO.bind ?_ (fun _ => ?_))
   | exact ih0 _ _ _ _
   | exact LeO.none _
   | refine LeO.ite ?_ ?_
   | refine LeO.bind ?_ (fun _ => ?_)
set_option maxHeartbeats 8000000 in
set_option maxRecDepth 100000 in
theorem trishawlaw04_choose.calls (k : Nat) (a0 : Int) (a1 : Int) (r : Int) (w : World) (h : trishawlaw04_choose.f k a0 a1 = some r) :
  Calls Try.prog 25 #[.int .i64 a0, .int .i64 a1] w fun e w' => e = .returned (.int .i64 r) ∧ Drawn0 w w' := by
 have H : (trishawlaw04_choose.l0 k a0 a1 1 1) = some r := h
 clear h
 have H' := Aside0.mk H
 clear H
 go_enter Try.func25, Try.ntmps25
 go_wp2
 go_loopg [5, 6] k (fun kq v5 v6 w' => ∃ (x5_1 : Int) (x6_1 : Int), v5 = .int .i64 x5_1 ∧ v6 = .int .i64 x6_1 ∧ Aside0 (trishawlaw04_choose.l0 kq a0 a1 x5_1 x6_1 = some r) ∧ Aside0 (kq ≤ k) ∧ Drawn0 w w')
 case atStart => exact ⟨(1), (1), (by first | rfl | (simp; done) | (simp [*]; done)), (by first | rfl | (simp; done) | (simp [*]; done)), H', ⟨Nat.le_refl _⟩, by repeat (first | exact Drawn0.refl _ | apply Drawn0.step)⟩
 case round =>
  clear H'
  try clear c2
  try clear p2
  obtain ⟨x5_1, x6_1, rfl, rfl, HA, HK1, ⟨m1, rfl⟩⟩ := hrel
  cases gk with
  | zero => exact absurd HA.out (by simp [trishawlaw04_choose.l0])
  | succ k1 =>
   have H := HA.out
   clear HA
   simp only [trishawlaw04_choose.l0] at H
   by_cases c3 : x6_1 ≤ a1
   ·rw [if_pos c3] at H
    have c3b0 : decide (x6_1 ≤ a1) = true := decide_eq_true c3
    clear c3
    by_cases c4 : x6_1 = 0
    ·rw [if_pos c4] at H
     exact absurd H (by simp)
    ·rw [if_neg c4] at H
     have c4b0 : (x6_1 == 0) = false := beq_eq_false_iff_ne.mpr c4
     have c4b1 : (x6_1 != 0) = true := bne_iff_ne.mpr c4
     have H' := Aside0.mk H
     clear H
     go_wp2
     go_roundg k1
     case measure => have := HK1.out; omega
     case rel => exact ⟨(wrap64 (Int.tdiv (wrap64 (x5_1 * (wrap64 ((wrap64 (a0 - x6_1)) + 1)))) x6_1)), (wrap64 (x6_1 + 1)), (by first | rfl | (simp; done) | (simp [*]; done)), (by first | rfl | (simp; done) | (simp [*]; done)), H', ⟨by have := HK1.out; omega⟩, by repeat (first | exact Drawn0.refl _ | apply Drawn0.step)⟩
   ·rw [if_neg c3] at H
    have c3b0 : decide (x6_1 ≤ a1) = false := decide_eq_false c3
    clear c3
    obtain rfl := Option.some.inj H
    go_wp2
    go_ret
    exact ⟨by first | rfl | (simp; done) | (simp [*]; done), by repeat (first | exact Drawn0.refl _ | apply Drawn0.step)⟩
end Go.Proofs.Ythbalcbibmdpnaa.OAll
