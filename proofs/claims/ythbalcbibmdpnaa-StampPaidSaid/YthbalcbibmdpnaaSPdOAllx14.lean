/- A part of the proof of 'stampPaid_holds', for every input, without a condition. -/
import Derived.Deep.RegionHeld3
import Derived.Test.YthbalcbibmdpnaaSPdOAllx0
import Derived.Test.YthbalcbibmdpnaaSPdOAllx2
import Derived.Test.YthbalcbibmdpnaaSPdOAllx3
import Derived.Test.YthbalcbibmdpnaaSPdRq
import Derived.Test.YthbalcbibmdpnaaSPdOAllx6
import Derived.Test.YthbalcbibmdpnaaSPdRr
import Derived.Test.YthbalcbibmdpnaaSPdRm
import Derived.Test.YthbalcbibmdpnaaSPdOAllx8
import Derived.Test.YthbalcbibmdpnaaSPdRv
namespace Go.Proofs.Ythbalcbibmdpnaa.OAll
open Go.RowKit Go.Proofs.YthbalcbibmdpnaaW.PrintWords Go.Proofs.YthbalcbibmdpnaaW.PrintLast Go.Proofs.YthbalcbibmdpnaaW.PrintMore
attribute [local go_sem] max2_int min2_int max_two min_two max_three min_three max_four min_four
set_option linter.unusedVariables false
set_option linter.unusedSimpArgs false
mutual
def trishawlaw04_StampPaid.j0 : Nat → Int → List Int → Int → Bool → Option (Bool)
 | 0, _, _, _, _ => none
 | k + 1, x0, x1, x2, x29 => if x29 = true then ((trishawlaw04_alive.f k).bind fun t470 => (some t470)) else (if 0 ≤ (wrap64 ((x1.length : Int) - 1)) then (if (wrap64 ((x1.length : Int) - 1)) < (x1.length : Int) then (if (wrap64 ((wrap64 (x0 * (rd x1 (wrap64 ((x1.length : Int) - 1))))) + 1)) = 0 then (none) else ((stamp_Pay.f k x0 x1 (Int.tmod (wrap64 (x2)) (wrap64 ((wrap64 (x0 * (rd x1 (wrap64 ((x1.length : Int) - 1))))) + 1)))).bind fun bt472 => ((stamp_Fewest.f k x0 x1).bind fun bt476 => ((stamp_Ways.f k x0 x1 (Int.tmod (wrap64 (x2)) (wrap64 ((wrap64 (x0 * (rd x1 (wrap64 ((x1.length : Int) - 1))))) + 1)))).bind fun bt480 => (if bt476.2 = 0 then (if bt480.2 = 0 then (if (bt476.1.length : Int) = (wrap64 ((wrap64 (x0 * (rd x1 (wrap64 ((x1.length : Int) - 1))))) + 1)) then (if 0 ≤ (Int.tmod (wrap64 (x2)) (wrap64 ((wrap64 (x0 * (rd x1 (wrap64 ((x1.length : Int) - 1))))) + 1))) then (if (Int.tmod (wrap64 (x2)) (wrap64 ((wrap64 (x0 * (rd x1 (wrap64 ((x1.length : Int) - 1))))) + 1))) < (bt476.1.length : Int) then (trishawlaw04_StampPaid.j1 k x0 x1 (wrap64 (x0 * (rd x1 (wrap64 ((x1.length : Int) - 1))))) (Int.tmod (wrap64 (x2)) (wrap64 ((wrap64 (x0 * (rd x1 (wrap64 ((x1.length : Int) - 1))))) + 1))) bt472.1 bt472.2 bt476.1 ((decide (bt480.1 > 0)) != (decide ((rd bt476.1 (Int.tmod (wrap64 (x2)) (wrap64 ((wrap64 (x0 * (rd x1 (wrap64 ((x1.length : Int) - 1))))) + 1)))) ≥ 0)))) else (none)) else (none)) else (none)) else (none)) else (none)))))) else (none)) else (none))
def trishawlaw04_StampPaid.j1 : Nat → Int → List Int → Int → Int → List Int → Int → List Int → Bool → Option (Bool)
 | 0, _, _, _, _, _, _, _, _ => none
 | k + 1, x0, x1, x7, x8, x9, x10, x11, x86 => if x86 = true then (none) else (if x10 = 0 then (trishawlaw04_StampPaid.l0 k x0 x1 x7 x8 x9 x11 0 0) else (if x10 = 10 then (if 0 ≤ x8 then (if x8 < (x11.length : Int) then (if (rd x11 x8) = (-1) then (if (x9.length : Int) = 0 then ((trishawlaw04_alive.f k).bind fun t484 => (some t484)) else (none)) else (none)) else (none)) else (none)) else (none)))
def trishawlaw04_StampPaid.l0 : Nat → Int → List Int → Int → Int → List Int → List Int → Int → Int → Option (Bool)
 | 0, _, _, _, _, _, _, _, _ => none
 | k + 1, x0, x1, x7, x8, x9, x11, x15, x16 => if x16 < (x9.length : Int) then (if 0 ≤ x16 then ((trishawref04_In.f k x1 (rd x9 x16)).bind fun t486 => (if t486 = true then (if x16 > 0 then (if 0 ≤ (wrap64 (x16 - 1)) then (if (wrap64 (x16 - 1)) < (x9.length : Int) then (if (rd x9 x16) < (rd x9 (wrap64 (x16 - 1))) then (none) else (trishawlaw04_StampPaid.l0 k x0 x1 x7 x8 x9 x11 (wrap64 (x15 + (rd x9 x16))) (wrap64 (x16 + 1)))) else (none)) else (none)) else (trishawlaw04_StampPaid.l0 k x0 x1 x7 x8 x9 x11 (wrap64 (x15 + (rd x9 x16))) (wrap64 (x16 + 1)))) else (none))) else (none)) else (if x15 = x8 then (if 0 ≤ x8 then (if x8 < (x11.length : Int) then (if (x9.length : Int) = (rd x11 x8) then (trishawlaw04_StampPaid.j3 k x0 x1 x7 x8 x11 (decide ((x9.length : Int) > x0))) else (none)) else (none)) else (none)) else (none))
def trishawlaw04_StampPaid.j3 : Nat → Int → List Int → Int → Int → List Int → Bool → Option (Bool)
 | 0, _, _, _, _, _, _ => none
 | k + 1, x0, x1, x7, x8, x11, x158 => if x158 = true then (none) else ((stamp_Greedy.f k x0 x1).bind fun bt492 => (if bt492.2 = 0 then (if bt492.1 < 1 then (none) else (if bt492.1 > x7 then (none) else (if 0 ≤ bt492.1 then (if bt492.1 < (x11.length : Int) then (trishawlaw04_StampPaid.j4 k x0 x1 x8 bt492.2 bt492.1 (decide ((rd x11 bt492.1) < 0))) else (none)) else (none)))) else (if bt492.2 = 10 then (trishawlaw04_StampPaid.j4 k x0 x1 x8 bt492.2 bt492.1 false) else (none))))
def trishawlaw04_StampPaid.j4 : Nat → Int → List Int → Int → Int → Int → Bool → Option (Bool)
 | 0, _, _, _, _, _, _ => none
 | k + 1, x0, x1, x8, x10, x17, x190 => if x190 = true then (none) else (if x10 = 0 then (trishawlaw04_StampPaid.j5 k x0 x1 x8 (decide (x8 ≥ x17))) else (trishawlaw04_StampPaid.j5 k x0 x1 x8 false))
def trishawlaw04_StampPaid.j5 : Nat → Int → List Int → Int → Bool → Option (Bool)
 | 0, _, _, _, _ => none
 | k + 1, x0, x1, x8, x197 => if x197 = true then ((trishawlaw04_alive.f k).bind fun t495 => (some t495)) else (trishawlaw04_StampPaid.l1 k x0 x1 0 x8 (wrap64 ((x1.length : Int) - 1)))
def trishawlaw04_StampPaid.l1 : Nat → Int → List Int → Int → Int → Int → Option (Bool)
 | 0, _, _, _, _, _ => none
 | k + 1, x0, x1, x18, x19, x20 => if x20 ≥ 0 then (if 0 ≤ x20 then (if x20 < (x1.length : Int) then (if (rd x1 x20) = 0 then (none) else (trishawlaw04_StampPaid.l1 k x0 x1 (wrap64 (x18 + (wrap64 (Int.tdiv x19 (rd x1 x20))))) (Int.tmod x19 (rd x1 x20)) (wrap64 (x20 - 1)))) else (none)) else (none)) else (if x19 = 0 then (if x18 ≤ x0 then ((trishawlaw04_alive.f k).bind fun t498 => (some t498)) else (none)) else (none))
end
def trishawlaw04_StampPaid.f (k : Nat) (a0 : Int) (l1 : List Int) (a2 : Int) : Option (Bool) := if (l1.length : Int) > 30 then (trishawlaw04_StampPaid.j0 k a0 l1 a2 true) else ((trishawref04_Ticket.f k a0 l1).bind fun t469 => (trishawlaw04_StampPaid.j0 k a0 l1 a2 (t469 != 0)))
set_option maxHeartbeats 80000000 in
set_option maxRecDepth 100000 in
theorem trishawlaw04_StampPaid.calls (k : Nat) (a0 : Int) (A1 : Option Addr) (c1 : Nat) (l1 : List Int) (a2 : Int) (r : Bool) (w : World) (hr1 : Kd.C (Kd.int .i64) w A1 l1.length l1) (hc1 : l1.length ≤ c1) (h : trishawlaw04_StampPaid.f k a0 l1 a2 = some r) :
  Calls Try.prog 13 #[.int .i64 a0, .slice A1 l1.length c1, .int .u16 a2] w fun e w' => e = .returned (.bool r) ∧ Below w.heap.size w w' := by
 have HR1 := Aside0.mk hr1
 have HC1 := Aside0.mk hc1
 clear hr1 hc1
 have HB := Aside0.mk (Below.refl w.heap.size w)
 have H : (if (l1.length : Int) > 30 then (trishawlaw04_StampPaid.j0 k a0 l1 a2 true) else ((trishawref04_Ticket.f k a0 l1).bind fun t469 => (trishawlaw04_StampPaid.j0 k a0 l1 a2 (t469 != 0)))) = some r := h
 clear h
 have HC4 := Aside0.mk H
 clear H
 go_enter Try.func13, Try.ntmps13
 go_upto_region 1 with (fail)
 repeat (go_quiet (fail); go_upto_region 1 with (fail))
 go_cut [29] (fun v29 wc => ∃ (kq : Nat) (x29_3 : Bool), v29 = .bool x29_3 ∧ Aside0 (trishawlaw04_StampPaid.j0 kq a0 l1 a2 x29_3 = some r) ∧ Aside0 (kq ≤ k) ∧ Aside0 (Below w.heap.size w wc))
 case first =>
  have H := HC4.out
  clear HC4
  by_cases c5 : (l1.length : Int) > 30
  ·rw [if_pos c5] at H
   have c5b0 : decide (30 < (l1.length : Int)) = true := decide_eq_true c5
   have c5b1 : decide (30 < l1.length) = true := decide_eq_true (by omega)
   clear c5
   (first | rw [c5b0] | (simp only [i64_w, i32_w]; rw [c5b0]) | skip)
   have H' := Aside0.mk H
   clear H
   go_wp2
   repeat (go_quiet (fail); try go_wp2)
   go_meet
   case rel => exact ⟨_, (true), (by first | rfl | (simp; done) | (simp [*]; done)), H', ⟨by first | omega | exact Nat.le_refl _⟩, ⟨by repeat (first | (with_reducible first | exact HB.out | apply below_alloc | apply pw_below_drewN | apply below_drew1) | exact HB.out)⟩⟩
  ·as_aux_lemma =>
   rw [if_neg c5] at H
   have c5b0 : decide (30 < (l1.length : Int)) = false := decide_eq_false c5
   have c5b1 : decide (30 < l1.length) = false := decide_eq_false (by omega)
   clear c5
   (first | rw [c5b0] | (simp only [i64_w, i32_w]; rw [c5b0]) | skip)
   replace H := Option.bind_eq_some_iff.mp H
   obtain ⟨t469, A60, H⟩ := H
   replace H : (trishawlaw04_StampPaid.j0 k a0 l1 a2 (t469 != 0)) = some r := H
   have A6 := Aside0.mk A60
   clear A60
   have H' := Aside0.mk H
   clear H
   go_wp2_with (first | (go_at_call 24; (with_reducible refine (trishawref04_Ticket.calls k a0 _ _ l1 t469 _ ?side1 ?side2 A6.out).mono ?_); (case side1 => repeat (first | exact (Kd.C_below HR1.out HB.out) | (with_reducible refine Kd.C_alloc ?_ _) | (with_reducible refine Kd.C_drewN ?_ _) | (with_reducible refine Kd.C_drew ?_))); (case side2 => exact HC1.out); rintro e w' ⟨rfl, ⟨nd, rfl⟩⟩; (try first | exact ⟨rfl, _, World.drewN_drewN _ _ _⟩ | exact ⟨rfl, _, Eq.trans (World.drewN_drewN _ _ _) (congrArg (World.drewN _) (Nat.add_assoc _ _ _))⟩)))
   repeat (go_quiet (first | (go_at_call 24; (with_reducible refine (trishawref04_Ticket.calls k a0 _ _ l1 t469 _ ?side1 ?side2 A6.out).mono ?_); (case side1 => repeat (first | exact (Kd.C_below HR1.out HB.out) | (with_reducible refine Kd.C_alloc ?_ _) | (with_reducible refine Kd.C_drewN ?_ _) | (with_reducible refine Kd.C_drew ?_))); (case side2 => exact HC1.out); rintro e w' ⟨rfl, ⟨nd, rfl⟩⟩; (try first | exact ⟨rfl, _, World.drewN_drewN _ _ _⟩ | exact ⟨rfl, _, Eq.trans (World.drewN_drewN _ _ _) (congrArg (World.drewN _) (Nat.add_assoc _ _ _))⟩))); try go_wp2_with (first | (go_at_call 24; (with_reducible refine (trishawref04_Ticket.calls k a0 _ _ l1 t469 _ ?side1 ?side2 A6.out).mono ?_); (case side1 => repeat (first | exact (Kd.C_below HR1.out HB.out) | (with_reducible refine Kd.C_alloc ?_ _) | (with_reducible refine Kd.C_drewN ?_ _) | (with_reducible refine Kd.C_drew ?_))); (case side2 => exact HC1.out); rintro e w' ⟨rfl, ⟨nd, rfl⟩⟩; (try first | exact ⟨rfl, _, World.drewN_drewN _ _ _⟩ | exact ⟨rfl, _, Eq.trans (World.drewN_drewN _ _ _) (congrArg (World.drewN _) (Nat.add_assoc _ _ _))⟩))))
   go_meet
   case rel => exact ⟨_, ((t469 != 0)), (by first | rfl | (simp; done) | (simp [*]; done)), H', ⟨by first | omega | exact Nat.le_refl _⟩, ⟨by repeat (first | (with_reducible first | exact HB.out | apply below_alloc | apply pw_below_drewN | apply below_drew1) | exact HB.out)⟩⟩
 case rest =>
  clear HC4
  try clear c1
  try clear p2
  try clear c5
  try clear c5b0
  try clear c5b1
  obtain ⟨kq, x29_3, rfl, HA, HJ3, HB⟩ := hcut
  cases kq with
  | zero => exact absurd HA.out (by simp [trishawlaw04_StampPaid.j0])
  | succ kj3 =>
   have H := HA.out
   clear HA
   simp only [trishawlaw04_StampPaid.j0] at H
   by_cases c7 : x29_3 = true
   ·subst c7
    have H1 : ((trishawlaw04_alive.f kj3).bind fun t470 => (some t470)) = some r := by rw [if_pos rfl] at H; exact H
    clear H
    have H := H1
    clear H1
    replace H := Option.bind_eq_some_iff.mp H
    obtain ⟨t470, A80, H⟩ := H
    replace H : (some t470) = some r := H
    have A8 := Aside0.mk A80
    clear A80
    obtain rfl := Option.some.inj H
    go_wp2_with (first | (go_at_call 16; (with_reducible refine (trishawlaw04_alive.calls kj3  t470 _ A8.out).mono ?_); rintro e w9 ⟨rfl, hb⟩; have n0_ := Aside0.mk (below_step (by repeat (first | (with_reducible first | exact HB.out | apply below_alloc | apply pw_below_drewN | apply below_drew1) | exact HB.out)) hb); clear HB; have HB := n0_; clear n0_; (try clear hb); (try clear hb2); (try clear hk); (try clear hi)))
    repeat (go_quiet (first | (go_at_call 16; (with_reducible refine (trishawlaw04_alive.calls kj3  t470 _ A8.out).mono ?_); rintro e w9 ⟨rfl, hb⟩; have n0_ := Aside0.mk (below_step (by repeat (first | (with_reducible first | exact HB.out | apply below_alloc | apply pw_below_drewN | apply below_drew1) | exact HB.out)) hb); clear HB; have HB := n0_; clear n0_; (try clear hb); (try clear hb2); (try clear hk); (try clear hi))); try go_wp2_with (first | (go_at_call 16; (with_reducible refine (trishawlaw04_alive.calls kj3  t470 _ A8.out).mono ?_); rintro e w9 ⟨rfl, hb⟩; have n0_ := Aside0.mk (below_step (by repeat (first | (with_reducible first | exact HB.out | apply below_alloc | apply pw_below_drewN | apply below_drew1) | exact HB.out)) hb); clear HB; have HB := n0_; clear n0_; (try clear hb); (try clear hb2); (try clear hk); (try clear hi))))
    go_ret
    exact ⟨by first | rfl | (simp [errW_none, errW_some] <;> rfl) | (simp [*, errW_none, errW_some] <;> rfl), by repeat (first | (with_reducible first | exact HB.out | apply below_alloc | apply pw_below_drewN | apply below_drew1) | exact HB.out)⟩
   ·replace c7 := Bool.eq_false_iff.mpr c7
    subst c7
    have H1 : (if 0 ≤ (wrap64 ((l1.length : Int) - 1)) then (if (wrap64 ((l1.length : Int) - 1)) < (l1.length : Int) then (if (wrap64 ((wrap64 (a0 * (rd l1 (wrap64 ((l1.length : Int) - 1))))) + 1)) = 0 then (none) else ((stamp_Pay.f kj3 a0 l1 (Int.tmod (wrap64 (a2)) (wrap64 ((wrap64 (a0 * (rd l1 (wrap64 ((l1.length : Int) - 1))))) + 1)))).bind fun bt472 => ((stamp_Fewest.f kj3 a0 l1).bind fun bt476 => ((stamp_Ways.f kj3 a0 l1 (Int.tmod (wrap64 (a2)) (wrap64 ((wrap64 (a0 * (rd l1 (wrap64 ((l1.length : Int) - 1))))) + 1)))).bind fun bt480 => (if bt476.2 = 0 then (if bt480.2 = 0 then (if (bt476.1.length : Int) = (wrap64 ((wrap64 (a0 * (rd l1 (wrap64 ((l1.length : Int) - 1))))) + 1)) then (if 0 ≤ (Int.tmod (wrap64 (a2)) (wrap64 ((wrap64 (a0 * (rd l1 (wrap64 ((l1.length : Int) - 1))))) + 1))) then (if (Int.tmod (wrap64 (a2)) (wrap64 ((wrap64 (a0 * (rd l1 (wrap64 ((l1.length : Int) - 1))))) + 1))) < (bt476.1.length : Int) then (trishawlaw04_StampPaid.j1 kj3 a0 l1 (wrap64 (a0 * (rd l1 (wrap64 ((l1.length : Int) - 1))))) (Int.tmod (wrap64 (a2)) (wrap64 ((wrap64 (a0 * (rd l1 (wrap64 ((l1.length : Int) - 1))))) + 1))) bt472.1 bt472.2 bt476.1 ((decide (bt480.1 > 0)) != (decide ((rd bt476.1 (Int.tmod (wrap64 (a2)) (wrap64 ((wrap64 (a0 * (rd l1 (wrap64 ((l1.length : Int) - 1))))) + 1)))) ≥ 0)))) else (none)) else (none)) else (none)) else (none)) else (none)))))) else (none)) else (none)) = some r := by rw [if_neg (show ¬ (false = true) by decide)] at H; exact H
    clear H
    have H := H1
    clear H1
    obtain ⟨ji10, hji10⟩ : ∃ j_ : Int, (wrap64 ((l1.length : Int) - 1)) = j_ := ⟨_, rfl⟩
    replace H : (if 0 ≤ (ji10) then (if (ji10) < (l1.length : Int) then (if (wrap64 ((wrap64 (a0 * (rd l1 (ji10)))) + 1)) = 0 then (none) else ((stamp_Pay.f kj3 a0 l1 (Int.tmod (wrap64 (a2)) (wrap64 ((wrap64 (a0 * (rd l1 (ji10)))) + 1)))).bind fun bt472 => ((stamp_Fewest.f kj3 a0 l1).bind fun bt476 => ((stamp_Ways.f kj3 a0 l1 (Int.tmod (wrap64 (a2)) (wrap64 ((wrap64 (a0 * (rd l1 (ji10)))) + 1)))).bind fun bt480 => (if bt476.2 = 0 then (if bt480.2 = 0 then (if (bt476.1.length : Int) = (wrap64 ((wrap64 (a0 * (rd l1 (ji10)))) + 1)) then (if 0 ≤ (Int.tmod (wrap64 (a2)) (wrap64 ((wrap64 (a0 * (rd l1 (ji10)))) + 1))) then (if (Int.tmod (wrap64 (a2)) (wrap64 ((wrap64 (a0 * (rd l1 (ji10)))) + 1))) < (bt476.1.length : Int) then (trishawlaw04_StampPaid.j1 kj3 a0 l1 (wrap64 (a0 * (rd l1 (ji10)))) (Int.tmod (wrap64 (a2)) (wrap64 ((wrap64 (a0 * (rd l1 (ji10)))) + 1))) bt472.1 bt472.2 bt476.1 ((decide (bt480.1 > 0)) != (decide ((rd bt476.1 (Int.tmod (wrap64 (a2)) (wrap64 ((wrap64 (a0 * (rd l1 (ji10)))) + 1)))) ≥ 0)))) else (none)) else (none)) else (none)) else (none)) else (none)))))) else (none)) else (none)) = some r := by first | (rw [hji10] at H; exact H) | (simp only [hji10] at H ⊢; exact H)
    have hji10w : (IntKind.i64.wrap ((l1.length : Int) - 1)) = ji10 := (i64_w _).trans hji10
    by_cases c11 : 0 ≤ (ji10)
    ·as_aux_lemma =>
     rw [if_pos c11] at H
     have c11b0 : decide (0 ≤ (ji10)) = true := decide_eq_true c11
     clear c11
     by_cases c12 : (ji10) < (l1.length : Int)
     ·as_aux_lemma =>
      rw [if_pos c12] at H
      have c12b0 : decide ((ji10) < (l1.length : Int)) = true := decide_eq_true c12
      clear c12
      by_cases c13 : (wrap64 ((wrap64 (a0 * (rd l1 (ji10)))) + 1)) = 0
      ·rw [if_pos c13] at H
       exact absurd H (by simp)
      ·as_aux_lemma =>
       rw [if_neg c13] at H
       have c13b0 : ((wrap64 ((wrap64 (a0 * (rd l1 (ji10)))) + 1)) == 0) = false := beq_eq_false_iff_ne.mpr c13
       have c13b1 : ((wrap64 ((wrap64 (a0 * (rd l1 (ji10)))) + 1)) != 0) = true := bne_iff_ne.mpr c13
       replace H := Option.bind_eq_some_iff.mp H
       obtain ⟨⟨t472, t473⟩, A140, H⟩ := H
       replace H : ((stamp_Fewest.f kj3 a0 l1).bind fun bt476 => ((stamp_Ways.f kj3 a0 l1 (Int.tmod (wrap64 (a2)) (wrap64 ((wrap64 (a0 * (rd l1 (ji10)))) + 1)))).bind fun bt480 => (if bt476.2 = 0 then (if bt480.2 = 0 then (if (bt476.1.length : Int) = (wrap64 ((wrap64 (a0 * (rd l1 (ji10)))) + 1)) then (if 0 ≤ (Int.tmod (wrap64 (a2)) (wrap64 ((wrap64 (a0 * (rd l1 (ji10)))) + 1))) then (if (Int.tmod (wrap64 (a2)) (wrap64 ((wrap64 (a0 * (rd l1 (ji10)))) + 1))) < (bt476.1.length : Int) then (trishawlaw04_StampPaid.j1 kj3 a0 l1 (wrap64 (a0 * (rd l1 (ji10)))) (Int.tmod (wrap64 (a2)) (wrap64 ((wrap64 (a0 * (rd l1 (ji10)))) + 1))) t472 t473 bt476.1 ((decide (bt480.1 > 0)) != (decide ((rd bt476.1 (Int.tmod (wrap64 (a2)) (wrap64 ((wrap64 (a0 * (rd l1 (ji10)))) + 1)))) ≥ 0)))) else (none)) else (none)) else (none)) else (none)) else (none)))) = some r := H
       have A14 := Aside0.mk A140
       clear A140
       replace H := Option.bind_eq_some_iff.mp H
       obtain ⟨⟨t476, t477⟩, A150, H⟩ := H
       replace H : ((stamp_Ways.f kj3 a0 l1 (Int.tmod (wrap64 (a2)) (wrap64 ((wrap64 (a0 * (rd l1 (ji10)))) + 1)))).bind fun bt480 => (if t477 = 0 then (if bt480.2 = 0 then (if (t476.length : Int) = (wrap64 ((wrap64 (a0 * (rd l1 (ji10)))) + 1)) then (if 0 ≤ (Int.tmod (wrap64 (a2)) (wrap64 ((wrap64 (a0 * (rd l1 (ji10)))) + 1))) then (if (Int.tmod (wrap64 (a2)) (wrap64 ((wrap64 (a0 * (rd l1 (ji10)))) + 1))) < (t476.length : Int) then (trishawlaw04_StampPaid.j1 kj3 a0 l1 (wrap64 (a0 * (rd l1 (ji10)))) (Int.tmod (wrap64 (a2)) (wrap64 ((wrap64 (a0 * (rd l1 (ji10)))) + 1))) t472 t473 t476 ((decide (bt480.1 > 0)) != (decide ((rd t476 (Int.tmod (wrap64 (a2)) (wrap64 ((wrap64 (a0 * (rd l1 (ji10)))) + 1)))) ≥ 0)))) else (none)) else (none)) else (none)) else (none)) else (none))) = some r := H
       have A15 := Aside0.mk A150
       clear A150
       replace H := Option.bind_eq_some_iff.mp H
       obtain ⟨⟨t480, t481⟩, A160, H⟩ := H
       replace H : (if t477 = 0 then (if t481 = 0 then (if (t476.length : Int) = (wrap64 ((wrap64 (a0 * (rd l1 (ji10)))) + 1)) then (if 0 ≤ (Int.tmod (wrap64 (a2)) (wrap64 ((wrap64 (a0 * (rd l1 (ji10)))) + 1))) then (if (Int.tmod (wrap64 (a2)) (wrap64 ((wrap64 (a0 * (rd l1 (ji10)))) + 1))) < (t476.length : Int) then (trishawlaw04_StampPaid.j1 kj3 a0 l1 (wrap64 (a0 * (rd l1 (ji10)))) (Int.tmod (wrap64 (a2)) (wrap64 ((wrap64 (a0 * (rd l1 (ji10)))) + 1))) t472 t473 t476 ((decide (t480 > 0)) != (decide ((rd t476 (Int.tmod (wrap64 (a2)) (wrap64 ((wrap64 (a0 * (rd l1 (ji10)))) + 1)))) ≥ 0)))) else (none)) else (none)) else (none)) else (none)) else (none)) = some r := H
       have A16 := Aside0.mk A160
       clear A160
       have HC17 := Aside0.mk H
       clear H
       have p471 : 0 ≤ ((ji10) : Int) := of_decide_eq_true (by first | (with_reducible assumption) | assumption)
       have q471 : (ji10) < (l1.length : Int) := of_decide_eq_true (by first | (with_reducible assumption) | assumption)
       obtain ⟨ad471, e471, hx471_0⟩ := Kd.at_int HR1.out (ji10) p471 q471
       cases e471
       replace hx471_0 := (HB.out.cell (World.block_lt_of_cell? w _ hx471_0)).trans hx471_0
       replace p471 := eq_true p471
       replace q471 := eq_true q471
       go_upto_region 8 with (first | (go_at_call 17; (with_reducible refine (stamp_Pay.calls kj3 a0 _ _ l1 (Int.tmod (wrap64 (a2)) (wrap64 ((wrap64 (a0 * (rd l1 (ji10)))) + 1))) t472 t473 _ ?side1 ?side2 A14.out).mono ?_); (case side1 => repeat (first | exact (Kd.C_below HR1.out HB.out) | (with_reducible refine Kd.C_alloc ?_ _) | (with_reducible refine Kd.C_drewN ?_ _) | (with_reducible refine Kd.C_drew ?_))); (case side2 => exact HC1.out); rintro e w18 ⟨v474, rfl, ho0, hb⟩; have n0_ := Aside0.mk (Kd.R_lower ho0 (below_size (by repeat (first | (with_reducible first | exact HB.out | apply below_alloc | apply pw_below_drewN | apply below_drew1) | exact HB.out)))); have n1_ := Aside0.mk (below_step (by repeat (first | (with_reducible first | exact HB.out | apply below_alloc | apply pw_below_drewN | apply below_drew1) | exact HB.out)) hb); clear HB; have HO475 := n0_; have HB := n1_; clear n0_ n1_; (try clear hb); (try clear hb2); (try clear hk); (try clear hi); (try clear ho0)) | (go_at_call 28; (with_reducible refine (stamp_Fewest.calls kj3 a0 _ _ l1 t476 t477 _ ?side1 ?side2 A15.out).mono ?_); (case side1 => repeat (first | exact (Kd.C_below HR1.out HB.out) | (with_reducible refine Kd.C_alloc ?_ _) | (with_reducible refine Kd.C_drewN ?_ _) | (with_reducible refine Kd.C_drew ?_))); (case side2 => exact HC1.out); rintro e w19 ⟨v478, rfl, ho0, hb⟩; have n0_ := Aside0.mk (Kd.R_elder' (by (with_reducible repeat (first | apply Kd.R_alloc | apply Kd.R_drewN | apply Kd.R_drew)); exact HO475.out) (Kd.R_base ho0) hb); have n1_ := Aside0.mk (Kd.R_lower (Kd.R_new' ho0 (Kd.R_lt (by (with_reducible repeat (first | apply Kd.R_alloc | apply Kd.R_drewN | apply Kd.R_drew)); exact HO475.out))) (below_size (by repeat (first | (with_reducible first | exact HB.out | apply below_alloc | apply pw_below_drewN | apply below_drew1) | exact HB.out)))); have n2_ := Aside0.mk (below_step (by repeat (first | (with_reducible first | exact HB.out | apply below_alloc | apply pw_below_drewN | apply below_drew1) | exact HB.out)) hb); clear HO475; clear HB; have HO475 := n0_; have HO479 := n1_; have HB := n2_; clear n0_ n1_ n2_; (try clear hb); (try clear hb2); (try clear hk); (try clear hi); (try clear ho0)) | (go_at_call 27; (with_reducible refine (stamp_Ways.calls kj3 a0 _ _ l1 (Int.tmod (wrap64 (a2)) (wrap64 ((wrap64 (a0 * (rd l1 (ji10)))) + 1))) t480 t481 _ ?side1 ?side2 A16.out).mono ?_); (case side1 => repeat (first | exact (Kd.C_below HR1.out HB.out) | (with_reducible refine Kd.C_alloc ?_ _) | (with_reducible refine Kd.C_drewN ?_ _) | (with_reducible refine Kd.C_drew ?_))); (case side2 => exact HC1.out); rintro e w20 ⟨rfl, hb⟩; have n0_ := Aside0.mk (Kd.R_below (by (with_reducible repeat (first | apply Kd.R_alloc | apply Kd.R_drewN | apply Kd.R_drew)); exact HO475.out) hb); have n1_ := Aside0.mk (Kd.R_below (by (with_reducible repeat (first | apply Kd.R_alloc | apply Kd.R_drewN | apply Kd.R_drew)); exact HO479.out) hb); have n2_ := Aside0.mk (below_step (by repeat (first | (with_reducible first | exact HB.out | apply below_alloc | apply pw_below_drewN | apply below_drew1) | exact HB.out)) hb); clear HO475; clear HO479; clear HB; have HO475 := n0_; have HO479 := n1_; have HB := n2_; clear n0_ n1_ n2_; (try clear hb); (try clear hb2); (try clear hk); (try clear hi)))
       repeat (go_quiet (first | (go_at_call 17; (with_reducible refine (stamp_Pay.calls kj3 a0 _ _ l1 (Int.tmod (wrap64 (a2)) (wrap64 ((wrap64 (a0 * (rd l1 (ji10)))) + 1))) t472 t473 _ ?side1 ?side2 A14.out).mono ?_); (case side1 => repeat (first | exact (Kd.C_below HR1.out HB.out) | (with_reducible refine Kd.C_alloc ?_ _) | (with_reducible refine Kd.C_drewN ?_ _) | (with_reducible refine Kd.C_drew ?_))); (case side2 => exact HC1.out); rintro e w18 ⟨v474, rfl, ho0, hb⟩; have n0_ := Aside0.mk (Kd.R_lower ho0 (below_size (by repeat (first | (with_reducible first | exact HB.out | apply below_alloc | apply pw_below_drewN | apply below_drew1) | exact HB.out)))); have n1_ := Aside0.mk (below_step (by repeat (first | (with_reducible first | exact HB.out | apply below_alloc | apply pw_below_drewN | apply below_drew1) | exact HB.out)) hb); clear HB; have HO475 := n0_; have HB := n1_; clear n0_ n1_; (try clear hb); (try clear hb2); (try clear hk); (try clear hi); (try clear ho0)) | (go_at_call 28; (with_reducible refine (stamp_Fewest.calls kj3 a0 _ _ l1 t476 t477 _ ?side1 ?side2 A15.out).mono ?_); (case side1 => repeat (first | exact (Kd.C_below HR1.out HB.out) | (with_reducible refine Kd.C_alloc ?_ _) | (with_reducible refine Kd.C_drewN ?_ _) | (with_reducible refine Kd.C_drew ?_))); (case side2 => exact HC1.out); rintro e w19 ⟨v478, rfl, ho0, hb⟩; have n0_ := Aside0.mk (Kd.R_elder' (by (with_reducible repeat (first | apply Kd.R_alloc | apply Kd.R_drewN | apply Kd.R_drew)); exact HO475.out) (Kd.R_base ho0) hb); have n1_ := Aside0.mk (Kd.R_lower (Kd.R_new' ho0 (Kd.R_lt (by (with_reducible repeat (first | apply Kd.R_alloc | apply Kd.R_drewN | apply Kd.R_drew)); exact HO475.out))) (below_size (by repeat (first | (with_reducible first | exact HB.out | apply below_alloc | apply pw_below_drewN | apply below_drew1) | exact HB.out)))); have n2_ := Aside0.mk (below_step (by repeat (first | (with_reducible first | exact HB.out | apply below_alloc | apply pw_below_drewN | apply below_drew1) | exact HB.out)) hb); clear HO475; clear HB; have HO475 := n0_; have HO479 := n1_; have HB := n2_; clear n0_ n1_ n2_; (try clear hb); (try clear hb2); (try clear hk); (try clear hi); (try clear ho0)) | (go_at_call 27; (with_reducible refine (stamp_Ways.calls kj3 a0 _ _ l1 (Int.tmod (wrap64 (a2)) (wrap64 ((wrap64 (a0 * (rd l1 (ji10)))) + 1))) t480 t481 _ ?side1 ?side2 A16.out).mono ?_); (case side1 => repeat (first | exact (Kd.C_below HR1.out HB.out) | (with_reducible refine Kd.C_alloc ?_ _) | (with_reducible refine Kd.C_drewN ?_ _) | (with_reducible refine Kd.C_drew ?_))); (case side2 => exact HC1.out); rintro e w20 ⟨rfl, hb⟩; have n0_ := Aside0.mk (Kd.R_below (by (with_reducible repeat (first | apply Kd.R_alloc | apply Kd.R_drewN | apply Kd.R_drew)); exact HO475.out) hb); have n1_ := Aside0.mk (Kd.R_below (by (with_reducible repeat (first | apply Kd.R_alloc | apply Kd.R_drewN | apply Kd.R_drew)); exact HO479.out) hb); have n2_ := Aside0.mk (below_step (by repeat (first | (with_reducible first | exact HB.out | apply below_alloc | apply pw_below_drewN | apply below_drew1) | exact HB.out)) hb); clear HO475; clear HO479; clear HB; have HO475 := n0_; have HO479 := n1_; have HB := n2_; clear n0_ n1_ n2_; (try clear hb); (try clear hb2); (try clear hk); (try clear hi))); go_upto_region 8 with (first | (go_at_call 17; (with_reducible refine (stamp_Pay.calls kj3 a0 _ _ l1 (Int.tmod (wrap64 (a2)) (wrap64 ((wrap64 (a0 * (rd l1 (ji10)))) + 1))) t472 t473 _ ?side1 ?side2 A14.out).mono ?_); (case side1 => repeat (first | exact (Kd.C_below HR1.out HB.out) | (with_reducible refine Kd.C_alloc ?_ _) | (with_reducible refine Kd.C_drewN ?_ _) | (with_reducible refine Kd.C_drew ?_))); (case side2 => exact HC1.out); rintro e w18 ⟨v474, rfl, ho0, hb⟩; have n0_ := Aside0.mk (Kd.R_lower ho0 (below_size (by repeat (first | (with_reducible first | exact HB.out | apply below_alloc | apply pw_below_drewN | apply below_drew1) | exact HB.out)))); have n1_ := Aside0.mk (below_step (by repeat (first | (with_reducible first | exact HB.out | apply below_alloc | apply pw_below_drewN | apply below_drew1) | exact HB.out)) hb); clear HB; have HO475 := n0_; have HB := n1_; clear n0_ n1_; (try clear hb); (try clear hb2); (try clear hk); (try clear hi); (try clear ho0)) | (go_at_call 28; (with_reducible refine (stamp_Fewest.calls kj3 a0 _ _ l1 t476 t477 _ ?side1 ?side2 A15.out).mono ?_); (case side1 => repeat (first | exact (Kd.C_below HR1.out HB.out) | (with_reducible refine Kd.C_alloc ?_ _) | (with_reducible refine Kd.C_drewN ?_ _) | (with_reducible refine Kd.C_drew ?_))); (case side2 => exact HC1.out); rintro e w19 ⟨v478, rfl, ho0, hb⟩; have n0_ := Aside0.mk (Kd.R_elder' (by (with_reducible repeat (first | apply Kd.R_alloc | apply Kd.R_drewN | apply Kd.R_drew)); exact HO475.out) (Kd.R_base ho0) hb); have n1_ := Aside0.mk (Kd.R_lower (Kd.R_new' ho0 (Kd.R_lt (by (with_reducible repeat (first | apply Kd.R_alloc | apply Kd.R_drewN | apply Kd.R_drew)); exact HO475.out))) (below_size (by repeat (first | (with_reducible first | exact HB.out | apply below_alloc | apply pw_below_drewN | apply below_drew1) | exact HB.out)))); have n2_ := Aside0.mk (below_step (by repeat (first | (with_reducible first | exact HB.out | apply below_alloc | apply pw_below_drewN | apply below_drew1) | exact HB.out)) hb); clear HO475; clear HB; have HO475 := n0_; have HO479 := n1_; have HB := n2_; clear n0_ n1_ n2_; (try clear hb); (try clear hb2); (try clear hk); (try clear hi); (try clear ho0)) | (go_at_call 27; (with_reducible refine (stamp_Ways.calls kj3 a0 _ _ l1 (Int.tmod (wrap64 (a2)) (wrap64 ((wrap64 (a0 * (rd l1 (ji10)))) + 1))) t480 t481 _ ?side1 ?side2 A16.out).mono ?_); (case side1 => repeat (first | exact (Kd.C_below HR1.out HB.out) | (with_reducible refine Kd.C_alloc ?_ _) | (with_reducible refine Kd.C_drewN ?_ _) | (with_reducible refine Kd.C_drew ?_))); (case side2 => exact HC1.out); rintro e w20 ⟨rfl, hb⟩; have n0_ := Aside0.mk (Kd.R_below (by (with_reducible repeat (first | apply Kd.R_alloc | apply Kd.R_drewN | apply Kd.R_drew)); exact HO475.out) hb); have n1_ := Aside0.mk (Kd.R_below (by (with_reducible repeat (first | apply Kd.R_alloc | apply Kd.R_drewN | apply Kd.R_drew)); exact HO479.out) hb); have n2_ := Aside0.mk (below_step (by repeat (first | (with_reducible first | exact HB.out | apply below_alloc | apply pw_below_drewN | apply below_drew1) | exact HB.out)) hb); clear HO475; clear HO479; clear HB; have HO475 := n0_; have HO479 := n1_; have HB := n2_; clear n0_ n1_ n2_; (try clear hb); (try clear hb2); (try clear hk); (try clear hi))))
       (try simp only [Act.put, List.setIfInBounds_toArray, List.set_cons_zero, List.set_cons_succ])
       go_cut [86] (fun v86 wc => ∃ (kq : Nat) (x86_16 : Bool), v86 = .bool x86_16 ∧ Aside0 (trishawlaw04_StampPaid.j1 kq a0 l1 (wrap64 (a0 * (rd l1 (ji10)))) (Int.tmod (wrap64 (a2)) (wrap64 ((wrap64 (a0 * (rd l1 (ji10)))) + 1))) t472 t473 t476 x86_16 = some r) ∧ Aside0 (kq ≤ kj3) ∧ Aside0 (Kd.R (Kd.int .i64) 3 wc w.heap.size (fun k_ => some k_ ≠ (v478 : Value).ownBlock) v474 t472) ∧ Aside0 (Kd.R (Kd.int .i64) 3 wc w.heap.size (fun k_ => some k_ ≠ (v474 : Value).ownBlock) v478 t476) ∧ Aside0 (Below w.heap.size w wc))
       case first =>
        have H := HC17.out
        clear HC17
        by_cases c21 : t477 = 0
        ·as_aux_lemma =>
         rw [if_pos c21] at H
         have c21b0 : (t477 == 0) = true := beq_iff_eq.mpr c21
         have c21b1 : (t477 != 0) = false := bne_eq_false_iff_eq.mpr c21
         clear c21
         (first | rw [c21b0] | (simp only [i64_w, i32_w]; rw [c21b0]) | skip)
         by_cases c22 : t481 = 0
         ·as_aux_lemma =>
          rw [if_pos c22] at H
          have c22b0 : (t481 == 0) = true := beq_iff_eq.mpr c22
          have c22b1 : (t481 != 0) = false := bne_eq_false_iff_eq.mpr c22
          clear c22
          by_cases c23 : (t476.length : Int) = (wrap64 ((wrap64 (a0 * (rd l1 (ji10)))) + 1))
          ·as_aux_lemma =>
           rw [if_pos c23] at H
           have c23b0 : ((t476.length : Int) == (wrap64 ((wrap64 (a0 * (rd l1 (ji10)))) + 1))) = true := beq_iff_eq.mpr c23
           have c23b1 : ((t476.length : Int) != (wrap64 ((wrap64 (a0 * (rd l1 (ji10)))) + 1))) = false := bne_eq_false_iff_eq.mpr c23
           clear c23
           obtain ⟨ji24, hji24⟩ : ∃ j_ : Int, (Int.tmod (wrap64 (a2)) (wrap64 ((wrap64 (a0 * (rd l1 (ji10)))) + 1))) = j_ := ⟨_, rfl⟩
           replace H : (if 0 ≤ (ji24) then (if (ji24) < (t476.length : Int) then (trishawlaw04_StampPaid.j1 kj3 a0 l1 (wrap64 (a0 * (rd l1 (ji10)))) ji24 t472 t473 t476 ((decide (t480 > 0)) != (decide ((rd t476 (ji24)) ≥ 0)))) else (none)) else (none)) = some r := by first | (rw [hji24] at H; exact H) | (simp only [hji24] at H ⊢; exact H)
           by_cases c25 : 0 ≤ (ji24)
           ·as_aux_lemma =>
            rw [if_pos c25] at H
            have c25b0 : decide (0 ≤ (ji24)) = true := decide_eq_true c25
            clear c25
            by_cases c26 : (ji24) < (t476.length : Int)
            ·as_aux_lemma =>
             rw [if_pos c26] at H
             have c26b0 : decide ((ji24) < (t476.length : Int)) = true := decide_eq_true c26
             clear c26
             have H' := Aside0.mk H
             clear H
             obtain ⟨Ao27, co27, eo27⟩ := Kd.R_slice HO479.out
             subst eo27
             have p482 : 0 ≤ ((ji24) : Int) := of_decide_eq_true (by first | (with_reducible assumption) | assumption)
             have q482 : (ji24) < (t476.length : Int) := of_decide_eq_true (by first | (with_reducible assumption) | assumption)
             obtain ⟨ad482, e482, hx482_0⟩ := Kd.at_int (Kd.R_reads' HO479.out).2.2 (ji24) p482 q482
             cases e482
             replace p482 := eq_true p482
             replace q482 := eq_true q482
             go_wp2
             repeat (go_quiet (fail); try go_wp2)
             try subst hji24
             go_meet
             case rel => exact ⟨_, _, (by first | rfl | (simp; done) | (simp only [← hji24] <;> (first | rfl | simp)) | (simp [*]; done)), H', ⟨by have := HJ3.out; first | omega | exact Nat.le_refl _⟩, ⟨by (with_reducible repeat (first | apply Kd.R_alloc | apply Kd.R_drewN | apply Kd.R_drew)); exact Kd.R_mono HO475.out (fun _ hk => hk.2)⟩, ⟨by (with_reducible repeat (first | apply Kd.R_alloc | apply Kd.R_drewN | apply Kd.R_drew)); exact Kd.R_mono HO479.out (fun _ hk => hk.2)⟩, ⟨by repeat (first | (with_reducible first | exact HB.out | apply below_alloc | apply pw_below_drewN | apply below_drew1) | exact HB.out)⟩⟩
            ·rw [if_neg c26] at H
             exact absurd H (by simp)
           ·rw [if_neg c25] at H
            exact absurd H (by simp)
          ·rw [if_neg c23] at H
           exact absurd H (by simp)
         ·rw [if_neg c22] at H
          exact absurd H (by simp)
        ·rw [if_neg c21] at H
         exact absurd H (by simp)
       case rest =>
        clear HC17
        try clear c1
        try clear c2
        try clear p2
        try clear p4
        try clear q4
        try clear hx4
        try clear c5
        try clear c5b0
        try clear c5b1
        try clear p6
        try clear c7
        try clear c11
        try clear c11b0
        try clear c12
        try clear c12b0
        try clear c13
        try clear c13b0
        try clear c13b1
        try clear c21
        try clear c21b0
        try clear c21b1
        try clear c22
        try clear c22b0
        try clear c22b1
        try clear c23
        try clear c23b0
        try clear c23b1
        try clear c25
        try clear c25b0
        try clear c26
        try clear c26b0
        try clear hx471_0
        try clear hx482_0
        try clear p2
        try clear p471
        try clear p482
        try clear q471
        try clear q482
        obtain ⟨kq, x86_16, rfl, HA, HJ16, HO_9, HO_11, HB⟩ := hcut
        cases kq with
        | zero => exact absurd HA.out (by simp [trishawlaw04_StampPaid.j1])
        | succ kj16 =>
         have H := HA.out
         clear HA
         simp only [trishawlaw04_StampPaid.j1] at H
         by_cases c28 : x86_16 = true
         ·subst c28
          have H1 : (none) = some r := by rw [if_pos rfl] at H; exact H
          clear H
          have H := H1
          clear H1
          exact absurd H (by simp)
         ·replace c28 := Bool.eq_false_iff.mpr c28
          subst c28
          have H1 : (if t473 = 0 then (trishawlaw04_StampPaid.l0 kj16 a0 l1 (wrap64 (a0 * (rd l1 (ji10)))) (Int.tmod (wrap64 (a2)) (wrap64 ((wrap64 (a0 * (rd l1 (ji10)))) + 1))) t472 t476 0 0) else (if t473 = 10 then (if 0 ≤ (Int.tmod (wrap64 (a2)) (wrap64 ((wrap64 (a0 * (rd l1 (ji10)))) + 1))) then (if (Int.tmod (wrap64 (a2)) (wrap64 ((wrap64 (a0 * (rd l1 (ji10)))) + 1))) < (t476.length : Int) then (if (rd t476 (Int.tmod (wrap64 (a2)) (wrap64 ((wrap64 (a0 * (rd l1 (ji10)))) + 1)))) = (-1) then (if (t472.length : Int) = 0 then ((trishawlaw04_alive.f kj16).bind fun t484 => (some t484)) else (none)) else (none)) else (none)) else (none)) else (none))) = some r := by rw [if_neg (show ¬ (false = true) by decide)] at H; exact H
          clear H
          have H := H1
          clear H1
          by_cases c29 : t473 = 0
          ·as_aux_lemma =>
           rw [if_pos c29] at H
           have c29b0 : (t473 == 0) = true := beq_iff_eq.mpr c29
           have c29b1 : (t473 != 0) = false := bne_eq_false_iff_eq.mpr c29
           clear c29
           have H' := Aside0.mk H
           clear H
           go_wp2
           repeat (go_quiet (fail); try go_wp2)
           go_loopg [15, 16] kj16 (fun kq v15 v16 w' => ∃ (x15_3 : Int) (x16_3 : Int), v15 = .int .i64 x15_3 ∧ v16 = .int .i64 x16_3 ∧ Aside0 (trishawlaw04_StampPaid.l0 kq a0 l1 (wrap64 (a0 * (rd l1 (ji10)))) (Int.tmod (wrap64 (a2)) (wrap64 ((wrap64 (a0 * (rd l1 (ji10)))) + 1))) t472 t476 x15_3 x16_3 = some r) ∧ Aside0 (kq ≤ kj16) ∧ Aside0 (Kd.R (Kd.int .i64) 3 w' w.heap.size (fun k_ => some k_ ≠ (v478 : Value).ownBlock) v474 t472) ∧ Aside0 (Kd.R (Kd.int .i64) 3 w' w.heap.size (fun k_ => some k_ ≠ (v474 : Value).ownBlock) v478 t476) ∧ Aside0 (Below w.heap.size w w'))
           case atStart => exact ⟨(0), (0), (by first | rfl | (simp; done) | (simp [*]; done)), (by first | rfl | (simp; done) | (simp [*]; done)), H', ⟨Nat.le_refl _⟩, ⟨by (with_reducible repeat (first | apply Kd.R_alloc | apply Kd.R_drewN | apply Kd.R_drew)); exact HO_9.out⟩, ⟨by (with_reducible repeat (first | apply Kd.R_alloc | apply Kd.R_drewN | apply Kd.R_drew)); exact HO_11.out⟩, ⟨by repeat (first | (with_reducible first | exact HB.out | apply below_alloc | apply pw_below_drewN | apply below_drew1) | exact HB.out)⟩⟩
           case round =>
            clear H'
            try clear c1
            try clear c2
            try clear p2
            try clear p4
            try clear q4
            try clear hx4
            try clear c5
            try clear c5b0
            try clear c5b1
            try clear p6
            try clear c7
            try clear c11
            try clear c11b0
            try clear c12
            try clear c12b0
            try clear c13
            try clear c13b0
            try clear c13b1
            try clear c21
            try clear c21b0
            try clear c21b1
            try clear c22
            try clear c22b0
            try clear c22b1
            try clear c23
            try clear c23b0
            try clear c23b1
            try clear c25
            try clear c25b0
            try clear c26
            try clear c26b0
            try clear c28
            try clear c29
            try clear c29b0
            try clear c29b1
            try clear hx471_0
            try clear hx482_0
            try clear p2
            try clear p4
            try clear p471
            try clear p482
            try clear p6
            try clear q4
            try clear q471
            try clear q482
            obtain ⟨x15_3, x16_3, rfl, rfl, HA, HK3, HO_9, HO_11, HB⟩ := hrel
            cases gk with
            | zero => exact absurd HA.out (by simp [trishawlaw04_StampPaid.l0])
            | succ k3 =>
             have H := HA.out
             clear HA
             simp only [trishawlaw04_StampPaid.l0] at H
             by_cases c30 : x16_3 < (t472.length : Int)
             ·as_aux_lemma =>
              rw [if_pos c30] at H
              have c30b0 : decide (x16_3 < (t472.length : Int)) = true := decide_eq_true c30
              clear c30
              by_cases c31 : 0 ≤ x16_3
              ·as_aux_lemma =>
               rw [if_pos c31] at H
               have c31b0 : decide (0 ≤ x16_3) = true := decide_eq_true c31
               clear c31
               replace H := Option.bind_eq_some_iff.mp H
               obtain ⟨t486, A320, H⟩ := H
               replace H : (if t486 = true then (if x16_3 > 0 then (if 0 ≤ (wrap64 (x16_3 - 1)) then (if (wrap64 (x16_3 - 1)) < (t472.length : Int) then (if (rd t472 x16_3) < (rd t472 (wrap64 (x16_3 - 1))) then (none) else (trishawlaw04_StampPaid.l0 k3 a0 l1 (wrap64 (a0 * (rd l1 (ji10)))) (Int.tmod (wrap64 (a2)) (wrap64 ((wrap64 (a0 * (rd l1 (ji10)))) + 1))) t472 t476 (wrap64 (x15_3 + (rd t472 x16_3))) (wrap64 (x16_3 + 1)))) else (none)) else (none)) else (trishawlaw04_StampPaid.l0 k3 a0 l1 (wrap64 (a0 * (rd l1 (ji10)))) (Int.tmod (wrap64 (a2)) (wrap64 ((wrap64 (a0 * (rd l1 (ji10)))) + 1))) t472 t476 (wrap64 (x15_3 + (rd t472 x16_3))) (wrap64 (x16_3 + 1)))) else (none)) = some r := H
               have A32 := Aside0.mk A320
               clear A320
               by_cases c33 : t486 = true
               ·subst c33
                have H1 : (if x16_3 > 0 then (if 0 ≤ (wrap64 (x16_3 - 1)) then (if (wrap64 (x16_3 - 1)) < (t472.length : Int) then (if (rd t472 x16_3) < (rd t472 (wrap64 (x16_3 - 1))) then (none) else (trishawlaw04_StampPaid.l0 k3 a0 l1 (wrap64 (a0 * (rd l1 (ji10)))) (Int.tmod (wrap64 (a2)) (wrap64 ((wrap64 (a0 * (rd l1 (ji10)))) + 1))) t472 t476 (wrap64 (x15_3 + (rd t472 x16_3))) (wrap64 (x16_3 + 1)))) else (none)) else (none)) else (trishawlaw04_StampPaid.l0 k3 a0 l1 (wrap64 (a0 * (rd l1 (ji10)))) (Int.tmod (wrap64 (a2)) (wrap64 ((wrap64 (a0 * (rd l1 (ji10)))) + 1))) t472 t476 (wrap64 (x15_3 + (rd t472 x16_3))) (wrap64 (x16_3 + 1)))) = some r := by rw [if_pos rfl] at H; exact H
                clear H
                have H := H1
                clear H1
                by_cases c34 : x16_3 > 0
                ·as_aux_lemma =>
                 rw [if_pos c34] at H
                 have c34b0 : decide (0 < x16_3) = true := decide_eq_true c34
                 clear c34
                 obtain ⟨ji35, hji35⟩ : ∃ j_ : Int, (wrap64 (x16_3 - 1)) = j_ := ⟨_, rfl⟩
                 replace H : (if 0 ≤ (ji35) then (if (ji35) < (t472.length : Int) then (if (rd t472 x16_3) < (rd t472 (ji35)) then (none) else (trishawlaw04_StampPaid.l0 k3 a0 l1 (wrap64 (a0 * (rd l1 (ji10)))) (Int.tmod (wrap64 (a2)) (wrap64 ((wrap64 (a0 * (rd l1 (ji10)))) + 1))) t472 t476 (wrap64 (x15_3 + (rd t472 x16_3))) (wrap64 (x16_3 + 1)))) else (none)) else (none)) = some r := by first | (rw [hji35] at H; exact H) | (simp only [hji35] at H ⊢; exact H)
                 (try rw [hji35] at A32)
                 have hji35w : (IntKind.i64.wrap (x16_3 - 1)) = ji35 := (i64_w _).trans hji35
                 by_cases c36 : 0 ≤ (ji35)
                 ·as_aux_lemma =>
                  rw [if_pos c36] at H
                  have c36b0 : decide (0 ≤ (ji35)) = true := decide_eq_true c36
                  clear c36
                  by_cases c37 : (ji35) < (t472.length : Int)
                  ·as_aux_lemma =>
                   rw [if_pos c37] at H
                   have c37b0 : decide ((ji35) < (t472.length : Int)) = true := decide_eq_true c37
                   clear c37
                   by_cases c38 : (rd t472 x16_3) < (rd t472 (ji35))
                   ·rw [if_pos c38] at H
                    exact absurd H (by simp)
                   ·as_aux_lemma =>
                    rw [if_neg c38] at H
                    have c38b0 : decide ((rd t472 x16_3) < (rd t472 (ji35))) = false := decide_eq_false c38
                    clear c38
                    have H' := Aside0.mk H
                    clear H
                    obtain ⟨Ao39, co39, eo39⟩ := Kd.R_slice HO_9.out
                    subst eo39
                    have p485 : 0 ≤ (x16_3 : Int) := of_decide_eq_true (by first | (with_reducible assumption) | assumption)
                    have q485 : x16_3 < (t472.length : Int) := of_decide_eq_true (by first | (with_reducible assumption) | assumption)
                    obtain ⟨ad485, e485, hx485_0⟩ := Kd.at_int (Kd.R_reads' HO_9.out).2.2 x16_3 p485 q485
                    cases e485
                    replace p485 := eq_true p485
                    replace q485 := eq_true q485
                    have p488 : 0 ≤ ((ji35) : Int) := of_decide_eq_true (by first | (with_reducible assumption) | assumption)
                    have q488 : (ji35) < (t472.length : Int) := of_decide_eq_true (by first | (with_reducible assumption) | assumption)
                    obtain ⟨ad488, e488, hx488_0⟩ := Kd.at_int (Kd.R_reads' HO_9.out).2.2 (ji35) p488 q488
                    obtain rfl : ad485 = ad488 := (by injection e488)
                    replace p488 := eq_true p488
                    replace q488 := eq_true q488
                    go_wp2
                    go_region_held3 (fun w' => w'.cell? (ad485.add (x16_3).toNat) = some (.int .i64 (rd t472 x16_3)) ∧ w'.cell? (ad485.add (ji35).toNat) = some (.int .i64 (rd t472 ji35))) (first | exact ⟨hx485_0, hx488_0⟩ | go_keep) ((go_at_call 31; (with_reducible refine (trishawref04_In.calls k3 _ _ l1 (rd t472 x16_3) true _ ?side1 ?side2 A32.out).mono ?_); (case side1 => repeat (first | exact (Kd.C_below HR1.out HB.out) | (with_reducible refine Kd.C_alloc ?_ _) | (with_reducible refine Kd.C_drewN ?_ _) | (with_reducible refine Kd.C_drew ?_))); (case side2 => exact HC1.out); rintro e w' ⟨rfl, ⟨nd, rfl⟩⟩))
                    go_wp2
                    go_roundg k3
                    case measure => have := HJ3.out; have := HJ16.out; have := HK3.out; omega
                    case rel => exact ⟨(wrap64 (x15_3 + (rd t472 x16_3))), (wrap64 (x16_3 + 1)), (by first | rfl | (simp; done) | (simp [*]; done)), (by first | rfl | (simp; done) | (simp [*]; done)), H', ⟨by have := HJ3.out; have := HJ16.out; have := HK3.out; omega⟩, ⟨by (with_reducible repeat (first | apply Kd.R_alloc | apply Kd.R_drewN | apply Kd.R_drew)); exact HO_9.out⟩, ⟨by (with_reducible repeat (first | apply Kd.R_alloc | apply Kd.R_drewN | apply Kd.R_drew)); exact HO_11.out⟩, ⟨by repeat (first | (with_reducible first | exact HB.out | apply below_alloc | apply pw_below_drewN | apply below_drew1) | exact HB.out)⟩⟩
                  ·rw [if_neg c37] at H
                   exact absurd H (by simp)
                 ·rw [if_neg c36] at H
                  exact absurd H (by simp)
                ·as_aux_lemma =>
                 rw [if_neg c34] at H
                 have c34b0 : decide (0 < x16_3) = false := decide_eq_false c34
                 clear c34
                 have H' := Aside0.mk H
                 clear H
                 obtain ⟨Ao40, co40, eo40⟩ := Kd.R_slice HO_9.out
                 subst eo40
                 have p485 : 0 ≤ (x16_3 : Int) := of_decide_eq_true (by first | (with_reducible assumption) | assumption)
                 have q485 : x16_3 < (t472.length : Int) := of_decide_eq_true (by first | (with_reducible assumption) | assumption)
                 obtain ⟨ad485, e485, hx485_0⟩ := Kd.at_int (Kd.R_reads' HO_9.out).2.2 x16_3 p485 q485
                 cases e485
                 replace p485 := eq_true p485
                 replace q485 := eq_true q485
                 go_wp2
                 have hq0_ : (0 < t472.length) = True := eq_true (by have g1_ := of_decide_eq_true c31b0; have g3_ := of_decide_eq_true c30b0; omega)
                 obtain rfl : x16_3 = 0 := by have g1_ := of_decide_eq_true c31b0; have g2_ := of_decide_eq_false c34b0; omega
                 have hx0_ : wr.cell? ad485 = some (.int .i64 (rd t472 (0 : Int))) := hx485_0
                 refine start_ (n := 23) (S := fun w' => w'.cell? ad485 = some (.int .i64 (rd t472 (0 : Int)))) (ds := []) #[false, false, false, false, false, false, false, false, false, false, false, false, false, false, false, false, false, false, false, false, false, false, false] (by kernel_rfl) rfl rfl hx485_0 (fun hHeld => ?_)
                 refine pure_ (i := 0) (N := some 112) (v := ?_) (a' := ?_) #[true, false, false, false, false, false, false, false, false, false, false, false, false, false, false, false, false, false, false, false, false, false, false] rfl rfl (by kernel_rfl) (fun _ _ _ h => h) (Or.inl ⟨by rfl, ?_⟩) ?_ ?_
                 rotate_left
                 ·intro w'
                  go_simp
                  with_reducible rfl
                 rotate_left
                 ·simp only [Act.put, List.setIfInBounds_toArray, List.set_cons_zero, List.set_cons_succ, i64_w, i32_w]
                  rfl
                 refine pure_ (i := 1) (N := some 113) (v := ?_) (a' := ?_) #[true, true, false, false, false, false, false, false, false, false, false, false, false, false, false, false, false, false, false, false, false, false, false] rfl rfl (by kernel_rfl) (fun _ _ _ h => h) (Or.inl ⟨by rfl, ?_⟩) ?_ ?_
                 rotate_left
                 ·intro w'
                  go_simp
                  with_reducible rfl
                 rotate_left
                 ·simp only [Act.put, List.setIfInBounds_toArray, List.set_cons_zero, List.set_cons_succ, i64_w, i32_w]
                  rfl
                 refine pure_ (i := 2) (N := some 114) (v := ?_) (a' := ?_) #[true, true, true, false, false, false, false, false, false, false, false, false, false, false, false, false, false, false, false, false, false, false, false] rfl rfl (by kernel_rfl) (fun _ _ _ h => h) (Or.inl ⟨by rfl, ?_⟩) ?_ ?_
                 rotate_left
                 ·intro w'
                  go_simp
                  with_reducible rfl
                 rotate_left
                 ·simp only [Act.put, List.setIfInBounds_toArray, List.set_cons_zero, List.set_cons_succ, i64_w, i32_w]
                  rfl
                 refine pure_ (i := 3) (N := some 115) (v := ?_) (a' := ?_) #[true, true, true, true, false, false, false, false, false, false, false, false, false, false, false, false, false, false, false, false, false, false, false] rfl rfl (by kernel_rfl) (fun _ _ _ h => h) (Or.inl ⟨by rfl, ?_⟩) ?_ ?_
                 rotate_left
                 ·intro w'
                  go_simp
                  with_reducible rfl
                 rotate_left
                 ·simp only [Act.put, List.setIfInBounds_toArray, List.set_cons_zero, List.set_cons_succ, i64_w, i32_w]
                  rfl
                 refine take_ (i := 4) (N := some 116) (v := ?_) (a' := ?_) #[true, true, true, true, true, false, false, false, false, false, false, false, false, false, false, false, false, false, false, false, false, false, false] rfl rfl (by kernel_rfl) (fun _ _ _ h => h) (Or.inl ⟨by rfl, ?_⟩) hHeld ?_ ?_
                 rotate_left
                 ·intro w' s0
                  go_simp
                  with_reducible rfl
                 rotate_left
                 ·simp only [Act.put, List.setIfInBounds_toArray, List.set_cons_zero, List.set_cons_succ, i64_w, i32_w]
                  rfl
                 refine one_ (i := 5) (N := some 117) #[true, true, true, true, true, true, false, false, false, false, false, false, false, false, false, false, false, false, false, false, false, false, false] rfl rfl (by kernel_rfl) (by decide) (fun K hK => ?_)
                 refine goes_ Try.func31 (by kernel_rfl) rfl #[.slice (some ad471) l1.length c1, .int .i64 (rd t472 (0 : Int))] (by rfl) rfl rfl (by (try simp only [List.map_toArray, List.map_cons, List.map_nil]); first | done | rfl) ?_
                 with_reducible refine (trishawref04_In.calls k3 _ _ l1 (rd t472 (0 : Int)) true _ ?side1 ?side2 A32.out).mono ?_
                 (case side1 => repeat (first | exact (Kd.C_below HR1.out HB.out) | (with_reducible refine Kd.C_alloc ?_ _) | (with_reducible refine Kd.C_drewN ?_ _) | (with_reducible refine Kd.C_drew ?_)))
                 (case side2 => exact HC1.out)
                 rintro e w' ⟨rfl, ⟨nd, rfl⟩⟩
                 refine ⟨_, rfl, ?_⟩
                 refine hK.out _ _ hHeld (fun hHeld => ?_)
                 clear hK K
                 refine norm_ (a' := ?_) ?_ ?_
                 rotate_left
                 ·show Act.put _ (some 117) _ = _
                  simp only [Act.put, List.setIfInBounds_toArray, List.set_cons_zero, List.set_cons_succ, i64_w, i32_w]
                  rfl
                 refine pure_ (i := 6) (N := some 118) (v := ?_) (a' := ?_) #[true, true, true, true, true, true, true, false, false, false, false, false, false, false, false, false, false, false, false, false, false, false, false] rfl rfl (by kernel_rfl) (fun _ _ _ h => h) (Or.inl ⟨by rfl, ?_⟩) ?_ ?_
                 rotate_left
                 ·intro w'
                  go_simp
                  with_reducible rfl
                 rotate_left
                 ·simp only [Act.put, List.setIfInBounds_toArray, List.set_cons_zero, List.set_cons_succ, i64_w, i32_w]
                  rfl
                 refine pure_ (i := 7) (N := some 119) (v := ?_) (a' := ?_) #[true, true, true, true, true, true, true, true, false, false, false, false, false, false, false, false, false, false, false, false, false, false, false] rfl rfl (by kernel_rfl) (fun _ _ _ h => h) (Or.inl ⟨by rfl, ?_⟩) ?_ ?_
                 rotate_left
                 ·intro w'
                  go_simp
                  with_reducible rfl
                 rotate_left
                 ·simp only [Act.put, List.setIfInBounds_toArray, List.set_cons_zero, List.set_cons_succ, i64_w, i32_w]
                  rfl
                 refine pure_ (i := 8) (N := some 120) (v := ?_) (a' := ?_) #[true, true, true, true, true, true, true, true, true, false, false, false, false, false, false, false, false, false, false, false, false, false, false] rfl rfl (by kernel_rfl) (fun _ _ _ h => h) (Or.inl ⟨by rfl, ?_⟩) ?_ ?_
                 rotate_left
                 ·intro w'
                  go_simp
                  with_reducible rfl
                 rotate_left
                 ·simp only [Act.put, List.setIfInBounds_toArray, List.set_cons_zero, List.set_cons_succ, i64_w, i32_w]
                  rfl
                 refine pure_ (i := 9) (N := some 121) (v := ?_) (a' := ?_) #[true, true, true, true, true, true, true, true, true, true, false, false, false, false, false, false, false, false, false, false, false, false, false] rfl rfl (by kernel_rfl) (fun _ _ _ h => h) (Or.inl ⟨by rfl, ?_⟩) ?_ ?_
                 rotate_left
                 ·intro w'
                  go_simp
                  with_reducible rfl
                 rotate_left
                 ·simp only [Act.put, List.setIfInBounds_toArray, List.set_cons_zero, List.set_cons_succ, i64_w, i32_w]
                  rfl
                 refine pure_ (i := 10) (N := some 122) (v := ?_) (a' := ?_) #[true, true, true, true, true, true, true, true, true, true, true, false, false, false, false, false, false, false, false, false, false, false, false] rfl rfl (by kernel_rfl) (fun _ _ _ h => h) (Or.inl ⟨by rfl, ?_⟩) ?_ ?_
                 rotate_left
                 ·intro w'
                  go_simp
                  with_reducible rfl
                 rotate_left
                 ·simp only [Act.put, List.setIfInBounds_toArray, List.set_cons_zero, List.set_cons_succ, i64_w, i32_w]
                  rfl
                 refine pure_ (i := 11) (N := some 123) (v := undef) (a' := ?_) #[true, true, true, true, true, true, true, true, true, true, true, true, false, false, false, false, false, false, false, false, false, false, false] rfl rfl (by kernel_rfl) (fun _ _ _ h => h) (Or.inr ⟨by rfl, rfl⟩) ?_ ?_
                 rotate_left
                 ·simp only [Act.put, List.setIfInBounds_toArray, List.set_cons_zero, List.set_cons_succ, i64_w, i32_w]
                  rfl
                 refine pure_ (i := 12) (N := some 124) (v := undef) (a' := ?_) #[true, true, true, true, true, true, true, true, true, true, true, true, true, false, false, false, false, false, false, false, false, false, false] rfl rfl (by kernel_rfl) (fun _ _ _ h => h) (Or.inr ⟨by rfl, rfl⟩) ?_ ?_
                 rotate_left
                 ·simp only [Act.put, List.setIfInBounds_toArray, List.set_cons_zero, List.set_cons_succ, i64_w, i32_w]
                  rfl
                 refine pure_ (i := 13) (N := some 125) (v := undef) (a' := ?_) #[true, true, true, true, true, true, true, true, true, true, true, true, true, true, false, false, false, false, false, false, false, false, false] rfl rfl (by kernel_rfl) (fun _ _ _ h => h) (Or.inr ⟨by rfl, rfl⟩) ?_ ?_
                 rotate_left
                 ·simp only [Act.put, List.setIfInBounds_toArray, List.set_cons_zero, List.set_cons_succ, i64_w, i32_w]
                  rfl
                 refine pure_ (i := 14) (N := some 126) (v := undef) (a' := ?_) #[true, true, true, true, true, true, true, true, true, true, true, true, true, true, true, false, false, false, false, false, false, false, false] rfl rfl (by kernel_rfl) (fun _ _ _ h => h) (Or.inr ⟨by rfl, rfl⟩) ?_ ?_
                 rotate_left
                 ·simp only [Act.put, List.setIfInBounds_toArray, List.set_cons_zero, List.set_cons_succ, i64_w, i32_w]
                  rfl
                 refine pure_ (i := 15) (N := some 127) (v := undef) (a' := ?_) #[true, true, true, true, true, true, true, true, true, true, true, true, true, true, true, true, false, false, false, false, false, false, false] rfl rfl (by kernel_rfl) (fun _ _ _ h => h) (Or.inr ⟨by rfl, rfl⟩) ?_ ?_
                 rotate_left
                 ·simp only [Act.put, List.setIfInBounds_toArray, List.set_cons_zero, List.set_cons_succ, i64_w, i32_w]
                  rfl
                 refine pure_ (i := 16) (N := some 128) (v := undef) (a' := ?_) #[true, true, true, true, true, true, true, true, true, true, true, true, true, true, true, true, true, false, false, false, false, false, false] rfl rfl (by kernel_rfl) (fun _ _ _ h => h) (Or.inr ⟨by rfl, rfl⟩) ?_ ?_
                 rotate_left
                 ·simp only [Act.put, List.setIfInBounds_toArray, List.set_cons_zero, List.set_cons_succ, i64_w, i32_w]
                  rfl
                 refine pure_ (i := 17) (N := some 129) (v := undef) (a' := ?_) #[true, true, true, true, true, true, true, true, true, true, true, true, true, true, true, true, true, true, false, false, false, false, false] rfl rfl (by kernel_rfl) (fun _ _ _ h => h) (Or.inr ⟨by rfl, rfl⟩) ?_ ?_
                 rotate_left
                 ·simp only [Act.put, List.setIfInBounds_toArray, List.set_cons_zero, List.set_cons_succ, i64_w, i32_w]
                  rfl
                 refine pure_ (i := 18) (N := some 130) (v := undef) (a' := ?_) #[true, true, true, true, true, true, true, true, true, true, true, true, true, true, true, true, true, true, true, false, false, false, false] rfl rfl (by kernel_rfl) (fun _ _ _ h => h) (Or.inr ⟨by rfl, rfl⟩) ?_ ?_
                 rotate_left
                 ·simp only [Act.put, List.setIfInBounds_toArray, List.set_cons_zero, List.set_cons_succ, i64_w, i32_w]
                  rfl
                 refine pure_ (i := 19) (N := some 131) (v := undef) (a' := ?_) #[true, true, true, true, true, true, true, true, true, true, true, true, true, true, true, true, true, true, true, true, false, false, false] rfl rfl (by kernel_rfl) (fun _ _ _ h => h) (Or.inr ⟨by rfl, rfl⟩) ?_ ?_
                 rotate_left
                 ·simp only [Act.put, List.setIfInBounds_toArray, List.set_cons_zero, List.set_cons_succ, i64_w, i32_w]
                  rfl
                 refine pure_ (i := 20) (N := some 132) (v := undef) (a' := ?_) #[true, true, true, true, true, true, true, true, true, true, true, true, true, true, true, true, true, true, true, true, true, false, false] rfl rfl (by kernel_rfl) (fun _ _ _ h => h) (Or.inr ⟨by rfl, rfl⟩) ?_ ?_
                 rotate_left
                 ·simp only [Act.put, List.setIfInBounds_toArray, List.set_cons_zero, List.set_cons_succ, i64_w, i32_w]
                  rfl
                 refine pure_ (i := 21) (N := some 133) (v := ?_) (a' := ?_) #[true, true, true, true, true, true, true, true, true, true, true, true, true, true, true, true, true, true, true, true, true, true, false] rfl rfl (by kernel_rfl) (fun _ _ _ h => h) (Or.inl ⟨by rfl, ?_⟩) ?_ ?_
                 rotate_left
                 ·intro w'
                  go_simp
                  with_reducible rfl
                 rotate_left
                 ·simp only [Act.put, List.setIfInBounds_toArray, List.set_cons_zero, List.set_cons_succ, i64_w, i32_w]
                  rfl
                 refine pure_ (i := 22) (N := some 134) (v := ?_) (a' := ?_) #[true, true, true, true, true, true, true, true, true, true, true, true, true, true, true, true, true, true, true, true, true, true, true] rfl rfl (by kernel_rfl) (fun _ _ _ h => h) (Or.inl ⟨by rfl, ?_⟩) ?_ ?_
                 rotate_left
                 ·intro w'
                  go_simp
                  with_reducible rfl
                 rotate_left
                 ·simp only [Act.put, List.setIfInBounds_toArray, List.set_cons_zero, List.set_cons_succ, i64_w, i32_w]
                  rfl
                 refine done_ (by kernel_rfl) ?_
                 go_wp2
                 go_roundg k3
                 case measure => have := HJ3.out; have := HJ16.out; have := HK3.out; omega
                 case rel => exact ⟨(wrap64 (x15_3 + (rd t472 (0 : Int)))), (wrap64 ((0 : Int) + 1)), (by first | rfl | (simp; done) | (simp [wrap64]; done) | (simp [*]; done)), (by first | rfl | (simp; done) | (simp [wrap64]; done) | (simp [*]; done)), H', ⟨by have := HJ3.out; have := HJ16.out; have := HK3.out; omega⟩, ⟨by (with_reducible repeat (first | apply Kd.R_alloc | apply Kd.R_drewN | apply Kd.R_drew)); exact HO_9.out⟩, ⟨by (with_reducible repeat (first | apply Kd.R_alloc | apply Kd.R_drewN | apply Kd.R_drew)); exact HO_11.out⟩, ⟨by repeat (first | (with_reducible first | exact HB.out | apply below_alloc | apply pw_below_drewN | apply below_drew1) | exact HB.out)⟩⟩
               ·replace c33 := Bool.eq_false_iff.mpr c33
                subst c33
                have H1 : (none) = some r := by rw [if_neg (show ¬ (false = true) by decide)] at H; exact H
                clear H
                have H := H1
                clear H1
                exact absurd H (by simp)
              ·rw [if_neg c31] at H
               exact absurd H (by simp)
             ·as_aux_lemma =>
              rw [if_neg c30] at H
              have c30b0 : decide (x16_3 < (t472.length : Int)) = false := decide_eq_false c30
              clear c30
              have HC41 := Aside0.mk H
              clear H
              obtain ⟨Ao42, co42, eo42⟩ := Kd.R_slice HO_9.out
              subst eo42
              go_upto_region 19 with (fail)
              repeat (go_quiet (fail); go_upto_region 19 with (fail))
              go_cut [158] (fun v158 wc => ∃ (kq : Nat) (x158_40 : Bool), v158 = .bool x158_40 ∧ Aside0 (trishawlaw04_StampPaid.j3 kq a0 l1 (wrap64 (a0 * (rd l1 (ji10)))) (Int.tmod (wrap64 (a2)) (wrap64 ((wrap64 (a0 * (rd l1 (ji10)))) + 1))) t476 x158_40 = some r) ∧ Aside0 (kq ≤ k3) ∧ Aside0 (Kd.R (Kd.int .i64) 3 wc w.heap.size (fun _ => True) v478 t476) ∧ Aside0 (Below w.heap.size w wc))
              case first =>
               have H := HC41.out
               clear HC41
               by_cases c43 : x15_3 = (Int.tmod (wrap64 (a2)) (wrap64 ((wrap64 (a0 * (rd l1 (ji10)))) + 1)))
               ·as_aux_lemma =>
                rw [if_pos c43] at H
                have c43b0 : (x15_3 == (Int.tmod (wrap64 (a2)) (wrap64 ((wrap64 (a0 * (rd l1 (ji10)))) + 1)))) = true := beq_iff_eq.mpr c43
                have c43b1 : (x15_3 != (Int.tmod (wrap64 (a2)) (wrap64 ((wrap64 (a0 * (rd l1 (ji10)))) + 1)))) = false := bne_eq_false_iff_eq.mpr c43
                clear c43
                (first | rw [c43b0] | (simp only [i64_w, i32_w]; rw [c43b0]) | skip)
                obtain ⟨ji44, hji44⟩ : ∃ j_ : Int, (Int.tmod (wrap64 (a2)) (wrap64 ((wrap64 (a0 * (rd l1 (ji10)))) + 1))) = j_ := ⟨_, rfl⟩
                replace H : (if 0 ≤ (ji44) then (if (ji44) < (t476.length : Int) then (if (t472.length : Int) = (rd t476 (ji44)) then (trishawlaw04_StampPaid.j3 k3 a0 l1 (wrap64 (a0 * (rd l1 (ji10)))) (ji44) t476 (decide ((t472.length : Int) > a0))) else (none)) else (none)) else (none)) = some r := by first | (rw [hji44] at H; exact H) | (simp only [hji44] at H ⊢; exact H)
                (try rw [hji44] at c43b0)
                (try rw [hji44] at c43b1)
                by_cases c45 : 0 ≤ (ji44)
                ·as_aux_lemma =>
                 rw [if_pos c45] at H
                 have c45b0 : decide (0 ≤ (ji44)) = true := decide_eq_true c45
                 clear c45
                 by_cases c46 : (ji44) < (t476.length : Int)
                 ·as_aux_lemma =>
                  rw [if_pos c46] at H
                  have c46b0 : decide ((ji44) < (t476.length : Int)) = true := decide_eq_true c46
                  clear c46
                  by_cases c47 : (t472.length : Int) = (rd t476 (ji44))
                  ·as_aux_lemma =>
                   rw [if_pos c47] at H
                   have c47b0 : ((t472.length : Int) == (rd t476 (ji44))) = true := beq_iff_eq.mpr c47
                   have c47b1 : ((t472.length : Int) != (rd t476 (ji44))) = false := bne_eq_false_iff_eq.mpr c47
                   clear c47
                   have H' := Aside0.mk H
                   clear H
                   obtain ⟨Ao48, co48, eo48⟩ := Kd.R_slice HO_11.out
                   subst eo48
                   have p491 : 0 ≤ ((ji44) : Int) := of_decide_eq_true (by first | (with_reducible assumption) | assumption)
                   have q491 : (ji44) < (t476.length : Int) := of_decide_eq_true (by first | (with_reducible assumption) | assumption)
                   obtain ⟨ad491, e491, hx491_0⟩ := Kd.at_int (Kd.R_reads' HO_11.out).2.2 (ji44) p491 q491
                   cases e491
                   replace p491 := eq_true p491
                   replace q491 := eq_true q491
                   go_wp2
                   repeat (go_quiet (fail); try go_wp2)
                   try subst hji44
                   go_meet
                   case rel => exact ⟨_, (decide ((t472.length : Int) > a0)), (by first | rfl | (simp; done) | (simp [*]; done)), H', ⟨by have := HJ3.out; have := HJ16.out; have := HK3.out; first | omega | exact Nat.le_refl _⟩, ⟨by (with_reducible repeat (first | apply Kd.R_alloc | apply Kd.R_drewN | apply Kd.R_drew)); exact Kd.R_mono HO_11.out (fun _ hk => trivial)⟩, ⟨by repeat (first | (with_reducible first | exact HB.out | apply below_alloc | apply pw_below_drewN | apply below_drew1) | exact HB.out)⟩⟩
                  ·rw [if_neg c47] at H
                   exact absurd H (by simp)
                 ·rw [if_neg c46] at H
                  exact absurd H (by simp)
                ·rw [if_neg c45] at H
                 exact absurd H (by simp)
               ·rw [if_neg c43] at H
                exact absurd H (by simp)
              case rest =>
               clear HC41
               try clear c1
               try clear c2
               try clear p2
               try clear c3
               try clear c4
               try clear p4
               try clear q4
               try clear hx4
               try clear c5
               try clear c5b0
               try clear c5b1
               try clear p6
               try clear c7
               try clear c11
               try clear c11b0
               try clear c12
               try clear c12b0
               try clear c13
               try clear c13b0
               try clear c13b1
               try clear c21
               try clear c21b0
               try clear c21b1
               try clear c22
               try clear c22b0
               try clear c22b1
               try clear c23
               try clear c23b0
               try clear c23b1
               try clear c25
               try clear c25b0
               try clear c26
               try clear c26b0
               try clear c28
               try clear c29
               try clear c29b0
               try clear c29b1
               try clear c30
               try clear c30b0
               try clear c31
               try clear c31b0
               try clear c33
               try clear c34
               try clear c34b0
               try clear c36
               try clear c36b0
               try clear c37
               try clear c37b0
               try clear c38
               try clear c38b0
               try clear c43
               try clear c43b0
               try clear c43b1
               try clear c45
               try clear c45b0
               try clear c46
               try clear c46b0
               try clear c47
               try clear c47b0
               try clear c47b1
               try clear p47
               try clear q47
               try clear hx47
               try clear p48
               try clear q48
               try clear hx48
               try clear hx471_0
               try clear hx482_0
               try clear hx485_0
               try clear hx487_0
               try clear hx488_0
               try clear hx489_0
               try clear hx490_0
               try clear hx491_0
               try clear p2
               try clear p4
               try clear p471
               try clear p482
               try clear p485
               try clear p487
               try clear p488
               try clear p489
               try clear p490
               try clear p491
               try clear p6
               try clear q4
               try clear q471
               try clear q482
               try clear q485
               try clear q487
               try clear q488
               try clear q489
               try clear q490
               try clear q491
               obtain ⟨kq, x158_40, rfl, HA, HJ40, HO_11, HB⟩ := hcut
               cases kq with
               | zero => exact absurd HA.out (by simp [trishawlaw04_StampPaid.j3])
               | succ kj40 =>
                have H := HA.out
                clear HA
                simp only [trishawlaw04_StampPaid.j3] at H
                by_cases c49 : x158_40 = true
                ·subst c49
                 have H1 : (none) = some r := by rw [if_pos rfl] at H; exact H
                 clear H
                 have H := H1
                 clear H1
                 exact absurd H (by simp)
                ·replace c49 := Bool.eq_false_iff.mpr c49
                 subst c49
                 have H1 : ((stamp_Greedy.f kj40 a0 l1).bind fun bt492 => (if bt492.2 = 0 then (if bt492.1 < 1 then (none) else (if bt492.1 > (wrap64 (a0 * (rd l1 (ji10)))) then (none) else (if 0 ≤ bt492.1 then (if bt492.1 < (t476.length : Int) then (trishawlaw04_StampPaid.j4 kj40 a0 l1 (Int.tmod (wrap64 (a2)) (wrap64 ((wrap64 (a0 * (rd l1 (ji10)))) + 1))) bt492.2 bt492.1 (decide ((rd t476 bt492.1) < 0))) else (none)) else (none)))) else (if bt492.2 = 10 then (trishawlaw04_StampPaid.j4 kj40 a0 l1 (Int.tmod (wrap64 (a2)) (wrap64 ((wrap64 (a0 * (rd l1 (ji10)))) + 1))) bt492.2 bt492.1 false) else (none)))) = some r := by rw [if_neg (show ¬ (false = true) by decide)] at H; exact H
                 clear H
                 have H := H1
                 clear H1
                 replace H := Option.bind_eq_some_iff.mp H
                 obtain ⟨⟨t492, t493⟩, A500, H⟩ := H
                 replace H : (if t493 = 0 then (if t492 < 1 then (none) else (if t492 > (wrap64 (a0 * (rd l1 (ji10)))) then (none) else (if 0 ≤ t492 then (if t492 < (t476.length : Int) then (trishawlaw04_StampPaid.j4 kj40 a0 l1 (Int.tmod (wrap64 (a2)) (wrap64 ((wrap64 (a0 * (rd l1 (ji10)))) + 1))) t493 t492 (decide ((rd t476 t492) < 0))) else (none)) else (none)))) else (if t493 = 10 then (trishawlaw04_StampPaid.j4 kj40 a0 l1 (Int.tmod (wrap64 (a2)) (wrap64 ((wrap64 (a0 * (rd l1 (ji10)))) + 1))) t493 t492 false) else (none))) = some r := H
                 have A50 := Aside0.mk A500
                 clear A500
                 have HC51 := Aside0.mk H
                 clear H
                 go_upto_region 22 with (first | (go_at_call 36; (with_reducible refine (stamp_Greedy.calls kj40 a0 _ _ l1 t492 t493 _ ?side1 ?side2 A50.out).mono ?_); (case side1 => repeat (first | exact (Kd.C_below HR1.out HB.out) | (with_reducible refine Kd.C_alloc ?_ _) | (with_reducible refine Kd.C_drewN ?_ _) | (with_reducible refine Kd.C_drew ?_))); (case side2 => exact HC1.out); rintro e w52 ⟨rfl, hb⟩; have n0_ := Aside0.mk (Kd.R_below (by (with_reducible repeat (first | apply Kd.R_alloc | apply Kd.R_drewN | apply Kd.R_drew)); exact HO_11.out) hb); have n1_ := Aside0.mk (below_step (by repeat (first | (with_reducible first | exact HB.out | apply below_alloc | apply pw_below_drewN | apply below_drew1) | exact HB.out)) hb); clear HO_11; clear HB; have HO_11 := n0_; have HB := n1_; clear n0_ n1_; (try clear hb); (try clear hb2); (try clear hk); (try clear hi)))
                 repeat (go_quiet (first | (go_at_call 36; (with_reducible refine (stamp_Greedy.calls kj40 a0 _ _ l1 t492 t493 _ ?side1 ?side2 A50.out).mono ?_); (case side1 => repeat (first | exact (Kd.C_below HR1.out HB.out) | (with_reducible refine Kd.C_alloc ?_ _) | (with_reducible refine Kd.C_drewN ?_ _) | (with_reducible refine Kd.C_drew ?_))); (case side2 => exact HC1.out); rintro e w52 ⟨rfl, hb⟩; have n0_ := Aside0.mk (Kd.R_below (by (with_reducible repeat (first | apply Kd.R_alloc | apply Kd.R_drewN | apply Kd.R_drew)); exact HO_11.out) hb); have n1_ := Aside0.mk (below_step (by repeat (first | (with_reducible first | exact HB.out | apply below_alloc | apply pw_below_drewN | apply below_drew1) | exact HB.out)) hb); clear HO_11; clear HB; have HO_11 := n0_; have HB := n1_; clear n0_ n1_; (try clear hb); (try clear hb2); (try clear hk); (try clear hi))); go_upto_region 22 with (first | (go_at_call 36; (with_reducible refine (stamp_Greedy.calls kj40 a0 _ _ l1 t492 t493 _ ?side1 ?side2 A50.out).mono ?_); (case side1 => repeat (first | exact (Kd.C_below HR1.out HB.out) | (with_reducible refine Kd.C_alloc ?_ _) | (with_reducible refine Kd.C_drewN ?_ _) | (with_reducible refine Kd.C_drew ?_))); (case side2 => exact HC1.out); rintro e w52 ⟨rfl, hb⟩; have n0_ := Aside0.mk (Kd.R_below (by (with_reducible repeat (first | apply Kd.R_alloc | apply Kd.R_drewN | apply Kd.R_drew)); exact HO_11.out) hb); have n1_ := Aside0.mk (below_step (by repeat (first | (with_reducible first | exact HB.out | apply below_alloc | apply pw_below_drewN | apply below_drew1) | exact HB.out)) hb); clear HO_11; clear HB; have HO_11 := n0_; have HB := n1_; clear n0_ n1_; (try clear hb); (try clear hb2); (try clear hk); (try clear hi))))
                 (try simp only [Act.put, List.setIfInBounds_toArray, List.set_cons_zero, List.set_cons_succ])
                 go_cut [190] (fun v190 wc => ∃ (kq : Nat) (x190_50 : Bool), v190 = .bool x190_50 ∧ Aside0 (trishawlaw04_StampPaid.j4 kq a0 l1 (Int.tmod (wrap64 (a2)) (wrap64 ((wrap64 (a0 * (rd l1 (ji10)))) + 1))) t493 t492 x190_50 = some r) ∧ Aside0 (kq ≤ kj40) ∧ Aside0 (Below w.heap.size w wc))
                 case first =>
                  have H := HC51.out
                  clear HC51
                  by_cases c53 : t493 = 0
                  ·as_aux_lemma =>
                   rw [if_pos c53] at H
                   have c53b0 : (t493 == 0) = true := beq_iff_eq.mpr c53
                   have c53b1 : (t493 != 0) = false := bne_eq_false_iff_eq.mpr c53
                   clear c53
                   (first | rw [c53b0] | (simp only [i64_w, i32_w]; rw [c53b0]) | skip)
                   by_cases c54 : t492 < 1
                   ·rw [if_pos c54] at H
                    exact absurd H (by simp)
                   ·as_aux_lemma =>
                    rw [if_neg c54] at H
                    have c54b0 : decide (t492 < 1) = false := decide_eq_false c54
                    clear c54
                    by_cases c55 : t492 > (wrap64 (a0 * (rd l1 (ji10))))
                    ·rw [if_pos c55] at H
                     exact absurd H (by simp)
                    ·as_aux_lemma =>
                     rw [if_neg c55] at H
                     have c55b0 : decide ((wrap64 (a0 * (rd l1 (ji10)))) < t492) = false := decide_eq_false c55
                     clear c55
                     by_cases c56 : 0 ≤ t492
                     ·as_aux_lemma =>
                      rw [if_pos c56] at H
                      have c56b0 : decide (0 ≤ t492) = true := decide_eq_true c56
                      clear c56
                      by_cases c57 : t492 < (t476.length : Int)
                      ·as_aux_lemma =>
                       rw [if_pos c57] at H
                       have c57b0 : decide (t492 < (t476.length : Int)) = true := decide_eq_true c57
                       clear c57
                       have H' := Aside0.mk H
                       clear H
                       obtain ⟨Ao58, co58, eo58⟩ := Kd.R_slice HO_11.out
                       subst eo58
                       have p494 : 0 ≤ (t492 : Int) := of_decide_eq_true (by first | (with_reducible assumption) | assumption)
                       have q494 : t492 < (t476.length : Int) := of_decide_eq_true (by first | (with_reducible assumption) | assumption)
                       obtain ⟨ad494, e494, hx494_0⟩ := Kd.at_int (Kd.R_reads' HO_11.out).2.2 t492 p494 q494
                       cases e494
                       replace p494 := eq_true p494
                       replace q494 := eq_true q494
                       go_wp2
                       repeat (go_quiet (fail); try go_wp2)
                       go_meet
                       case rel => exact ⟨_, (decide ((rd t476 t492) < 0)), (by first | rfl | (simp; done) | (simp [*]; done)), H', ⟨by have := HJ3.out; have := HJ16.out; have := HK3.out; have := HJ40.out; first | omega | exact Nat.le_refl _⟩, ⟨by repeat (first | (with_reducible first | exact HB.out | apply below_alloc | apply pw_below_drewN | apply below_drew1) | exact HB.out)⟩⟩
                      ·rw [if_neg c57] at H
                       exact absurd H (by simp)
                     ·rw [if_neg c56] at H
                      exact absurd H (by simp)
                  ·as_aux_lemma =>
                   rw [if_neg c53] at H
                   have c53b0 : (t493 == 0) = false := beq_eq_false_iff_ne.mpr c53
                   have c53b1 : (t493 != 0) = true := bne_iff_ne.mpr c53
                   (first | rw [c53b0] | (simp only [i64_w, i32_w]; rw [c53b0]) | skip)
                   by_cases c59 : t493 = 10
                   ·rw [if_pos c59] at H
                    have c59b0 : (t493 == 10) = true := beq_iff_eq.mpr c59
                    have c59b1 : (t493 != 10) = false := bne_eq_false_iff_eq.mpr c59
                    clear c59
                    have H' := Aside0.mk H
                    clear H
                    go_wp2
                    repeat (go_quiet (fail); try go_wp2)
                    go_meet
                    case rel => exact ⟨_, (false), (by first | rfl | (simp; done) | (simp [*]; done)), H', ⟨by have := HJ3.out; have := HJ16.out; have := HK3.out; have := HJ40.out; first | omega | exact Nat.le_refl _⟩, ⟨by repeat (first | (with_reducible first | exact HB.out | apply below_alloc | apply pw_below_drewN | apply below_drew1) | exact HB.out)⟩⟩
                   ·rw [if_neg c59] at H
                    exact absurd H (by simp)
                 case rest =>
                  clear HC51
                  try clear c1
                  try clear c2
                  try clear p2
                  try clear c3
                  try clear c4
                  try clear p4
                  try clear q4
                  try clear hx4
                  try clear c5
                  try clear c5b0
                  try clear c5b1
                  try clear p6
                  try clear c7
                  try clear c11
                  try clear c11b0
                  try clear c12
                  try clear c12b0
                  try clear c13
                  try clear c13b0
                  try clear c13b1
                  try clear c21
                  try clear c21b0
                  try clear c21b1
                  try clear c22
                  try clear c22b0
                  try clear c22b1
                  try clear c23
                  try clear c23b0
                  try clear c23b1
                  try clear c25
                  try clear c25b0
                  try clear c26
                  try clear c26b0
                  try clear c28
                  try clear c29
                  try clear c29b0
                  try clear c29b1
                  try clear c30
                  try clear c30b0
                  try clear c31
                  try clear c31b0
                  try clear c33
                  try clear c34
                  try clear c34b0
                  try clear c36
                  try clear c36b0
                  try clear c37
                  try clear c37b0
                  try clear c38
                  try clear c38b0
                  try clear c43
                  try clear c43b0
                  try clear c43b1
                  try clear c45
                  try clear c45b0
                  try clear c46
                  try clear c46b0
                  try clear c47
                  try clear c47b0
                  try clear c47b1
                  try clear p47
                  try clear q47
                  try clear hx47
                  try clear p48
                  try clear q48
                  try clear hx48
                  try clear c49
                  try clear p49
                  try clear q49
                  try clear hx49
                  try clear c53
                  try clear c53b0
                  try clear c53b1
                  try clear c54
                  try clear c54b0
                  try clear c55
                  try clear c55b0
                  try clear c56
                  try clear c56b0
                  try clear c57
                  try clear c57b0
                  try clear c59
                  try clear c59b0
                  try clear c59b1
                  try clear hx471_0
                  try clear hx482_0
                  try clear hx485_0
                  try clear hx487_0
                  try clear hx488_0
                  try clear hx489_0
                  try clear hx490_0
                  try clear hx491_0
                  try clear hx494_0
                  try clear p2
                  try clear p4
                  try clear p47
                  try clear p471
                  try clear p48
                  try clear p482
                  try clear p485
                  try clear p487
                  try clear p488
                  try clear p489
                  try clear p490
                  try clear p491
                  try clear p494
                  try clear p6
                  try clear q4
                  try clear q47
                  try clear q471
                  try clear q48
                  try clear q482
                  try clear q485
                  try clear q487
                  try clear q488
                  try clear q489
                  try clear q490
                  try clear q491
                  try clear q494
                  obtain ⟨kq, x190_50, rfl, HA, HJ50, HB⟩ := hcut
                  cases kq with
                  | zero => exact absurd HA.out (by simp [trishawlaw04_StampPaid.j4])
                  | succ kj50 =>
                   have H := HA.out
                   clear HA
                   simp only [trishawlaw04_StampPaid.j4] at H
                   by_cases c60 : x190_50 = true
                   ·subst c60
                    have H1 : (none) = some r := by rw [if_pos rfl] at H; exact H
                    clear H
                    have H := H1
                    clear H1
                    exact absurd H (by simp)
                   ·replace c60 := Bool.eq_false_iff.mpr c60
                    subst c60
                    have H1 : (if t493 = 0 then (trishawlaw04_StampPaid.j5 kj50 a0 l1 (Int.tmod (wrap64 (a2)) (wrap64 ((wrap64 (a0 * (rd l1 (ji10)))) + 1))) (decide ((Int.tmod (wrap64 (a2)) (wrap64 ((wrap64 (a0 * (rd l1 (ji10)))) + 1))) ≥ t492))) else (trishawlaw04_StampPaid.j5 kj50 a0 l1 (Int.tmod (wrap64 (a2)) (wrap64 ((wrap64 (a0 * (rd l1 (ji10)))) + 1))) false)) = some r := by rw [if_neg (show ¬ (false = true) by decide)] at H; exact H
                    clear H
                    have H := H1
                    clear H1
                    have HC61 := Aside0.mk H
                    clear H
                    go_upto_region 24 with (fail)
                    repeat (go_quiet (fail); go_upto_region 24 with (fail))
                    go_cut [197] (fun v197 wc => ∃ (kq : Nat) (x197_60 : Bool), v197 = .bool x197_60 ∧ Aside0 (trishawlaw04_StampPaid.j5 kq a0 l1 (Int.tmod (wrap64 (a2)) (wrap64 ((wrap64 (a0 * (rd l1 (ji10)))) + 1))) x197_60 = some r) ∧ Aside0 (kq ≤ kj50) ∧ Aside0 (Below w.heap.size w wc))
                    case first =>
                     have H := HC61.out
                     clear HC61
                     by_cases c62 : t493 = 0
                     ·rw [if_pos c62] at H
                      have c62b0 : (t493 == 0) = true := beq_iff_eq.mpr c62
                      have c62b1 : (t493 != 0) = false := bne_eq_false_iff_eq.mpr c62
                      clear c62
                      (first | rw [c62b0] | (simp only [i64_w, i32_w]; rw [c62b0]) | skip)
                      have H' := Aside0.mk H
                      clear H
                      go_wp2
                      repeat (go_quiet (fail); try go_wp2)
                      go_meet
                      case rel => exact ⟨_, (decide ((Int.tmod (wrap64 (a2)) (wrap64 ((wrap64 (a0 * (rd l1 (ji10)))) + 1))) ≥ t492)), (by first | rfl | (simp; done) | (simp only [← hji10] <;> (first | rfl | simp)) | (simp [*]; done)), H', ⟨by have := HJ3.out; have := HJ16.out; have := HK3.out; have := HJ40.out; have := HJ50.out; first | omega | exact Nat.le_refl _⟩, ⟨by repeat (first | (with_reducible first | exact HB.out | apply below_alloc | apply pw_below_drewN | apply below_drew1) | exact HB.out)⟩⟩
                     ·rw [if_neg c62] at H
                      have c62b0 : (t493 == 0) = false := beq_eq_false_iff_ne.mpr c62
                      have c62b1 : (t493 != 0) = true := bne_iff_ne.mpr c62
                      (first | rw [c62b0] | (simp only [i64_w, i32_w]; rw [c62b0]) | skip)
                      have H' := Aside0.mk H
                      clear H
                      go_wp2
                      repeat (go_quiet (fail); try go_wp2)
                      go_meet
                      case rel => exact ⟨_, (false), (by first | rfl | (simp; done) | (simp [*]; done)), H', ⟨by have := HJ3.out; have := HJ16.out; have := HK3.out; have := HJ40.out; have := HJ50.out; first | omega | exact Nat.le_refl _⟩, ⟨by repeat (first | (with_reducible first | exact HB.out | apply below_alloc | apply pw_below_drewN | apply below_drew1) | exact HB.out)⟩⟩
                    case rest =>
                     clear HC61
                     try clear c1
                     try clear c2
                     try clear p2
                     try clear c3
                     try clear c4
                     try clear p4
                     try clear q4
                     try clear hx4
                     try clear c5
                     try clear c5b0
                     try clear c5b1
                     try clear c6
                     try clear p6
                     try clear c7
                     try clear c11
                     try clear c11b0
                     try clear c12
                     try clear c12b0
                     try clear c13
                     try clear c13b0
                     try clear c13b1
                     try clear c21
                     try clear c21b0
                     try clear c21b1
                     try clear c22
                     try clear c22b0
                     try clear c22b1
                     try clear c23
                     try clear c23b0
                     try clear c23b1
                     try clear c25
                     try clear c25b0
                     try clear c26
                     try clear c26b0
                     try clear c28
                     try clear c29
                     try clear c29b0
                     try clear c29b1
                     try clear c30
                     try clear c30b0
                     try clear c31
                     try clear c31b0
                     try clear c33
                     try clear c34
                     try clear c34b0
                     try clear c36
                     try clear c36b0
                     try clear c37
                     try clear c37b0
                     try clear c38
                     try clear c38b0
                     try clear c43
                     try clear c43b0
                     try clear c43b1
                     try clear c45
                     try clear c45b0
                     try clear c46
                     try clear c46b0
                     try clear c47
                     try clear c47b0
                     try clear c47b1
                     try clear p47
                     try clear q47
                     try clear hx47
                     try clear p48
                     try clear q48
                     try clear hx48
                     try clear c49
                     try clear p49
                     try clear q49
                     try clear hx49
                     try clear c53
                     try clear c53b0
                     try clear c53b1
                     try clear c54
                     try clear c54b0
                     try clear c55
                     try clear c55b0
                     try clear c56
                     try clear c56b0
                     try clear c57
                     try clear c57b0
                     try clear c59
                     try clear c59b0
                     try clear c59b1
                     try clear c60
                     try clear c62
                     try clear c62b0
                     try clear c62b1
                     try clear hx471_0
                     try clear hx482_0
                     try clear hx485_0
                     try clear hx487_0
                     try clear hx488_0
                     try clear hx489_0
                     try clear hx490_0
                     try clear hx491_0
                     try clear hx494_0
                     try clear p2
                     try clear p4
                     try clear p47
                     try clear p471
                     try clear p48
                     try clear p482
                     try clear p485
                     try clear p487
                     try clear p488
                     try clear p489
                     try clear p49
                     try clear p490
                     try clear p491
                     try clear p494
                     try clear p6
                     try clear q4
                     try clear q47
                     try clear q471
                     try clear q48
                     try clear q482
                     try clear q485
                     try clear q487
                     try clear q488
                     try clear q489
                     try clear q49
                     try clear q490
                     try clear q491
                     try clear q494
                     obtain ⟨kq, x197_60, rfl, HA, HJ60, HB⟩ := hcut
                     cases kq with
                     | zero => exact absurd HA.out (by simp [trishawlaw04_StampPaid.j5])
                     | succ kj60 =>
                      have H := HA.out
                      clear HA
                      simp only [trishawlaw04_StampPaid.j5] at H
                      by_cases c63 : x197_60 = true
                      ·subst c63
                       have H1 : ((trishawlaw04_alive.f kj60).bind fun t495 => (some t495)) = some r := by rw [if_pos rfl] at H; exact H
                       clear H
                       have H := H1
                       clear H1
                       replace H := Option.bind_eq_some_iff.mp H
                       obtain ⟨t495, A640, H⟩ := H
                       replace H : (some t495) = some r := H
                       have A64 := Aside0.mk A640
                       clear A640
                       obtain rfl := Option.some.inj H
                       go_wp2_with (first | (go_at_call 16; (with_reducible refine (trishawlaw04_alive.calls kj60  t495 _ A64.out).mono ?_); rintro e w65 ⟨rfl, hb⟩; have n0_ := Aside0.mk (below_step (by repeat (first | (with_reducible first | exact HB.out | apply below_alloc | apply pw_below_drewN | apply below_drew1) | exact HB.out)) hb); clear HB; have HB := n0_; clear n0_; (try clear hb); (try clear hb2); (try clear hk); (try clear hi)))
                       repeat (go_quiet (first | (go_at_call 16; (with_reducible refine (trishawlaw04_alive.calls kj60  t495 _ A64.out).mono ?_); rintro e w65 ⟨rfl, hb⟩; have n0_ := Aside0.mk (below_step (by repeat (first | (with_reducible first | exact HB.out | apply below_alloc | apply pw_below_drewN | apply below_drew1) | exact HB.out)) hb); clear HB; have HB := n0_; clear n0_; (try clear hb); (try clear hb2); (try clear hk); (try clear hi))); try go_wp2_with (first | (go_at_call 16; (with_reducible refine (trishawlaw04_alive.calls kj60  t495 _ A64.out).mono ?_); rintro e w65 ⟨rfl, hb⟩; have n0_ := Aside0.mk (below_step (by repeat (first | (with_reducible first | exact HB.out | apply below_alloc | apply pw_below_drewN | apply below_drew1) | exact HB.out)) hb); clear HB; have HB := n0_; clear n0_; (try clear hb); (try clear hb2); (try clear hk); (try clear hi))))
                       go_ret
                       exact ⟨by first | rfl | (simp [errW_none, errW_some] <;> rfl) | (simp only [← hji10]; first | rfl | (simp [errW_none, errW_some] <;> rfl)) | (simp [*, errW_none, errW_some] <;> rfl), by repeat (first | (with_reducible first | exact HB.out | apply below_alloc | apply pw_below_drewN | apply below_drew1) | exact HB.out)⟩
                      ·replace c63 := Bool.eq_false_iff.mpr c63
                       subst c63
                       have H1 : (trishawlaw04_StampPaid.l1 kj60 a0 l1 0 (Int.tmod (wrap64 (a2)) (wrap64 ((wrap64 (a0 * (rd l1 (ji10)))) + 1))) (wrap64 ((l1.length : Int) - 1))) = some r := by rw [if_neg (show ¬ (false = true) by decide)] at H; exact H
                       clear H
                       have H := H1
                       clear H1
                       have H' := Aside0.mk H
                       clear H
                       go_wp2
                       repeat (go_quiet (fail); try go_wp2)
                       go_loopg [18, 19, 20] kj60 (fun kq v18 v19 v20 w' => ∃ (x18_7 : Int) (x19_7 : Int) (x20_7 : Int), v18 = .int .i64 x18_7 ∧ v19 = .int .i64 x19_7 ∧ v20 = .int .i64 x20_7 ∧ Aside0 (trishawlaw04_StampPaid.l1 kq a0 l1 x18_7 x19_7 x20_7 = some r) ∧ Aside0 (kq ≤ kj60) ∧ Aside0 (Below w.heap.size w w'))
                       case atStart => exact ⟨(0), ((Int.tmod (wrap64 (a2)) (wrap64 ((wrap64 (a0 * (rd l1 (ji10)))) + 1)))), (wrap64 ((l1.length : Int) - 1)), (by first | rfl | (simp; done) | (simp [*]; done)), (by first | rfl | (simp; done) | (simp only [← hji10] <;> (first | rfl | simp)) | (simp [*]; done)), (by first | rfl | (simp; done) | (simp [*]; done)), H', ⟨Nat.le_refl _⟩, ⟨by repeat (first | (with_reducible first | exact HB.out | apply below_alloc | apply pw_below_drewN | apply below_drew1) | exact HB.out)⟩⟩
                       case round =>
                        clear H'
                        try clear c1
                        try clear c2
                        try clear p2
                        try clear c3
                        try clear c4
                        try clear p4
                        try clear q4
                        try clear hx4
                        try clear c5
                        try clear c5b0
                        try clear c5b1
                        try clear c6
                        try clear p6
                        try clear c7
                        try clear c11
                        try clear c11b0
                        try clear c12
                        try clear c12b0
                        try clear c13
                        try clear c13b0
                        try clear c13b1
                        try clear c21
                        try clear c21b0
                        try clear c21b1
                        try clear c22
                        try clear c22b0
                        try clear c22b1
                        try clear c23
                        try clear c23b0
                        try clear c23b1
                        try clear c25
                        try clear c25b0
                        try clear c26
                        try clear c26b0
                        try clear c28
                        try clear c29
                        try clear c29b0
                        try clear c29b1
                        try clear c30
                        try clear c30b0
                        try clear c31
                        try clear c31b0
                        try clear c33
                        try clear c34
                        try clear c34b0
                        try clear c36
                        try clear c36b0
                        try clear c37
                        try clear c37b0
                        try clear c38
                        try clear c38b0
                        try clear c43
                        try clear c43b0
                        try clear c43b1
                        try clear c45
                        try clear c45b0
                        try clear c46
                        try clear c46b0
                        try clear c47
                        try clear c47b0
                        try clear c47b1
                        try clear p47
                        try clear q47
                        try clear hx47
                        try clear p48
                        try clear q48
                        try clear hx48
                        try clear c49
                        try clear p49
                        try clear q49
                        try clear hx49
                        try clear c53
                        try clear c53b0
                        try clear c53b1
                        try clear c54
                        try clear c54b0
                        try clear c55
                        try clear c55b0
                        try clear c56
                        try clear c56b0
                        try clear c57
                        try clear c57b0
                        try clear c59
                        try clear c59b0
                        try clear c59b1
                        try clear c60
                        try clear c62
                        try clear c62b0
                        try clear c62b1
                        try clear c63
                        try clear p64
                        try clear hx471_0
                        try clear hx482_0
                        try clear hx485_0
                        try clear hx487_0
                        try clear hx488_0
                        try clear hx489_0
                        try clear hx490_0
                        try clear hx491_0
                        try clear hx494_0
                        try clear p2
                        try clear p4
                        try clear p47
                        try clear p471
                        try clear p48
                        try clear p482
                        try clear p485
                        try clear p487
                        try clear p488
                        try clear p489
                        try clear p49
                        try clear p490
                        try clear p491
                        try clear p494
                        try clear p6
                        try clear q4
                        try clear q47
                        try clear q471
                        try clear q48
                        try clear q482
                        try clear q485
                        try clear q487
                        try clear q488
                        try clear q489
                        try clear q49
                        try clear q490
                        try clear q491
                        try clear q494
                        obtain ⟨x18_7, x19_7, x20_7, rfl, rfl, rfl, HA, HK7, HB⟩ := hrel
                        cases gk with
                        | zero => exact absurd HA.out (by simp [trishawlaw04_StampPaid.l1])
                        | succ k7 =>
                         have H := HA.out
                         clear HA
                         simp only [trishawlaw04_StampPaid.l1] at H
                         by_cases c66 : x20_7 ≥ 0
                         ·as_aux_lemma =>
                          rw [if_pos c66] at H
                          have c66b0 : decide (0 ≤ x20_7) = true := decide_eq_true c66
                          clear c66
                          by_cases c67 : 0 ≤ x20_7
                          ·as_aux_lemma =>
                           rw [if_pos c67] at H
                           have c67b0 : decide (0 ≤ x20_7) = true := decide_eq_true c67
                           clear c67
                           by_cases c68 : x20_7 < (l1.length : Int)
                           ·as_aux_lemma =>
                            rw [if_pos c68] at H
                            have c68b0 : decide (x20_7 < (l1.length : Int)) = true := decide_eq_true c68
                            clear c68
                            by_cases c69 : (rd l1 x20_7) = 0
                            ·rw [if_pos c69] at H
                             exact absurd H (by simp)
                            ·as_aux_lemma =>
                             rw [if_neg c69] at H
                             have c69b0 : ((rd l1 x20_7) == 0) = false := beq_eq_false_iff_ne.mpr c69
                             have c69b1 : ((rd l1 x20_7) != 0) = true := bne_iff_ne.mpr c69
                             have H' := Aside0.mk H
                             clear H
                             have p496 : 0 ≤ (x20_7 : Int) := of_decide_eq_true (by first | (with_reducible assumption) | assumption)
                             have q496 : x20_7 < (l1.length : Int) := of_decide_eq_true (by first | (with_reducible assumption) | assumption)
                             obtain ⟨ad496, e496, hx496_0⟩ := Kd.at_int HR1.out x20_7 p496 q496
                             obtain rfl : ad471 = ad496 := (by injection e496)
                             replace hx496_0 := (HB.out.cell (World.block_lt_of_cell? w _ hx496_0)).trans hx496_0
                             replace p496 := eq_true p496
                             replace q496 := eq_true q496
                             have p497 : 0 ≤ (x20_7 : Int) := of_decide_eq_true (by first | (with_reducible assumption) | assumption)
                             have q497 : x20_7 < (l1.length : Int) := of_decide_eq_true (by first | (with_reducible assumption) | assumption)
                             obtain ⟨ad497, e497, hx497_0⟩ := Kd.at_int HR1.out x20_7 p497 q497
                             obtain rfl : ad471 = ad497 := (by injection e497)
                             replace hx497_0 := (HB.out.cell (World.block_lt_of_cell? w _ hx497_0)).trans hx497_0
                             replace p497 := eq_true p497
                             replace q497 := eq_true q497
                             go_wp2
                             repeat (go_quiet (fail); try go_wp2)
                             go_roundg k7
                             case measure => have := HJ3.out; have := HJ16.out; have := HK3.out; have := HJ40.out; have := HJ50.out; have := HJ60.out; have := HK7.out; omega
                             case rel => exact ⟨(wrap64 (x18_7 + (wrap64 (Int.tdiv x19_7 (rd l1 x20_7))))), (Int.tmod x19_7 (rd l1 x20_7)), (wrap64 (x20_7 - 1)), (by first | rfl | (simp; done) | (simp [*]; done)), (by first | rfl | (simp; done) | (simp [*]; done)), (by first | rfl | (simp; done) | (simp [*]; done)), H', ⟨by have := HJ3.out; have := HJ16.out; have := HK3.out; have := HJ40.out; have := HJ50.out; have := HJ60.out; have := HK7.out; omega⟩, ⟨by repeat (first | (with_reducible first | exact HB.out | apply below_alloc | apply pw_below_drewN | apply below_drew1) | exact HB.out)⟩⟩
                           ·rw [if_neg c68] at H
                            exact absurd H (by simp)
                          ·rw [if_neg c67] at H
                           exact absurd H (by simp)
                         ·as_aux_lemma =>
                          rw [if_neg c66] at H
                          have c66b0 : decide (0 ≤ x20_7) = false := decide_eq_false c66
                          clear c66
                          by_cases c70 : x19_7 = 0
                          ·as_aux_lemma =>
                           rw [if_pos c70] at H
                           have c70b0 : (x19_7 == 0) = true := beq_iff_eq.mpr c70
                           have c70b1 : (x19_7 != 0) = false := bne_eq_false_iff_eq.mpr c70
                           clear c70
                           by_cases c71 : x18_7 ≤ a0
                           ·rw [if_pos c71] at H
                            have c71b0 : decide (x18_7 ≤ a0) = true := decide_eq_true c71
                            clear c71
                            replace H := Option.bind_eq_some_iff.mp H
                            obtain ⟨t498, A720, H⟩ := H
                            replace H : (some t498) = some r := H
                            have A72 := Aside0.mk A720
                            clear A720
                            obtain rfl := Option.some.inj H
                            go_wp2_with (first | (go_at_call 16; (with_reducible refine (trishawlaw04_alive.calls k7  t498 _ A72.out).mono ?_); rintro e w73 ⟨rfl, hb⟩; have n0_ := Aside0.mk (below_step (by repeat (first | (with_reducible first | exact HB.out | apply below_alloc | apply pw_below_drewN | apply below_drew1) | exact HB.out)) hb); clear HB; have HB := n0_; clear n0_; (try clear hb); (try clear hb2); (try clear hk); (try clear hi)))
                            repeat (go_quiet (first | (go_at_call 16; (with_reducible refine (trishawlaw04_alive.calls k7  t498 _ A72.out).mono ?_); rintro e w73 ⟨rfl, hb⟩; have n0_ := Aside0.mk (below_step (by repeat (first | (with_reducible first | exact HB.out | apply below_alloc | apply pw_below_drewN | apply below_drew1) | exact HB.out)) hb); clear HB; have HB := n0_; clear n0_; (try clear hb); (try clear hb2); (try clear hk); (try clear hi))); try go_wp2_with (first | (go_at_call 16; (with_reducible refine (trishawlaw04_alive.calls k7  t498 _ A72.out).mono ?_); rintro e w73 ⟨rfl, hb⟩; have n0_ := Aside0.mk (below_step (by repeat (first | (with_reducible first | exact HB.out | apply below_alloc | apply pw_below_drewN | apply below_drew1) | exact HB.out)) hb); clear HB; have HB := n0_; clear n0_; (try clear hb); (try clear hb2); (try clear hk); (try clear hi))))
                            go_ret
                            exact ⟨by first | rfl | (simp [errW_none, errW_some] <;> rfl) | (simp only [← hji10]; first | rfl | (simp [errW_none, errW_some] <;> rfl)) | (simp [*, errW_none, errW_some] <;> rfl), by repeat (first | (with_reducible first | exact HB.out | apply below_alloc | apply pw_below_drewN | apply below_drew1) | exact HB.out)⟩
                           ·rw [if_neg c71] at H
                            exact absurd H (by simp)
                          ·rw [if_neg c70] at H
                           exact absurd H (by simp)
          ·as_aux_lemma =>
           rw [if_neg c29] at H
           have c29b0 : (t473 == 0) = false := beq_eq_false_iff_ne.mpr c29
           have c29b1 : (t473 != 0) = true := bne_iff_ne.mpr c29
           by_cases c74 : t473 = 10
           ·as_aux_lemma =>
            rw [if_pos c74] at H
            have c74b0 : (t473 == 10) = true := beq_iff_eq.mpr c74
            have c74b1 : (t473 != 10) = false := bne_eq_false_iff_eq.mpr c74
            clear c74
            obtain ⟨ji75, hji75⟩ : ∃ j_ : Int, (Int.tmod (wrap64 (a2)) (wrap64 ((wrap64 (a0 * (rd l1 (ji10)))) + 1))) = j_ := ⟨_, rfl⟩
            replace H : (if 0 ≤ (ji75) then (if (ji75) < (t476.length : Int) then (if (rd t476 (ji75)) = (-1) then (if (t472.length : Int) = 0 then ((trishawlaw04_alive.f kj16).bind fun t484 => (some t484)) else (none)) else (none)) else (none)) else (none)) = some r := by first | (rw [hji75] at H; exact H) | (simp only [hji75] at H ⊢; exact H)
            by_cases c76 : 0 ≤ (ji75)
            ·as_aux_lemma =>
             rw [if_pos c76] at H
             have c76b0 : decide (0 ≤ (ji75)) = true := decide_eq_true c76
             clear c76
             by_cases c77 : (ji75) < (t476.length : Int)
             ·as_aux_lemma =>
              rw [if_pos c77] at H
              have c77b0 : decide ((ji75) < (t476.length : Int)) = true := decide_eq_true c77
              clear c77
              by_cases c78 : (rd t476 (ji75)) = (-1)
              ·as_aux_lemma =>
               rw [if_pos c78] at H
               have c78b0 : ((rd t476 (ji75)) == (-1)) = true := beq_iff_eq.mpr c78
               have c78b1 : ((rd t476 (ji75)) != (-1)) = false := bne_eq_false_iff_eq.mpr c78
               clear c78
               by_cases c79 : (t472.length : Int) = 0
               ·as_aux_lemma =>
                rw [if_pos c79] at H
                have c79b0 : ((t472.length : Int) == 0) = true := beq_iff_eq.mpr c79
                have c79b1 : ((t472.length : Int) != 0) = false := bne_eq_false_iff_eq.mpr c79
                clear c79
                replace H := Option.bind_eq_some_iff.mp H
                obtain ⟨t484, A800, H⟩ := H
                replace H : (some t484) = some r := H
                have A80 := Aside0.mk A800
                clear A800
                obtain rfl := Option.some.inj H
                obtain ⟨Ao81, co81, eo81⟩ := Kd.R_slice HO_11.out
                subst eo81
                have p483 : 0 ≤ ((ji75) : Int) := of_decide_eq_true (by first | (with_reducible assumption) | assumption)
                have q483 : (ji75) < (t476.length : Int) := of_decide_eq_true (by first | (with_reducible assumption) | assumption)
                obtain ⟨ad483, e483, hx483_0⟩ := Kd.at_int (Kd.R_reads' HO_11.out).2.2 (ji75) p483 q483
                cases e483
                replace p483 := eq_true p483
                replace q483 := eq_true q483
                obtain ⟨Ao82, co82, eo82⟩ := Kd.R_slice HO_9.out
                subst eo82
                go_wp2_with (first | (go_at_call 16; (with_reducible refine (trishawlaw04_alive.calls kj16  t484 _ A80.out).mono ?_); rintro e w83 ⟨rfl, hb⟩; have n0_ := Aside0.mk (Kd.R_below (by (with_reducible repeat (first | apply Kd.R_alloc | apply Kd.R_drewN | apply Kd.R_drew)); exact HO_9.out) hb); have n1_ := Aside0.mk (Kd.R_below (by (with_reducible repeat (first | apply Kd.R_alloc | apply Kd.R_drewN | apply Kd.R_drew)); exact HO_11.out) hb); have n2_ := Aside0.mk (below_step (by repeat (first | (with_reducible first | exact HB.out | apply below_alloc | apply pw_below_drewN | apply below_drew1) | exact HB.out)) hb); clear HO_9; clear HO_11; clear HB; have HO_9 := n0_; have HO_11 := n1_; have HB := n2_; clear n0_ n1_ n2_; (try clear hb); (try clear hb2); (try clear hk); (try clear hi)))
                repeat (go_quiet (first | (go_at_call 16; (with_reducible refine (trishawlaw04_alive.calls kj16  t484 _ A80.out).mono ?_); rintro e w83 ⟨rfl, hb⟩; have n0_ := Aside0.mk (Kd.R_below (by (with_reducible repeat (first | apply Kd.R_alloc | apply Kd.R_drewN | apply Kd.R_drew)); exact HO_9.out) hb); have n1_ := Aside0.mk (Kd.R_below (by (with_reducible repeat (first | apply Kd.R_alloc | apply Kd.R_drewN | apply Kd.R_drew)); exact HO_11.out) hb); have n2_ := Aside0.mk (below_step (by repeat (first | (with_reducible first | exact HB.out | apply below_alloc | apply pw_below_drewN | apply below_drew1) | exact HB.out)) hb); clear HO_9; clear HO_11; clear HB; have HO_9 := n0_; have HO_11 := n1_; have HB := n2_; clear n0_ n1_ n2_; (try clear hb); (try clear hb2); (try clear hk); (try clear hi))); try go_wp2_with (first | (go_at_call 16; (with_reducible refine (trishawlaw04_alive.calls kj16  t484 _ A80.out).mono ?_); rintro e w83 ⟨rfl, hb⟩; have n0_ := Aside0.mk (Kd.R_below (by (with_reducible repeat (first | apply Kd.R_alloc | apply Kd.R_drewN | apply Kd.R_drew)); exact HO_9.out) hb); have n1_ := Aside0.mk (Kd.R_below (by (with_reducible repeat (first | apply Kd.R_alloc | apply Kd.R_drewN | apply Kd.R_drew)); exact HO_11.out) hb); have n2_ := Aside0.mk (below_step (by repeat (first | (with_reducible first | exact HB.out | apply below_alloc | apply pw_below_drewN | apply below_drew1) | exact HB.out)) hb); clear HO_9; clear HO_11; clear HB; have HO_9 := n0_; have HO_11 := n1_; have HB := n2_; clear n0_ n1_ n2_; (try clear hb); (try clear hb2); (try clear hk); (try clear hi))))
                go_ret
                exact ⟨by first | rfl | (simp [errW_none, errW_some] <;> rfl) | (simp only [← hji10, ← hji75]; first | rfl | (simp [errW_none, errW_some] <;> rfl)) | (simp [*, errW_none, errW_some] <;> rfl), by repeat (first | (with_reducible first | exact HB.out | apply below_alloc | apply pw_below_drewN | apply below_drew1) | exact HB.out)⟩
               ·rw [if_neg c79] at H
                exact absurd H (by simp)
              ·rw [if_neg c78] at H
               exact absurd H (by simp)
             ·rw [if_neg c77] at H
              exact absurd H (by simp)
            ·rw [if_neg c76] at H
             exact absurd H (by simp)
           ·rw [if_neg c74] at H
            exact absurd H (by simp)
     ·rw [if_neg c12] at H
      exact absurd H (by simp)
    ·rw [if_neg c11] at H
     exact absurd H (by simp)
def trishawlaw04_StampPaid.Pure : Prop := ∀ (a0 : Int) (l1 : List Int) (a2 : Int), (Lit.int .i64 a0).wf = true → l1.length ≤ maxLen → l1.length * 8 ≤ 140737488351232 → (∀ x ∈ l1, (Lit.int .i64 x).wf = true) → (Lit.int .u16 a2).wf = true → ∃ k, trishawlaw04_StampPaid.f k a0 l1 a2 = some true
theorem trishawlaw04_StampPaid.walk (P : trishawlaw04_StampPaid.Pure) (a0 : Int) (a1 : Option Addr) (len1 cap1 : Nat) (z1 : List Int) (a2 : Int) (w : World) (w0 : (Lit.int .i64 a0).wf = true) (w1 : (a1 = none ∧ len1 = 0 ∧ cap1 = 0 ∧ z1 = []) ∨ ∃ x, a1 = some x ∧ len1 ≤ cap1 ∧ cap1 ≤ maxLen ∧ z1.length = cap1 ∧ (∀ i, i < z1.length → w.cell? (x.add i) = some (.int .i64 (z1.getD i 0))) ∧ ∀ n ∈ z1, (Lit.int .i64 n).wf = true) (y1 : len1 * 8 ≤ 140737488351232) (w2 : (Lit.int .u16 a2).wf = true) :
  Calls Try.prog 13 #[.int .i64 a0, .slice a1 len1 cap1, .int .u16 a2] w fun e w' => e = .returned (.bool true) ∧ Below w.heap.size w w' := by
 obtain ⟨l1, rfl, hr1, hm1, hw1, hc1⟩ := ReadsInt.ofRowC w1
 obtain ⟨k, h⟩ := P a0 l1 a2 w0 hm1 y1 hw1 w2
 refine (trishawlaw04_StampPaid.calls k a0 _ _ l1 a2 true w (Kd.C_of_reads (d := (0 : Int)) (h1 := fun _ => rfl) hr1) hc1 h).mono ?_
 rintro e w' ⟨rfl, hd⟩
 exact ⟨rfl, hd⟩
end Go.Proofs.Ythbalcbibmdpnaa.OAll
