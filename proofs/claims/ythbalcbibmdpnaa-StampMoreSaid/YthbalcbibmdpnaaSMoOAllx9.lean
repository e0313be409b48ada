/- A part of the proof of 'stampMore_holds', for every input, without a condition. -/
import Derived.Test.YthbalcbibmdpnaaSMoOAllx0
import Derived.Test.YthbalcbibmdpnaaSMoOAllx2
import Derived.Test.YthbalcbibmdpnaaSMoOAllx3
import Derived.Test.YthbalcbibmdpnaaSMoOAllx6
import Derived.Test.YthbalcbibmdpnaaSMoOAllx8
namespace Go.Proofs.Ythbalcbibmdpnaa.OAll
open Go.RowKit Go.Proofs.YthbalcbibmdpnaaW.PrintWords Go.Proofs.YthbalcbibmdpnaaW.PrintLast Go.Proofs.YthbalcbibmdpnaaW.PrintMore
attribute [local go_sem] max2_int min2_int max_two min_two max_three min_three max_four min_four
set_option linter.unusedVariables false
set_option linter.unusedSimpArgs false
mutual
def trishawlaw04_StampMore.j0 : Nat → Int → List Int → Int → Bool → Option (Bool)
  | 0, _, _, _, _ => none
  | k + 1, x0, x1, x2, x30 => if x30 = true then ((trishawlaw04_alive.f k).bind fun t376 => (some t376)) else ((stamp_Range.f k x0 x1).bind fun bt377 => ((stamp_Fewest.f k x0 x1).bind fun bt379 => (if bt377.2 = 0 then (if bt379.2 = 0 then (if (x1.length : Int) > 1 then (if 1 < (x1.length : Int) then (if (rd x1 1) > (wrap64 (x0 + 1)) then (trishawlaw04_StampMore.j1 k x0 x1 x2 bt377.1 bt379.1 (decide (bt377.1 > x0))) else (trishawlaw04_StampMore.j1 k x0 x1 x2 bt377.1 bt379.1 false)) else (none)) else (trishawlaw04_StampMore.j1 k x0 x1 x2 bt377.1 bt379.1 false)) else (none)) else (none))))
def trishawlaw04_StampMore.j1 : Nat → Int → List Int → Int → Int → List Int → Bool → Option (Bool)
  | 0, _, _, _, _, _, _ => none
  | k + 1, x0, x1, x2, x7, x9, x67 => if x67 = true then (none) else (if (x1.length : Int) < 6 then ((trishawref04_In.f k x1 (wrap64 (1 + (Int.tmod (wrap64 (x2)) 200)))).bind fun t384 => (trishawlaw04_StampMore.j2 k x0 x1 x7 x9 (wrap64 (1 + (Int.tmod (wrap64 (x2)) 200))) (!t384))) else (trishawlaw04_StampMore.j2 k x0 x1 x7 x9 (wrap64 (1 + (Int.tmod (wrap64 (x2)) 200))) false))
def trishawlaw04_StampMore.j2 : Nat → Int → List Int → Int → List Int → Int → Bool → Option (Bool)
  | 0, _, _, _, _, _, _ => none
  | k + 1, x0, x1, x7, x9, x11, x80 => if x80 = true then ((trishawref04_With.f k x1 x11).bind fun t385 => ((stamp_Range.f k x0 t385).bind fun bt388 => ((trishawref04_With.f k x1 x11).bind fun t390 => ((stamp_Fewest.f k x0 t390).bind fun bt393 => (if bt388.2 = 0 then (if bt393.2 = 0 then (if bt388.1 < x7 then (none) else (trishawlaw04_StampMore.j3 k x0 x1 x7 x9 bt393.1 (decide ((bt393.1.length : Int) < (x9.length : Int))))) else (none)) else (none)))))) else (trishawlaw04_StampMore.j5 k x0 x1 x7 x9)
def trishawlaw04_StampMore.j5 : Nat → Int → List Int → Int → List Int → Option (Bool)
  | 0, _, _, _, _ => none
  | k + 1, x0, x1, x7, x9 => if x0 = 6 then ((trishawlaw04_alive.f k).bind fun t401 => (some t401)) else ((stamp_Range.f k (wrap64 (x0 + 1)) x1).bind fun bt402 => ((stamp_Fewest.f k (wrap64 (x0 + 1)) x1).bind fun bt404 => (if bt402.2 = 0 then (if bt404.2 = 0 then (if bt402.1 < x7 then (none) else (trishawlaw04_StampMore.j6 k x0 x9 bt404.1 (decide ((bt404.1.length : Int) < (x9.length : Int))))) else (none)) else (none))))
def trishawlaw04_StampMore.j6 : Nat → Int → List Int → List Int → Bool → Option (Bool)
  | 0, _, _, _, _ => none
  | k + 1, x0, x9, x19, x178 => if x178 = true then (none) else (trishawlaw04_StampMore.l1 k x0 x9 x19 0)
def trishawlaw04_StampMore.l1 : Nat → Int → List Int → List Int → Int → Option (Bool)
  | 0, _, _, _, _ => none
  | k + 1, x0, x9, x19, x21 => if x21 < (x9.length : Int) then (if 0 ≤ x21 then (if (rd x9 x21) ≥ 0 then (if x21 < (x19.length : Int) then (if (rd x19 x21) = (rd x9 x21) then (if (rd x9 x21) < 0 then (if (rd x19 x21) ≥ 0 then (if (rd x19 x21) = (wrap64 (x0 + 1)) then (trishawlaw04_StampMore.l1 k x0 x9 x19 (wrap64 (x21 + 1))) else (none)) else (trishawlaw04_StampMore.l1 k x0 x9 x19 (wrap64 (x21 + 1)))) else (trishawlaw04_StampMore.l1 k x0 x9 x19 (wrap64 (x21 + 1)))) else (none)) else (none)) else (if (rd x9 x21) < 0 then (if x21 < (x19.length : Int) then (if (rd x19 x21) ≥ 0 then (if (rd x19 x21) = (wrap64 (x0 + 1)) then (trishawlaw04_StampMore.l1 k x0 x9 x19 (wrap64 (x21 + 1))) else (none)) else (trishawlaw04_StampMore.l1 k x0 x9 x19 (wrap64 (x21 + 1)))) else (none)) else (trishawlaw04_StampMore.l1 k x0 x9 x19 (wrap64 (x21 + 1))))) else (none)) else ((trishawlaw04_alive.f k).bind fun t417 => (some t417))
def trishawlaw04_StampMore.j3 : Nat → Int → List Int → Int → List Int → List Int → Bool → Option (Bool)
  | 0, _, _, _, _, _, _ => none
  | k + 1, x0, x1, x7, x9, x14, x114 => if x114 = true then (none) else (trishawlaw04_StampMore.l0 k x0 x1 x7 x9 x14 0)
def trishawlaw04_StampMore.l0 : Nat → Int → List Int → Int → List Int → List Int → Int → Option (Bool)
  | 0, _, _, _, _, _, _ => none
  | k + 1, x0, x1, x7, x9, x14, x16 => if x16 < (x9.length : Int) then (if 0 ≤ x16 then (if (rd x9 x16) ≥ 0 then (if x16 < (x14.length : Int) then (if (rd x14 x16) < 0 then (none) else (if (rd x14 x16) > (rd x9 x16) then (none) else (trishawlaw04_StampMore.l0 k x0 x1 x7 x9 x14 (wrap64 (x16 + 1))))) else (none)) else (trishawlaw04_StampMore.l0 k x0 x1 x7 x9 x14 (wrap64 (x16 + 1)))) else (none)) else (trishawlaw04_StampMore.j5 k x0 x1 x7 x9)
end
def trishawlaw04_StampMore.f (k : Nat) (a0 : Int) (l1 : List Int) (a2 : Int) : Option (Bool) := if (l1.length : Int) > 30 then (trishawlaw04_StampMore.j0 k a0 l1 a2 true) else ((trishawref04_Ticket.f k a0 l1).bind fun t375 => (trishawlaw04_StampMore.j0 k a0 l1 a2 (t375 != 0)))
set_option maxHeartbeats 8000000 in
set_option maxRecDepth 100000 in
theorem trishawlaw04_StampMore.calls (k : Nat) (a0 : Int) (A1 : Option Addr) (c1 : Nat) (l1 : List Int) (a2 : Int) (r : Bool) (w : World) (hr1 : Kd.C (Kd.int .i64) w A1 l1.length l1) (hc1 : l1.length ≤ c1) (h : trishawlaw04_StampMore.f k a0 l1 a2 = some r) :
    Calls Try.prog 10 #[.int .i64 a0, .slice A1 l1.length c1, .int .u8 a2] w fun e w' => e = .returned (.bool r) ∧ Below w.heap.size w w' := by
  have HR1 := Aside0.mk hr1
  have HC1 := Aside0.mk hc1
  clear hr1 hc1
  have HB := Aside0.mk (Below.refl w.heap.size w)
  have H : (if (l1.length : Int) > 30 then (trishawlaw04_StampMore.j0 k a0 l1 a2 true) else ((trishawref04_Ticket.f k a0 l1).bind fun t375 => (trishawlaw04_StampMore.j0 k a0 l1 a2 (t375 != 0)))) = some r := h
  clear h
  have HC4 := Aside0.mk H
  clear H
  go_enter Try.func10, Try.ntmps10
  go_upto_region 1 with (fail)
  repeat (go_quiet (fail); go_upto_region 1 with (fail))
  go_cut [30] (fun v30 wc => ∃ (kq : Nat) (x30_3 : Bool), v30 = .bool x30_3 ∧ Aside0 (trishawlaw04_StampMore.j0 kq a0 l1 a2 x30_3 = some r) ∧ Aside0 (kq ≤ k) ∧ Aside0 (Below w.heap.size w wc))
  case first =>
    have H := HC4.out
    clear HC4
    by_cases c5 : (l1.length : Int) > 30
    · rw [if_pos c5] at H
      have c5b0 : decide (30 < (l1.length : Int)) = true := decide_eq_true c5
      have c5b1 : decide (30 < l1.length) = true := decide_eq_true (by omega)
      clear c5
      (first | rw [c5b0] | (simp only [i64_w, i32_w]; rw [c5b0]) | skip)
      have H' := Aside0.mk H
      clear H
      go_wp2
      repeat (go_quiet (fail); try go_wp2)
      go_meet
      case rel => exact ⟨_, (true), (by first | rfl | (simp; done) | (simp [*]; done)), H', ⟨by first | omega | exact Nat.le_refl _⟩, ⟨by repeat (first | (with_reducible first | exact HB.out | apply below_alloc | apply pw_below_drewN | apply below_drew1) | exact HB.out)⟩⟩
    · as_aux_lemma =>
      rw [if_neg c5] at H
      have c5b0 : decide (30 < (l1.length : Int)) = false := decide_eq_false c5
      have c5b1 : decide (30 < l1.length) = false := decide_eq_false (by omega)
      clear c5
      (first | rw [c5b0] | (simp only [i64_w, i32_w]; rw [c5b0]) | skip)
      replace H := Option.bind_eq_some_iff.mp H
      obtain ⟨t375, A60, H⟩ := H
      replace H : (trishawlaw04_StampMore.j0 k a0 l1 a2 (t375 != 0)) = some r := H
      have A6 := Aside0.mk A60
      clear A60
      have H' := Aside0.mk H
      clear H
      go_wp2_with (first | (go_at_call 24; (with_reducible refine (trishawref04_Ticket.calls k a0 _ _ l1 t375 _ ?side1 ?side2 A6.out).mono ?_); (case side1 => repeat (first | exact (Kd.C_below HR1.out HB.out) | (with_reducible refine Kd.C_alloc ?_ _) | (with_reducible refine Kd.C_drewN ?_ _) | (with_reducible refine Kd.C_drew ?_))); (case side2 => exact HC1.out); rintro e w' ⟨rfl, ⟨nd, rfl⟩⟩; (try first | exact ⟨rfl, _, World.drewN_drewN _ _ _⟩ | exact ⟨rfl, _, Eq.trans (World.drewN_drewN _ _ _) (congrArg (World.drewN _) (Nat.add_assoc _ _ _))⟩)))
      repeat (go_quiet (first | (go_at_call 24; (with_reducible refine (trishawref04_Ticket.calls k a0 _ _ l1 t375 _ ?side1 ?side2 A6.out).mono ?_); (case side1 => repeat (first | exact (Kd.C_below HR1.out HB.out) | (with_reducible refine Kd.C_alloc ?_ _) | (with_reducible refine Kd.C_drewN ?_ _) | (with_reducible refine Kd.C_drew ?_))); (case side2 => exact HC1.out); rintro e w' ⟨rfl, ⟨nd, rfl⟩⟩; (try first | exact ⟨rfl, _, World.drewN_drewN _ _ _⟩ | exact ⟨rfl, _, Eq.trans (World.drewN_drewN _ _ _) (congrArg (World.drewN _) (Nat.add_assoc _ _ _))⟩))); try go_wp2_with (first | (go_at_call 24; (with_reducible refine (trishawref04_Ticket.calls k a0 _ _ l1 t375 _ ?side1 ?side2 A6.out).mono ?_); (case side1 => repeat (first | exact (Kd.C_below HR1.out HB.out) | (with_reducible refine Kd.C_alloc ?_ _) | (with_reducible refine Kd.C_drewN ?_ _) | (with_reducible refine Kd.C_drew ?_))); (case side2 => exact HC1.out); rintro e w' ⟨rfl, ⟨nd, rfl⟩⟩; (try first | exact ⟨rfl, _, World.drewN_drewN _ _ _⟩ | exact ⟨rfl, _, Eq.trans (World.drewN_drewN _ _ _) (congrArg (World.drewN _) (Nat.add_assoc _ _ _))⟩))))
      go_meet
      case rel => exact ⟨_, ((t375 != 0)), (by first | rfl | (simp; done) | (simp [*]; done)), H', ⟨by first | omega | exact Nat.le_refl _⟩, ⟨by repeat (first | (with_reducible first | exact HB.out | apply below_alloc | apply pw_below_drewN | apply below_drew1) | exact HB.out)⟩⟩
  case rest =>
    clear HC4
    try clear c1
    try clear p2
    try clear c5
    try clear c5b0
    try clear c5b1
    obtain ⟨kq, x30_3, rfl, HA, HJ3, HB⟩ := hcut
    cases kq with
    | zero => exact absurd HA.out (by simp [trishawlaw04_StampMore.j0])
    | succ kj3 =>
      have H := HA.out
      clear HA
      simp only [trishawlaw04_StampMore.j0] at H
      by_cases c7 : x30_3 = true
      · subst c7
        have H1 : ((trishawlaw04_alive.f kj3).bind fun t376 => (some t376)) = some r := by rw [if_pos rfl] at H; exact H
        clear H
        have H := H1
        clear H1
        replace H := Option.bind_eq_some_iff.mp H
        obtain ⟨t376, A80, H⟩ := H
        replace H : (some t376) = some r := H
        have A8 := Aside0.mk A80
        clear A80
        obtain rfl := Option.some.inj H
        go_wp2_with (first | (go_at_call 16; (with_reducible refine (trishawlaw04_alive.calls kj3  t376 _ A8.out).mono ?_); rintro e w9 ⟨rfl, hb⟩; have n0_ := Aside0.mk (below_step (by repeat (first | (with_reducible first | exact HB.out | apply below_alloc | apply pw_below_drewN | apply below_drew1) | exact HB.out)) hb); clear HB; have HB := n0_; clear n0_; (try clear hb); (try clear hb2); (try clear hk); (try clear hi)))
        repeat (go_quiet (first | (go_at_call 16; (with_reducible refine (trishawlaw04_alive.calls kj3  t376 _ A8.out).mono ?_); rintro e w9 ⟨rfl, hb⟩; have n0_ := Aside0.mk (below_step (by repeat (first | (with_reducible first | exact HB.out | apply below_alloc | apply pw_below_drewN | apply below_drew1) | exact HB.out)) hb); clear HB; have HB := n0_; clear n0_; (try clear hb); (try clear hb2); (try clear hk); (try clear hi))); try go_wp2_with (first | (go_at_call 16; (with_reducible refine (trishawlaw04_alive.calls kj3  t376 _ A8.out).mono ?_); rintro e w9 ⟨rfl, hb⟩; have n0_ := Aside0.mk (below_step (by repeat (first | (with_reducible first | exact HB.out | apply below_alloc | apply pw_below_drewN | apply below_drew1) | exact HB.out)) hb); clear HB; have HB := n0_; clear n0_; (try clear hb); (try clear hb2); (try clear hk); (try clear hi))))
        go_ret
        exact ⟨by first | rfl | (simp [errW_none, errW_some] <;> rfl) | (simp [*, errW_none, errW_some] <;> rfl), by repeat (first | (with_reducible first | exact HB.out | apply below_alloc | apply pw_below_drewN | apply below_drew1) | exact HB.out)⟩
      · replace c7 := Bool.eq_false_iff.mpr c7
        subst c7
        have H1 : ((stamp_Range.f kj3 a0 l1).bind fun bt377 => ((stamp_Fewest.f kj3 a0 l1).bind fun bt379 => (if bt377.2 = 0 then (if bt379.2 = 0 then (if (l1.length : Int) > 1 then (if 1 < (l1.length : Int) then (if (rd l1 1) > (wrap64 (a0 + 1)) then (trishawlaw04_StampMore.j1 kj3 a0 l1 a2 bt377.1 bt379.1 (decide (bt377.1 > a0))) else (trishawlaw04_StampMore.j1 kj3 a0 l1 a2 bt377.1 bt379.1 false)) else (none)) else (trishawlaw04_StampMore.j1 kj3 a0 l1 a2 bt377.1 bt379.1 false)) else (none)) else (none)))) = some r := by rw [if_neg (show ¬ (false = true) by decide)] at H; exact H
        clear H
        have H := H1
        clear H1
        replace H := Option.bind_eq_some_iff.mp H
        obtain ⟨⟨t377, t378⟩, A100, H⟩ := H
        replace H : ((stamp_Fewest.f kj3 a0 l1).bind fun bt379 => (if t378 = 0 then (if bt379.2 = 0 then (if (l1.length : Int) > 1 then (if 1 < (l1.length : Int) then (if (rd l1 1) > (wrap64 (a0 + 1)) then (trishawlaw04_StampMore.j1 kj3 a0 l1 a2 t377 bt379.1 (decide (t377 > a0))) else (trishawlaw04_StampMore.j1 kj3 a0 l1 a2 t377 bt379.1 false)) else (none)) else (trishawlaw04_StampMore.j1 kj3 a0 l1 a2 t377 bt379.1 false)) else (none)) else (none))) = some r := H
        have A10 := Aside0.mk A100
        clear A100
        replace H := Option.bind_eq_some_iff.mp H
        obtain ⟨⟨t379, t380⟩, A110, H⟩ := H
        replace H : (if t378 = 0 then (if t380 = 0 then (if (l1.length : Int) > 1 then (if 1 < (l1.length : Int) then (if (rd l1 1) > (wrap64 (a0 + 1)) then (trishawlaw04_StampMore.j1 kj3 a0 l1 a2 t377 t379 (decide (t377 > a0))) else (trishawlaw04_StampMore.j1 kj3 a0 l1 a2 t377 t379 false)) else (none)) else (trishawlaw04_StampMore.j1 kj3 a0 l1 a2 t377 t379 false)) else (none)) else (none)) = some r := H
        have A11 := Aside0.mk A110
        clear A110
        have HC12 := Aside0.mk H
        clear H
        go_upto_region 5 with (first | (go_at_call 26; (with_reducible refine (stamp_Range.calls kj3 a0 _ _ l1 t377 t378 _ ?side1 ?side2 A10.out).mono ?_); (case side1 => repeat (first | exact (Kd.C_below HR1.out HB.out) | (with_reducible refine Kd.C_alloc ?_ _) | (with_reducible refine Kd.C_drewN ?_ _) | (with_reducible refine Kd.C_drew ?_))); (case side2 => exact HC1.out); rintro e w13 ⟨rfl, hb⟩; have n0_ := Aside0.mk (below_step (by repeat (first | (with_reducible first | exact HB.out | apply below_alloc | apply pw_below_drewN | apply below_drew1) | exact HB.out)) hb); clear HB; have HB := n0_; clear n0_; (try clear hb); (try clear hb2); (try clear hk); (try clear hi)) | (go_at_call 28; (with_reducible refine (stamp_Fewest.calls kj3 a0 _ _ l1 t379 t380 _ ?side1 ?side2 A11.out).mono ?_); (case side1 => repeat (first | exact (Kd.C_below HR1.out HB.out) | (with_reducible refine Kd.C_alloc ?_ _) | (with_reducible refine Kd.C_drewN ?_ _) | (with_reducible refine Kd.C_drew ?_))); (case side2 => exact HC1.out); rintro e w14 ⟨v381, rfl, ho0, hb⟩; have n0_ := Aside0.mk (Kd.R_lower ho0 (below_size (by repeat (first | (with_reducible first | exact HB.out | apply below_alloc | apply pw_below_drewN | apply below_drew1) | exact HB.out)))); have n1_ := Aside0.mk (below_step (by repeat (first | (with_reducible first | exact HB.out | apply below_alloc | apply pw_below_drewN | apply below_drew1) | exact HB.out)) hb); clear HB; have HO382 := n0_; have HB := n1_; clear n0_ n1_; (try clear hb); (try clear hb2); (try clear hk); (try clear hi); (try clear ho0)))
        repeat (go_quiet (first | (go_at_call 26; (with_reducible refine (stamp_Range.calls kj3 a0 _ _ l1 t377 t378 _ ?side1 ?side2 A10.out).mono ?_); (case side1 => repeat (first | exact (Kd.C_below HR1.out HB.out) | (with_reducible refine Kd.C_alloc ?_ _) | (with_reducible refine Kd.C_drewN ?_ _) | (with_reducible refine Kd.C_drew ?_))); (case side2 => exact HC1.out); rintro e w13 ⟨rfl, hb⟩; have n0_ := Aside0.mk (below_step (by repeat (first | (with_reducible first | exact HB.out | apply below_alloc | apply pw_below_drewN | apply below_drew1) | exact HB.out)) hb); clear HB; have HB := n0_; clear n0_; (try clear hb); (try clear hb2); (try clear hk); (try clear hi)) | (go_at_call 28; (with_reducible refine (stamp_Fewest.calls kj3 a0 _ _ l1 t379 t380 _ ?side1 ?side2 A11.out).mono ?_); (case side1 => repeat (first | exact (Kd.C_below HR1.out HB.out) | (with_reducible refine Kd.C_alloc ?_ _) | (with_reducible refine Kd.C_drewN ?_ _) | (with_reducible refine Kd.C_drew ?_))); (case side2 => exact HC1.out); rintro e w14 ⟨v381, rfl, ho0, hb⟩; have n0_ := Aside0.mk (Kd.R_lower ho0 (below_size (by repeat (first | (with_reducible first | exact HB.out | apply below_alloc | apply pw_below_drewN | apply below_drew1) | exact HB.out)))); have n1_ := Aside0.mk (below_step (by repeat (first | (with_reducible first | exact HB.out | apply below_alloc | apply pw_below_drewN | apply below_drew1) | exact HB.out)) hb); clear HB; have HO382 := n0_; have HB := n1_; clear n0_ n1_; (try clear hb); (try clear hb2); (try clear hk); (try clear hi); (try clear ho0))); go_upto_region 5 with (first | (go_at_call 26; (with_reducible refine (stamp_Range.calls kj3 a0 _ _ l1 t377 t378 _ ?side1 ?side2 A10.out).mono ?_); (case side1 => repeat (first | exact (Kd.C_below HR1.out HB.out) | (with_reducible refine Kd.C_alloc ?_ _) | (with_reducible refine Kd.C_drewN ?_ _) | (with_reducible refine Kd.C_drew ?_))); (case side2 => exact HC1.out); rintro e w13 ⟨rfl, hb⟩; have n0_ := Aside0.mk (below_step (by repeat (first | (with_reducible first | exact HB.out | apply below_alloc | apply pw_below_drewN | apply below_drew1) | exact HB.out)) hb); clear HB; have HB := n0_; clear n0_; (try clear hb); (try clear hb2); (try clear hk); (try clear hi)) | (go_at_call 28; (with_reducible refine (stamp_Fewest.calls kj3 a0 _ _ l1 t379 t380 _ ?side1 ?side2 A11.out).mono ?_); (case side1 => repeat (first | exact (Kd.C_below HR1.out HB.out) | (with_reducible refine Kd.C_alloc ?_ _) | (with_reducible refine Kd.C_drewN ?_ _) | (with_reducible refine Kd.C_drew ?_))); (case side2 => exact HC1.out); rintro e w14 ⟨v381, rfl, ho0, hb⟩; have n0_ := Aside0.mk (Kd.R_lower ho0 (below_size (by repeat (first | (with_reducible first | exact HB.out | apply below_alloc | apply pw_below_drewN | apply below_drew1) | exact HB.out)))); have n1_ := Aside0.mk (below_step (by repeat (first | (with_reducible first | exact HB.out | apply below_alloc | apply pw_below_drewN | apply below_drew1) | exact HB.out)) hb); clear HB; have HO382 := n0_; have HB := n1_; clear n0_ n1_; (try clear hb); (try clear hb2); (try clear hk); (try clear hi); (try clear ho0))))
        (try simp only [Act.put, List.setIfInBounds_toArray, List.set_cons_zero, List.set_cons_succ])
        go_cut [67] (fun v67 wc => ∃ (kq : Nat) (x67_11 : Bool), v67 = .bool x67_11 ∧ Aside0 (trishawlaw04_StampMore.j1 kq a0 l1 a2 t377 t379 x67_11 = some r) ∧ Aside0 (kq ≤ kj3) ∧ Aside0 (Kd.R (Kd.int .i64) 3 wc w.heap.size (fun _ => True) v381 t379) ∧ Aside0 (Below w.heap.size w wc))
        case first =>
          have H := HC12.out
          clear HC12
          by_cases c15 : t378 = 0
          · as_aux_lemma =>
            rw [if_pos c15] at H
            have c15b0 : (t378 == 0) = true := beq_iff_eq.mpr c15
            have c15b1 : (t378 != 0) = false := bne_eq_false_iff_eq.mpr c15
            clear c15
            (first | rw [c15b0] | (simp only [i64_w, i32_w]; rw [c15b0]) | skip)
            by_cases c16 : t380 = 0
            · as_aux_lemma =>
              rw [if_pos c16] at H
              have c16b0 : (t380 == 0) = true := beq_iff_eq.mpr c16
              have c16b1 : (t380 != 0) = false := bne_eq_false_iff_eq.mpr c16
              clear c16
              by_cases c17 : (l1.length : Int) > 1
              · as_aux_lemma =>
                rw [if_pos c17] at H
                have c17b0 : decide (1 < (l1.length : Int)) = true := decide_eq_true c17
                have c17b1 : decide (1 < l1.length) = true := decide_eq_true (by omega)
                clear c17
                by_cases c18 : 1 < (l1.length : Int)
                · as_aux_lemma =>
                  rw [if_pos c18] at H
                  have c18b0 : decide (1 < (l1.length : Int)) = true := decide_eq_true c18
                  have c18b1 : decide (1 < l1.length) = true := decide_eq_true (by omega)
                  clear c18
                  by_cases c19 : (rd l1 1) > (wrap64 (a0 + 1))
                  · as_aux_lemma =>
                    rw [if_pos c19] at H
                    have c19b0 : decide ((wrap64 (a0 + 1)) < (rd l1 1)) = true := decide_eq_true c19
                    clear c19
                    have H' := Aside0.mk H
                    clear H
                    have p383 : 0 ≤ (1 : Int) := (by omega)
                    have q383 : 1 < (l1.length : Int) := of_decide_eq_true (by first | (with_reducible assumption) | assumption)
                    obtain ⟨ad383, e383, hx383_0⟩ := Kd.at_int HR1.out 1 p383 q383
                    cases e383
                    (try simp only [show (1 : Int).toNat = 1 from rfl, Nat.reduceMul, Nat.reduceEqDiff, Go.Addr.add, ↓reduceIte] at hx383_0)
                    have qi383 : (1 < l1.length) = True := eq_true (by omega)
                    (try rw [show ((1 : Int)).toNat = 1 from rfl] at hx383_0)
                    replace hx383_0 := (HB.out.cell (World.block_lt_of_cell? w _ hx383_0)).trans hx383_0
                    replace p383 := eq_true p383
                    replace q383 := eq_true q383
                    go_wp2
                    repeat (go_quiet (fail); try go_wp2)
                    go_meet
                    case rel => exact ⟨_, (decide (t377 > a0)), (by first | rfl | (simp; done) | (simp [*]; done)), H', ⟨by have := HJ3.out; first | omega | exact Nat.le_refl _⟩, ⟨by (with_reducible repeat (first | apply Kd.R_alloc | apply Kd.R_drewN | apply Kd.R_drew)); exact HO382.out⟩, ⟨by repeat (first | (with_reducible first | exact HB.out | apply below_alloc | apply pw_below_drewN | apply below_drew1) | exact HB.out)⟩⟩
                  · as_aux_lemma =>
                    rw [if_neg c19] at H
                    have c19b0 : decide ((wrap64 (a0 + 1)) < (rd l1 1)) = false := decide_eq_false c19
                    clear c19
                    have H' := Aside0.mk H
                    clear H
                    have p383 : 0 ≤ (1 : Int) := (by omega)
                    have q383 : 1 < (l1.length : Int) := of_decide_eq_true (by first | (with_reducible assumption) | assumption)
                    obtain ⟨ad383, e383, hx383_0⟩ := Kd.at_int HR1.out 1 p383 q383
                    cases e383
                    (try simp only [show (1 : Int).toNat = 1 from rfl, Nat.reduceMul, Nat.reduceEqDiff, Go.Addr.add, ↓reduceIte] at hx383_0)
                    have qi383 : (1 < l1.length) = True := eq_true (by omega)
                    (try rw [show ((1 : Int)).toNat = 1 from rfl] at hx383_0)
                    replace hx383_0 := (HB.out.cell (World.block_lt_of_cell? w _ hx383_0)).trans hx383_0
                    replace p383 := eq_true p383
                    replace q383 := eq_true q383
                    go_wp2
                    repeat (go_quiet (fail); try go_wp2)
                    go_meet
                    case rel => exact ⟨_, (false), (by first | rfl | (simp; done) | (simp [*]; done)), H', ⟨by have := HJ3.out; first | omega | exact Nat.le_refl _⟩, ⟨by (with_reducible repeat (first | apply Kd.R_alloc | apply Kd.R_drewN | apply Kd.R_drew)); exact HO382.out⟩, ⟨by repeat (first | (with_reducible first | exact HB.out | apply below_alloc | apply pw_below_drewN | apply below_drew1) | exact HB.out)⟩⟩
                · rw [if_neg c18] at H
                  exact absurd H (by simp)
              · rw [if_neg c17] at H
                have c17b0 : decide (1 < (l1.length : Int)) = false := decide_eq_false c17
                have c17b1 : decide (1 < l1.length) = false := decide_eq_false (by omega)
                clear c17
                have H' := Aside0.mk H
                clear H
                go_wp2
                repeat (go_quiet (fail); try go_wp2)
                go_meet
                case rel => exact ⟨_, (false), (by first | rfl | (simp; done) | (simp [*]; done)), H', ⟨by have := HJ3.out; first | omega | exact Nat.le_refl _⟩, ⟨by (with_reducible repeat (first | apply Kd.R_alloc | apply Kd.R_drewN | apply Kd.R_drew)); exact HO382.out⟩, ⟨by repeat (first | (with_reducible first | exact HB.out | apply below_alloc | apply pw_below_drewN | apply below_drew1) | exact HB.out)⟩⟩
            · rw [if_neg c16] at H
              exact absurd H (by simp)
          · rw [if_neg c15] at H
            exact absurd H (by simp)
        case rest =>
          clear HC12
          try clear c1
          try clear p2
          try clear p3
          try clear q3
          try clear hx3
          try clear qi3
          try clear c5
          try clear c5b0
          try clear c5b1
          try clear p6
          try clear c7
          try clear c10
          try clear c15
          try clear c15b0
          try clear c15b1
          try clear c16
          try clear c16b0
          try clear c16b1
          try clear c17
          try clear c17b0
          try clear c17b1
          try clear c18
          try clear c18b0
          try clear c18b1
          try clear c19
          try clear c19b0
          try clear hx383_0
          try clear p2
          try clear p383
          try clear q383
          obtain ⟨kq, x67_11, rfl, HA, HJ11, HO_9, HB⟩ := hcut
          cases kq with
          | zero => exact absurd HA.out (by simp [trishawlaw04_StampMore.j1])
          | succ kj11 =>
            have H := HA.out
            clear HA
            simp only [trishawlaw04_StampMore.j1] at H
            by_cases c20 : x67_11 = true
            · subst c20
              have H1 : (none) = some r := by rw [if_pos rfl] at H; exact H
              clear H
              have H := H1
              clear H1
              exact absurd H (by simp)
            · replace c20 := Bool.eq_false_iff.mpr c20
              subst c20
              have H1 : (if (l1.length : Int) < 6 then ((trishawref04_In.f kj11 l1 (wrap64 (1 + (Int.tmod (wrap64 (a2)) 200)))).bind fun t384 => (trishawlaw04_StampMore.j2 kj11 a0 l1 t377 t379 (wrap64 (1 + (Int.tmod (wrap64 (a2)) 200))) (!t384))) else (trishawlaw04_StampMore.j2 kj11 a0 l1 t377 t379 (wrap64 (1 + (Int.tmod (wrap64 (a2)) 200))) false)) = some r := by rw [if_neg (show ¬ (false = true) by decide)] at H; exact H
              clear H
              have H := H1
              clear H1
              have HC21 := Aside0.mk H
              clear H
              go_upto_region 8 with (fail)
              repeat (go_quiet (fail); go_upto_region 8 with (fail))
              go_cut [80] (fun v80 wc => ∃ (kq : Nat) (x80_20 : Bool), v80 = .bool x80_20 ∧ Aside0 (trishawlaw04_StampMore.j2 kq a0 l1 t377 t379 (wrap64 (1 + (Int.tmod (wrap64 (a2)) 200))) x80_20 = some r) ∧ Aside0 (kq ≤ kj11) ∧ Aside0 (Kd.R (Kd.int .i64) 3 wc w.heap.size (fun _ => True) v381 t379) ∧ Aside0 (Below w.heap.size w wc))
              case first =>
                have H := HC21.out
                clear HC21
                by_cases c22 : (l1.length : Int) < 6
                · as_aux_lemma =>
                  rw [if_pos c22] at H
                  have c22b0 : decide ((l1.length : Int) < 6) = true := decide_eq_true c22
                  have c22b1 : decide (l1.length < 6) = true := decide_eq_true (by omega)
                  clear c22
                  (first | rw [c22b0] | (simp only [i64_w, i32_w]; rw [c22b0]) | skip)
                  replace H := Option.bind_eq_some_iff.mp H
                  obtain ⟨t384, A230, H⟩ := H
                  replace H : (trishawlaw04_StampMore.j2 kj11 a0 l1 t377 t379 (wrap64 (1 + (Int.tmod (wrap64 (a2)) 200))) (!t384)) = some r := H
                  have A23 := Aside0.mk A230
                  clear A230
                  have H' := Aside0.mk H
                  clear H
                  go_wp2_with (first | (go_at_call 31; (with_reducible refine (trishawref04_In.calls kj11 _ _ l1 (wrap64 (1 + (Int.tmod (wrap64 (a2)) 200))) t384 _ ?side1 ?side2 A23.out).mono ?_); (case side1 => repeat (first | exact (Kd.C_below HR1.out HB.out) | (with_reducible refine Kd.C_alloc ?_ _) | (with_reducible refine Kd.C_drewN ?_ _) | (with_reducible refine Kd.C_drew ?_))); (case side2 => exact HC1.out); rintro e w' ⟨rfl, ⟨nd, rfl⟩⟩; (try first | exact ⟨rfl, _, World.drewN_drewN _ _ _⟩ | exact ⟨rfl, _, Eq.trans (World.drewN_drewN _ _ _) (congrArg (World.drewN _) (Nat.add_assoc _ _ _))⟩)))
                  repeat (go_quiet (first | (go_at_call 31; (with_reducible refine (trishawref04_In.calls kj11 _ _ l1 (wrap64 (1 + (Int.tmod (wrap64 (a2)) 200))) t384 _ ?side1 ?side2 A23.out).mono ?_); (case side1 => repeat (first | exact (Kd.C_below HR1.out HB.out) | (with_reducible refine Kd.C_alloc ?_ _) | (with_reducible refine Kd.C_drewN ?_ _) | (with_reducible refine Kd.C_drew ?_))); (case side2 => exact HC1.out); rintro e w' ⟨rfl, ⟨nd, rfl⟩⟩; (try first | exact ⟨rfl, _, World.drewN_drewN _ _ _⟩ | exact ⟨rfl, _, Eq.trans (World.drewN_drewN _ _ _) (congrArg (World.drewN _) (Nat.add_assoc _ _ _))⟩))); try go_wp2_with (first | (go_at_call 31; (with_reducible refine (trishawref04_In.calls kj11 _ _ l1 (wrap64 (1 + (Int.tmod (wrap64 (a2)) 200))) t384 _ ?side1 ?side2 A23.out).mono ?_); (case side1 => repeat (first | exact (Kd.C_below HR1.out HB.out) | (with_reducible refine Kd.C_alloc ?_ _) | (with_reducible refine Kd.C_drewN ?_ _) | (with_reducible refine Kd.C_drew ?_))); (case side2 => exact HC1.out); rintro e w' ⟨rfl, ⟨nd, rfl⟩⟩; (try first | exact ⟨rfl, _, World.drewN_drewN _ _ _⟩ | exact ⟨rfl, _, Eq.trans (World.drewN_drewN _ _ _) (congrArg (World.drewN _) (Nat.add_assoc _ _ _))⟩))))
                  go_meet
                  case rel => exact ⟨_, (!t384), (by first | rfl | (simp; done) | (simp [*]; done)), H', ⟨by have := HJ3.out; have := HJ11.out; first | omega | exact Nat.le_refl _⟩, ⟨by (with_reducible repeat (first | apply Kd.R_alloc | apply Kd.R_drewN | apply Kd.R_drew)); exact HO_9.out⟩, ⟨by repeat (first | (with_reducible first | exact HB.out | apply below_alloc | apply pw_below_drewN | apply below_drew1) | exact HB.out)⟩⟩
                · rw [if_neg c22] at H
                  have c22b0 : decide ((l1.length : Int) < 6) = false := decide_eq_false c22
                  have c22b1 : decide (l1.length < 6) = false := decide_eq_false (by omega)
                  clear c22
                  (first | rw [c22b0] | (simp only [i64_w, i32_w]; rw [c22b0]) | skip)
                  have H' := Aside0.mk H
                  clear H
                  go_wp2
                  repeat (go_quiet (fail); try go_wp2)
                  go_meet
                  case rel => exact ⟨_, (false), (by first | rfl | (simp; done) | (simp [*]; done)), H', ⟨by have := HJ3.out; have := HJ11.out; first | omega | exact Nat.le_refl _⟩, ⟨by (with_reducible repeat (first | apply Kd.R_alloc | apply Kd.R_drewN | apply Kd.R_drew)); exact HO_9.out⟩, ⟨by repeat (first | (with_reducible first | exact HB.out | apply below_alloc | apply pw_below_drewN | apply below_drew1) | exact HB.out)⟩⟩
              case rest =>
                clear HC21
                try clear c1
                try clear c2
                try clear p2
                try clear p3
                try clear q3
                try clear hx3
                try clear qi3
                try clear c5
                try clear c5b0
                try clear c5b1
                try clear p6
                try clear c7
                try clear c10
                try clear c15
                try clear c15b0
                try clear c15b1
                try clear c16
                try clear c16b0
                try clear c16b1
                try clear c17
                try clear c17b0
                try clear c17b1
                try clear c18
                try clear c18b0
                try clear c18b1
                try clear c19
                try clear c19b0
                try clear c20
                try clear c22
                try clear c22b0
                try clear c22b1
                try clear hx383_0
                try clear p2
                try clear p3
                try clear p383
                try clear p6
                try clear q3
                try clear q383
                obtain ⟨kq, x80_20, rfl, HA, HJ20, HO_9, HB⟩ := hcut
                cases kq with
                | zero => exact absurd HA.out (by simp [trishawlaw04_StampMore.j2])
                | succ kj20 =>
                  have H := HA.out
                  clear HA
                  simp only [trishawlaw04_StampMore.j2] at H
                  have HC24 := Aside0.mk H
                  clear H
                  go_upto_if 80 with (fail)
                  repeat (go_quiet (fail); go_upto_if 80 with (fail))
                  go_cut [] (fun wc => ∃ (kq : Nat), Aside0 (trishawlaw04_StampMore.j5 kq a0 l1 t377 t379 = some r) ∧ Aside0 (kq ≤ kj20) ∧ Aside0 (Kd.R (Kd.int .i64) 3 wc w.heap.size (fun _ => True) v381 t379) ∧ Aside0 (Below w.heap.size w wc))
                  case first =>
                    have H := HC24.out
                    clear HC24
                    by_cases c25 : x80_20 = true
                    · subst c25
                      have H1 : ((trishawref04_With.f kj20 l1 (wrap64 (1 + (Int.tmod (wrap64 (a2)) 200)))).bind fun t385 => ((stamp_Range.f kj20 a0 t385).bind fun bt388 => ((trishawref04_With.f kj20 l1 (wrap64 (1 + (Int.tmod (wrap64 (a2)) 200)))).bind fun t390 => ((stamp_Fewest.f kj20 a0 t390).bind fun bt393 => (if bt388.2 = 0 then (if bt393.2 = 0 then (if bt388.1 < t377 then (none) else (trishawlaw04_StampMore.j3 kj20 a0 l1 t377 t379 bt393.1 (decide ((bt393.1.length : Int) < (t379.length : Int))))) else (none)) else (none)))))) = some r := by rw [if_pos rfl] at H; exact H
                      clear H
                      have H := H1
                      clear H1
                      replace H := Option.bind_eq_some_iff.mp H
                      obtain ⟨t385, A260, H⟩ := H
                      replace H : ((stamp_Range.f kj20 a0 t385).bind fun bt388 => ((trishawref04_With.f kj20 l1 (wrap64 (1 + (Int.tmod (wrap64 (a2)) 200)))).bind fun t390 => ((stamp_Fewest.f kj20 a0 t390).bind fun bt393 => (if bt388.2 = 0 then (if bt393.2 = 0 then (if bt388.1 < t377 then (none) else (trishawlaw04_StampMore.j3 kj20 a0 l1 t377 t379 bt393.1 (decide ((bt393.1.length : Int) < (t379.length : Int))))) else (none)) else (none))))) = some r := H
                      have A26 := Aside0.mk A260
                      clear A260
                      replace H := Option.bind_eq_some_iff.mp H
                      obtain ⟨⟨t388, t389⟩, A270, H⟩ := H
                      replace H : ((trishawref04_With.f kj20 l1 (wrap64 (1 + (Int.tmod (wrap64 (a2)) 200)))).bind fun t390 => ((stamp_Fewest.f kj20 a0 t390).bind fun bt393 => (if t389 = 0 then (if bt393.2 = 0 then (if t388 < t377 then (none) else (trishawlaw04_StampMore.j3 kj20 a0 l1 t377 t379 bt393.1 (decide ((bt393.1.length : Int) < (t379.length : Int))))) else (none)) else (none)))) = some r := H
                      have A27 := Aside0.mk A270
                      clear A270
                      replace H := Option.bind_eq_some_iff.mp H
                      obtain ⟨t390, A280, H⟩ := H
                      replace H : ((stamp_Fewest.f kj20 a0 t390).bind fun bt393 => (if t389 = 0 then (if bt393.2 = 0 then (if t388 < t377 then (none) else (trishawlaw04_StampMore.j3 kj20 a0 l1 t377 t379 bt393.1 (decide ((bt393.1.length : Int) < (t379.length : Int))))) else (none)) else (none))) = some r := H
                      have A28 := Aside0.mk A280
                      clear A280
                      replace H := Option.bind_eq_some_iff.mp H
                      obtain ⟨⟨t393, t394⟩, A290, H⟩ := H
                      replace H : (if t389 = 0 then (if t394 = 0 then (if t388 < t377 then (none) else (trishawlaw04_StampMore.j3 kj20 a0 l1 t377 t379 t393 (decide ((t393.length : Int) < (t379.length : Int))))) else (none)) else (none)) = some r := H
                      have A29 := Aside0.mk A290
                      clear A290
                      have HC30 := Aside0.mk H
                      clear H
                      go_upto_region 11 with (first | (go_at_call 32; (with_reducible refine (trishawref04_With.calls kj20 _ _ l1 (wrap64 (1 + (Int.tmod (wrap64 (a2)) 200))) t385 _ ?side1 ?side2 A26.out).mono ?_); (case side1 => repeat (first | exact (Kd.C_below HR1.out HB.out) | (with_reducible refine Kd.C_alloc ?_ _) | (with_reducible refine Kd.C_drewN ?_ _) | (with_reducible refine Kd.C_drew ?_))); (case side2 => exact HC1.out); rintro e w31 ⟨v386, rfl, ho0, hb⟩; have n0_ := Aside0.mk (Kd.R_elder' (by (with_reducible repeat (first | apply Kd.R_alloc | apply Kd.R_drewN | apply Kd.R_drew)); exact HO_9.out) (Kd.R_base ho0) hb); have n1_ := Aside0.mk (Kd.R_lower (Kd.R_new' ho0 (Kd.R_lt (by (with_reducible repeat (first | apply Kd.R_alloc | apply Kd.R_drewN | apply Kd.R_drew)); exact HO_9.out))) (below_size (by repeat (first | (with_reducible first | exact HB.out | apply below_alloc | apply pw_below_drewN | apply below_drew1) | exact HB.out)))); have n2_ := Aside0.mk (below_step (by repeat (first | (with_reducible first | exact HB.out | apply below_alloc | apply pw_below_drewN | apply below_drew1) | exact HB.out)) hb); clear HO_9; clear HB; have HO_9 := n0_; have HO387 := n1_; have HB := n2_; clear n0_ n1_ n2_; (try clear hb); (try clear hb2); (try clear hk); (try clear hi); (try clear ho0); obtain ⟨Ao32, co32, eo32⟩ := Kd.R_slice HO387.out; subst eo32; clear A26) | (go_at_call 26; (with_reducible refine (stamp_Range.calls kj20 a0 _ _ t385 t388 t389 _ ?side1 ?side2 A27.out).mono ?_); (case side1 => repeat (first | exact (Kd.R_reads' HO387.out).2.2 | (with_reducible refine Kd.C_alloc ?_ _) | (with_reducible refine Kd.C_drewN ?_ _) | (with_reducible refine Kd.C_drew ?_))); (case side2 => exact (Kd.R_reads' HO387.out).2.1); rintro e w33 ⟨rfl, hb⟩; have n0_ := Aside0.mk (Kd.R_below (by (with_reducible repeat (first | apply Kd.R_alloc | apply Kd.R_drewN | apply Kd.R_drew)); exact HO_9.out) hb); have n1_ := Aside0.mk (Kd.R_below (by (with_reducible repeat (first | apply Kd.R_alloc | apply Kd.R_drewN | apply Kd.R_drew)); exact HO387.out) hb); have n2_ := Aside0.mk (below_step (by repeat (first | (with_reducible first | exact HB.out | apply below_alloc | apply pw_below_drewN | apply below_drew1) | exact HB.out)) hb); clear HO_9; clear HO387; clear HB; have HO_9 := n0_; have HO387 := n1_; have HB := n2_; clear n0_ n1_ n2_; (try clear hb); (try clear hb2); (try clear hk); (try clear hi)) | (go_at_call 32; (with_reducible refine (trishawref04_With.calls kj20 _ _ l1 (wrap64 (1 + (Int.tmod (wrap64 (a2)) 200))) t390 _ ?side1 ?side2 A28.out).mono ?_); (case side1 => repeat (first | exact (Kd.C_below HR1.out HB.out) | (with_reducible refine Kd.C_alloc ?_ _) | (with_reducible refine Kd.C_drewN ?_ _) | (with_reducible refine Kd.C_drew ?_))); (case side2 => exact HC1.out); rintro e w34 ⟨v391, rfl, ho0, hb⟩; have n0_ := Aside0.mk (Kd.R_elder' (by (with_reducible repeat (first | apply Kd.R_alloc | apply Kd.R_drewN | apply Kd.R_drew)); exact HO_9.out) (Kd.R_base ho0) hb); have n1_ := Aside0.mk (Kd.R_elder' (by (with_reducible repeat (first | apply Kd.R_alloc | apply Kd.R_drewN | apply Kd.R_drew)); exact HO387.out) (Kd.R_base ho0) hb); have n2_ := Aside0.mk (Kd.R_lower (Kd.R_new' (Kd.R_new' ho0 (Kd.R_lt (by (with_reducible repeat (first | apply Kd.R_alloc | apply Kd.R_drewN | apply Kd.R_drew)); exact HO_9.out))) (Kd.R_lt (by (with_reducible repeat (first | apply Kd.R_alloc | apply Kd.R_drewN | apply Kd.R_drew)); exact HO387.out))) (below_size (by repeat (first | (with_reducible first | exact HB.out | apply below_alloc | apply pw_below_drewN | apply below_drew1) | exact HB.out)))); have n3_ := Aside0.mk (below_step (by repeat (first | (with_reducible first | exact HB.out | apply below_alloc | apply pw_below_drewN | apply below_drew1) | exact HB.out)) hb); clear HO_9; clear HO387; clear HB; have HO_9 := n0_; have HO387 := n1_; have HO392 := n2_; have HB := n3_; clear n0_ n1_ n2_ n3_; (try clear hb); (try clear hb2); (try clear hk); (try clear hi); (try clear ho0); obtain ⟨Ao35, co35, eo35⟩ := Kd.R_slice HO392.out; subst eo35) | (go_at_call 28; (with_reducible refine (stamp_Fewest.calls kj20 a0 _ _ t390 t393 t394 _ ?side1 ?side2 A29.out).mono ?_); (case side1 => repeat (first | exact (Kd.R_reads' HO392.out).2.2 | (with_reducible refine Kd.C_alloc ?_ _) | (with_reducible refine Kd.C_drewN ?_ _) | (with_reducible refine Kd.C_drew ?_))); (case side2 => exact (Kd.R_reads' HO392.out).2.1); rintro e w36 ⟨v395, rfl, ho0, hb⟩; have n0_ := Aside0.mk (Kd.R_elder' (by (with_reducible repeat (first | apply Kd.R_alloc | apply Kd.R_drewN | apply Kd.R_drew)); exact HO_9.out) (Kd.R_base ho0) hb); have n1_ := Aside0.mk (Kd.R_elder' (by (with_reducible repeat (first | apply Kd.R_alloc | apply Kd.R_drewN | apply Kd.R_drew)); exact HO387.out) (Kd.R_base ho0) hb); have n2_ := Aside0.mk (Kd.R_elder' (by (with_reducible repeat (first | apply Kd.R_alloc | apply Kd.R_drewN | apply Kd.R_drew)); exact HO392.out) (Kd.R_base ho0) hb); have n3_ := Aside0.mk (Kd.R_lower (Kd.R_new' (Kd.R_new' (Kd.R_new' ho0 (Kd.R_lt (by (with_reducible repeat (first | apply Kd.R_alloc | apply Kd.R_drewN | apply Kd.R_drew)); exact HO_9.out))) (Kd.R_lt (by (with_reducible repeat (first | apply Kd.R_alloc | apply Kd.R_drewN | apply Kd.R_drew)); exact HO387.out))) (Kd.R_lt (by (with_reducible repeat (first | apply Kd.R_alloc | apply Kd.R_drewN | apply Kd.R_drew)); exact HO392.out))) (below_size (by repeat (first | (with_reducible first | exact HB.out | apply below_alloc | apply pw_below_drewN | apply below_drew1) | exact HB.out)))); have n4_ := Aside0.mk (below_step (by repeat (first | (with_reducible first | exact HB.out | apply below_alloc | apply pw_below_drewN | apply below_drew1) | exact HB.out)) hb); clear HO_9; clear HO387; clear HO392; clear HB; have HO_9 := n0_; have HO387 := n1_; have HO392 := n2_; have HO396 := n3_; have HB := n4_; clear n0_ n1_ n2_ n3_ n4_; (try clear hb); (try clear hb2); (try clear hk); (try clear hi); (try clear ho0)))
                      repeat (go_quiet (first | (go_at_call 32; (with_reducible refine (trishawref04_With.calls kj20 _ _ l1 (wrap64 (1 + (Int.tmod (wrap64 (a2)) 200))) t385 _ ?side1 ?side2 A26.out).mono ?_); (case side1 => repeat (first | exact (Kd.C_below HR1.out HB.out) | (with_reducible refine Kd.C_alloc ?_ _) | (with_reducible refine Kd.C_drewN ?_ _) | (with_reducible refine Kd.C_drew ?_))); (case side2 => exact HC1.out); rintro e w31 ⟨v386, rfl, ho0, hb⟩; have n0_ := Aside0.mk (Kd.R_elder' (by (with_reducible repeat (first | apply Kd.R_alloc | apply Kd.R_drewN | apply Kd.R_drew)); exact HO_9.out) (Kd.R_base ho0) hb); have n1_ := Aside0.mk (Kd.R_lower (Kd.R_new' ho0 (Kd.R_lt (by (with_reducible repeat (first | apply Kd.R_alloc | apply Kd.R_drewN | apply Kd.R_drew)); exact HO_9.out))) (below_size (by repeat (first | (with_reducible first | exact HB.out | apply below_alloc | apply pw_below_drewN | apply below_drew1) | exact HB.out)))); have n2_ := Aside0.mk (below_step (by repeat (first | (with_reducible first | exact HB.out | apply below_alloc | apply pw_below_drewN | apply below_drew1) | exact HB.out)) hb); clear HO_9; clear HB; have HO_9 := n0_; have HO387 := n1_; have HB := n2_; clear n0_ n1_ n2_; (try clear hb); (try clear hb2); (try clear hk); (try clear hi); (try clear ho0); obtain ⟨Ao32, co32, eo32⟩ := Kd.R_slice HO387.out; subst eo32; clear A26) | (go_at_call 26; (with_reducible refine (stamp_Range.calls kj20 a0 _ _ t385 t388 t389 _ ?side1 ?side2 A27.out).mono ?_); (case side1 => repeat (first | exact (Kd.R_reads' HO387.out).2.2 | (with_reducible refine Kd.C_alloc ?_ _) | (with_reducible refine Kd.C_drewN ?_ _) | (with_reducible refine Kd.C_drew ?_))); (case side2 => exact (Kd.R_reads' HO387.out).2.1); rintro e w33 ⟨rfl, hb⟩; have n0_ := Aside0.mk (Kd.R_below (by (with_reducible repeat (first | apply Kd.R_alloc | apply Kd.R_drewN | apply Kd.R_drew)); exact HO_9.out) hb); have n1_ := Aside0.mk (Kd.R_below (by (with_reducible repeat (first | apply Kd.R_alloc | apply Kd.R_drewN | apply Kd.R_drew)); exact HO387.out) hb); have n2_ := Aside0.mk (below_step (by repeat (first | (with_reducible first | exact HB.out | apply below_alloc | apply pw_below_drewN | apply below_drew1) | exact HB.out)) hb); clear HO_9; clear HO387; clear HB; have HO_9 := n0_; have HO387 := n1_; have HB := n2_; clear n0_ n1_ n2_; (try clear hb); (try clear hb2); (try clear hk); (try clear hi)) | (go_at_call 32; (with_reducible refine (trishawref04_With.calls kj20 _ _ l1 (wrap64 (1 + (Int.tmod (wrap64 (a2)) 200))) t390 _ ?side1 ?side2 A28.out).mono ?_); (case side1 => repeat (first | exact (Kd.C_below HR1.out HB.out) | (with_reducible refine Kd.C_alloc ?_ _) | (with_reducible refine Kd.C_drewN ?_ _) | (with_reducible refine Kd.C_drew ?_))); (case side2 => exact HC1.out); rintro e w34 ⟨v391, rfl, ho0, hb⟩; have n0_ := Aside0.mk (Kd.R_elder' (by (with_reducible repeat (first | apply Kd.R_alloc | apply Kd.R_drewN | apply Kd.R_drew)); exact HO_9.out) (Kd.R_base ho0) hb); have n1_ := Aside0.mk (Kd.R_elder' (by (with_reducible repeat (first | apply Kd.R_alloc | apply Kd.R_drewN | apply Kd.R_drew)); exact HO387.out) (Kd.R_base ho0) hb); have n2_ := Aside0.mk (Kd.R_lower (Kd.R_new' (Kd.R_new' ho0 (Kd.R_lt (by (with_reducible repeat (first | apply Kd.R_alloc | apply Kd.R_drewN | apply Kd.R_drew)); exact HO_9.out))) (Kd.R_lt (by (with_reducible repeat (first | apply Kd.R_alloc | apply Kd.R_drewN | apply Kd.R_drew)); exact HO387.out))) (below_size (by repeat (first | (with_reducible first | exact HB.out | apply below_alloc | apply pw_below_drewN | apply below_drew1) | exact HB.out)))); have n3_ := Aside0.mk (below_step (by repeat (first | (with_reducible first | exact HB.out | apply below_alloc | apply pw_below_drewN | apply below_drew1) | exact HB.out)) hb); clear HO_9; clear HO387; clear HB; have HO_9 := n0_; have HO387 := n1_; have HO392 := n2_; have HB := n3_; clear n0_ n1_ n2_ n3_; (try clear hb); (try clear hb2); (try clear hk); (try clear hi); (try clear ho0); obtain ⟨Ao35, co35, eo35⟩ := Kd.R_slice HO392.out; subst eo35) | (go_at_call 28; (with_reducible refine (stamp_Fewest.calls kj20 a0 _ _ t390 t393 t394 _ ?side1 ?side2 A29.out).mono ?_); (case side1 => repeat (first | exact (Kd.R_reads' HO392.out).2.2 | (with_reducible refine Kd.C_alloc ?_ _) | (with_reducible refine Kd.C_drewN ?_ _) | (with_reducible refine Kd.C_drew ?_))); (case side2 => exact (Kd.R_reads' HO392.out).2.1); rintro e w36 ⟨v395, rfl, ho0, hb⟩; have n0_ := Aside0.mk (Kd.R_elder' (by (with_reducible repeat (first | apply Kd.R_alloc | apply Kd.R_drewN | apply Kd.R_drew)); exact HO_9.out) (Kd.R_base ho0) hb); have n1_ := Aside0.mk (Kd.R_elder' (by (with_reducible repeat (first | apply Kd.R_alloc | apply Kd.R_drewN | apply Kd.R_drew)); exact HO387.out) (Kd.R_base ho0) hb); have n2_ := Aside0.mk (Kd.R_elder' (by (with_reducible repeat (first | apply Kd.R_alloc | apply Kd.R_drewN | apply Kd.R_drew)); exact HO392.out) (Kd.R_base ho0) hb); have n3_ := Aside0.mk (Kd.R_lower (Kd.R_new' (Kd.R_new' (Kd.R_new' ho0 (Kd.R_lt (by (with_reducible repeat (first | apply Kd.R_alloc | apply Kd.R_drewN | apply Kd.R_drew)); exact HO_9.out))) (Kd.R_lt (by (with_reducible repeat (first | apply Kd.R_alloc | apply Kd.R_drewN | apply Kd.R_drew)); exact HO387.out))) (Kd.R_lt (by (with_reducible repeat (first | apply Kd.R_alloc | apply Kd.R_drewN | apply Kd.R_drew)); exact HO392.out))) (below_size (by repeat (first | (with_reducible first | exact HB.out | apply below_alloc | apply pw_below_drewN | apply below_drew1) | exact HB.out)))); have n4_ := Aside0.mk (below_step (by repeat (first | (with_reducible first | exact HB.out | apply below_alloc | apply pw_below_drewN | apply below_drew1) | exact HB.out)) hb); clear HO_9; clear HO387; clear HO392; clear HB; have HO_9 := n0_; have HO387 := n1_; have HO392 := n2_; have HO396 := n3_; have HB := n4_; clear n0_ n1_ n2_ n3_ n4_; (try clear hb); (try clear hb2); (try clear hk); (try clear hi); (try clear ho0))); go_upto_region 11 with (first | (go_at_call 32; (with_reducible refine (trishawref04_With.calls kj20 _ _ l1 (wrap64 (1 + (Int.tmod (wrap64 (a2)) 200))) t385 _ ?side1 ?side2 A26.out).mono ?_); (case side1 => repeat (first | exact (Kd.C_below HR1.out HB.out) | (with_reducible refine Kd.C_alloc ?_ _) | (with_reducible refine Kd.C_drewN ?_ _) | (with_reducible refine Kd.C_drew ?_))); (case side2 => exact HC1.out); rintro e w31 ⟨v386, rfl, ho0, hb⟩; have n0_ := Aside0.mk (Kd.R_elder' (by (with_reducible repeat (first | apply Kd.R_alloc | apply Kd.R_drewN | apply Kd.R_drew)); exact HO_9.out) (Kd.R_base ho0) hb); have n1_ := Aside0.mk (Kd.R_lower (Kd.R_new' ho0 (Kd.R_lt (by (with_reducible repeat (first | apply Kd.R_alloc | apply Kd.R_drewN | apply Kd.R_drew)); exact HO_9.out))) (below_size (by repeat (first | (with_reducible first | exact HB.out | apply below_alloc | apply pw_below_drewN | apply below_drew1) | exact HB.out)))); have n2_ := Aside0.mk (below_step (by repeat (first | (with_reducible first | exact HB.out | apply below_alloc | apply pw_below_drewN | apply below_drew1) | exact HB.out)) hb); clear HO_9; clear HB; have HO_9 := n0_; have HO387 := n1_; have HB := n2_; clear n0_ n1_ n2_; (try clear hb); (try clear hb2); (try clear hk); (try clear hi); (try clear ho0); obtain ⟨Ao32, co32, eo32⟩ := Kd.R_slice HO387.out; subst eo32; clear A26) | (go_at_call 26; (with_reducible refine (stamp_Range.calls kj20 a0 _ _ t385 t388 t389 _ ?side1 ?side2 A27.out).mono ?_); (case side1 => repeat (first | exact (Kd.R_reads' HO387.out).2.2 | (with_reducible refine Kd.C_alloc ?_ _) | (with_reducible refine Kd.C_drewN ?_ _) | (with_reducible refine Kd.C_drew ?_))); (case side2 => exact (Kd.R_reads' HO387.out).2.1); rintro e w33 ⟨rfl, hb⟩; have n0_ := Aside0.mk (Kd.R_below (by (with_reducible repeat (first | apply Kd.R_alloc | apply Kd.R_drewN | apply Kd.R_drew)); exact HO_9.out) hb); have n1_ := Aside0.mk (Kd.R_below (by (with_reducible repeat (first | apply Kd.R_alloc | apply Kd.R_drewN | apply Kd.R_drew)); exact HO387.out) hb); have n2_ := Aside0.mk (below_step (by repeat (first | (with_reducible first | exact HB.out | apply below_alloc | apply pw_below_drewN | apply below_drew1) | exact HB.out)) hb); clear HO_9; clear HO387; clear HB; have HO_9 := n0_; have HO387 := n1_; have HB := n2_; clear n0_ n1_ n2_; (try clear hb); (try clear hb2); (try clear hk); (try clear hi)) | (go_at_call 32; (with_reducible refine (trishawref04_With.calls kj20 _ _ l1 (wrap64 (1 + (Int.tmod (wrap64 (a2)) 200))) t390 _ ?side1 ?side2 A28.out).mono ?_); (case side1 => repeat (first | exact (Kd.C_below HR1.out HB.out) | (with_reducible refine Kd.C_alloc ?_ _) | (with_reducible refine Kd.C_drewN ?_ _) | (with_reducible refine Kd.C_drew ?_))); (case side2 => exact HC1.out); rintro e w34 ⟨v391, rfl, ho0, hb⟩; have n0_ := Aside0.mk (Kd.R_elder' (by (with_reducible repeat (first | apply Kd.R_alloc | apply Kd.R_drewN | apply Kd.R_drew)); exact HO_9.out) (Kd.R_base ho0) hb); have n1_ := Aside0.mk (Kd.R_elder' (by (with_reducible repeat (first | apply Kd.R_alloc | apply Kd.R_drewN | apply Kd.R_drew)); exact HO387.out) (Kd.R_base ho0) hb); have n2_ := Aside0.mk (Kd.R_lower (Kd.R_new' (Kd.R_new' ho0 (Kd.R_lt (by (with_reducible repeat (first | apply Kd.R_alloc | apply Kd.R_drewN | apply Kd.R_drew)); exact HO_9.out))) (Kd.R_lt (by (with_reducible repeat (first | apply Kd.R_alloc | apply Kd.R_drewN | apply Kd.R_drew)); exact HO387.out))) (below_size (by repeat (first | (with_reducible first | exact HB.out | apply below_alloc | apply pw_below_drewN | apply below_drew1) | exact HB.out)))); have n3_ := Aside0.mk (below_step (by repeat (first | (with_reducible first | exact HB.out | apply below_alloc | apply pw_below_drewN | apply below_drew1) | exact HB.out)) hb); clear HO_9; clear HO387; clear HB; have HO_9 := n0_; have HO387 := n1_; have HO392 := n2_; have HB := n3_; clear n0_ n1_ n2_ n3_; (try clear hb); (try clear hb2); (try clear hk); (try clear hi); (try clear ho0); obtain ⟨Ao35, co35, eo35⟩ := Kd.R_slice HO392.out; subst eo35) | (go_at_call 28; (with_reducible refine (stamp_Fewest.calls kj20 a0 _ _ t390 t393 t394 _ ?side1 ?side2 A29.out).mono ?_); (case side1 => repeat (first | exact (Kd.R_reads' HO392.out).2.2 | (with_reducible refine Kd.C_alloc ?_ _) | (with_reducible refine Kd.C_drewN ?_ _) | (with_reducible refine Kd.C_drew ?_))); (case side2 => exact (Kd.R_reads' HO392.out).2.1); rintro e w36 ⟨v395, rfl, ho0, hb⟩; have n0_ := Aside0.mk (Kd.R_elder' (by (with_reducible repeat (first | apply Kd.R_alloc | apply Kd.R_drewN | apply Kd.R_drew)); exact HO_9.out) (Kd.R_base ho0) hb); have n1_ := Aside0.mk (Kd.R_elder' (by (with_reducible repeat (first | apply Kd.R_alloc | apply Kd.R_drewN | apply Kd.R_drew)); exact HO387.out) (Kd.R_base ho0) hb); have n2_ := Aside0.mk (Kd.R_elder' (by (with_reducible repeat (first | apply Kd.R_alloc | apply Kd.R_drewN | apply Kd.R_drew)); exact HO392.out) (Kd.R_base ho0) hb); have n3_ := Aside0.mk (Kd.R_lower (Kd.R_new' (Kd.R_new' (Kd.R_new' ho0 (Kd.R_lt (by (with_reducible repeat (first | apply Kd.R_alloc | apply Kd.R_drewN | apply Kd.R_drew)); exact HO_9.out))) (Kd.R_lt (by (with_reducible repeat (first | apply Kd.R_alloc | apply Kd.R_drewN | apply Kd.R_drew)); exact HO387.out))) (Kd.R_lt (by (with_reducible repeat (first | apply Kd.R_alloc | apply Kd.R_drewN | apply Kd.R_drew)); exact HO392.out))) (below_size (by repeat (first | (with_reducible first | exact HB.out | apply below_alloc | apply pw_below_drewN | apply below_drew1) | exact HB.out)))); have n4_ := Aside0.mk (below_step (by repeat (first | (with_reducible first | exact HB.out | apply below_alloc | apply pw_below_drewN | apply below_drew1) | exact HB.out)) hb); clear HO_9; clear HO387; clear HO392; clear HB; have HO_9 := n0_; have HO387 := n1_; have HO392 := n2_; have HO396 := n3_; have HB := n4_; clear n0_ n1_ n2_ n3_ n4_; (try clear hb); (try clear hb2); (try clear hk); (try clear hi); (try clear ho0))))
                      (try simp only [Act.put, List.setIfInBounds_toArray, List.set_cons_zero, List.set_cons_succ])
                      go_cut [114] (fun v114 wc => ∃ (kq : Nat) (x114_29 : Bool), v114 = .bool x114_29 ∧ Aside0 (trishawlaw04_StampMore.j3 kq a0 l1 t377 t379 t393 x114_29 = some r) ∧ Aside0 (kq ≤ kj20) ∧ Aside0 (Kd.R (Kd.int .i64) 3 wc w.heap.size (fun k_ => some k_ ≠ (v395 : Value).ownBlock) v381 t379) ∧ Aside0 (Kd.R (Kd.int .i64) 3 wc w.heap.size (fun k_ => some k_ ≠ (v381 : Value).ownBlock) v395 t393) ∧ Aside0 (Below w.heap.size w wc))
                      case first =>
                        have H := HC30.out
                        clear HC30
                        by_cases c37 : t389 = 0
                        · as_aux_lemma =>
                          rw [if_pos c37] at H
                          have c37b0 : (t389 == 0) = true := beq_iff_eq.mpr c37
                          have c37b1 : (t389 != 0) = false := bne_eq_false_iff_eq.mpr c37
                          clear c37
                          (first | rw [c37b0] | (simp only [i64_w, i32_w]; rw [c37b0]) | skip)
                          by_cases c38 : t394 = 0
                          · as_aux_lemma =>
                            rw [if_pos c38] at H
                            have c38b0 : (t394 == 0) = true := beq_iff_eq.mpr c38
                            have c38b1 : (t394 != 0) = false := bne_eq_false_iff_eq.mpr c38
                            clear c38
                            by_cases c39 : t388 < t377
                            · rw [if_pos c39] at H
                              exact absurd H (by simp)
                            · rw [if_neg c39] at H
                              have c39b0 : decide (t388 < t377) = false := decide_eq_false c39
                              clear c39
                              have H' := Aside0.mk H
                              clear H
                              obtain ⟨Ao40, co40, eo40⟩ := Kd.R_slice HO396.out
                              subst eo40
                              obtain ⟨Ao41, co41, eo41⟩ := Kd.R_slice HO_9.out
                              subst eo41
                              go_wp2
                              repeat (go_quiet (fail); try go_wp2)
                              go_meet
                              case rel => exact ⟨_, (decide ((t393.length : Int) < (t379.length : Int))), (by first | rfl | (simp; done) | (simp [*]; done)), H', ⟨by have := HJ3.out; have := HJ11.out; have := HJ20.out; first | omega | exact Nat.le_refl _⟩, ⟨by (with_reducible repeat (first | apply Kd.R_alloc | apply Kd.R_drewN | apply Kd.R_drew)); exact Kd.R_mono HO_9.out (fun _ hk => hk.2)⟩, ⟨by (with_reducible repeat (first | apply Kd.R_alloc | apply Kd.R_drewN | apply Kd.R_drew)); exact Kd.R_mono HO396.out (fun _ hk => hk.1.1.2)⟩, ⟨by repeat (first | (with_reducible first | exact HB.out | apply below_alloc | apply pw_below_drewN | apply below_drew1) | exact HB.out)⟩⟩
                          · rw [if_neg c38] at H
                            exact absurd H (by simp)
                        · rw [if_neg c37] at H
                          exact absurd H (by simp)
                      case rest =>
                        clear HC30
                        try clear c1
                        try clear c2
                        try clear p2
                        try clear c3
                        try clear p3
                        try clear q3
                        try clear hx3
                        try clear qi3
                        try clear c5
                        try clear c5b0
                        try clear c5b1
                        try clear p6
                        try clear c7
                        try clear c10
                        try clear c15
                        try clear c15b0
                        try clear c15b1
                        try clear c16
                        try clear c16b0
                        try clear c16b1
                        try clear c17
                        try clear c17b0
                        try clear c17b1
                        try clear c18
                        try clear c18b0
                        try clear c18b1
                        try clear c19
                        try clear c19b0
                        try clear c20
                        try clear c22
                        try clear c22b0
                        try clear c22b1
                        try clear c25
                        try clear c37
                        try clear c37b0
                        try clear c37b1
                        try clear c38
                        try clear c38b0
                        try clear c38b1
                        try clear p38
                        try clear q38
                        try clear hx38
                        try clear qi38
                        try clear c39
                        try clear c39b0
                        try clear hx383_0
                        try clear p2
                        try clear p3
                        try clear p383
                        try clear p6
                        try clear q3
                        try clear q383
                        obtain ⟨kq, x114_29, rfl, HA, HJ29, HO_9, HO_14, HB⟩ := hcut
                        cases kq with
                        | zero => exact absurd HA.out (by simp [trishawlaw04_StampMore.j3])
                        | succ kj29 =>
                          have H := HA.out
                          clear HA
                          simp only [trishawlaw04_StampMore.j3] at H
                          by_cases c42 : x114_29 = true
                          · subst c42
                            have H1 : (none) = some r := by rw [if_pos rfl] at H; exact H
                            clear H
                            have H := H1
                            clear H1
                            exact absurd H (by simp)
                          · replace c42 := Bool.eq_false_iff.mpr c42
                            subst c42
                            have H1 : (trishawlaw04_StampMore.l0 kj29 a0 l1 t377 t379 t393 0) = some r := by rw [if_neg (show ¬ (false = true) by decide)] at H; exact H
                            clear H
                            have H := H1
                            clear H1
                            have H' := Aside0.mk H
                            clear H
                            go_wp2
                            repeat (go_quiet (fail); try go_wp2)
                            go_loopg [16] kj29 (fun kq v16 w' => ∃ (x16_5 : Int), v16 = .int .i64 x16_5 ∧ Aside0 (trishawlaw04_StampMore.l0 kq a0 l1 t377 t379 t393 x16_5 = some r) ∧ Aside0 (kq ≤ kj29) ∧ Aside0 (Kd.R (Kd.int .i64) 3 w' w.heap.size (fun k_ => some k_ ≠ (v395 : Value).ownBlock) v381 t379) ∧ Aside0 (Kd.R (Kd.int .i64) 3 w' w.heap.size (fun k_ => some k_ ≠ (v381 : Value).ownBlock) v395 t393) ∧ Aside0 (Below w.heap.size w w'))
                            case atStart => exact ⟨(0), (by first | rfl | (simp; done) | (simp [*]; done)), H', ⟨Nat.le_refl _⟩, ⟨by (with_reducible repeat (first | apply Kd.R_alloc | apply Kd.R_drewN | apply Kd.R_drew)); exact HO_9.out⟩, ⟨by (with_reducible repeat (first | apply Kd.R_alloc | apply Kd.R_drewN | apply Kd.R_drew)); exact HO_14.out⟩, ⟨by repeat (first | (with_reducible first | exact HB.out | apply below_alloc | apply pw_below_drewN | apply below_drew1) | exact HB.out)⟩⟩
                            case round =>
                              clear H'
                              try clear c1
                              try clear c2
                              try clear p2
                              try clear c3
                              try clear p3
                              try clear q3
                              try clear hx3
                              try clear qi3
                              try clear c4
                              try clear c5
                              try clear c5b0
                              try clear c5b1
                              try clear p6
                              try clear c7
                              try clear c10
                              try clear c15
                              try clear c15b0
                              try clear c15b1
                              try clear c16
                              try clear c16b0
                              try clear c16b1
                              try clear c17
                              try clear c17b0
                              try clear c17b1
                              try clear c18
                              try clear c18b0
                              try clear c18b1
                              try clear c19
                              try clear c19b0
                              try clear c20
                              try clear c22
                              try clear c22b0
                              try clear c22b1
                              try clear c25
                              try clear c37
                              try clear c37b0
                              try clear c37b1
                              try clear c38
                              try clear c38b0
                              try clear c38b1
                              try clear p38
                              try clear q38
                              try clear hx38
                              try clear qi38
                              try clear c39
                              try clear c39b0
                              try clear c42
                              try clear hx383_0
                              try clear p2
                              try clear p3
                              try clear p38
                              try clear p383
                              try clear p6
                              try clear q3
                              try clear q38
                              try clear q383
                              obtain ⟨x16_5, rfl, HA, HK5, HO_9, HO_14, HB⟩ := hrel
                              cases gk with
                              | zero => exact absurd HA.out (by simp [trishawlaw04_StampMore.l0])
                              | succ k5 =>
                                have H := HA.out
                                clear HA
                                simp only [trishawlaw04_StampMore.l0] at H
                                by_cases c43 : x16_5 < (t379.length : Int)
                                · as_aux_lemma =>
                                  rw [if_pos c43] at H
                                  have c43b0 : decide (x16_5 < (t379.length : Int)) = true := decide_eq_true c43
                                  clear c43
                                  by_cases c44 : 0 ≤ x16_5
                                  · as_aux_lemma =>
                                    rw [if_pos c44] at H
                                    have c44b0 : decide (0 ≤ x16_5) = true := decide_eq_true c44
                                    clear c44
                                    by_cases c45 : (rd t379 x16_5) ≥ 0
                                    · as_aux_lemma =>
                                      rw [if_pos c45] at H
                                      have c45b0 : decide (0 ≤ (rd t379 x16_5)) = true := decide_eq_true c45
                                      clear c45
                                      by_cases c46 : x16_5 < (t393.length : Int)
                                      · as_aux_lemma =>
                                        rw [if_pos c46] at H
                                        have c46b0 : decide (x16_5 < (t393.length : Int)) = true := decide_eq_true c46
                                        clear c46
                                        by_cases c47 : (rd t393 x16_5) < 0
                                        · rw [if_pos c47] at H
                                          exact absurd H (by simp)
                                        · as_aux_lemma =>
                                          rw [if_neg c47] at H
                                          have c47b0 : decide ((rd t393 x16_5) < 0) = false := decide_eq_false c47
                                          clear c47
                                          by_cases c48 : (rd t393 x16_5) > (rd t379 x16_5)
                                          · rw [if_pos c48] at H
                                            exact absurd H (by simp)
                                          · as_aux_lemma =>
                                            rw [if_neg c48] at H
                                            have c48b0 : decide ((rd t379 x16_5) < (rd t393 x16_5)) = false := decide_eq_false c48
                                            clear c48
                                            have H' := Aside0.mk H
                                            clear H
                                            obtain ⟨Ao49, co49, eo49⟩ := Kd.R_slice HO_9.out
                                            subst eo49
                                            have p397 : 0 ≤ (x16_5 : Int) := of_decide_eq_true (by first | (with_reducible assumption) | assumption)
                                            have q397 : x16_5 < (t379.length : Int) := of_decide_eq_true (by first | (with_reducible assumption) | assumption)
                                            obtain ⟨ad397, e397, hx397_0⟩ := Kd.at_int (Kd.R_reads' HO_9.out).2.2 x16_5 p397 q397
                                            cases e397
                                            replace p397 := eq_true p397
                                            replace q397 := eq_true q397
                                            obtain ⟨Ao50, co50, eo50⟩ := Kd.R_slice HO_14.out
                                            subst eo50
                                            have p398 : 0 ≤ (x16_5 : Int) := of_decide_eq_true (by first | (with_reducible assumption) | assumption)
                                            have q398 : x16_5 < (t393.length : Int) := of_decide_eq_true (by first | (with_reducible assumption) | assumption)
                                            obtain ⟨ad398, e398, hx398_0⟩ := Kd.at_int (Kd.R_reads' HO_14.out).2.2 x16_5 p398 q398
                                            cases e398
                                            replace p398 := eq_true p398
                                            replace q398 := eq_true q398
                                            have p399 : 0 ≤ (x16_5 : Int) := of_decide_eq_true (by first | (with_reducible assumption) | assumption)
                                            have q399 : x16_5 < (t393.length : Int) := of_decide_eq_true (by first | (with_reducible assumption) | assumption)
                                            obtain ⟨ad399, e399, hx399_0⟩ := Kd.at_int (Kd.R_reads' HO_14.out).2.2 x16_5 p399 q399
                                            obtain rfl : ad398 = ad399 := (by injection e399)
                                            replace p399 := eq_true p399
                                            replace q399 := eq_true q399
                                            have p400 : 0 ≤ (x16_5 : Int) := of_decide_eq_true (by first | (with_reducible assumption) | assumption)
                                            have q400 : x16_5 < (t379.length : Int) := of_decide_eq_true (by first | (with_reducible assumption) | assumption)
                                            obtain ⟨ad400, e400, hx400_0⟩ := Kd.at_int (Kd.R_reads' HO_9.out).2.2 x16_5 p400 q400
                                            obtain rfl : ad397 = ad400 := (by injection e400)
                                            replace p400 := eq_true p400
                                            replace q400 := eq_true q400
                                            go_wp2
                                            repeat (go_quiet (fail); try go_wp2)
                                            go_roundg k5
                                            case measure => have := HJ3.out; have := HJ11.out; have := HJ20.out; have := HJ29.out; have := HK5.out; omega
                                            case rel => exact ⟨(wrap64 (x16_5 + 1)), (by first | rfl | (simp; done) | (simp [*]; done)), H', ⟨by have := HJ3.out; have := HJ11.out; have := HJ20.out; have := HJ29.out; have := HK5.out; omega⟩, ⟨by (with_reducible repeat (first | apply Kd.R_alloc | apply Kd.R_drewN | apply Kd.R_drew)); exact HO_9.out⟩, ⟨by (with_reducible repeat (first | apply Kd.R_alloc | apply Kd.R_drewN | apply Kd.R_drew)); exact HO_14.out⟩, ⟨by repeat (first | (with_reducible first | exact HB.out | apply below_alloc | apply pw_below_drewN | apply below_drew1) | exact HB.out)⟩⟩
                                      · rw [if_neg c46] at H
                                        exact absurd H (by simp)
                                    · as_aux_lemma =>
                                      rw [if_neg c45] at H
                                      have c45b0 : decide (0 ≤ (rd t379 x16_5)) = false := decide_eq_false c45
                                      clear c45
                                      have H' := Aside0.mk H
                                      clear H
                                      obtain ⟨Ao51, co51, eo51⟩ := Kd.R_slice HO_9.out
                                      subst eo51
                                      have p397 : 0 ≤ (x16_5 : Int) := of_decide_eq_true (by first | (with_reducible assumption) | assumption)
                                      have q397 : x16_5 < (t379.length : Int) := of_decide_eq_true (by first | (with_reducible assumption) | assumption)
                                      obtain ⟨ad397, e397, hx397_0⟩ := Kd.at_int (Kd.R_reads' HO_9.out).2.2 x16_5 p397 q397
                                      cases e397
                                      replace p397 := eq_true p397
                                      replace q397 := eq_true q397
                                      go_wp2
                                      repeat (go_quiet (fail); try go_wp2)
                                      go_roundg k5
                                      case measure => have := HJ3.out; have := HJ11.out; have := HJ20.out; have := HJ29.out; have := HK5.out; omega
                                      case rel => exact ⟨(wrap64 (x16_5 + 1)), (by first | rfl | (simp; done) | (simp [*]; done)), H', ⟨by have := HJ3.out; have := HJ11.out; have := HJ20.out; have := HJ29.out; have := HK5.out; omega⟩, ⟨by (with_reducible repeat (first | apply Kd.R_alloc | apply Kd.R_drewN | apply Kd.R_drew)); exact HO_9.out⟩, ⟨by (with_reducible repeat (first | apply Kd.R_alloc | apply Kd.R_drewN | apply Kd.R_drew)); exact HO_14.out⟩, ⟨by repeat (first | (with_reducible first | exact HB.out | apply below_alloc | apply pw_below_drewN | apply below_drew1) | exact HB.out)⟩⟩
                                  · rw [if_neg c44] at H
                                    exact absurd H (by simp)
                                · rw [if_neg c43] at H
                                  have c43b0 : decide (x16_5 < (t379.length : Int)) = false := decide_eq_false c43
                                  clear c43
                                  have H' := Aside0.mk H
                                  clear H
                                  obtain ⟨Ao52, co52, eo52⟩ := Kd.R_slice HO_9.out
                                  subst eo52
                                  go_wp2
                                  repeat (go_quiet (fail); try go_wp2)
                                  go_meet
                                  case rel => exact ⟨_, H', ⟨by have := HJ3.out; have := HJ11.out; have := HJ20.out; have := HJ29.out; have := HK5.out; first | omega | exact Nat.le_refl _⟩, ⟨by (with_reducible repeat (first | apply Kd.R_alloc | apply Kd.R_drewN | apply Kd.R_drew)); exact Kd.R_mono HO_9.out (fun _ hk => trivial)⟩, ⟨by repeat (first | (with_reducible first | exact HB.out | apply below_alloc | apply pw_below_drewN | apply below_drew1) | exact HB.out)⟩⟩
                    · replace c25 := Bool.eq_false_iff.mpr c25
                      subst c25
                      have H1 : (trishawlaw04_StampMore.j5 kj20 a0 l1 t377 t379) = some r := by rw [if_neg (show ¬ (false = true) by decide)] at H; exact H
                      clear H
                      have H := H1
                      clear H1
                      have H' := Aside0.mk H
                      clear H
                      go_wp2
                      repeat (go_quiet (fail); try go_wp2)
                      go_meet
                      case rel => exact ⟨_, H', ⟨by have := HJ3.out; have := HJ11.out; have := HJ20.out; first | omega | exact Nat.le_refl _⟩, ⟨by (with_reducible repeat (first | apply Kd.R_alloc | apply Kd.R_drewN | apply Kd.R_drew)); exact HO_9.out⟩, ⟨by repeat (first | (with_reducible first | exact HB.out | apply below_alloc | apply pw_below_drewN | apply below_drew1) | exact HB.out)⟩⟩
                  case rest =>
                    clear HC24
                    try clear c1
                    try clear c2
                    try clear p2
                    try clear c3
                    try clear p3
                    try clear q3
                    try clear hx3
                    try clear qi3
                    try clear c4
                    try clear p4
                    try clear q4
                    try clear hx4
                    try clear c5
                    try clear c5b0
                    try clear c5b1
                    try clear p6
                    try clear c7
                    try clear c10
                    try clear c15
                    try clear c15b0
                    try clear c15b1
                    try clear c16
                    try clear c16b0
                    try clear c16b1
                    try clear c17
                    try clear c17b0
                    try clear c17b1
                    try clear c18
                    try clear c18b0
                    try clear c18b1
                    try clear c19
                    try clear c19b0
                    try clear c20
                    try clear c22
                    try clear c22b0
                    try clear c22b1
                    try clear c25
                    try clear c37
                    try clear c37b0
                    try clear c37b1
                    try clear c38
                    try clear c38b0
                    try clear c38b1
                    try clear p38
                    try clear q38
                    try clear hx38
                    try clear qi38
                    try clear c39
                    try clear c39b0
                    try clear p39
                    try clear q39
                    try clear hx39
                    try clear p40
                    try clear q40
                    try clear hx40
                    try clear c42
                    try clear c43
                    try clear c43b0
                    try clear c44
                    try clear c44b0
                    try clear c45
                    try clear c45b0
                    try clear c46
                    try clear c46b0
                    try clear c47
                    try clear c47b0
                    try clear c48
                    try clear c48b0
                    try clear hx383_0
                    try clear hx397_0
                    try clear hx398_0
                    try clear hx399_0
                    try clear hx400_0
                    try clear p2
                    try clear p3
                    try clear p38
                    try clear p383
                    try clear p397
                    try clear p398
                    try clear p399
                    try clear p400
                    try clear p6
                    try clear q3
                    try clear q38
                    try clear q383
                    try clear q397
                    try clear q398
                    try clear q399
                    try clear q400
                    obtain ⟨kq, HA, HJ23, HO_9, HB⟩ := hcut
                    cases kq with
                    | zero => exact absurd HA.out (by simp [trishawlaw04_StampMore.j5])
                    | succ kj23 =>
                      have H := HA.out
                      clear HA
                      simp only [trishawlaw04_StampMore.j5] at H
                      by_cases c53 : a0 = 6
                      · rw [if_pos c53] at H
                        have c53b0 : (a0 == 6) = true := beq_iff_eq.mpr c53
                        have c53b1 : (a0 != 6) = false := bne_eq_false_iff_eq.mpr c53
                        clear c53
                        replace H := Option.bind_eq_some_iff.mp H
                        obtain ⟨t401, A540, H⟩ := H
                        replace H : (some t401) = some r := H
                        have A54 := Aside0.mk A540
                        clear A540
                        obtain rfl := Option.some.inj H
                        go_wp2_with (first | (go_at_call 16; (with_reducible refine (trishawlaw04_alive.calls kj23  t401 _ A54.out).mono ?_); rintro e w55 ⟨rfl, hb⟩; have n0_ := Aside0.mk (Kd.R_below (by (with_reducible repeat (first | apply Kd.R_alloc | apply Kd.R_drewN | apply Kd.R_drew)); exact HO_9.out) hb); have n1_ := Aside0.mk (below_step (by repeat (first | (with_reducible first | exact HB.out | apply below_alloc | apply pw_below_drewN | apply below_drew1) | exact HB.out)) hb); clear HO_9; clear HB; have HO_9 := n0_; have HB := n1_; clear n0_ n1_; (try clear hb); (try clear hb2); (try clear hk); (try clear hi)))
                        repeat (go_quiet (first | (go_at_call 16; (with_reducible refine (trishawlaw04_alive.calls kj23  t401 _ A54.out).mono ?_); rintro e w55 ⟨rfl, hb⟩; have n0_ := Aside0.mk (Kd.R_below (by (with_reducible repeat (first | apply Kd.R_alloc | apply Kd.R_drewN | apply Kd.R_drew)); exact HO_9.out) hb); have n1_ := Aside0.mk (below_step (by repeat (first | (with_reducible first | exact HB.out | apply below_alloc | apply pw_below_drewN | apply below_drew1) | exact HB.out)) hb); clear HO_9; clear HB; have HO_9 := n0_; have HB := n1_; clear n0_ n1_; (try clear hb); (try clear hb2); (try clear hk); (try clear hi))); try go_wp2_with (first | (go_at_call 16; (with_reducible refine (trishawlaw04_alive.calls kj23  t401 _ A54.out).mono ?_); rintro e w55 ⟨rfl, hb⟩; have n0_ := Aside0.mk (Kd.R_below (by (with_reducible repeat (first | apply Kd.R_alloc | apply Kd.R_drewN | apply Kd.R_drew)); exact HO_9.out) hb); have n1_ := Aside0.mk (below_step (by repeat (first | (with_reducible first | exact HB.out | apply below_alloc | apply pw_below_drewN | apply below_drew1) | exact HB.out)) hb); clear HO_9; clear HB; have HO_9 := n0_; have HB := n1_; clear n0_ n1_; (try clear hb); (try clear hb2); (try clear hk); (try clear hi))))
                        go_ret
                        exact ⟨by first | rfl | (simp [errW_none, errW_some] <;> rfl) | (simp [*, errW_none, errW_some] <;> rfl), by repeat (first | (with_reducible first | exact HB.out | apply below_alloc | apply pw_below_drewN | apply below_drew1) | exact HB.out)⟩
                      · as_aux_lemma =>
                        rw [if_neg c53] at H
                        have c53b0 : (a0 == 6) = false := beq_eq_false_iff_ne.mpr c53
                        have c53b1 : (a0 != 6) = true := bne_iff_ne.mpr c53
                        replace H := Option.bind_eq_some_iff.mp H
                        obtain ⟨⟨t402, t403⟩, A560, H⟩ := H
                        replace H : ((stamp_Fewest.f kj23 (wrap64 (a0 + 1)) l1).bind fun bt404 => (if t403 = 0 then (if bt404.2 = 0 then (if t402 < t377 then (none) else (trishawlaw04_StampMore.j6 kj23 a0 t379 bt404.1 (decide ((bt404.1.length : Int) < (t379.length : Int))))) else (none)) else (none))) = some r := H
                        have A56 := Aside0.mk A560
                        clear A560
                        replace H := Option.bind_eq_some_iff.mp H
                        obtain ⟨⟨t404, t405⟩, A570, H⟩ := H
                        replace H : (if t403 = 0 then (if t405 = 0 then (if t402 < t377 then (none) else (trishawlaw04_StampMore.j6 kj23 a0 t379 t404 (decide ((t404.length : Int) < (t379.length : Int))))) else (none)) else (none)) = some r := H
                        have A57 := Aside0.mk A570
                        clear A570
                        have HC58 := Aside0.mk H
                        clear H
                        go_upto_region 22 with (first | (go_at_call 26; (with_reducible refine (stamp_Range.calls kj23 (wrap64 (a0 + 1)) _ _ l1 t402 t403 _ ?side1 ?side2 A56.out).mono ?_); (case side1 => repeat (first | exact (Kd.C_below HR1.out HB.out) | (with_reducible refine Kd.C_alloc ?_ _) | (with_reducible refine Kd.C_drewN ?_ _) | (with_reducible refine Kd.C_drew ?_))); (case side2 => exact HC1.out); rintro e w59 ⟨rfl, hb⟩; have n0_ := Aside0.mk (Kd.R_below (by (with_reducible repeat (first | apply Kd.R_alloc | apply Kd.R_drewN | apply Kd.R_drew)); exact HO_9.out) hb); have n1_ := Aside0.mk (below_step (by repeat (first | (with_reducible first | exact HB.out | apply below_alloc | apply pw_below_drewN | apply below_drew1) | exact HB.out)) hb); clear HO_9; clear HB; have HO_9 := n0_; have HB := n1_; clear n0_ n1_; (try clear hb); (try clear hb2); (try clear hk); (try clear hi)) | (go_at_call 28; (with_reducible refine (stamp_Fewest.calls kj23 (wrap64 (a0 + 1)) _ _ l1 t404 t405 _ ?side1 ?side2 A57.out).mono ?_); (case side1 => repeat (first | exact (Kd.C_below HR1.out HB.out) | (with_reducible refine Kd.C_alloc ?_ _) | (with_reducible refine Kd.C_drewN ?_ _) | (with_reducible refine Kd.C_drew ?_))); (case side2 => exact HC1.out); rintro e w60 ⟨v406, rfl, ho0, hb⟩; have n0_ := Aside0.mk (Kd.R_elder' (by (with_reducible repeat (first | apply Kd.R_alloc | apply Kd.R_drewN | apply Kd.R_drew)); exact HO_9.out) (Kd.R_base ho0) hb); have n1_ := Aside0.mk (Kd.R_lower (Kd.R_new' ho0 (Kd.R_lt (by (with_reducible repeat (first | apply Kd.R_alloc | apply Kd.R_drewN | apply Kd.R_drew)); exact HO_9.out))) (below_size (by repeat (first | (with_reducible first | exact HB.out | apply below_alloc | apply pw_below_drewN | apply below_drew1) | exact HB.out)))); have n2_ := Aside0.mk (below_step (by repeat (first | (with_reducible first | exact HB.out | apply below_alloc | apply pw_below_drewN | apply below_drew1) | exact HB.out)) hb); clear HO_9; clear HB; have HO_9 := n0_; have HO407 := n1_; have HB := n2_; clear n0_ n1_ n2_; (try clear hb); (try clear hb2); (try clear hk); (try clear hi); (try clear ho0)))
                        repeat (go_quiet (first | (go_at_call 26; (with_reducible refine (stamp_Range.calls kj23 (wrap64 (a0 + 1)) _ _ l1 t402 t403 _ ?side1 ?side2 A56.out).mono ?_); (case side1 => repeat (first | exact (Kd.C_below HR1.out HB.out) | (with_reducible refine Kd.C_alloc ?_ _) | (with_reducible refine Kd.C_drewN ?_ _) | (with_reducible refine Kd.C_drew ?_))); (case side2 => exact HC1.out); rintro e w59 ⟨rfl, hb⟩; have n0_ := Aside0.mk (Kd.R_below (by (with_reducible repeat (first | apply Kd.R_alloc | apply Kd.R_drewN | apply Kd.R_drew)); exact HO_9.out) hb); have n1_ := Aside0.mk (below_step (by repeat (first | (with_reducible first | exact HB.out | apply below_alloc | apply pw_below_drewN | apply below_drew1) | exact HB.out)) hb); clear HO_9; clear HB; have HO_9 := n0_; have HB := n1_; clear n0_ n1_; (try clear hb); (try clear hb2); (try clear hk); (try clear hi)) | (go_at_call 28; (with_reducible refine (stamp_Fewest.calls kj23 (wrap64 (a0 + 1)) _ _ l1 t404 t405 _ ?side1 ?side2 A57.out).mono ?_); (case side1 => repeat (first | exact (Kd.C_below HR1.out HB.out) | (with_reducible refine Kd.C_alloc ?_ _) | (with_reducible refine Kd.C_drewN ?_ _) | (with_reducible refine Kd.C_drew ?_))); (case side2 => exact HC1.out); rintro e w60 ⟨v406, rfl, ho0, hb⟩; have n0_ := Aside0.mk (Kd.R_elder' (by (with_reducible repeat (first | apply Kd.R_alloc | apply Kd.R_drewN | apply Kd.R_drew)); exact HO_9.out) (Kd.R_base ho0) hb); have n1_ := Aside0.mk (Kd.R_lower (Kd.R_new' ho0 (Kd.R_lt (by (with_reducible repeat (first | apply Kd.R_alloc | apply Kd.R_drewN | apply Kd.R_drew)); exact HO_9.out))) (below_size (by repeat (first | (with_reducible first | exact HB.out | apply below_alloc | apply pw_below_drewN | apply below_drew1) | exact HB.out)))); have n2_ := Aside0.mk (below_step (by repeat (first | (with_reducible first | exact HB.out | apply below_alloc | apply pw_below_drewN | apply below_drew1) | exact HB.out)) hb); clear HO_9; clear HB; have HO_9 := n0_; have HO407 := n1_; have HB := n2_; clear n0_ n1_ n2_; (try clear hb); (try clear hb2); (try clear hk); (try clear hi); (try clear ho0))); go_upto_region 22 with (first | (go_at_call 26; (with_reducible refine (stamp_Range.calls kj23 (wrap64 (a0 + 1)) _ _ l1 t402 t403 _ ?side1 ?side2 A56.out).mono ?_); (case side1 => repeat (first | exact (Kd.C_below HR1.out HB.out) | (with_reducible refine Kd.C_alloc ?_ _) | (with_reducible refine Kd.C_drewN ?_ _) | (with_reducible refine Kd.C_drew ?_))); (case side2 => exact HC1.out); rintro e w59 ⟨rfl, hb⟩; have n0_ := Aside0.mk (Kd.R_below (by (with_reducible repeat (first | apply Kd.R_alloc | apply Kd.R_drewN | apply Kd.R_drew)); exact HO_9.out) hb); have n1_ := Aside0.mk (below_step (by repeat (first | (with_reducible first | exact HB.out | apply below_alloc | apply pw_below_drewN | apply below_drew1) | exact HB.out)) hb); clear HO_9; clear HB; have HO_9 := n0_; have HB := n1_; clear n0_ n1_; (try clear hb); (try clear hb2); (try clear hk); (try clear hi)) | (go_at_call 28; (with_reducible refine (stamp_Fewest.calls kj23 (wrap64 (a0 + 1)) _ _ l1 t404 t405 _ ?side1 ?side2 A57.out).mono ?_); (case side1 => repeat (first | exact (Kd.C_below HR1.out HB.out) | (with_reducible refine Kd.C_alloc ?_ _) | (with_reducible refine Kd.C_drewN ?_ _) | (with_reducible refine Kd.C_drew ?_))); (case side2 => exact HC1.out); rintro e w60 ⟨v406, rfl, ho0, hb⟩; have n0_ := Aside0.mk (Kd.R_elder' (by (with_reducible repeat (first | apply Kd.R_alloc | apply Kd.R_drewN | apply Kd.R_drew)); exact HO_9.out) (Kd.R_base ho0) hb); have n1_ := Aside0.mk (Kd.R_lower (Kd.R_new' ho0 (Kd.R_lt (by (with_reducible repeat (first | apply Kd.R_alloc | apply Kd.R_drewN | apply Kd.R_drew)); exact HO_9.out))) (below_size (by repeat (first | (with_reducible first | exact HB.out | apply below_alloc | apply pw_below_drewN | apply below_drew1) | exact HB.out)))); have n2_ := Aside0.mk (below_step (by repeat (first | (with_reducible first | exact HB.out | apply below_alloc | apply pw_below_drewN | apply below_drew1) | exact HB.out)) hb); clear HO_9; clear HB; have HO_9 := n0_; have HO407 := n1_; have HB := n2_; clear n0_ n1_ n2_; (try clear hb); (try clear hb2); (try clear hk); (try clear hi); (try clear ho0))))
                        (try simp only [Act.put, List.setIfInBounds_toArray, List.set_cons_zero, List.set_cons_succ])
                        go_cut [178] (fun v178 wc => ∃ (kq : Nat) (x178_57 : Bool), v178 = .bool x178_57 ∧ Aside0 (trishawlaw04_StampMore.j6 kq a0 t379 t404 x178_57 = some r) ∧ Aside0 (kq ≤ kj23) ∧ Aside0 (Kd.R (Kd.int .i64) 3 wc w.heap.size (fun k_ => some k_ ≠ (v406 : Value).ownBlock) v381 t379) ∧ Aside0 (Kd.R (Kd.int .i64) 3 wc w.heap.size (fun k_ => some k_ ≠ (v381 : Value).ownBlock) v406 t404) ∧ Aside0 (Below w.heap.size w wc))
                        case first =>
                          have H := HC58.out
                          clear HC58
                          by_cases c61 : t403 = 0
                          · as_aux_lemma =>
                            rw [if_pos c61] at H
                            have c61b0 : (t403 == 0) = true := beq_iff_eq.mpr c61
                            have c61b1 : (t403 != 0) = false := bne_eq_false_iff_eq.mpr c61
                            clear c61
                            (first | rw [c61b0] | (simp only [i64_w, i32_w]; rw [c61b0]) | skip)
                            by_cases c62 : t405 = 0
                            · as_aux_lemma =>
                              rw [if_pos c62] at H
                              have c62b0 : (t405 == 0) = true := beq_iff_eq.mpr c62
                              have c62b1 : (t405 != 0) = false := bne_eq_false_iff_eq.mpr c62
                              clear c62
                              by_cases c63 : t402 < t377
                              · rw [if_pos c63] at H
                                exact absurd H (by simp)
                              · rw [if_neg c63] at H
                                have c63b0 : decide (t402 < t377) = false := decide_eq_false c63
                                clear c63
                                have H' := Aside0.mk H
                                clear H
                                obtain ⟨Ao64, co64, eo64⟩ := Kd.R_slice HO407.out
                                subst eo64
                                obtain ⟨Ao65, co65, eo65⟩ := Kd.R_slice HO_9.out
                                subst eo65
                                go_wp2
                                repeat (go_quiet (fail); try go_wp2)
                                go_meet
                                case rel => exact ⟨_, (decide ((t404.length : Int) < (t379.length : Int))), (by first | rfl | (simp; done) | (simp [*]; done)), H', ⟨by have := HJ3.out; have := HJ11.out; have := HJ20.out; have := HJ23.out; first | omega | exact Nat.le_refl _⟩, ⟨by (with_reducible repeat (first | apply Kd.R_alloc | apply Kd.R_drewN | apply Kd.R_drew)); exact Kd.R_mono HO_9.out (fun _ hk => hk.2)⟩, ⟨by (with_reducible repeat (first | apply Kd.R_alloc | apply Kd.R_drewN | apply Kd.R_drew)); exact Kd.R_mono HO407.out (fun _ hk => hk.2)⟩, ⟨by repeat (first | (with_reducible first | exact HB.out | apply below_alloc | apply pw_below_drewN | apply below_drew1) | exact HB.out)⟩⟩
                            · rw [if_neg c62] at H
                              exact absurd H (by simp)
                          · rw [if_neg c61] at H
                            exact absurd H (by simp)
                        case rest =>
                          clear HC58
                          try clear c1
                          try clear c2
                          try clear p2
                          try clear c3
                          try clear p3
                          try clear q3
                          try clear hx3
                          try clear qi3
                          try clear c4
                          try clear p4
                          try clear q4
                          try clear hx4
                          try clear c5
                          try clear c5b0
                          try clear c5b1
                          try clear c6
                          try clear p6
                          try clear c7
                          try clear c10
                          try clear c15
                          try clear c15b0
                          try clear c15b1
                          try clear c16
                          try clear c16b0
                          try clear c16b1
                          try clear c17
                          try clear c17b0
                          try clear c17b1
                          try clear c18
                          try clear c18b0
                          try clear c18b1
                          try clear c19
                          try clear c19b0
                          try clear c20
                          try clear c22
                          try clear c22b0
                          try clear c22b1
                          try clear c25
                          try clear c37
                          try clear c37b0
                          try clear c37b1
                          try clear c38
                          try clear c38b0
                          try clear c38b1
                          try clear p38
                          try clear q38
                          try clear hx38
                          try clear qi38
                          try clear c39
                          try clear c39b0
                          try clear p39
                          try clear q39
                          try clear hx39
                          try clear p40
                          try clear q40
                          try clear hx40
                          try clear c42
                          try clear c43
                          try clear c43b0
                          try clear c44
                          try clear c44b0
                          try clear c45
                          try clear c45b0
                          try clear c46
                          try clear c46b0
                          try clear c47
                          try clear c47b0
                          try clear c48
                          try clear c48b0
                          try clear c53
                          try clear c53b0
                          try clear c53b1
                          try clear c61
                          try clear c61b0
                          try clear c61b1
                          try clear c62
                          try clear c62b0
                          try clear c62b1
                          try clear c63
                          try clear c63b0
                          try clear p64
                          try clear hx383_0
                          try clear hx397_0
                          try clear hx398_0
                          try clear hx399_0
                          try clear hx400_0
                          try clear p2
                          try clear p3
                          try clear p38
                          try clear p383
                          try clear p39
                          try clear p397
                          try clear p398
                          try clear p399
                          try clear p4
                          try clear p40
                          try clear p400
                          try clear p6
                          try clear q3
                          try clear q38
                          try clear q383
                          try clear q39
                          try clear q397
                          try clear q398
                          try clear q399
                          try clear q4
                          try clear q40
                          try clear q400
                          obtain ⟨kq, x178_57, rfl, HA, HJ57, HO_9, HO_19, HB⟩ := hcut
                          cases kq with
                          | zero => exact absurd HA.out (by simp [trishawlaw04_StampMore.j6])
                          | succ kj57 =>
                            have H := HA.out
                            clear HA
                            simp only [trishawlaw04_StampMore.j6] at H
                            by_cases c66 : x178_57 = true
                            · subst c66
                              have H1 : (none) = some r := by rw [if_pos rfl] at H; exact H
                              clear H
                              have H := H1
                              clear H1
                              exact absurd H (by simp)
                            · replace c66 := Bool.eq_false_iff.mpr c66
                              subst c66
                              have H1 : (trishawlaw04_StampMore.l1 kj57 a0 t379 t404 0) = some r := by rw [if_neg (show ¬ (false = true) by decide)] at H; exact H
                              clear H
                              have H := H1
                              clear H1
                              have H' := Aside0.mk H
                              clear H
                              go_wp2
                              repeat (go_quiet (fail); try go_wp2)
                              go_loopg [21] kj57 (fun kq v21 w' => ∃ (x21_6 : Int), v21 = .int .i64 x21_6 ∧ Aside0 (trishawlaw04_StampMore.l1 kq a0 t379 t404 x21_6 = some r) ∧ Aside0 (kq ≤ kj57) ∧ Aside0 (Kd.R (Kd.int .i64) 3 w' w.heap.size (fun k_ => some k_ ≠ (v406 : Value).ownBlock) v381 t379) ∧ Aside0 (Kd.R (Kd.int .i64) 3 w' w.heap.size (fun k_ => some k_ ≠ (v381 : Value).ownBlock) v406 t404) ∧ Aside0 (Below w.heap.size w w'))
                              case atStart => exact ⟨(0), (by first | rfl | (simp; done) | (simp [*]; done)), H', ⟨Nat.le_refl _⟩, ⟨by (with_reducible repeat (first | apply Kd.R_alloc | apply Kd.R_drewN | apply Kd.R_drew)); exact HO_9.out⟩, ⟨by (with_reducible repeat (first | apply Kd.R_alloc | apply Kd.R_drewN | apply Kd.R_drew)); exact HO_19.out⟩, ⟨by repeat (first | (with_reducible first | exact HB.out | apply below_alloc | apply pw_below_drewN | apply below_drew1) | exact HB.out)⟩⟩
                              case round =>
                                clear H'
                                try clear c1
                                try clear c2
                                try clear p2
                                try clear c3
                                try clear p3
                                try clear q3
                                try clear hx3
                                try clear qi3
                                try clear c4
                                try clear p4
                                try clear q4
                                try clear hx4
                                try clear c5
                                try clear c5b0
                                try clear c5b1
                                try clear c6
                                try clear p6
                                try clear c7
                                try clear c10
                                try clear c15
                                try clear c15b0
                                try clear c15b1
                                try clear c16
                                try clear c16b0
                                try clear c16b1
                                try clear c17
                                try clear c17b0
                                try clear c17b1
                                try clear c18
                                try clear c18b0
                                try clear c18b1
                                try clear c19
                                try clear c19b0
                                try clear c20
                                try clear c22
                                try clear c22b0
                                try clear c22b1
                                try clear c25
                                try clear c37
                                try clear c37b0
                                try clear c37b1
                                try clear c38
                                try clear c38b0
                                try clear c38b1
                                try clear p38
                                try clear q38
                                try clear hx38
                                try clear qi38
                                try clear c39
                                try clear c39b0
                                try clear p39
                                try clear q39
                                try clear hx39
                                try clear p40
                                try clear q40
                                try clear hx40
                                try clear c42
                                try clear c43
                                try clear c43b0
                                try clear c44
                                try clear c44b0
                                try clear c45
                                try clear c45b0
                                try clear c46
                                try clear c46b0
                                try clear c47
                                try clear c47b0
                                try clear c48
                                try clear c48b0
                                try clear c53
                                try clear c53b0
                                try clear c53b1
                                try clear c61
                                try clear c61b0
                                try clear c61b1
                                try clear c62
                                try clear c62b0
                                try clear c62b1
                                try clear c63
                                try clear c63b0
                                try clear p64
                                try clear c66
                                try clear hx383_0
                                try clear hx397_0
                                try clear hx398_0
                                try clear hx399_0
                                try clear hx400_0
                                try clear p2
                                try clear p3
                                try clear p38
                                try clear p383
                                try clear p39
                                try clear p397
                                try clear p398
                                try clear p399
                                try clear p4
                                try clear p40
                                try clear p400
                                try clear p6
                                try clear p64
                                try clear q3
                                try clear q38
                                try clear q383
                                try clear q39
                                try clear q397
                                try clear q398
                                try clear q399
                                try clear q4
                                try clear q40
                                try clear q400
                                obtain ⟨x21_6, rfl, HA, HK6, HO_9, HO_19, HB⟩ := hrel
                                cases gk with
                                | zero => exact absurd HA.out (by simp [trishawlaw04_StampMore.l1])
                                | succ k6 =>
                                  have H := HA.out
                                  clear HA
                                  simp only [trishawlaw04_StampMore.l1] at H
                                  by_cases c67 : x21_6 < (t379.length : Int)
                                  · as_aux_lemma =>
                                    rw [if_pos c67] at H
                                    have c67b0 : decide (x21_6 < (t379.length : Int)) = true := decide_eq_true c67
                                    clear c67
                                    by_cases c68 : 0 ≤ x21_6
                                    · as_aux_lemma =>
                                      rw [if_pos c68] at H
                                      have c68b0 : decide (0 ≤ x21_6) = true := decide_eq_true c68
                                      clear c68
                                      by_cases c69 : (rd t379 x21_6) ≥ 0
                                      · as_aux_lemma =>
                                        rw [if_pos c69] at H
                                        have c69b0 : decide (0 ≤ (rd t379 x21_6)) = true := decide_eq_true c69
                                        clear c69
                                        by_cases c70 : x21_6 < (t404.length : Int)
                                        · as_aux_lemma =>
                                          rw [if_pos c70] at H
                                          have c70b0 : decide (x21_6 < (t404.length : Int)) = true := decide_eq_true c70
                                          clear c70
                                          by_cases c71 : (rd t404 x21_6) = (rd t379 x21_6)
                                          · as_aux_lemma =>
                                            rw [if_pos c71] at H
                                            have c71b0 : ((rd t404 x21_6) == (rd t379 x21_6)) = true := beq_iff_eq.mpr c71
                                            have c71b1 : ((rd t404 x21_6) != (rd t379 x21_6)) = false := bne_eq_false_iff_eq.mpr c71
                                            clear c71
                                            by_cases c72 : (rd t379 x21_6) < 0
                                            · as_aux_lemma =>
                                              rw [if_pos c72] at H
                                              have c72b0 : decide ((rd t379 x21_6) < 0) = true := decide_eq_true c72
                                              clear c72
                                              by_cases c73 : (rd t404 x21_6) ≥ 0
                                              · as_aux_lemma =>
                                                rw [if_pos c73] at H
                                                have c73b0 : decide (0 ≤ (rd t404 x21_6)) = true := decide_eq_true c73
                                                clear c73
                                                by_cases c74 : (rd t404 x21_6) = (wrap64 (a0 + 1))
                                                · as_aux_lemma =>
                                                  rw [if_pos c74] at H
                                                  have c74b0 : ((rd t404 x21_6) == (wrap64 (a0 + 1))) = true := beq_iff_eq.mpr c74
                                                  have c74b1 : ((rd t404 x21_6) != (wrap64 (a0 + 1))) = false := bne_eq_false_iff_eq.mpr c74
                                                  clear c74
                                                  have H' := Aside0.mk H
                                                  clear H
                                                  obtain ⟨Ao75, co75, eo75⟩ := Kd.R_slice HO_9.out
                                                  subst eo75
                                                  have p408 : 0 ≤ (x21_6 : Int) := of_decide_eq_true (by first | (with_reducible assumption) | assumption)
                                                  have q408 : x21_6 < (t379.length : Int) := of_decide_eq_true (by first | (with_reducible assumption) | assumption)
                                                  obtain ⟨ad408, e408, hx408_0⟩ := Kd.at_int (Kd.R_reads' HO_9.out).2.2 x21_6 p408 q408
                                                  cases e408
                                                  replace p408 := eq_true p408
                                                  replace q408 := eq_true q408
                                                  obtain ⟨Ao76, co76, eo76⟩ := Kd.R_slice HO_19.out
                                                  subst eo76
                                                  have p409 : 0 ≤ (x21_6 : Int) := of_decide_eq_true (by first | (with_reducible assumption) | assumption)
                                                  have q409 : x21_6 < (t404.length : Int) := of_decide_eq_true (by first | (with_reducible assumption) | assumption)
                                                  obtain ⟨ad409, e409, hx409_0⟩ := Kd.at_int (Kd.R_reads' HO_19.out).2.2 x21_6 p409 q409
                                                  cases e409
                                                  replace p409 := eq_true p409
                                                  replace q409 := eq_true q409
                                                  have p410 : 0 ≤ (x21_6 : Int) := of_decide_eq_true (by first | (with_reducible assumption) | assumption)
                                                  have q410 : x21_6 < (t379.length : Int) := of_decide_eq_true (by first | (with_reducible assumption) | assumption)
                                                  obtain ⟨ad410, e410, hx410_0⟩ := Kd.at_int (Kd.R_reads' HO_9.out).2.2 x21_6 p410 q410
                                                  obtain rfl : ad408 = ad410 := (by injection e410)
                                                  replace p410 := eq_true p410
                                                  replace q410 := eq_true q410
                                                  have p411 : 0 ≤ (x21_6 : Int) := of_decide_eq_true (by first | (with_reducible assumption) | assumption)
                                                  have q411 : x21_6 < (t379.length : Int) := of_decide_eq_true (by first | (with_reducible assumption) | assumption)
                                                  obtain ⟨ad411, e411, hx411_0⟩ := Kd.at_int (Kd.R_reads' HO_9.out).2.2 x21_6 p411 q411
                                                  obtain rfl : ad408 = ad411 := (by injection e411)
                                                  replace p411 := eq_true p411
                                                  replace q411 := eq_true q411
                                                  have p412 : 0 ≤ (x21_6 : Int) := of_decide_eq_true (by first | (with_reducible assumption) | assumption)
                                                  have q412 : x21_6 < (t404.length : Int) := of_decide_eq_true (by first | (with_reducible assumption) | assumption)
                                                  obtain ⟨ad412, e412, hx412_0⟩ := Kd.at_int (Kd.R_reads' HO_19.out).2.2 x21_6 p412 q412
                                                  obtain rfl : ad409 = ad412 := (by injection e412)
                                                  replace p412 := eq_true p412
                                                  replace q412 := eq_true q412
                                                  have p413 : 0 ≤ (x21_6 : Int) := of_decide_eq_true (by first | (with_reducible assumption) | assumption)
                                                  have q413 : x21_6 < (t404.length : Int) := of_decide_eq_true (by first | (with_reducible assumption) | assumption)
                                                  obtain ⟨ad413, e413, hx413_0⟩ := Kd.at_int (Kd.R_reads' HO_19.out).2.2 x21_6 p413 q413
                                                  obtain rfl : ad409 = ad413 := (by injection e413)
                                                  replace p413 := eq_true p413
                                                  replace q413 := eq_true q413
                                                  go_wp2
                                                  repeat (go_quiet (fail); try go_wp2)
                                                  go_roundg k6
                                                  case measure => have := HJ3.out; have := HJ11.out; have := HJ20.out; have := HJ23.out; have := HJ57.out; have := HK6.out; omega
                                                  case rel => exact ⟨(wrap64 (x21_6 + 1)), (by first | rfl | (simp; done) | (simp [*]; done)), H', ⟨by have := HJ3.out; have := HJ11.out; have := HJ20.out; have := HJ23.out; have := HJ57.out; have := HK6.out; omega⟩, ⟨by (with_reducible repeat (first | apply Kd.R_alloc | apply Kd.R_drewN | apply Kd.R_drew)); exact HO_9.out⟩, ⟨by (with_reducible repeat (first | apply Kd.R_alloc | apply Kd.R_drewN | apply Kd.R_drew)); exact HO_19.out⟩, ⟨by repeat (first | (with_reducible first | exact HB.out | apply below_alloc | apply pw_below_drewN | apply below_drew1) | exact HB.out)⟩⟩
                                                · rw [if_neg c74] at H
                                                  exact absurd H (by simp)
                                              · as_aux_lemma =>
                                                rw [if_neg c73] at H
                                                have c73b0 : decide (0 ≤ (rd t404 x21_6)) = false := decide_eq_false c73
                                                clear c73
                                                have H' := Aside0.mk H
                                                clear H
                                                obtain ⟨Ao77, co77, eo77⟩ := Kd.R_slice HO_9.out
                                                subst eo77
                                                have p408 : 0 ≤ (x21_6 : Int) := of_decide_eq_true (by first | (with_reducible assumption) | assumption)
                                                have q408 : x21_6 < (t379.length : Int) := of_decide_eq_true (by first | (with_reducible assumption) | assumption)
                                                obtain ⟨ad408, e408, hx408_0⟩ := Kd.at_int (Kd.R_reads' HO_9.out).2.2 x21_6 p408 q408
                                                cases e408
                                                replace p408 := eq_true p408
                                                replace q408 := eq_true q408
                                                obtain ⟨Ao78, co78, eo78⟩ := Kd.R_slice HO_19.out
                                                subst eo78
                                                have p409 : 0 ≤ (x21_6 : Int) := of_decide_eq_true (by first | (with_reducible assumption) | assumption)
                                                have q409 : x21_6 < (t404.length : Int) := of_decide_eq_true (by first | (with_reducible assumption) | assumption)
                                                obtain ⟨ad409, e409, hx409_0⟩ := Kd.at_int (Kd.R_reads' HO_19.out).2.2 x21_6 p409 q409
                                                cases e409
                                                replace p409 := eq_true p409
                                                replace q409 := eq_true q409
                                                have p410 : 0 ≤ (x21_6 : Int) := of_decide_eq_true (by first | (with_reducible assumption) | assumption)
                                                have q410 : x21_6 < (t379.length : Int) := of_decide_eq_true (by first | (with_reducible assumption) | assumption)
                                                obtain ⟨ad410, e410, hx410_0⟩ := Kd.at_int (Kd.R_reads' HO_9.out).2.2 x21_6 p410 q410
                                                obtain rfl : ad408 = ad410 := (by injection e410)
                                                replace p410 := eq_true p410
                                                replace q410 := eq_true q410
                                                have p411 : 0 ≤ (x21_6 : Int) := of_decide_eq_true (by first | (with_reducible assumption) | assumption)
                                                have q411 : x21_6 < (t379.length : Int) := of_decide_eq_true (by first | (with_reducible assumption) | assumption)
                                                obtain ⟨ad411, e411, hx411_0⟩ := Kd.at_int (Kd.R_reads' HO_9.out).2.2 x21_6 p411 q411
                                                obtain rfl : ad408 = ad411 := (by injection e411)
                                                replace p411 := eq_true p411
                                                replace q411 := eq_true q411
                                                have p412 : 0 ≤ (x21_6 : Int) := of_decide_eq_true (by first | (with_reducible assumption) | assumption)
                                                have q412 : x21_6 < (t404.length : Int) := of_decide_eq_true (by first | (with_reducible assumption) | assumption)
                                                obtain ⟨ad412, e412, hx412_0⟩ := Kd.at_int (Kd.R_reads' HO_19.out).2.2 x21_6 p412 q412
                                                obtain rfl : ad409 = ad412 := (by injection e412)
                                                replace p412 := eq_true p412
                                                replace q412 := eq_true q412
                                                go_wp2
                                                repeat (go_quiet (fail); try go_wp2)
                                                go_roundg k6
                                                case measure => have := HJ3.out; have := HJ11.out; have := HJ20.out; have := HJ23.out; have := HJ57.out; have := HK6.out; omega
                                                case rel => exact ⟨(wrap64 (x21_6 + 1)), (by first | rfl | (simp; done) | (simp [*]; done)), H', ⟨by have := HJ3.out; have := HJ11.out; have := HJ20.out; have := HJ23.out; have := HJ57.out; have := HK6.out; omega⟩, ⟨by (with_reducible repeat (first | apply Kd.R_alloc | apply Kd.R_drewN | apply Kd.R_drew)); exact HO_9.out⟩, ⟨by (with_reducible repeat (first | apply Kd.R_alloc | apply Kd.R_drewN | apply Kd.R_drew)); exact HO_19.out⟩, ⟨by repeat (first | (with_reducible first | exact HB.out | apply below_alloc | apply pw_below_drewN | apply below_drew1) | exact HB.out)⟩⟩
                                            · as_aux_lemma =>
                                              rw [if_neg c72] at H
                                              have c72b0 : decide ((rd t379 x21_6) < 0) = false := decide_eq_false c72
                                              clear c72
                                              have H' := Aside0.mk H
                                              clear H
                                              obtain ⟨Ao79, co79, eo79⟩ := Kd.R_slice HO_9.out
                                              subst eo79
                                              have p408 : 0 ≤ (x21_6 : Int) := of_decide_eq_true (by first | (with_reducible assumption) | assumption)
                                              have q408 : x21_6 < (t379.length : Int) := of_decide_eq_true (by first | (with_reducible assumption) | assumption)
                                              obtain ⟨ad408, e408, hx408_0⟩ := Kd.at_int (Kd.R_reads' HO_9.out).2.2 x21_6 p408 q408
                                              cases e408
                                              replace p408 := eq_true p408
                                              replace q408 := eq_true q408
                                              obtain ⟨Ao80, co80, eo80⟩ := Kd.R_slice HO_19.out
                                              subst eo80
                                              have p409 : 0 ≤ (x21_6 : Int) := of_decide_eq_true (by first | (with_reducible assumption) | assumption)
                                              have q409 : x21_6 < (t404.length : Int) := of_decide_eq_true (by first | (with_reducible assumption) | assumption)
                                              obtain ⟨ad409, e409, hx409_0⟩ := Kd.at_int (Kd.R_reads' HO_19.out).2.2 x21_6 p409 q409
                                              cases e409
                                              replace p409 := eq_true p409
                                              replace q409 := eq_true q409
                                              have p410 : 0 ≤ (x21_6 : Int) := of_decide_eq_true (by first | (with_reducible assumption) | assumption)
                                              have q410 : x21_6 < (t379.length : Int) := of_decide_eq_true (by first | (with_reducible assumption) | assumption)
                                              obtain ⟨ad410, e410, hx410_0⟩ := Kd.at_int (Kd.R_reads' HO_9.out).2.2 x21_6 p410 q410
                                              obtain rfl : ad408 = ad410 := (by injection e410)
                                              replace p410 := eq_true p410
                                              replace q410 := eq_true q410
                                              have p411 : 0 ≤ (x21_6 : Int) := of_decide_eq_true (by first | (with_reducible assumption) | assumption)
                                              have q411 : x21_6 < (t379.length : Int) := of_decide_eq_true (by first | (with_reducible assumption) | assumption)
                                              obtain ⟨ad411, e411, hx411_0⟩ := Kd.at_int (Kd.R_reads' HO_9.out).2.2 x21_6 p411 q411
                                              obtain rfl : ad408 = ad411 := (by injection e411)
                                              replace p411 := eq_true p411
                                              replace q411 := eq_true q411
                                              go_wp2
                                              repeat (go_quiet (fail); try go_wp2)
                                              go_roundg k6
                                              case measure => have := HJ3.out; have := HJ11.out; have := HJ20.out; have := HJ23.out; have := HJ57.out; have := HK6.out; omega
                                              case rel => exact ⟨(wrap64 (x21_6 + 1)), (by first | rfl | (simp; done) | (simp [*]; done)), H', ⟨by have := HJ3.out; have := HJ11.out; have := HJ20.out; have := HJ23.out; have := HJ57.out; have := HK6.out; omega⟩, ⟨by (with_reducible repeat (first | apply Kd.R_alloc | apply Kd.R_drewN | apply Kd.R_drew)); exact HO_9.out⟩, ⟨by (with_reducible repeat (first | apply Kd.R_alloc | apply Kd.R_drewN | apply Kd.R_drew)); exact HO_19.out⟩, ⟨by repeat (first | (with_reducible first | exact HB.out | apply below_alloc | apply pw_below_drewN | apply below_drew1) | exact HB.out)⟩⟩
                                          · rw [if_neg c71] at H
                                            exact absurd H (by simp)
                                        · rw [if_neg c70] at H
                                          exact absurd H (by simp)
                                      · as_aux_lemma =>
                                        rw [if_neg c69] at H
                                        have c69b0 : decide (0 ≤ (rd t379 x21_6)) = false := decide_eq_false c69
                                        clear c69
                                        by_cases c81 : (rd t379 x21_6) < 0
                                        · as_aux_lemma =>
                                          rw [if_pos c81] at H
                                          have c81b0 : decide ((rd t379 x21_6) < 0) = true := decide_eq_true c81
                                          clear c81
                                          by_cases c82 : x21_6 < (t404.length : Int)
                                          · as_aux_lemma =>
                                            rw [if_pos c82] at H
                                            have c82b0 : decide (x21_6 < (t404.length : Int)) = true := decide_eq_true c82
                                            clear c82
                                            by_cases c83 : (rd t404 x21_6) ≥ 0
                                            · as_aux_lemma =>
                                              rw [if_pos c83] at H
                                              have c83b0 : decide (0 ≤ (rd t404 x21_6)) = true := decide_eq_true c83
                                              clear c83
                                              by_cases c84 : (rd t404 x21_6) = (wrap64 (a0 + 1))
                                              · as_aux_lemma =>
                                                rw [if_pos c84] at H
                                                have c84b0 : ((rd t404 x21_6) == (wrap64 (a0 + 1))) = true := beq_iff_eq.mpr c84
                                                have c84b1 : ((rd t404 x21_6) != (wrap64 (a0 + 1))) = false := bne_eq_false_iff_eq.mpr c84
                                                clear c84
                                                have H' := Aside0.mk H
                                                clear H
                                                obtain ⟨Ao85, co85, eo85⟩ := Kd.R_slice HO_9.out
                                                subst eo85
                                                have p408 : 0 ≤ (x21_6 : Int) := of_decide_eq_true (by first | (with_reducible assumption) | assumption)
                                                have q408 : x21_6 < (t379.length : Int) := of_decide_eq_true (by first | (with_reducible assumption) | assumption)
                                                obtain ⟨ad408, e408, hx408_0⟩ := Kd.at_int (Kd.R_reads' HO_9.out).2.2 x21_6 p408 q408
                                                cases e408
                                                replace p408 := eq_true p408
                                                replace q408 := eq_true q408
                                                have p414 : 0 ≤ (x21_6 : Int) := of_decide_eq_true (by first | (with_reducible assumption) | assumption)
                                                have q414 : x21_6 < (t379.length : Int) := of_decide_eq_true (by first | (with_reducible assumption) | assumption)
                                                obtain ⟨ad414, e414, hx414_0⟩ := Kd.at_int (Kd.R_reads' HO_9.out).2.2 x21_6 p414 q414
                                                obtain rfl : ad408 = ad414 := (by injection e414)
                                                replace p414 := eq_true p414
                                                replace q414 := eq_true q414
                                                obtain ⟨Ao86, co86, eo86⟩ := Kd.R_slice HO_19.out
                                                subst eo86
                                                have p415 : 0 ≤ (x21_6 : Int) := of_decide_eq_true (by first | (with_reducible assumption) | assumption)
                                                have q415 : x21_6 < (t404.length : Int) := of_decide_eq_true (by first | (with_reducible assumption) | assumption)
                                                obtain ⟨ad415, e415, hx415_0⟩ := Kd.at_int (Kd.R_reads' HO_19.out).2.2 x21_6 p415 q415
                                                cases e415
                                                replace p415 := eq_true p415
                                                replace q415 := eq_true q415
                                                have p416 : 0 ≤ (x21_6 : Int) := of_decide_eq_true (by first | (with_reducible assumption) | assumption)
                                                have q416 : x21_6 < (t404.length : Int) := of_decide_eq_true (by first | (with_reducible assumption) | assumption)
                                                obtain ⟨ad416, e416, hx416_0⟩ := Kd.at_int (Kd.R_reads' HO_19.out).2.2 x21_6 p416 q416
                                                obtain rfl : ad415 = ad416 := (by injection e416)
                                                replace p416 := eq_true p416
                                                replace q416 := eq_true q416
                                                go_wp2
                                                repeat (go_quiet (fail); try go_wp2)
                                                go_roundg k6
                                                case measure => have := HJ3.out; have := HJ11.out; have := HJ20.out; have := HJ23.out; have := HJ57.out; have := HK6.out; omega
                                                case rel => exact ⟨(wrap64 (x21_6 + 1)), (by first | rfl | (simp; done) | (simp [*]; done)), H', ⟨by have := HJ3.out; have := HJ11.out; have := HJ20.out; have := HJ23.out; have := HJ57.out; have := HK6.out; omega⟩, ⟨by (with_reducible repeat (first | apply Kd.R_alloc | apply Kd.R_drewN | apply Kd.R_drew)); exact HO_9.out⟩, ⟨by (with_reducible repeat (first | apply Kd.R_alloc | apply Kd.R_drewN | apply Kd.R_drew)); exact HO_19.out⟩, ⟨by repeat (first | (with_reducible first | exact HB.out | apply below_alloc | apply pw_below_drewN | apply below_drew1) | exact HB.out)⟩⟩
                                              · rw [if_neg c84] at H
                                                exact absurd H (by simp)
                                            · as_aux_lemma =>
                                              rw [if_neg c83] at H
                                              have c83b0 : decide (0 ≤ (rd t404 x21_6)) = false := decide_eq_false c83
                                              clear c83
                                              have H' := Aside0.mk H
                                              clear H
                                              obtain ⟨Ao87, co87, eo87⟩ := Kd.R_slice HO_9.out
                                              subst eo87
                                              have p408 : 0 ≤ (x21_6 : Int) := of_decide_eq_true (by first | (with_reducible assumption) | assumption)
                                              have q408 : x21_6 < (t379.length : Int) := of_decide_eq_true (by first | (with_reducible assumption) | assumption)
                                              obtain ⟨ad408, e408, hx408_0⟩ := Kd.at_int (Kd.R_reads' HO_9.out).2.2 x21_6 p408 q408
                                              cases e408
                                              replace p408 := eq_true p408
                                              replace q408 := eq_true q408
                                              have p414 : 0 ≤ (x21_6 : Int) := of_decide_eq_true (by first | (with_reducible assumption) | assumption)
                                              have q414 : x21_6 < (t379.length : Int) := of_decide_eq_true (by first | (with_reducible assumption) | assumption)
                                              obtain ⟨ad414, e414, hx414_0⟩ := Kd.at_int (Kd.R_reads' HO_9.out).2.2 x21_6 p414 q414
                                              obtain rfl : ad408 = ad414 := (by injection e414)
                                              replace p414 := eq_true p414
                                              replace q414 := eq_true q414
                                              obtain ⟨Ao88, co88, eo88⟩ := Kd.R_slice HO_19.out
                                              subst eo88
                                              have p415 : 0 ≤ (x21_6 : Int) := of_decide_eq_true (by first | (with_reducible assumption) | assumption)
                                              have q415 : x21_6 < (t404.length : Int) := of_decide_eq_true (by first | (with_reducible assumption) | assumption)
                                              obtain ⟨ad415, e415, hx415_0⟩ := Kd.at_int (Kd.R_reads' HO_19.out).2.2 x21_6 p415 q415
                                              cases e415
                                              replace p415 := eq_true p415
                                              replace q415 := eq_true q415
                                              go_wp2
                                              repeat (go_quiet (fail); try go_wp2)
                                              go_roundg k6
                                              case measure => have := HJ3.out; have := HJ11.out; have := HJ20.out; have := HJ23.out; have := HJ57.out; have := HK6.out; omega
                                              case rel => exact ⟨(wrap64 (x21_6 + 1)), (by first | rfl | (simp; done) | (simp [*]; done)), H', ⟨by have := HJ3.out; have := HJ11.out; have := HJ20.out; have := HJ23.out; have := HJ57.out; have := HK6.out; omega⟩, ⟨by (with_reducible repeat (first | apply Kd.R_alloc | apply Kd.R_drewN | apply Kd.R_drew)); exact HO_9.out⟩, ⟨by (with_reducible repeat (first | apply Kd.R_alloc | apply Kd.R_drewN | apply Kd.R_drew)); exact HO_19.out⟩, ⟨by repeat (first | (with_reducible first | exact HB.out | apply below_alloc | apply pw_below_drewN | apply below_drew1) | exact HB.out)⟩⟩
                                          · rw [if_neg c82] at H
                                            exact absurd H (by simp)
                                        · as_aux_lemma =>
                                          rw [if_neg c81] at H
                                          have c81b0 : decide ((rd t379 x21_6) < 0) = false := decide_eq_false c81
                                          clear c81
                                          have H' := Aside0.mk H
                                          clear H
                                          obtain ⟨Ao89, co89, eo89⟩ := Kd.R_slice HO_9.out
                                          subst eo89
                                          have p408 : 0 ≤ (x21_6 : Int) := of_decide_eq_true (by first | (with_reducible assumption) | assumption)
                                          have q408 : x21_6 < (t379.length : Int) := of_decide_eq_true (by first | (with_reducible assumption) | assumption)
                                          obtain ⟨ad408, e408, hx408_0⟩ := Kd.at_int (Kd.R_reads' HO_9.out).2.2 x21_6 p408 q408
                                          cases e408
                                          replace p408 := eq_true p408
                                          replace q408 := eq_true q408
                                          have p414 : 0 ≤ (x21_6 : Int) := of_decide_eq_true (by first | (with_reducible assumption) | assumption)
                                          have q414 : x21_6 < (t379.length : Int) := of_decide_eq_true (by first | (with_reducible assumption) | assumption)
                                          obtain ⟨ad414, e414, hx414_0⟩ := Kd.at_int (Kd.R_reads' HO_9.out).2.2 x21_6 p414 q414
                                          obtain rfl : ad408 = ad414 := (by injection e414)
                                          replace p414 := eq_true p414
                                          replace q414 := eq_true q414
                                          go_wp2
                                          repeat (go_quiet (fail); try go_wp2)
                                          go_roundg k6
                                          case measure => have := HJ3.out; have := HJ11.out; have := HJ20.out; have := HJ23.out; have := HJ57.out; have := HK6.out; omega
                                          case rel => exact ⟨(wrap64 (x21_6 + 1)), (by first | rfl | (simp; done) | (simp [*]; done)), H', ⟨by have := HJ3.out; have := HJ11.out; have := HJ20.out; have := HJ23.out; have := HJ57.out; have := HK6.out; omega⟩, ⟨by (with_reducible repeat (first | apply Kd.R_alloc | apply Kd.R_drewN | apply Kd.R_drew)); exact HO_9.out⟩, ⟨by (with_reducible repeat (first | apply Kd.R_alloc | apply Kd.R_drewN | apply Kd.R_drew)); exact HO_19.out⟩, ⟨by repeat (first | (with_reducible first | exact HB.out | apply below_alloc | apply pw_below_drewN | apply below_drew1) | exact HB.out)⟩⟩
                                    · rw [if_neg c68] at H
                                      exact absurd H (by simp)
                                  · as_aux_lemma =>
                                    rw [if_neg c67] at H
                                    have c67b0 : decide (x21_6 < (t379.length : Int)) = false := decide_eq_false c67
                                    clear c67
                                    replace H := Option.bind_eq_some_iff.mp H
                                    obtain ⟨t417, A900, H⟩ := H
                                    replace H : (some t417) = some r := H
                                    have A90 := Aside0.mk A900
                                    clear A900
                                    obtain rfl := Option.some.inj H
                                    obtain ⟨Ao91, co91, eo91⟩ := Kd.R_slice HO_9.out
                                    subst eo91
                                    go_wp2_with (first | (go_at_call 16; (with_reducible refine (trishawlaw04_alive.calls k6  t417 _ A90.out).mono ?_); rintro e w92 ⟨rfl, hb⟩; have n0_ := Aside0.mk (Kd.R_below (by (with_reducible repeat (first | apply Kd.R_alloc | apply Kd.R_drewN | apply Kd.R_drew)); exact HO_9.out) hb); have n1_ := Aside0.mk (Kd.R_below (by (with_reducible repeat (first | apply Kd.R_alloc | apply Kd.R_drewN | apply Kd.R_drew)); exact HO_19.out) hb); have n2_ := Aside0.mk (below_step (by repeat (first | (with_reducible first | exact HB.out | apply below_alloc | apply pw_below_drewN | apply below_drew1) | exact HB.out)) hb); clear HO_9; clear HO_19; clear HB; have HO_9 := n0_; have HO_19 := n1_; have HB := n2_; clear n0_ n1_ n2_; (try clear hb); (try clear hb2); (try clear hk); (try clear hi)))
                                    repeat (go_quiet (first | (go_at_call 16; (with_reducible refine (trishawlaw04_alive.calls k6  t417 _ A90.out).mono ?_); rintro e w92 ⟨rfl, hb⟩; have n0_ := Aside0.mk (Kd.R_below (by (with_reducible repeat (first | apply Kd.R_alloc | apply Kd.R_drewN | apply Kd.R_drew)); exact HO_9.out) hb); have n1_ := Aside0.mk (Kd.R_below (by (with_reducible repeat (first | apply Kd.R_alloc | apply Kd.R_drewN | apply Kd.R_drew)); exact HO_19.out) hb); have n2_ := Aside0.mk (below_step (by repeat (first | (with_reducible first | exact HB.out | apply below_alloc | apply pw_below_drewN | apply below_drew1) | exact HB.out)) hb); clear HO_9; clear HO_19; clear HB; have HO_9 := n0_; have HO_19 := n1_; have HB := n2_; clear n0_ n1_ n2_; (try clear hb); (try clear hb2); (try clear hk); (try clear hi))); try go_wp2_with (first | (go_at_call 16; (with_reducible refine (trishawlaw04_alive.calls k6  t417 _ A90.out).mono ?_); rintro e w92 ⟨rfl, hb⟩; have n0_ := Aside0.mk (Kd.R_below (by (with_reducible repeat (first | apply Kd.R_alloc | apply Kd.R_drewN | apply Kd.R_drew)); exact HO_9.out) hb); have n1_ := Aside0.mk (Kd.R_below (by (with_reducible repeat (first | apply Kd.R_alloc | apply Kd.R_drewN | apply Kd.R_drew)); exact HO_19.out) hb); have n2_ := Aside0.mk (below_step (by repeat (first | (with_reducible first | exact HB.out | apply below_alloc | apply pw_below_drewN | apply below_drew1) | exact HB.out)) hb); clear HO_9; clear HO_19; clear HB; have HO_9 := n0_; have HO_19 := n1_; have HB := n2_; clear n0_ n1_ n2_; (try clear hb); (try clear hb2); (try clear hk); (try clear hi))))
                                    go_ret
                                    exact ⟨by first | rfl | (simp [errW_none, errW_some] <;> rfl) | (simp [*, errW_none, errW_some] <;> rfl), by repeat (first | (with_reducible first | exact HB.out | apply below_alloc | apply pw_below_drewN | apply below_drew1) | exact HB.out)⟩
def trishawlaw04_StampMore.Pure : Prop := ∀ (a0 : Int) (l1 : List Int) (a2 : Int), (Lit.int .i64 a0).wf = true → l1.length ≤ maxLen → l1.length * 8 ≤ 140737488351232 → (∀ x ∈ l1, (Lit.int .i64 x).wf = true) → (Lit.int .u8 a2).wf = true → ∃ k, trishawlaw04_StampMore.f k a0 l1 a2 = some true
theorem trishawlaw04_StampMore.walk (P : trishawlaw04_StampMore.Pure) (a0 : Int) (a1 : Option Addr) (len1 cap1 : Nat) (z1 : List Int) (a2 : Int) (w : World) (w0 : (Lit.int .i64 a0).wf = true) (w1 : (a1 = none ∧ len1 = 0 ∧ cap1 = 0 ∧ z1 = []) ∨ ∃ x, a1 = some x ∧ len1 ≤ cap1 ∧ cap1 ≤ maxLen ∧ z1.length = cap1 ∧ (∀ i, i < z1.length → w.cell? (x.add i) = some (.int .i64 (z1.getD i 0))) ∧ ∀ n ∈ z1, (Lit.int .i64 n).wf = true) (y1 : len1 * 8 ≤ 140737488351232) (w2 : (Lit.int .u8 a2).wf = true) :
    Calls Try.prog 10 #[.int .i64 a0, .slice a1 len1 cap1, .int .u8 a2] w fun e w' => e = .returned (.bool true) ∧ Below w.heap.size w w' := by
  obtain ⟨l1, rfl, hr1, hm1, hw1, hc1⟩ := ReadsInt.ofRowC w1
  obtain ⟨k, h⟩ := P a0 l1 a2 w0 hm1 y1 hw1 w2
  refine (trishawlaw04_StampMore.calls k a0 _ _ l1 a2 true w (Kd.C_of_reads (d := (0 : Int)) (h1 := fun _ => rfl) hr1) hc1 h).mono ?_
  rintro e w' ⟨rfl, hd⟩
  exact ⟨rfl, hd⟩
end Go.Proofs.Ythbalcbibmdpnaa.OAll
