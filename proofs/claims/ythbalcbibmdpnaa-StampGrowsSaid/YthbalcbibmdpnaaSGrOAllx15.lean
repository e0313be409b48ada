/- A part of the proof of 'stampGrows_holds', for every input, without a condition. -/
import Derived.Test.YthbalcbibmdpnaaSGrOAllx0
import Derived.Test.YthbalcbibmdpnaaSGrOAllx2
import Derived.Test.YthbalcbibmdpnaaSGrOAllx3
import Derived.Test.YthbalcbibmdpnaaSGrRq
import Derived.Test.YthbalcbibmdpnaaSGrOAllx8
import Derived.Test.YthbalcbibmdpnaaSGrOAllx11
import Derived.Test.YthbalcbibmdpnaaSGrRx
namespace Go.Proofs.Ythbalcbibmdpnaa.OAll
open Go.RowKit Go.Proofs.YthbalcbibmdpnaaW.PrintWords Go.Proofs.YthbalcbibmdpnaaW.PrintLast Go.Proofs.YthbalcbibmdpnaaW.PrintMore
attribute [local go_sem] max2_int min2_int max_two min_two max_three min_three max_four min_four
set_option linter.unusedVariables false
set_option linter.unusedSimpArgs false
mutual
def trishawlaw04_StampGrows.j0 : Nat → Int → List Int → Int → Bool → Option (Bool)
 | 0, _, _, _, _ => none
 | k + 1, x0, x1, x2, x25 => if x25 = true then ((trishawlaw04_alive.f k).bind fun t523 => (some t523)) else ((stamp_Next.f k x0 x1).bind fun bt524 => (if (x1.length : Int) = 6 then (if bt524.2.2 = 8 then (if (wrap64 (bt524.1 + bt524.2.1)) = 0 then ((trishawlaw04_alive.f k).bind fun t527 => (some t527)) else (none)) else (none)) else (if bt524.2.2 = 0 then (if bt524.1 < 1 then (none) else (if bt524.1 > 200 then (none) else ((trishawref04_In.f k x1 bt524.1).bind fun t528 => (trishawlaw04_StampGrows.j1 k x0 x1 x2 bt524.1 bt524.2.1 t528)))) else (none))))
def trishawlaw04_StampGrows.j1 : Nat → Int → List Int → Int → Int → Int → Bool → Option (Bool)
 | 0, _, _, _, _, _, _ => none
 | k + 1, x0, x1, x2, x7, x8, x62 => if x62 = true then (none) else ((stamp_Range.f k x0 x1).bind fun bt529 => ((trishawref04_With.f k x1 x7).bind fun t531 => ((stamp_Range.f k x0 t531).bind fun bt534 => (if bt529.2 = 0 then (if bt534.2 = 0 then (if bt534.1 = x8 then (if x8 < bt529.1 then (none) else (if bt529.1 < 200 then (trishawlaw04_StampGrows.j2 k x0 x1 x2 x7 x8 (decide (x8 ≤ bt529.1))) else (trishawlaw04_StampGrows.j2 k x0 x1 x2 x7 x8 false))) else (none)) else (none)) else (none)))))
def trishawlaw04_StampGrows.j2 : Nat → Int → List Int → Int → Int → Int → Bool → Option (Bool)
 | 0, _, _, _, _, _, _ => none
 | k + 1, x0, x1, x2, x7, x8, x101 => if x101 = true then (none) else ((trishawref04_In.f k x1 (wrap64 (1 + (Int.tmod (wrap64 (x2)) 200)))).bind fun t536 => (if t536 = true then ((trishawlaw04_alive.f k).bind fun t537 => (some t537)) else ((trishawref04_With.f k x1 (wrap64 (1 + (Int.tmod (wrap64 (x2)) 200)))).bind fun t538 => ((stamp_Range.f k x0 t538).bind fun bt541 => (if bt541.2 = 0 then (if bt541.1 ≤ x8 then (if bt541.1 < x8 then ((trishawlaw04_alive.f k).bind fun t543 => (some t543)) else (if (wrap64 (1 + (Int.tmod (wrap64 (x2)) 200))) ≥ x7 then ((trishawlaw04_alive.f k).bind fun t544 => (some t544)) else (none))) else (none)) else (none))))))
end
def trishawlaw04_StampGrows.f (k : Nat) (a0 : Int) (l1 : List Int) (a2 : Int) : Option (Bool) := if (l1.length : Int) > 30 then (trishawlaw04_StampGrows.j0 k a0 l1 a2 true) else ((trishawref04_Ticket.f k a0 l1).bind fun t522 => (trishawlaw04_StampGrows.j0 k a0 l1 a2 (t522 != 0)))
set_option maxHeartbeats 8000000 in
set_option maxRecDepth 100000 in
theorem trishawlaw04_StampGrows.calls (k : Nat) (a0 : Int) (A1 : Option Addr) (c1 : Nat) (l1 : List Int) (a2 : Int) (r : Bool) (w : World) (hr1 : Kd.C (Kd.int .i64) w A1 l1.length l1) (hc1 : l1.length ≤ c1) (h : trishawlaw04_StampGrows.f k a0 l1 a2 = some r) :
  Calls Try.prog 14 #[.int .i64 a0, .slice A1 l1.length c1, .int .u8 a2] w fun e w' => e = .returned (.bool r) ∧ Below w.heap.size w w' := by
 have HR1 := Aside0.mk hr1
 have HC1 := Aside0.mk hc1
 clear hr1 hc1
 have HB := Aside0.mk (Below.refl w.heap.size w)
 have H : (if (l1.length : Int) > 30 then (trishawlaw04_StampGrows.j0 k a0 l1 a2 true) else ((trishawref04_Ticket.f k a0 l1).bind fun t522 => (trishawlaw04_StampGrows.j0 k a0 l1 a2 (t522 != 0)))) = some r := h
 clear h
 have HC4 := Aside0.mk H
 clear H
 go_enter Try.func14, Try.ntmps14
 go_upto_region 1 with (fail)
 go_cut [25] (fun v25 wc => ∃ (kq : Nat) (x25_3 : Bool), v25 = .bool x25_3 ∧ Aside0 (trishawlaw04_StampGrows.j0 kq a0 l1 a2 x25_3 = some r) ∧ Aside0 (kq ≤ k) ∧ Aside0 (Below w.heap.size w wc))
 case first =>
  have H := HC4.out
  clear HC4
  by_cases c5 : (l1.length : Int) > 30
  ·rw [if_pos c5] at H
   have c5b0 : decide (30 < (l1.length : Int)) = true := decide_eq_true c5
   have c5b1 : decide (30 < l1.length) = true := decide_eq_true (by omega)
   clear c5
   (first | rw [c5b0] | (simp only [i64_w, i32_w]; rw [c5b0]) | skip)
   have H' := Aside0.mk H
   clear H
   go_wp2
   go_meet
   case rel => exact ⟨_, (true), (by first | rfl | (simp; done) | (simp [*]; done)), H', ⟨by first | omega | exact Nat.le_refl _⟩, ⟨by repeat (first | (with_reducible first | exact HB.out | apply below_alloc | apply pw_below_drewN | apply below_drew1) | exact HB.out)⟩⟩
  ·rw [if_neg c5] at H
   have c5b0 : decide (30 < (l1.length : Int)) = false := decide_eq_false c5
   have c5b1 : decide (30 < l1.length) = false := decide_eq_false (by omega)
   clear c5
   (first | rw [c5b0] | (simp only [i64_w, i32_w]; rw [c5b0]) | skip)
   replace H := Option.bind_eq_some_iff.mp H
   obtain ⟨t522, A60, H⟩ := H
   replace H : (trishawlaw04_StampGrows.j0 k a0 l1 a2 (t522 != 0)) = some r := H
   have A6 := Aside0.mk A60
   clear A60
   have H' := Aside0.mk H
   clear H
   go_wp2_with (first | (go_at_call 24; (with_reducible refine (trishawref04_Ticket.calls k a0 _ _ l1 t522 _ ?side1 ?side2 A6.out).mono ?_); (case side1 => repeat (first | exact (Kd.C_below HR1.out HB.out) | (with_reducible refine Kd.C_alloc ?_ _) | (with_reducible refine Kd.C_drewN ?_ _) | (with_reducible refine Kd.C_drew ?_))); (case side2 => exact HC1.out); rintro e w' ⟨rfl, ⟨nd, rfl⟩⟩))
   go_meet
   case rel => exact ⟨_, ((t522 != 0)), (by first | rfl | (simp; done) | (simp [*]; done)), H', ⟨by first | omega | exact Nat.le_refl _⟩, ⟨by repeat (first | (with_reducible first | exact HB.out | apply below_alloc | apply pw_below_drewN | apply below_drew1) | exact HB.out)⟩⟩
 case rest =>
  clear HC4
  try clear c1
  try clear p2
  try clear c5
  try clear c5b0
  try clear c5b1
  obtain ⟨kq, x25_3, rfl, HA, HJ3, HB⟩ := hcut
  cases kq with
  | zero => exact absurd HA.out (by simp [trishawlaw04_StampGrows.j0])
  | succ kj3 =>
   have H := HA.out
   clear HA
   simp only [trishawlaw04_StampGrows.j0] at H
   by_cases c7 : x25_3 = true
   ·subst c7
    have H1 : ((trishawlaw04_alive.f kj3).bind fun t523 => (some t523)) = some r := by rw [if_pos rfl] at H; exact H
    clear H
    have H := H1
    clear H1
    replace H := Option.bind_eq_some_iff.mp H
    obtain ⟨t523, A80, H⟩ := H
    replace H : (some t523) = some r := H
    have A8 := Aside0.mk A80
    clear A80
    obtain rfl := Option.some.inj H
    go_wp2_with (first | ((with_reducible refine gate_callee (f := 16) rfl ?_); refine goesL_ (some 26) rfl rfl Try.func16 (by kernel_rfl) rfl #[] rfl (by (try simp only [List.map_toArray, List.map_cons, List.map_nil]); first | done | rfl | (simp only [List.length_drop, List.length_take]; rfl)) ?_; (with_reducible refine (trishawlaw04_alive.calls kj3  t523 _ A8.out).mono ?_); rintro e w9 ⟨rfl, hb⟩; refine ⟨_, rfl, ?_⟩; have n0_ := Aside0.mk (below_step (by repeat (first | (with_reducible first | exact HB.out | apply below_alloc | apply pw_below_drewN | apply below_drew1) | exact HB.out)) hb); clear HB; have HB := n0_; clear n0_; (try clear hb); (try clear hb2); (try clear hk); (try clear hi)))
    go_ret
    exact ⟨by first | rfl | (simp [errW_none, errW_some] <;> rfl) | (simp [*, errW_none, errW_some] <;> rfl), by repeat (first | (with_reducible first | exact HB.out | apply below_alloc | apply pw_below_drewN | apply below_drew1) | exact HB.out)⟩
   ·replace c7 := Bool.eq_false_iff.mpr c7
    subst c7
    have H1 : ((stamp_Next.f kj3 a0 l1).bind fun bt524 => (if (l1.length : Int) = 6 then (if bt524.2.2 = 8 then (if (wrap64 (bt524.1 + bt524.2.1)) = 0 then ((trishawlaw04_alive.f kj3).bind fun t527 => (some t527)) else (none)) else (none)) else (if bt524.2.2 = 0 then (if bt524.1 < 1 then (none) else (if bt524.1 > 200 then (none) else ((trishawref04_In.f kj3 l1 bt524.1).bind fun t528 => (trishawlaw04_StampGrows.j1 kj3 a0 l1 a2 bt524.1 bt524.2.1 t528)))) else (none)))) = some r := by rw [if_neg (show ¬ (false = true) by decide)] at H; exact H
    clear H
    have H := H1
    clear H1
    replace H := Option.bind_eq_some_iff.mp H
    obtain ⟨⟨t524, t525, t526⟩, A100, H⟩ := H
    replace H : (if (l1.length : Int) = 6 then (if t526 = 8 then (if (wrap64 (t524 + t525)) = 0 then ((trishawlaw04_alive.f kj3).bind fun t527 => (some t527)) else (none)) else (none)) else (if t526 = 0 then (if t524 < 1 then (none) else (if t524 > 200 then (none) else ((trishawref04_In.f kj3 l1 t524).bind fun t528 => (trishawlaw04_StampGrows.j1 kj3 a0 l1 a2 t524 t525 t528)))) else (none))) = some r := H
    have A10 := Aside0.mk A100
    clear A100
    by_cases c11 : (l1.length : Int) = 6
    ·rw [if_pos c11] at H
     have c11b0 : ((l1.length : Int) == 6) = true := beq_iff_eq.mpr c11
     have c11b1 : ((l1.length : Int) != 6) = false := bne_eq_false_iff_eq.mpr c11
     clear c11
     by_cases c12 : t526 = 8
     ·rw [if_pos c12] at H
      have c12b0 : (t526 == 8) = true := beq_iff_eq.mpr c12
      have c12b1 : (t526 != 8) = false := bne_eq_false_iff_eq.mpr c12
      clear c12
      by_cases c13 : (wrap64 (t524 + t525)) = 0
      ·rw [if_pos c13] at H
       have c13b0 : ((wrap64 (t524 + t525)) == 0) = true := beq_iff_eq.mpr c13
       have c13b1 : ((wrap64 (t524 + t525)) != 0) = false := bne_eq_false_iff_eq.mpr c13
       clear c13
       replace H := Option.bind_eq_some_iff.mp H
       obtain ⟨t527, A140, H⟩ := H
       replace H : (some t527) = some r := H
       have A14 := Aside0.mk A140
       clear A140
       obtain rfl := Option.some.inj H
       go_wp2_with (first | ((with_reducible refine gate_callee (f := 37) rfl ?_); refine goesL_ (some 30) rfl rfl Try.func37 (by kernel_rfl) rfl #[.int .i64 a0, .slice A1 l1.length c1] rfl (by (try simp only [List.map_toArray, List.map_cons, List.map_nil]); first | done | rfl | (simp only [List.length_drop, List.length_take]; rfl)) ?_; (with_reducible refine (stamp_Next.calls kj3 a0 _ _ l1 t524 t525 t526 _ ?side1 ?side2 A10.out).mono ?_); (case side1 => repeat (first | exact (Kd.C_below HR1.out HB.out) | (with_reducible refine Kd.C_alloc ?_ _) | (with_reducible refine Kd.C_drewN ?_ _) | (with_reducible refine Kd.C_drew ?_))); (case side2 => exact HC1.out); rintro e w15 ⟨rfl, hb⟩; refine ⟨_, rfl, ?_⟩; have n0_ := Aside0.mk (below_step (by repeat (first | (with_reducible first | exact HB.out | apply below_alloc | apply pw_below_drewN | apply below_drew1) | exact HB.out)) hb); clear HB; have HB := n0_; clear n0_; (try clear hb); (try clear hb2); (try clear hk); (try clear hi)) | (go_at_call 16; (with_reducible refine (trishawlaw04_alive.calls kj3  t527 _ A14.out).mono ?_); rintro e w16 ⟨rfl, hb⟩; have n0_ := Aside0.mk (below_step (by repeat (first | (with_reducible first | exact HB.out | apply below_alloc | apply pw_below_drewN | apply below_drew1) | exact HB.out)) hb); clear HB; have HB := n0_; clear n0_; (try clear hb); (try clear hb2); (try clear hk); (try clear hi)))
       go_ret
       exact ⟨by first | rfl | (simp [errW_none, errW_some] <;> rfl) | (simp [*, errW_none, errW_some] <;> rfl), by repeat (first | (with_reducible first | exact HB.out | apply below_alloc | apply pw_below_drewN | apply below_drew1) | exact HB.out)⟩
      ·rw [if_neg c13] at H
       exact absurd H (by simp)
     ·rw [if_neg c12] at H
      exact absurd H (by simp)
    ·rw [if_neg c11] at H
     have c11b0 : ((l1.length : Int) == 6) = false := beq_eq_false_iff_ne.mpr c11
     have c11b1 : ((l1.length : Int) != 6) = true := bne_iff_ne.mpr c11
     have HC17 := Aside0.mk H
     clear H
     go_upto_region 6 with (first | ((with_reducible refine gate_callee (f := 37) rfl ?_); refine goesL_ (some 30) rfl rfl Try.func37 (by kernel_rfl) rfl #[.int .i64 a0, .slice A1 l1.length c1] rfl (by (try simp only [List.map_toArray, List.map_cons, List.map_nil]); first | done | rfl | (simp only [List.length_drop, List.length_take]; rfl)) ?_; (with_reducible refine (stamp_Next.calls kj3 a0 _ _ l1 t524 t525 t526 _ ?side1 ?side2 A10.out).mono ?_); (case side1 => repeat (first | exact (Kd.C_below HR1.out HB.out) | (with_reducible refine Kd.C_alloc ?_ _) | (with_reducible refine Kd.C_drewN ?_ _) | (with_reducible refine Kd.C_drew ?_))); (case side2 => exact HC1.out); rintro e w18 ⟨rfl, hb⟩; refine ⟨_, rfl, ?_⟩; have n0_ := Aside0.mk (below_step (by repeat (first | (with_reducible first | exact HB.out | apply below_alloc | apply pw_below_drewN | apply below_drew1) | exact HB.out)) hb); clear HB; have HB := n0_; clear n0_; (try clear hb); (try clear hb2); (try clear hk); (try clear hi)))
     (try simp only [Act.put, List.setIfInBounds_toArray, List.set_cons_zero, List.set_cons_succ])
     go_cut [62] (fun v62 wc => ∃ (kq : Nat) (x62_16 : Bool), v62 = .bool x62_16 ∧ Aside0 (trishawlaw04_StampGrows.j1 kq a0 l1 a2 t524 t525 x62_16 = some r) ∧ Aside0 (kq ≤ kj3) ∧ Aside0 (Below w.heap.size w wc))
     case first =>
      have H := HC17.out
      clear HC17
      by_cases c19 : t526 = 0
      ·rw [if_pos c19] at H
       have c19b0 : (t526 == 0) = true := beq_iff_eq.mpr c19
       have c19b1 : (t526 != 0) = false := bne_eq_false_iff_eq.mpr c19
       clear c19
       (first | rw [c19b0] | (simp only [i64_w, i32_w]; rw [c19b0]) | skip)
       by_cases c20 : t524 < 1
       ·rw [if_pos c20] at H
        exact absurd H (by simp)
       ·rw [if_neg c20] at H
        have c20b0 : decide (t524 < 1) = false := decide_eq_false c20
        clear c20
        by_cases c21 : t524 > 200
        ·rw [if_pos c21] at H
         exact absurd H (by simp)
        ·rw [if_neg c21] at H
         have c21b0 : decide (200 < t524) = false := decide_eq_false c21
         clear c21
         replace H := Option.bind_eq_some_iff.mp H
         obtain ⟨t528, A220, H⟩ := H
         replace H : (trishawlaw04_StampGrows.j1 kj3 a0 l1 a2 t524 t525 t528) = some r := H
         have A22 := Aside0.mk A220
         clear A220
         have H' := Aside0.mk H
         clear H
         go_wp2_with (first | (go_at_call 31; (with_reducible refine (trishawref04_In.calls kj3 _ _ l1 t524 t528 _ ?side1 ?side2 A22.out).mono ?_); (case side1 => repeat (first | exact (Kd.C_below HR1.out HB.out) | (with_reducible refine Kd.C_alloc ?_ _) | (with_reducible refine Kd.C_drewN ?_ _) | (with_reducible refine Kd.C_drew ?_))); (case side2 => exact HC1.out); rintro e w' ⟨rfl, ⟨nd, rfl⟩⟩))
         go_meet
         case rel => exact ⟨_, (t528), (by first | rfl | (simp; done) | (simp [*]; done)), H', ⟨by have := HJ3.out; first | omega | exact Nat.le_refl _⟩, ⟨by repeat (first | (with_reducible first | exact HB.out | apply below_alloc | apply pw_below_drewN | apply below_drew1) | exact HB.out)⟩⟩
      ·rw [if_neg c19] at H
       exact absurd H (by simp)
     case rest =>
      clear HC17
      try clear c1
      try clear c2
      try clear p2
      try clear c3
      try clear c5
      try clear c5b0
      try clear c5b1
      try clear p6
      try clear c7
      try clear c11
      try clear c11b0
      try clear c11b1
      try clear c12
      try clear c12b0
      try clear c12b1
      try clear c13
      try clear c13b0
      try clear c13b1
      try clear c14
      try clear c16
      try clear c19
      try clear c19b0
      try clear c19b1
      try clear c20
      try clear c20b0
      try clear c21
      try clear c21b0
      try clear p2
      obtain ⟨kq, x62_16, rfl, HA, HJ16, HB⟩ := hcut
      cases kq with
      | zero => exact absurd HA.out (by simp [trishawlaw04_StampGrows.j1])
      | succ kj16 =>
       have H := HA.out
       clear HA
       simp only [trishawlaw04_StampGrows.j1] at H
       by_cases c23 : x62_16 = true
       ·subst c23
        have H1 : (none) = some r := by rw [if_pos rfl] at H; exact H
        clear H
        have H := H1
        clear H1
        exact absurd H (by simp)
       ·replace c23 := Bool.eq_false_iff.mpr c23
        subst c23
        have H1 : ((stamp_Range.f kj16 a0 l1).bind fun bt529 => ((trishawref04_With.f kj16 l1 t524).bind fun t531 => ((stamp_Range.f kj16 a0 t531).bind fun bt534 => (if bt529.2 = 0 then (if bt534.2 = 0 then (if bt534.1 = t525 then (if t525 < bt529.1 then (none) else (if bt529.1 < 200 then (trishawlaw04_StampGrows.j2 kj16 a0 l1 a2 t524 t525 (decide (t525 ≤ bt529.1))) else (trishawlaw04_StampGrows.j2 kj16 a0 l1 a2 t524 t525 false))) else (none)) else (none)) else (none))))) = some r := by rw [if_neg (show ¬ (false = true) by decide)] at H; exact H
        clear H
        have H := H1
        clear H1
        replace H := Option.bind_eq_some_iff.mp H
        obtain ⟨⟨t529, t530⟩, A240, H⟩ := H
        replace H : ((trishawref04_With.f kj16 l1 t524).bind fun t531 => ((stamp_Range.f kj16 a0 t531).bind fun bt534 => (if t530 = 0 then (if bt534.2 = 0 then (if bt534.1 = t525 then (if t525 < t529 then (none) else (if t529 < 200 then (trishawlaw04_StampGrows.j2 kj16 a0 l1 a2 t524 t525 (decide (t525 ≤ t529))) else (trishawlaw04_StampGrows.j2 kj16 a0 l1 a2 t524 t525 false))) else (none)) else (none)) else (none)))) = some r := H
        have A24 := Aside0.mk A240
        clear A240
        replace H := Option.bind_eq_some_iff.mp H
        obtain ⟨t531, A250, H⟩ := H
        replace H : ((stamp_Range.f kj16 a0 t531).bind fun bt534 => (if t530 = 0 then (if bt534.2 = 0 then (if bt534.1 = t525 then (if t525 < t529 then (none) else (if t529 < 200 then (trishawlaw04_StampGrows.j2 kj16 a0 l1 a2 t524 t525 (decide (t525 ≤ t529))) else (trishawlaw04_StampGrows.j2 kj16 a0 l1 a2 t524 t525 false))) else (none)) else (none)) else (none))) = some r := H
        have A25 := Aside0.mk A250
        clear A250
        replace H := Option.bind_eq_some_iff.mp H
        obtain ⟨⟨t534, t535⟩, A260, H⟩ := H
        replace H : (if t530 = 0 then (if t535 = 0 then (if t534 = t525 then (if t525 < t529 then (none) else (if t529 < 200 then (trishawlaw04_StampGrows.j2 kj16 a0 l1 a2 t524 t525 (decide (t525 ≤ t529))) else (trishawlaw04_StampGrows.j2 kj16 a0 l1 a2 t524 t525 false))) else (none)) else (none)) else (none)) = some r := H
        have A26 := Aside0.mk A260
        clear A260
        have HC27 := Aside0.mk H
        clear H
        go_upto_region 10 with (first | ((with_reducible refine gate_callee (f := 26) rfl ?_); refine goesL_ (some 66) rfl rfl Try.func26 (by kernel_rfl) rfl #[.int .i64 a0, .slice A1 l1.length c1] rfl (by (try simp only [List.map_toArray, List.map_cons, List.map_nil]); first | done | rfl | (simp only [List.length_drop, List.length_take]; rfl)) ?_; (with_reducible refine (stamp_Range.calls kj16 a0 _ _ l1 t529 t530 _ ?side1 ?side2 A24.out).mono ?_); (case side1 => repeat (first | exact (Kd.C_below HR1.out HB.out) | (with_reducible refine Kd.C_alloc ?_ _) | (with_reducible refine Kd.C_drewN ?_ _) | (with_reducible refine Kd.C_drew ?_))); (case side2 => exact HC1.out); rintro e w28 ⟨rfl, hb⟩; refine ⟨_, rfl, ?_⟩; have n0_ := Aside0.mk (below_step (by repeat (first | (with_reducible first | exact HB.out | apply below_alloc | apply pw_below_drewN | apply below_drew1) | exact HB.out)) hb); clear HB; have HB := n0_; clear n0_; (try clear hb); (try clear hb2); (try clear hk); (try clear hi)) | ((with_reducible refine gate_callee (f := 32) rfl ?_); refine goesL_ (some 73) rfl rfl Try.func32 (by kernel_rfl) rfl #[.slice A1 l1.length c1, .int .i64 t524] rfl (by (try simp only [List.map_toArray, List.map_cons, List.map_nil]); first | done | rfl | (simp only [List.length_drop, List.length_take]; rfl)) ?_; (with_reducible refine (trishawref04_With.calls kj16 _ _ l1 t524 t531 _ ?side1 ?side2 A25.out).mono ?_); (case side1 => repeat (first | exact (Kd.C_below HR1.out HB.out) | (with_reducible refine Kd.C_alloc ?_ _) | (with_reducible refine Kd.C_drewN ?_ _) | (with_reducible refine Kd.C_drew ?_))); (case side2 => exact HC1.out); rintro e w29 ⟨v532, rfl, ho0, hb⟩; refine ⟨_, rfl, ?_⟩; have n0_ := Aside0.mk (Kd.R_lower ho0 (below_size (by repeat (first | (with_reducible first | exact HB.out | apply below_alloc | apply pw_below_drewN | apply below_drew1) | exact HB.out)))); have n1_ := Aside0.mk (below_step (by repeat (first | (with_reducible first | exact HB.out | apply below_alloc | apply pw_below_drewN | apply below_drew1) | exact HB.out)) hb); clear HB; have HO533 := n0_; have HB := n1_; clear n0_ n1_; (try clear hb); (try clear hb2); (try clear hk); (try clear hi); (try clear ho0); obtain ⟨Ao30, co30, eo30⟩ := Kd.R_slice HO533.out; subst eo30) | ((with_reducible refine gate_callee (f := 26) rfl ?_); refine goesL_ (some 74) rfl rfl Try.func26 (by kernel_rfl) rfl #[.int .i64 a0, .slice Ao30 t531.length co30] rfl (by (try simp only [List.map_toArray, List.map_cons, List.map_nil]); first | done | rfl | (simp only [List.length_drop, List.length_take]; rfl)) ?_; (with_reducible refine (stamp_Range.calls kj16 a0 _ _ t531 t534 t535 _ ?side1 ?side2 A26.out).mono ?_); (case side1 => repeat (first | exact (Kd.R_reads' HO533.out).2.2 | (with_reducible refine Kd.C_alloc ?_ _) | (with_reducible refine Kd.C_drewN ?_ _) | (with_reducible refine Kd.C_drew ?_))); (case side2 => exact (Kd.R_reads' HO533.out).2.1); rintro e w31 ⟨rfl, hb⟩; refine ⟨_, rfl, ?_⟩; have n0_ := Aside0.mk (Kd.R_below (by (with_reducible repeat (first | apply Kd.R_alloc | apply Kd.R_drewN | apply Kd.R_drew)); exact HO533.out) hb); have n1_ := Aside0.mk (below_step (by repeat (first | (with_reducible first | exact HB.out | apply below_alloc | apply pw_below_drewN | apply below_drew1) | exact HB.out)) hb); clear HO533; clear HB; have HO533 := n0_; have HB := n1_; clear n0_ n1_; (try clear hb); (try clear hb2); (try clear hk); (try clear hi)))
        (try simp only [Act.put, List.setIfInBounds_toArray, List.set_cons_zero, List.set_cons_succ])
        go_cut [101] (fun v101 wc => ∃ (kq : Nat) (x101_26 : Bool), v101 = .bool x101_26 ∧ Aside0 (trishawlaw04_StampGrows.j2 kq a0 l1 a2 t524 t525 x101_26 = some r) ∧ Aside0 (kq ≤ kj16) ∧ Aside0 (Below w.heap.size w wc))
        case first =>
         have H := HC27.out
         clear HC27
         by_cases c32 : t530 = 0
         ·rw [if_pos c32] at H
          have c32b0 : (t530 == 0) = true := beq_iff_eq.mpr c32
          have c32b1 : (t530 != 0) = false := bne_eq_false_iff_eq.mpr c32
          clear c32
          (first | rw [c32b0] | (simp only [i64_w, i32_w]; rw [c32b0]) | skip)
          by_cases c33 : t535 = 0
          ·rw [if_pos c33] at H
           have c33b0 : (t535 == 0) = true := beq_iff_eq.mpr c33
           have c33b1 : (t535 != 0) = false := bne_eq_false_iff_eq.mpr c33
           clear c33
           by_cases c34 : t534 = t525
           ·rw [if_pos c34] at H
            have c34b0 : (t534 == t525) = true := beq_iff_eq.mpr c34
            have c34b1 : (t534 != t525) = false := bne_eq_false_iff_eq.mpr c34
            clear c34
            by_cases c35 : t525 < t529
            ·rw [if_pos c35] at H
             exact absurd H (by simp)
            ·rw [if_neg c35] at H
             have c35b0 : decide (t525 < t529) = false := decide_eq_false c35
             clear c35
             by_cases c36 : t529 < 200
             ·rw [if_pos c36] at H
              have c36b0 : decide (t529 < 200) = true := decide_eq_true c36
              clear c36
              have H' := Aside0.mk H
              clear H
              go_wp2
              go_meet
              case rel => exact ⟨_, (decide (t525 ≤ t529)), (by first | rfl | (simp; done) | (simp [*]; done)), H', ⟨by have := HJ3.out; have := HJ16.out; first | omega | exact Nat.le_refl _⟩, ⟨by repeat (first | (with_reducible first | exact HB.out | apply below_alloc | apply pw_below_drewN | apply below_drew1) | exact HB.out)⟩⟩
             ·rw [if_neg c36] at H
              have c36b0 : decide (t529 < 200) = false := decide_eq_false c36
              clear c36
              have H' := Aside0.mk H
              clear H
              go_wp2
              go_meet
              case rel => exact ⟨_, (false), (by first | rfl | (simp; done) | (simp [*]; done)), H', ⟨by have := HJ3.out; have := HJ16.out; first | omega | exact Nat.le_refl _⟩, ⟨by repeat (first | (with_reducible first | exact HB.out | apply below_alloc | apply pw_below_drewN | apply below_drew1) | exact HB.out)⟩⟩
           ·rw [if_neg c34] at H
            exact absurd H (by simp)
          ·rw [if_neg c33] at H
           exact absurd H (by simp)
         ·rw [if_neg c32] at H
          exact absurd H (by simp)
        case rest =>
         clear HC27
         try clear c1
         try clear c2
         try clear p2
         try clear c3
         try clear c5
         try clear c5b0
         try clear c5b1
         try clear p6
         try clear c7
         try clear c11
         try clear c11b0
         try clear c11b1
         try clear c12
         try clear c12b0
         try clear c12b1
         try clear c13
         try clear c13b0
         try clear c13b1
         try clear c14
         try clear c16
         try clear c19
         try clear c19b0
         try clear c19b1
         try clear c20
         try clear c20b0
         try clear c21
         try clear c21b0
         try clear c23
         try clear c26
         try clear c32
         try clear c32b0
         try clear c32b1
         try clear c33
         try clear c33b0
         try clear c33b1
         try clear c34
         try clear c34b0
         try clear c34b1
         try clear c35
         try clear c35b0
         try clear c36
         try clear c36b0
         try clear p2
         try clear p6
         obtain ⟨kq, x101_26, rfl, HA, HJ26, HB⟩ := hcut
         cases kq with
         | zero => exact absurd HA.out (by simp [trishawlaw04_StampGrows.j2])
         | succ kj26 =>
          have H := HA.out
          clear HA
          simp only [trishawlaw04_StampGrows.j2] at H
          by_cases c37 : x101_26 = true
          ·subst c37
           have H1 : (none) = some r := by rw [if_pos rfl] at H; exact H
           clear H
           have H := H1
           clear H1
           exact absurd H (by simp)
          ·replace c37 := Bool.eq_false_iff.mpr c37
           subst c37
           have H1 : ((trishawref04_In.f kj26 l1 (wrap64 (1 + (Int.tmod (wrap64 (a2)) 200)))).bind fun t536 => (if t536 = true then ((trishawlaw04_alive.f kj26).bind fun t537 => (some t537)) else ((trishawref04_With.f kj26 l1 (wrap64 (1 + (Int.tmod (wrap64 (a2)) 200)))).bind fun t538 => ((stamp_Range.f kj26 a0 t538).bind fun bt541 => (if bt541.2 = 0 then (if bt541.1 ≤ t525 then (if bt541.1 < t525 then ((trishawlaw04_alive.f kj26).bind fun t543 => (some t543)) else (if (wrap64 (1 + (Int.tmod (wrap64 (a2)) 200))) ≥ t524 then ((trishawlaw04_alive.f kj26).bind fun t544 => (some t544)) else (none))) else (none)) else (none)))))) = some r := by rw [if_neg (show ¬ (false = true) by decide)] at H; exact H
           clear H
           have H := H1
           clear H1
           replace H := Option.bind_eq_some_iff.mp H
           obtain ⟨t536, A380, H⟩ := H
           replace H : (if t536 = true then ((trishawlaw04_alive.f kj26).bind fun t537 => (some t537)) else ((trishawref04_With.f kj26 l1 (wrap64 (1 + (Int.tmod (wrap64 (a2)) 200)))).bind fun t538 => ((stamp_Range.f kj26 a0 t538).bind fun bt541 => (if bt541.2 = 0 then (if bt541.1 ≤ t525 then (if bt541.1 < t525 then ((trishawlaw04_alive.f kj26).bind fun t543 => (some t543)) else (if (wrap64 (1 + (Int.tmod (wrap64 (a2)) 200))) ≥ t524 then ((trishawlaw04_alive.f kj26).bind fun t544 => (some t544)) else (none))) else (none)) else (none))))) = some r := H
           have A38 := Aside0.mk A380
           clear A380
           by_cases c39 : t536 = true
           ·subst c39
            have H1 : ((trishawlaw04_alive.f kj26).bind fun t537 => (some t537)) = some r := by rw [if_pos rfl] at H; exact H
            clear H
            have H := H1
            clear H1
            replace H := Option.bind_eq_some_iff.mp H
            obtain ⟨t537, A400, H⟩ := H
            replace H : (some t537) = some r := H
            have A40 := Aside0.mk A400
            clear A400
            obtain rfl := Option.some.inj H
            go_wp2_with (first | ((with_reducible refine gate_callee (f := 31) rfl ?_); refine goesL_ (some 108) rfl rfl Try.func31 (by kernel_rfl) rfl #[.slice A1 l1.length c1, .int .i64 (wrap64 (1 + (Int.tmod (wrap64 (a2)) 200)))] rfl (by (try simp only [List.map_toArray, List.map_cons, List.map_nil]); first | done | rfl | (simp only [List.length_drop, List.length_take]; rfl)) ?_; (with_reducible refine (trishawref04_In.calls kj26 _ _ l1 (wrap64 (1 + (Int.tmod (wrap64 (a2)) 200))) true _ ?side1 ?side2 A38.out).mono ?_); (case side1 => repeat (first | exact (Kd.C_below HR1.out HB.out) | (with_reducible refine Kd.C_alloc ?_ _) | (with_reducible refine Kd.C_drewN ?_ _) | (with_reducible refine Kd.C_drew ?_))); (case side2 => exact HC1.out); rintro e w' ⟨rfl, ⟨nd, rfl⟩⟩; refine ⟨_, rfl, ?_⟩) | ((with_reducible refine gate_callee (f := 16) rfl ?_); refine goesL_ (some 109) rfl rfl Try.func16 (by kernel_rfl) rfl #[] rfl (by (try simp only [List.map_toArray, List.map_cons, List.map_nil]); first | done | rfl | (simp only [List.length_drop, List.length_take]; rfl)) ?_; (with_reducible refine (trishawlaw04_alive.calls kj26  t537 _ A40.out).mono ?_); rintro e w41 ⟨rfl, hb⟩; refine ⟨_, rfl, ?_⟩; have n0_ := Aside0.mk (below_step (by repeat (first | (with_reducible first | exact HB.out | apply below_alloc | apply pw_below_drewN | apply below_drew1) | exact HB.out)) hb); clear HB; have HB := n0_; clear n0_; (try clear hb); (try clear hb2); (try clear hk); (try clear hi)))
            go_ret
            exact ⟨by first | rfl | (simp [errW_none, errW_some] <;> rfl) | (simp [*, errW_none, errW_some] <;> rfl), by repeat (first | (with_reducible first | exact HB.out | apply below_alloc | apply pw_below_drewN | apply below_drew1) | exact HB.out)⟩
           ·replace c39 := Bool.eq_false_iff.mpr c39
            subst c39
            have H1 : ((trishawref04_With.f kj26 l1 (wrap64 (1 + (Int.tmod (wrap64 (a2)) 200)))).bind fun t538 => ((stamp_Range.f kj26 a0 t538).bind fun bt541 => (if bt541.2 = 0 then (if bt541.1 ≤ t525 then (if bt541.1 < t525 then ((trishawlaw04_alive.f kj26).bind fun t543 => (some t543)) else (if (wrap64 (1 + (Int.tmod (wrap64 (a2)) 200))) ≥ t524 then ((trishawlaw04_alive.f kj26).bind fun t544 => (some t544)) else (none))) else (none)) else (none)))) = some r := by rw [if_neg (show ¬ (false = true) by decide)] at H; exact H
            clear H
            have H := H1
            clear H1
            replace H := Option.bind_eq_some_iff.mp H
            obtain ⟨t538, A420, H⟩ := H
            replace H : ((stamp_Range.f kj26 a0 t538).bind fun bt541 => (if bt541.2 = 0 then (if bt541.1 ≤ t525 then (if bt541.1 < t525 then ((trishawlaw04_alive.f kj26).bind fun t543 => (some t543)) else (if (wrap64 (1 + (Int.tmod (wrap64 (a2)) 200))) ≥ t524 then ((trishawlaw04_alive.f kj26).bind fun t544 => (some t544)) else (none))) else (none)) else (none))) = some r := H
            have A42 := Aside0.mk A420
            clear A420
            replace H := Option.bind_eq_some_iff.mp H
            obtain ⟨⟨t541, t542⟩, A430, H⟩ := H
            replace H : (if t542 = 0 then (if t541 ≤ t525 then (if t541 < t525 then ((trishawlaw04_alive.f kj26).bind fun t543 => (some t543)) else (if (wrap64 (1 + (Int.tmod (wrap64 (a2)) 200))) ≥ t524 then ((trishawlaw04_alive.f kj26).bind fun t544 => (some t544)) else (none))) else (none)) else (none)) = some r := H
            have A43 := Aside0.mk A430
            clear A430
            by_cases c44 : t542 = 0
            ·rw [if_pos c44] at H
             have c44b0 : (t542 == 0) = true := beq_iff_eq.mpr c44
             have c44b1 : (t542 != 0) = false := bne_eq_false_iff_eq.mpr c44
             clear c44
             by_cases c45 : t541 ≤ t525
             ·rw [if_pos c45] at H
              have c45b0 : decide (t541 ≤ t525) = true := decide_eq_true c45
              clear c45
              by_cases c46 : t541 < t525
              ·rw [if_pos c46] at H
               have c46b0 : decide (t541 < t525) = true := decide_eq_true c46
               clear c46
               replace H := Option.bind_eq_some_iff.mp H
               obtain ⟨t543, A470, H⟩ := H
               replace H : (some t543) = some r := H
               have A47 := Aside0.mk A470
               clear A470
               obtain rfl := Option.some.inj H
               go_wp2_with (first | ((with_reducible refine gate_callee (f := 31) rfl ?_); refine goesL_ (some 108) rfl rfl Try.func31 (by kernel_rfl) rfl #[.slice A1 l1.length c1, .int .i64 (wrap64 (1 + (Int.tmod (wrap64 (a2)) 200)))] rfl (by (try simp only [List.map_toArray, List.map_cons, List.map_nil]); first | done | rfl | (simp only [List.length_drop, List.length_take]; rfl)) ?_; (with_reducible refine (trishawref04_In.calls kj26 _ _ l1 (wrap64 (1 + (Int.tmod (wrap64 (a2)) 200))) false _ ?side1 ?side2 A38.out).mono ?_); (case side1 => repeat (first | exact (Kd.C_below HR1.out HB.out) | (with_reducible refine Kd.C_alloc ?_ _) | (with_reducible refine Kd.C_drewN ?_ _) | (with_reducible refine Kd.C_drew ?_))); (case side2 => exact HC1.out); rintro e w' ⟨rfl, ⟨nd, rfl⟩⟩; refine ⟨_, rfl, ?_⟩) | ((with_reducible refine gate_callee (f := 32) rfl ?_); refine goesL_ (some 114) rfl rfl Try.func32 (by kernel_rfl) rfl #[.slice A1 l1.length c1, .int .i64 (wrap64 (1 + (Int.tmod (wrap64 (a2)) 200)))] rfl (by (try simp only [List.map_toArray, List.map_cons, List.map_nil]); first | done | rfl | (simp only [List.length_drop, List.length_take]; rfl)) ?_; (with_reducible refine (trishawref04_With.calls kj26 _ _ l1 (wrap64 (1 + (Int.tmod (wrap64 (a2)) 200))) t538 _ ?side1 ?side2 A42.out).mono ?_); (case side1 => repeat (first | exact (Kd.C_below HR1.out (by repeat (first | (with_reducible first | exact HB.out | apply below_alloc | apply pw_below_drewN | apply below_drew1) | exact HB.out))) | (with_reducible refine Kd.C_alloc ?_ _) | (with_reducible refine Kd.C_drewN ?_ _) | (with_reducible refine Kd.C_drew ?_))); (case side2 => exact HC1.out); rintro e w48 ⟨v539, rfl, ho0, hb⟩; refine ⟨_, rfl, ?_⟩; have n0_ := Aside0.mk (Kd.R_lower ho0 (below_size (by repeat (first | (with_reducible first | exact HB.out | apply below_alloc | apply pw_below_drewN | apply below_drew1) | exact HB.out)))); have n1_ := Aside0.mk (below_step (by repeat (first | (with_reducible first | exact HB.out | apply below_alloc | apply pw_below_drewN | apply below_drew1) | exact HB.out)) hb); clear HB; have HO540 := n0_; have HB := n1_; clear n0_ n1_; (try clear hb); (try clear hb2); (try clear hk); (try clear hi); (try clear ho0); obtain ⟨Ao49, co49, eo49⟩ := Kd.R_slice HO540.out; subst eo49) | ((with_reducible refine gate_callee (f := 26) rfl ?_); refine goesL_ (some 115) rfl rfl Try.func26 (by kernel_rfl) rfl #[.int .i64 a0, .slice Ao49 t538.length co49] rfl (by (try simp only [List.map_toArray, List.map_cons, List.map_nil]); first | done | rfl | (simp only [List.length_drop, List.length_take]; rfl)) ?_; (with_reducible refine (stamp_Range.calls kj26 a0 _ _ t538 t541 t542 _ ?side1 ?side2 A43.out).mono ?_); (case side1 => repeat (first | exact (Kd.R_reads' HO540.out).2.2 | (with_reducible refine Kd.C_alloc ?_ _) | (with_reducible refine Kd.C_drewN ?_ _) | (with_reducible refine Kd.C_drew ?_))); (case side2 => exact (Kd.R_reads' HO540.out).2.1); rintro e w50 ⟨rfl, hb⟩; refine ⟨_, rfl, ?_⟩; have n0_ := Aside0.mk (Kd.R_below (by (with_reducible repeat (first | apply Kd.R_alloc | apply Kd.R_drewN | apply Kd.R_drew)); exact HO540.out) hb); have n1_ := Aside0.mk (below_step (by repeat (first | (with_reducible first | exact HB.out | apply below_alloc | apply pw_below_drewN | apply below_drew1) | exact HB.out)) hb); clear HO540; clear HB; have HO540 := n0_; have HB := n1_; clear n0_ n1_; (try clear hb); (try clear hb2); (try clear hk); (try clear hi)) | (go_at_call 16; (with_reducible refine (trishawlaw04_alive.calls kj26  t543 _ A47.out).mono ?_); rintro e w51 ⟨rfl, hb⟩; have n0_ := Aside0.mk (Kd.R_below (by (with_reducible repeat (first | apply Kd.R_alloc | apply Kd.R_drewN | apply Kd.R_drew)); exact HO540.out) hb); have n1_ := Aside0.mk (below_step (by repeat (first | (with_reducible first | exact HB.out | apply below_alloc | apply pw_below_drewN | apply below_drew1) | exact HB.out)) hb); clear HO540; clear HB; have HO540 := n0_; have HB := n1_; clear n0_ n1_; (try clear hb); (try clear hb2); (try clear hk); (try clear hi)))
               go_ret
               exact ⟨by first | rfl | (simp [errW_none, errW_some] <;> rfl) | (simp [*, errW_none, errW_some] <;> rfl), by repeat (first | (with_reducible first | exact HB.out | apply below_alloc | apply pw_below_drewN | apply below_drew1) | exact HB.out)⟩
              ·rw [if_neg c46] at H
               have c46b0 : decide (t541 < t525) = false := decide_eq_false c46
               clear c46
               by_cases c52 : (wrap64 (1 + (Int.tmod (wrap64 (a2)) 200))) ≥ t524
               ·rw [if_pos c52] at H
                have c52b0 : decide (t524 ≤ (wrap64 (1 + (Int.tmod (wrap64 (a2)) 200)))) = true := decide_eq_true c52
                clear c52
                replace H := Option.bind_eq_some_iff.mp H
                obtain ⟨t544, A530, H⟩ := H
                replace H : (some t544) = some r := H
                have A53 := Aside0.mk A530
                clear A530
                obtain rfl := Option.some.inj H
                go_wp2_with (first | ((with_reducible refine gate_callee (f := 31) rfl ?_); refine goesL_ (some 108) rfl rfl Try.func31 (by kernel_rfl) rfl #[.slice A1 l1.length c1, .int .i64 (wrap64 (1 + (Int.tmod (wrap64 (a2)) 200)))] rfl (by (try simp only [List.map_toArray, List.map_cons, List.map_nil]); first | done | rfl | (simp only [List.length_drop, List.length_take]; rfl)) ?_; (with_reducible refine (trishawref04_In.calls kj26 _ _ l1 (wrap64 (1 + (Int.tmod (wrap64 (a2)) 200))) false _ ?side1 ?side2 A38.out).mono ?_); (case side1 => repeat (first | exact (Kd.C_below HR1.out HB.out) | (with_reducible refine Kd.C_alloc ?_ _) | (with_reducible refine Kd.C_drewN ?_ _) | (with_reducible refine Kd.C_drew ?_))); (case side2 => exact HC1.out); rintro e w' ⟨rfl, ⟨nd, rfl⟩⟩; refine ⟨_, rfl, ?_⟩) | ((with_reducible refine gate_callee (f := 32) rfl ?_); refine goesL_ (some 114) rfl rfl Try.func32 (by kernel_rfl) rfl #[.slice A1 l1.length c1, .int .i64 (wrap64 (1 + (Int.tmod (wrap64 (a2)) 200)))] rfl (by (try simp only [List.map_toArray, List.map_cons, List.map_nil]); first | done | rfl | (simp only [List.length_drop, List.length_take]; rfl)) ?_; (with_reducible refine (trishawref04_With.calls kj26 _ _ l1 (wrap64 (1 + (Int.tmod (wrap64 (a2)) 200))) t538 _ ?side1 ?side2 A42.out).mono ?_); (case side1 => repeat (first | exact (Kd.C_below HR1.out (by repeat (first | (with_reducible first | exact HB.out | apply below_alloc | apply pw_below_drewN | apply below_drew1) | exact HB.out))) | (with_reducible refine Kd.C_alloc ?_ _) | (with_reducible refine Kd.C_drewN ?_ _) | (with_reducible refine Kd.C_drew ?_))); (case side2 => exact HC1.out); rintro e w54 ⟨v539, rfl, ho0, hb⟩; refine ⟨_, rfl, ?_⟩; have n0_ := Aside0.mk (Kd.R_lower ho0 (below_size (by repeat (first | (with_reducible first | exact HB.out | apply below_alloc | apply pw_below_drewN | apply below_drew1) | exact HB.out)))); have n1_ := Aside0.mk (below_step (by repeat (first | (with_reducible first | exact HB.out | apply below_alloc | apply pw_below_drewN | apply below_drew1) | exact HB.out)) hb); clear HB; have HO540 := n0_; have HB := n1_; clear n0_ n1_; (try clear hb); (try clear hb2); (try clear hk); (try clear hi); (try clear ho0); obtain ⟨Ao55, co55, eo55⟩ := Kd.R_slice HO540.out; subst eo55) | ((with_reducible refine gate_callee (f := 26) rfl ?_); refine goesL_ (some 115) rfl rfl Try.func26 (by kernel_rfl) rfl #[.int .i64 a0, .slice Ao55 t538.length co55] rfl (by (try simp only [List.map_toArray, List.map_cons, List.map_nil]); first | done | rfl | (simp only [List.length_drop, List.length_take]; rfl)) ?_; (with_reducible refine (stamp_Range.calls kj26 a0 _ _ t538 t541 t542 _ ?side1 ?side2 A43.out).mono ?_); (case side1 => repeat (first | exact (Kd.R_reads' HO540.out).2.2 | (with_reducible refine Kd.C_alloc ?_ _) | (with_reducible refine Kd.C_drewN ?_ _) | (with_reducible refine Kd.C_drew ?_))); (case side2 => exact (Kd.R_reads' HO540.out).2.1); rintro e w56 ⟨rfl, hb⟩; refine ⟨_, rfl, ?_⟩; have n0_ := Aside0.mk (Kd.R_below (by (with_reducible repeat (first | apply Kd.R_alloc | apply Kd.R_drewN | apply Kd.R_drew)); exact HO540.out) hb); have n1_ := Aside0.mk (below_step (by repeat (first | (with_reducible first | exact HB.out | apply below_alloc | apply pw_below_drewN | apply below_drew1) | exact HB.out)) hb); clear HO540; clear HB; have HO540 := n0_; have HB := n1_; clear n0_ n1_; (try clear hb); (try clear hb2); (try clear hk); (try clear hi)) | (go_at_call 16; (with_reducible refine (trishawlaw04_alive.calls kj26  t544 _ A53.out).mono ?_); rintro e w57 ⟨rfl, hb⟩; have n0_ := Aside0.mk (Kd.R_below (by (with_reducible repeat (first | apply Kd.R_alloc | apply Kd.R_drewN | apply Kd.R_drew)); exact HO540.out) hb); have n1_ := Aside0.mk (below_step (by repeat (first | (with_reducible first | exact HB.out | apply below_alloc | apply pw_below_drewN | apply below_drew1) | exact HB.out)) hb); clear HO540; clear HB; have HO540 := n0_; have HB := n1_; clear n0_ n1_; (try clear hb); (try clear hb2); (try clear hk); (try clear hi)))
                go_ret
                exact ⟨by first | rfl | (simp [errW_none, errW_some] <;> rfl) | (simp [*, errW_none, errW_some] <;> rfl), by repeat (first | (with_reducible first | exact HB.out | apply below_alloc | apply pw_below_drewN | apply below_drew1) | exact HB.out)⟩
               ·rw [if_neg c52] at H
                exact absurd H (by simp)
             ·rw [if_neg c45] at H
              exact absurd H (by simp)
            ·rw [if_neg c44] at H
             exact absurd H (by simp)
def trishawlaw04_StampGrows.Pure : Prop := ∀ (a0 : Int) (l1 : List Int) (a2 : Int), (Lit.int .i64 a0).wf = true → l1.length ≤ maxLen → l1.length * 8 ≤ 140737488351232 → (∀ x ∈ l1, (Lit.int .i64 x).wf = true) → (Lit.int .u8 a2).wf = true → ∃ k, trishawlaw04_StampGrows.f k a0 l1 a2 = some true
theorem trishawlaw04_StampGrows.walk (P : trishawlaw04_StampGrows.Pure) (a0 : Int) (a1 : Option Addr) (len1 cap1 : Nat) (z1 : List Int) (a2 : Int) (w : World) (w0 : (Lit.int .i64 a0).wf = true) (w1 : (a1 = none ∧ len1 = 0 ∧ cap1 = 0 ∧ z1 = []) ∨ ∃ x, a1 = some x ∧ len1 ≤ cap1 ∧ cap1 ≤ maxLen ∧ z1.length = cap1 ∧ (∀ i, i < z1.length → w.cell? (x.add i) = some (.int .i64 (z1.getD i 0))) ∧ ∀ n ∈ z1, (Lit.int .i64 n).wf = true) (y1 : len1 * 8 ≤ 140737488351232) (w2 : (Lit.int .u8 a2).wf = true) :
  Calls Try.prog 14 #[.int .i64 a0, .slice a1 len1 cap1, .int .u8 a2] w fun e w' => e = .returned (.bool true) ∧ Below w.heap.size w w' := by
 obtain ⟨l1, rfl, hr1, hm1, hw1, hc1⟩ := ReadsInt.ofRowC w1
 obtain ⟨k, h⟩ := P a0 l1 a2 w0 hm1 y1 hw1 w2
 refine (trishawlaw04_StampGrows.calls k a0 _ _ l1 a2 true w (Kd.C_of_reads (d := (0 : Int)) (h1 := fun _ => rfl) hr1) hc1 h).mono ?_
 rintro e w' ⟨rfl, hd⟩
 exact ⟨rfl, hd⟩
end Go.Proofs.Ythbalcbibmdpnaa.OAll
