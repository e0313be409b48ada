/- A part of the proof of 'stampCounted_holds', for every input, without a condition. -/
import Derived.Test.YthbalcbibmdpnaaSCoRr
import Derived.Test.YthbalcbibmdpnaaSCoRt
import Derived.Test.YthbalcbibmdpnaaSCoOAllx0
import Derived.Test.YthbalcbibmdpnaaSCoOAllx1
import Derived.Test.YthbalcbibmdpnaaSCoOAllx2
import Derived.Test.YthbalcbibmdpnaaSCoOAllx3
import Derived.Test.YthbalcbibmdpnaaSCoRq
import Derived.Test.YthbalcbibmdpnaaSCoOAllx5
namespace Go.Proofs.Ythbalcbibmdpnaa.OAll
open Go.RowKit Go.Proofs.YthbalcbibmdpnaaW.PrintWords Go.Proofs.YthbalcbibmdpnaaW.PrintLast Go.Proofs.YthbalcbibmdpnaaW.PrintMore
attribute [local go_sem] max2_int min2_int max_two min_two max_three min_three max_four min_four
set_option linter.unusedVariables false
set_option linter.unusedSimpArgs false
mutual
def trishawlaw04_StampCounted.j0 : Nat → Int → List Int → Bool → Option (Bool)
 | 0, _, _, _ => none
 | k + 1, x0, x1, x20 => if x20 = true then ((trishawlaw04_alive.f k).bind fun t274 => (some t274)) else ((trishawlaw04_choose.f k (wrap64 (x0 + (x1.length : Int))) x0).bind fun t275 => ((stamp_Range.f k x0 x1).bind fun bt276 => (if bt276.2 = 0 then (if bt276.1 < 0 then (none) else (trishawlaw04_StampCounted.j1 k x0 x1 t275 bt276.1 (decide (bt276.1 > (wrap64 (t275 - 1)))))) else (none))))
def trishawlaw04_StampCounted.j1 : Nat → Int → List Int → Int → Int → Bool → Option (Bool)
 | 0, _, _, _, _, _ => none
 | k + 1, x0, x1, x5, x6, x45 => if x45 = true then (none) else (trishawlaw04_StampCounted.l0 k x0 x1 x5 x6 0 0)
def trishawlaw04_StampCounted.l0 : Nat → Int → List Int → Int → Int → Int → Int → Option (Bool)
 | 0, _, _, _, _, _, _ => none
 | k + 1, x0, x1, x5, x6, x8, x9 => if 0 ≤ (wrap64 ((x1.length : Int) - 1)) then (if (wrap64 ((x1.length : Int) - 1)) < (x1.length : Int) then (if x9 ≤ (wrap64 (x0 * (rd x1 (wrap64 ((x1.length : Int) - 1))))) then ((stamp_Ways.f k x0 x1 x9).bind fun bt279 => (if bt279.2 = 0 then (if bt279.1 < 0 then (none) else (if x9 ≤ x6 then (if bt279.1 = 0 then (none) else (if x9 = (wrap64 (x6 + 1)) then (if bt279.1 > 0 then (none) else (trishawlaw04_StampCounted.l0 k x0 x1 x5 x6 (wrap64 (x8 + bt279.1)) (wrap64 (x9 + 1)))) else (trishawlaw04_StampCounted.l0 k x0 x1 x5 x6 (wrap64 (x8 + bt279.1)) (wrap64 (x9 + 1))))) else (if x9 = (wrap64 (x6 + 1)) then (if bt279.1 > 0 then (none) else (trishawlaw04_StampCounted.l0 k x0 x1 x5 x6 (wrap64 (x8 + bt279.1)) (wrap64 (x9 + 1)))) else (trishawlaw04_StampCounted.l0 k x0 x1 x5 x6 (wrap64 (x8 + bt279.1)) (wrap64 (x9 + 1)))))) else (none))) else (if x8 = x5 then ((trishawlaw04_alive.f k).bind fun t281 => (some t281)) else (none))) else (none)) else (none)
end
def trishawlaw04_StampCounted.f (k : Nat) (a0 : Int) (l1 : List Int) : Option (Bool) := if (l1.length : Int) > 30 then (trishawlaw04_StampCounted.j0 k a0 l1 true) else ((trishawref04_Ticket.f k a0 l1).bind fun t273 => (trishawlaw04_StampCounted.j0 k a0 l1 (t273 != 0)))
set_option maxHeartbeats 8000000 in
set_option maxRecDepth 100000 in
theorem trishawlaw04_StampCounted.calls (k : Nat) (a0 : Int) (A1 : Option Addr) (c1 : Nat) (l1 : List Int) (r : Bool) (w : World) (hr1 : Kd.C (Kd.int .i64) w A1 l1.length l1) (hc1 : l1.length ≤ c1) (h : trishawlaw04_StampCounted.f k a0 l1 = some r) :
  Calls Try.prog 6 #[.int .i64 a0, .slice A1 l1.length c1] w fun e w' => e = .returned (.bool r) ∧ Below w.heap.size w w' := by
 have HR1 := Aside0.mk hr1
 have HC1 := Aside0.mk hc1
 clear hr1 hc1
 have HB := Aside0.mk (Below.refl w.heap.size w)
 have H : (if (l1.length : Int) > 30 then (trishawlaw04_StampCounted.j0 k a0 l1 true) else ((trishawref04_Ticket.f k a0 l1).bind fun t273 => (trishawlaw04_StampCounted.j0 k a0 l1 (t273 != 0)))) = some r := h
 clear h
 have HC3 := Aside0.mk H
 clear H
 go_enter Try.func6, Try.ntmps6
 go_upto_region 1 with (fail)
 go_cut [20] (fun v20 wc => ∃ (kq : Nat) (x20_2 : Bool), v20 = .bool x20_2 ∧ Aside0 (trishawlaw04_StampCounted.j0 kq a0 l1 x20_2 = some r) ∧ Aside0 (kq ≤ k) ∧ Aside0 (Below w.heap.size w wc))
 case first =>
  have H := HC3.out
  clear HC3
  by_cases c4 : (l1.length : Int) > 30
  ·rw [if_pos c4] at H
   have c4b0 : decide (30 < (l1.length : Int)) = true := decide_eq_true c4
   have c4b1 : decide (30 < l1.length) = true := decide_eq_true (by omega)
   clear c4
   (first | rw [c4b0] | (simp only [i64_w, i32_w]; rw [c4b0]) | skip)
   have H' := Aside0.mk H
   clear H
   go_wp2
   go_meet
   case rel => exact ⟨_, (true), (by first | rfl | (simp; done) | (simp [*]; done)), H', ⟨by first | omega | exact Nat.le_refl _⟩, ⟨by repeat (first | (with_reducible first | exact HB.out | apply below_alloc | apply pw_below_drewN | apply below_drew1) | exact HB.out)⟩⟩
  ·rw [if_neg c4] at H
   have c4b0 : decide (30 < (l1.length : Int)) = false := decide_eq_false c4
   have c4b1 : decide (30 < l1.length) = false := decide_eq_false (by omega)
   clear c4
   (first | rw [c4b0] | (simp only [i64_w, i32_w]; rw [c4b0]) | skip)
   replace H := Option.bind_eq_some_iff.mp H
   obtain ⟨t273, A50, H⟩ := H
   replace H : (trishawlaw04_StampCounted.j0 k a0 l1 (t273 != 0)) = some r := H
   have A5 := Aside0.mk A50
   clear A50
   have H' := Aside0.mk H
   clear H
   go_wp2_with (first | (go_at_call 24; (with_reducible refine (trishawref04_Ticket.calls k a0 _ _ l1 t273 _ ?side1 ?side2 A5.out).mono ?_); (case side1 => repeat (first | exact (Kd.C_below HR1.out HB.out) | (with_reducible refine Kd.C_alloc ?_ _) | (with_reducible refine Kd.C_drewN ?_ _) | (with_reducible refine Kd.C_drew ?_))); (case side2 => exact HC1.out); rintro e w' ⟨rfl, ⟨nd, rfl⟩⟩))
   go_meet
   case rel => exact ⟨_, ((t273 != 0)), (by first | rfl | (simp; done) | (simp [*]; done)), H', ⟨by first | omega | exact Nat.le_refl _⟩, ⟨by repeat (first | (with_reducible first | exact HB.out | apply below_alloc | apply pw_below_drewN | apply below_drew1) | exact HB.out)⟩⟩
 case rest =>
  clear HC3
  try clear c1
  try clear p2
  try clear c4
  try clear c4b0
  try clear c4b1
  obtain ⟨kq, x20_2, rfl, HA, HJ2, HB⟩ := hcut
  cases kq with
  | zero => exact absurd HA.out (by simp [trishawlaw04_StampCounted.j0])
  | succ kj2 =>
   have H := HA.out
   clear HA
   simp only [trishawlaw04_StampCounted.j0] at H
   by_cases c6 : x20_2 = true
   ·subst c6
    have H1 : ((trishawlaw04_alive.f kj2).bind fun t274 => (some t274)) = some r := by rw [if_pos rfl] at H; exact H
    clear H
    have H := H1
    clear H1
    replace H := Option.bind_eq_some_iff.mp H
    obtain ⟨t274, A70, H⟩ := H
    replace H : (some t274) = some r := H
    have A7 := Aside0.mk A70
    clear A70
    obtain rfl := Option.some.inj H
    go_wp2_with (first | ((with_reducible refine gate_callee (f := 16) rfl ?_); refine goesL_ (some 21) rfl rfl Try.func16 (by kernel_rfl) rfl #[] rfl (by (try simp only [List.map_toArray, List.map_cons, List.map_nil]); first | done | rfl | (simp only [List.length_drop, List.length_take]; rfl)) ?_; (with_reducible refine (trishawlaw04_alive.calls kj2  t274 _ A7.out).mono ?_); rintro e w8 ⟨rfl, hb⟩; refine ⟨_, rfl, ?_⟩; have n0_ := Aside0.mk (below_step (by repeat (first | (with_reducible first | exact HB.out | apply below_alloc | apply pw_below_drewN | apply below_drew1) | exact HB.out)) hb); clear HB; have HB := n0_; clear n0_; (try clear hb); (try clear hb2); (try clear hk); (try clear hi)))
    go_ret
    exact ⟨by first | rfl | (simp [errW_none, errW_some] <;> rfl) | (simp [*, errW_none, errW_some] <;> rfl), by repeat (first | (with_reducible first | exact HB.out | apply below_alloc | apply pw_below_drewN | apply below_drew1) | exact HB.out)⟩
   ·replace c6 := Bool.eq_false_iff.mpr c6
    subst c6
    have H1 : ((trishawlaw04_choose.f kj2 (wrap64 (a0 + (l1.length : Int))) a0).bind fun t275 => ((stamp_Range.f kj2 a0 l1).bind fun bt276 => (if bt276.2 = 0 then (if bt276.1 < 0 then (none) else (trishawlaw04_StampCounted.j1 kj2 a0 l1 t275 bt276.1 (decide (bt276.1 > (wrap64 (t275 - 1)))))) else (none)))) = some r := by rw [if_neg (show ¬ (false = true) by decide)] at H; exact H
    clear H
    have H := H1
    clear H1
    replace H := Option.bind_eq_some_iff.mp H
    obtain ⟨t275, A90, H⟩ := H
    replace H : ((stamp_Range.f kj2 a0 l1).bind fun bt276 => (if bt276.2 = 0 then (if bt276.1 < 0 then (none) else (trishawlaw04_StampCounted.j1 kj2 a0 l1 t275 bt276.1 (decide (bt276.1 > (wrap64 (t275 - 1)))))) else (none))) = some r := H
    have A9 := Aside0.mk A90
    clear A90
    replace H := Option.bind_eq_some_iff.mp H
    obtain ⟨⟨t276, t277⟩, A100, H⟩ := H
    replace H : (if t277 = 0 then (if t276 < 0 then (none) else (trishawlaw04_StampCounted.j1 kj2 a0 l1 t275 t276 (decide (t276 > (wrap64 (t275 - 1)))))) else (none)) = some r := H
    have A10 := Aside0.mk A100
    clear A100
    have HC11 := Aside0.mk H
    clear H
    go_upto_region 5 with (first | ((with_reducible refine gate_callee (f := 25) rfl ?_); refine goesL_ (some 27) rfl rfl Try.func25 (by kernel_rfl) rfl #[.int .i64 (wrap64 (a0 + (l1.length : Int))), .int .i64 a0] rfl (by (try simp only [List.map_toArray, List.map_cons, List.map_nil]); first | done | rfl | (simp only [List.length_drop, List.length_take]; rfl)) ?_; (with_reducible refine (trishawlaw04_choose.calls kj2 (wrap64 (a0 + (l1.length : Int))) a0 t275 _ A9.out).mono ?_); rintro e w' ⟨rfl, ⟨nd, rfl⟩⟩; refine ⟨_, rfl, ?_⟩) | ((with_reducible refine gate_callee (f := 26) rfl ?_); refine goesL_ (some 31) rfl rfl Try.func26 (by kernel_rfl) rfl #[.int .i64 a0, .slice A1 l1.length c1] rfl (by (try simp only [List.map_toArray, List.map_cons, List.map_nil]); first | done | rfl | (simp only [List.length_drop, List.length_take]; rfl)) ?_; (with_reducible refine (stamp_Range.calls kj2 a0 _ _ l1 t276 t277 _ ?side1 ?side2 A10.out).mono ?_); (case side1 => repeat (first | exact (Kd.C_below HR1.out (by repeat (first | (with_reducible first | exact HB.out | apply below_alloc | apply pw_below_drewN | apply below_drew1) | exact HB.out))) | (with_reducible refine Kd.C_alloc ?_ _) | (with_reducible refine Kd.C_drewN ?_ _) | (with_reducible refine Kd.C_drew ?_))); (case side2 => exact HC1.out); rintro e w12 ⟨rfl, hb⟩; refine ⟨_, rfl, ?_⟩; have n0_ := Aside0.mk (below_step (by repeat (first | (with_reducible first | exact HB.out | apply below_alloc | apply pw_below_drewN | apply below_drew1) | exact HB.out)) hb); clear HB; have HB := n0_; clear n0_; (try clear hb); (try clear hb2); (try clear hk); (try clear hi)))
    (try simp only [Act.put, List.setIfInBounds_toArray, List.set_cons_zero, List.set_cons_succ])
    go_cut [45] (fun v45 wc => ∃ (kq : Nat) (x45_10 : Bool), v45 = .bool x45_10 ∧ Aside0 (trishawlaw04_StampCounted.j1 kq a0 l1 t275 t276 x45_10 = some r) ∧ Aside0 (kq ≤ kj2) ∧ Aside0 (Below w.heap.size w wc))
    case first =>
     have H := HC11.out
     clear HC11
     by_cases c13 : t277 = 0
     ·rw [if_pos c13] at H
      have c13b0 : (t277 == 0) = true := beq_iff_eq.mpr c13
      have c13b1 : (t277 != 0) = false := bne_eq_false_iff_eq.mpr c13
      clear c13
      (first | rw [c13b0] | (simp only [i64_w, i32_w]; rw [c13b0]) | skip)
      by_cases c14 : t276 < 0
      ·rw [if_pos c14] at H
       exact absurd H (by simp)
      ·rw [if_neg c14] at H
       have c14b0 : decide (t276 < 0) = false := decide_eq_false c14
       clear c14
       have H' := Aside0.mk H
       clear H
       go_wp2
       go_meet
       case rel => exact ⟨_, (decide (t276 > (wrap64 (t275 - 1)))), (by first | rfl | (simp; done) | (simp [*]; done)), H', ⟨by have := HJ2.out; first | omega | exact Nat.le_refl _⟩, ⟨by repeat (first | (with_reducible first | exact HB.out | apply below_alloc | apply pw_below_drewN | apply below_drew1) | exact HB.out)⟩⟩
     ·rw [if_neg c13] at H
      exact absurd H (by simp)
    case rest =>
     clear HC11
     try clear c1
     try clear c2
     try clear p2
     try clear c4
     try clear c4b0
     try clear c4b1
     try clear c6
     try clear p6
     try clear c13
     try clear c13b0
     try clear c13b1
     try clear c14
     try clear c14b0
     try clear p2
     obtain ⟨kq, x45_10, rfl, HA, HJ10, HB⟩ := hcut
     cases kq with
     | zero => exact absurd HA.out (by simp [trishawlaw04_StampCounted.j1])
     | succ kj10 =>
      have H := HA.out
      clear HA
      simp only [trishawlaw04_StampCounted.j1] at H
      by_cases c15 : x45_10 = true
      ·subst c15
       have H1 : (none) = some r := by rw [if_pos rfl] at H; exact H
       clear H
       have H := H1
       clear H1
       exact absurd H (by simp)
      ·replace c15 := Bool.eq_false_iff.mpr c15
       subst c15
       have H1 : (trishawlaw04_StampCounted.l0 kj10 a0 l1 t275 t276 0 0) = some r := by rw [if_neg (show ¬ (false = true) by decide)] at H; exact H
       clear H
       have H := H1
       clear H1
       have H' := Aside0.mk H
       clear H
       go_wp2
       go_loopg [8, 9] kj10 (fun kq v8 v9 w' => ∃ (x8_3 : Int) (x9_3 : Int), v8 = .int .i64 x8_3 ∧ v9 = .int .i64 x9_3 ∧ Aside0 (trishawlaw04_StampCounted.l0 kq a0 l1 t275 t276 x8_3 x9_3 = some r) ∧ Aside0 (kq ≤ kj10) ∧ Aside0 (Below w.heap.size w w'))
       case atStart => exact ⟨(0), (0), (by first | rfl | (simp; done) | (simp [*]; done)), (by first | rfl | (simp; done) | (simp [*]; done)), H', ⟨Nat.le_refl _⟩, ⟨by repeat (first | (with_reducible first | exact HB.out | apply below_alloc | apply pw_below_drewN | apply below_drew1) | exact HB.out)⟩⟩
       case round =>
        clear H'
        try clear c1
        try clear c2
        try clear p2
        try clear c4
        try clear c4b0
        try clear c4b1
        try clear c6
        try clear p6
        try clear c13
        try clear c13b0
        try clear c13b1
        try clear c14
        try clear c14b0
        try clear c15
        try clear p2
        try clear p6
        obtain ⟨x8_3, x9_3, rfl, rfl, HA, HK3, HB⟩ := hrel
        cases gk with
        | zero => exact absurd HA.out (by simp [trishawlaw04_StampCounted.l0])
        | succ k3 =>
         have H := HA.out
         clear HA
         simp only [trishawlaw04_StampCounted.l0] at H
         obtain ⟨ji16, hji16⟩ : ∃ j_ : Int, (wrap64 ((l1.length : Int) - 1)) = j_ := ⟨_, rfl⟩
         replace H : (if 0 ≤ (ji16) then (if (ji16) < (l1.length : Int) then (if x9_3 ≤ (wrap64 (a0 * (rd l1 (ji16)))) then ((stamp_Ways.f k3 a0 l1 x9_3).bind fun bt279 => (if bt279.2 = 0 then (if bt279.1 < 0 then (none) else (if x9_3 ≤ t276 then (if bt279.1 = 0 then (none) else (if x9_3 = (wrap64 (t276 + 1)) then (if bt279.1 > 0 then (none) else (trishawlaw04_StampCounted.l0 k3 a0 l1 t275 t276 (wrap64 (x8_3 + bt279.1)) (wrap64 (x9_3 + 1)))) else (trishawlaw04_StampCounted.l0 k3 a0 l1 t275 t276 (wrap64 (x8_3 + bt279.1)) (wrap64 (x9_3 + 1))))) else (if x9_3 = (wrap64 (t276 + 1)) then (if bt279.1 > 0 then (none) else (trishawlaw04_StampCounted.l0 k3 a0 l1 t275 t276 (wrap64 (x8_3 + bt279.1)) (wrap64 (x9_3 + 1)))) else (trishawlaw04_StampCounted.l0 k3 a0 l1 t275 t276 (wrap64 (x8_3 + bt279.1)) (wrap64 (x9_3 + 1)))))) else (none))) else (if x8_3 = t275 then ((trishawlaw04_alive.f k3).bind fun t281 => (some t281)) else (none))) else (none)) else (none)) = some r := by first | (rw [hji16] at H; exact H) | (simp only [hji16] at H ⊢; exact H)
         have hji16w : (IntKind.i64.wrap ((l1.length : Int) - 1)) = ji16 := (i64_w _).trans hji16
         by_cases c17 : 0 ≤ (ji16)
         ·rw [if_pos c17] at H
          have c17b0 : decide (0 ≤ (ji16)) = true := decide_eq_true c17
          clear c17
          by_cases c18 : (ji16) < (l1.length : Int)
          ·rw [if_pos c18] at H
           have c18b0 : decide ((ji16) < (l1.length : Int)) = true := decide_eq_true c18
           clear c18
           by_cases c19 : x9_3 ≤ (wrap64 (a0 * (rd l1 (ji16))))
           ·rw [if_pos c19] at H
            have c19b0 : decide (x9_3 ≤ (wrap64 (a0 * (rd l1 (ji16))))) = true := decide_eq_true c19
            clear c19
            replace H := Option.bind_eq_some_iff.mp H
            obtain ⟨⟨t279, t280⟩, A200, H⟩ := H
            replace H : (if t280 = 0 then (if t279 < 0 then (none) else (if x9_3 ≤ t276 then (if t279 = 0 then (none) else (if x9_3 = (wrap64 (t276 + 1)) then (if t279 > 0 then (none) else (trishawlaw04_StampCounted.l0 k3 a0 l1 t275 t276 (wrap64 (x8_3 + t279)) (wrap64 (x9_3 + 1)))) else (trishawlaw04_StampCounted.l0 k3 a0 l1 t275 t276 (wrap64 (x8_3 + t279)) (wrap64 (x9_3 + 1))))) else (if x9_3 = (wrap64 (t276 + 1)) then (if t279 > 0 then (none) else (trishawlaw04_StampCounted.l0 k3 a0 l1 t275 t276 (wrap64 (x8_3 + t279)) (wrap64 (x9_3 + 1)))) else (trishawlaw04_StampCounted.l0 k3 a0 l1 t275 t276 (wrap64 (x8_3 + t279)) (wrap64 (x9_3 + 1)))))) else (none)) = some r := H
            have A20 := Aside0.mk A200
            clear A200
            by_cases c21 : t280 = 0
            ·rw [if_pos c21] at H
             have c21b0 : (t280 == 0) = true := beq_iff_eq.mpr c21
             have c21b1 : (t280 != 0) = false := bne_eq_false_iff_eq.mpr c21
             clear c21
             by_cases c22 : t279 < 0
             ·rw [if_pos c22] at H
              exact absurd H (by simp)
             ·rw [if_neg c22] at H
              have c22b0 : decide (t279 < 0) = false := decide_eq_false c22
              clear c22
              by_cases c23 : x9_3 ≤ t276
              ·rw [if_pos c23] at H
               have c23b0 : decide (x9_3 ≤ t276) = true := decide_eq_true c23
               clear c23
               by_cases c24 : t279 = 0
               ·rw [if_pos c24] at H
                exact absurd H (by simp)
               ·rw [if_neg c24] at H
                have c24b0 : (t279 == 0) = false := beq_eq_false_iff_ne.mpr c24
                have c24b1 : (t279 != 0) = true := bne_iff_ne.mpr c24
                by_cases c25 : x9_3 = (wrap64 (t276 + 1))
                ·rw [if_pos c25] at H
                 have c25b0 : (x9_3 == (wrap64 (t276 + 1))) = true := beq_iff_eq.mpr c25
                 have c25b1 : (x9_3 != (wrap64 (t276 + 1))) = false := bne_eq_false_iff_eq.mpr c25
                 clear c25
                 by_cases c26 : t279 > 0
                 ·rw [if_pos c26] at H
                  exact absurd H (by simp)
                 ·rw [if_neg c26] at H
                  have c26b0 : decide (0 < t279) = false := decide_eq_false c26
                  clear c26
                  have H' := Aside0.mk H
                  clear H
                  have p278 : 0 ≤ ((ji16) : Int) := of_decide_eq_true (by first | (with_reducible assumption) | assumption)
                  have q278 : (ji16) < (l1.length : Int) := of_decide_eq_true (by first | (with_reducible assumption) | assumption)
                  obtain ⟨ad278, e278, hx278_0⟩ := Kd.at_int HR1.out (ji16) p278 q278
                  cases e278
                  replace hx278_0 := (HB.out.cell (World.block_lt_of_cell? w _ hx278_0)).trans hx278_0
                  replace p278 := eq_true p278
                  replace q278 := eq_true q278
                  go_wp2_with (first | ((with_reducible refine gate_callee (f := 27) rfl ?_); refine goesL_ (some 62) rfl rfl Try.func27 (by kernel_rfl) rfl #[.int .i64 a0, .slice (some ad278) l1.length c1, .int .i64 x9_3] rfl (by (try simp only [List.map_toArray, List.map_cons, List.map_nil]); first | done | rfl | (simp only [List.length_drop, List.length_take]; rfl)) ?_; (with_reducible refine (stamp_Ways.calls k3 a0 _ _ l1 x9_3 t279 t280 _ ?side1 ?side2 A20.out).mono ?_); (case side1 => repeat (first | exact (Kd.C_below HR1.out HB.out) | (with_reducible refine Kd.C_alloc ?_ _) | (with_reducible refine Kd.C_drewN ?_ _) | (with_reducible refine Kd.C_drew ?_))); (case side2 => exact HC1.out); rintro e w27 ⟨rfl, hb⟩; refine ⟨_, rfl, ?_⟩; have n0_ := Aside0.mk (below_step (by repeat (first | (with_reducible first | exact HB.out | apply below_alloc | apply pw_below_drewN | apply below_drew1) | exact HB.out)) hb); clear HB; have HB := n0_; clear n0_; (try clear hb); (try clear hb2); (try clear hk); (try clear hi)))
                  go_roundg k3
                  case measure => have := HJ2.out; have := HJ10.out; have := HK3.out; omega
                  case rel => exact ⟨(wrap64 (x8_3 + t279)), (wrap64 (x9_3 + 1)), (by first | rfl | (simp; done) | (simp [*]; done)), (by first | rfl | (simp; done) | (simp [*]; done)), H', ⟨by have := HJ2.out; have := HJ10.out; have := HK3.out; omega⟩, ⟨by repeat (first | (with_reducible first | exact HB.out | apply below_alloc | apply pw_below_drewN | apply below_drew1) | exact HB.out)⟩⟩
                ·rw [if_neg c25] at H
                 have c25b0 : (x9_3 == (wrap64 (t276 + 1))) = false := beq_eq_false_iff_ne.mpr c25
                 have c25b1 : (x9_3 != (wrap64 (t276 + 1))) = true := bne_iff_ne.mpr c25
                 have H' := Aside0.mk H
                 clear H
                 have p278 : 0 ≤ ((ji16) : Int) := of_decide_eq_true (by first | (with_reducible assumption) | assumption)
                 have q278 : (ji16) < (l1.length : Int) := of_decide_eq_true (by first | (with_reducible assumption) | assumption)
                 obtain ⟨ad278, e278, hx278_0⟩ := Kd.at_int HR1.out (ji16) p278 q278
                 cases e278
                 replace hx278_0 := (HB.out.cell (World.block_lt_of_cell? w _ hx278_0)).trans hx278_0
                 replace p278 := eq_true p278
                 replace q278 := eq_true q278
                 go_wp2_with (first | ((with_reducible refine gate_callee (f := 27) rfl ?_); refine goesL_ (some 62) rfl rfl Try.func27 (by kernel_rfl) rfl #[.int .i64 a0, .slice (some ad278) l1.length c1, .int .i64 x9_3] rfl (by (try simp only [List.map_toArray, List.map_cons, List.map_nil]); first | done | rfl | (simp only [List.length_drop, List.length_take]; rfl)) ?_; (with_reducible refine (stamp_Ways.calls k3 a0 _ _ l1 x9_3 t279 t280 _ ?side1 ?side2 A20.out).mono ?_); (case side1 => repeat (first | exact (Kd.C_below HR1.out HB.out) | (with_reducible refine Kd.C_alloc ?_ _) | (with_reducible refine Kd.C_drewN ?_ _) | (with_reducible refine Kd.C_drew ?_))); (case side2 => exact HC1.out); rintro e w28 ⟨rfl, hb⟩; refine ⟨_, rfl, ?_⟩; have n0_ := Aside0.mk (below_step (by repeat (first | (with_reducible first | exact HB.out | apply below_alloc | apply pw_below_drewN | apply below_drew1) | exact HB.out)) hb); clear HB; have HB := n0_; clear n0_; (try clear hb); (try clear hb2); (try clear hk); (try clear hi)))
                 go_roundg k3
                 case measure => have := HJ2.out; have := HJ10.out; have := HK3.out; omega
                 case rel => exact ⟨(wrap64 (x8_3 + t279)), (wrap64 (x9_3 + 1)), (by first | rfl | (simp; done) | (simp [*]; done)), (by first | rfl | (simp; done) | (simp [*]; done)), H', ⟨by have := HJ2.out; have := HJ10.out; have := HK3.out; omega⟩, ⟨by repeat (first | (with_reducible first | exact HB.out | apply below_alloc | apply pw_below_drewN | apply below_drew1) | exact HB.out)⟩⟩
              ·rw [if_neg c23] at H
               have c23b0 : decide (x9_3 ≤ t276) = false := decide_eq_false c23
               clear c23
               by_cases c29 : x9_3 = (wrap64 (t276 + 1))
               ·rw [if_pos c29] at H
                have c29b0 : (x9_3 == (wrap64 (t276 + 1))) = true := beq_iff_eq.mpr c29
                have c29b1 : (x9_3 != (wrap64 (t276 + 1))) = false := bne_eq_false_iff_eq.mpr c29
                clear c29
                by_cases c30 : t279 > 0
                ·rw [if_pos c30] at H
                 exact absurd H (by simp)
                ·rw [if_neg c30] at H
                 have c30b0 : decide (0 < t279) = false := decide_eq_false c30
                 clear c30
                 have H' := Aside0.mk H
                 clear H
                 have p278 : 0 ≤ ((ji16) : Int) := of_decide_eq_true (by first | (with_reducible assumption) | assumption)
                 have q278 : (ji16) < (l1.length : Int) := of_decide_eq_true (by first | (with_reducible assumption) | assumption)
                 obtain ⟨ad278, e278, hx278_0⟩ := Kd.at_int HR1.out (ji16) p278 q278
                 cases e278
                 replace hx278_0 := (HB.out.cell (World.block_lt_of_cell? w _ hx278_0)).trans hx278_0
                 replace p278 := eq_true p278
                 replace q278 := eq_true q278
                 go_wp2_with (first | ((with_reducible refine gate_callee (f := 27) rfl ?_); refine goesL_ (some 62) rfl rfl Try.func27 (by kernel_rfl) rfl #[.int .i64 a0, .slice (some ad278) l1.length c1, .int .i64 x9_3] rfl (by (try simp only [List.map_toArray, List.map_cons, List.map_nil]); first | done | rfl | (simp only [List.length_drop, List.length_take]; rfl)) ?_; (with_reducible refine (stamp_Ways.calls k3 a0 _ _ l1 x9_3 t279 t280 _ ?side1 ?side2 A20.out).mono ?_); (case side1 => repeat (first | exact (Kd.C_below HR1.out HB.out) | (with_reducible refine Kd.C_alloc ?_ _) | (with_reducible refine Kd.C_drewN ?_ _) | (with_reducible refine Kd.C_drew ?_))); (case side2 => exact HC1.out); rintro e w31 ⟨rfl, hb⟩; refine ⟨_, rfl, ?_⟩; have n0_ := Aside0.mk (below_step (by repeat (first | (with_reducible first | exact HB.out | apply below_alloc | apply pw_below_drewN | apply below_drew1) | exact HB.out)) hb); clear HB; have HB := n0_; clear n0_; (try clear hb); (try clear hb2); (try clear hk); (try clear hi)))
                 go_roundg k3
                 case measure => have := HJ2.out; have := HJ10.out; have := HK3.out; omega
                 case rel => exact ⟨(wrap64 (x8_3 + t279)), (wrap64 (x9_3 + 1)), (by first | rfl | (simp; done) | (simp [*]; done)), (by first | rfl | (simp; done) | (simp [*]; done)), H', ⟨by have := HJ2.out; have := HJ10.out; have := HK3.out; omega⟩, ⟨by repeat (first | (with_reducible first | exact HB.out | apply below_alloc | apply pw_below_drewN | apply below_drew1) | exact HB.out)⟩⟩
               ·rw [if_neg c29] at H
                have c29b0 : (x9_3 == (wrap64 (t276 + 1))) = false := beq_eq_false_iff_ne.mpr c29
                have c29b1 : (x9_3 != (wrap64 (t276 + 1))) = true := bne_iff_ne.mpr c29
                have H' := Aside0.mk H
                clear H
                have p278 : 0 ≤ ((ji16) : Int) := of_decide_eq_true (by first | (with_reducible assumption) | assumption)
                have q278 : (ji16) < (l1.length : Int) := of_decide_eq_true (by first | (with_reducible assumption) | assumption)
                obtain ⟨ad278, e278, hx278_0⟩ := Kd.at_int HR1.out (ji16) p278 q278
                cases e278
                replace hx278_0 := (HB.out.cell (World.block_lt_of_cell? w _ hx278_0)).trans hx278_0
                replace p278 := eq_true p278
                replace q278 := eq_true q278
                go_wp2_with (first | ((with_reducible refine gate_callee (f := 27) rfl ?_); refine goesL_ (some 62) rfl rfl Try.func27 (by kernel_rfl) rfl #[.int .i64 a0, .slice (some ad278) l1.length c1, .int .i64 x9_3] rfl (by (try simp only [List.map_toArray, List.map_cons, List.map_nil]); first | done | rfl | (simp only [List.length_drop, List.length_take]; rfl)) ?_; (with_reducible refine (stamp_Ways.calls k3 a0 _ _ l1 x9_3 t279 t280 _ ?side1 ?side2 A20.out).mono ?_); (case side1 => repeat (first | exact (Kd.C_below HR1.out HB.out) | (with_reducible refine Kd.C_alloc ?_ _) | (with_reducible refine Kd.C_drewN ?_ _) | (with_reducible refine Kd.C_drew ?_))); (case side2 => exact HC1.out); rintro e w32 ⟨rfl, hb⟩; refine ⟨_, rfl, ?_⟩; have n0_ := Aside0.mk (below_step (by repeat (first | (with_reducible first | exact HB.out | apply below_alloc | apply pw_below_drewN | apply below_drew1) | exact HB.out)) hb); clear HB; have HB := n0_; clear n0_; (try clear hb); (try clear hb2); (try clear hk); (try clear hi)))
                go_roundg k3
                case measure => have := HJ2.out; have := HJ10.out; have := HK3.out; omega
                case rel => exact ⟨(wrap64 (x8_3 + t279)), (wrap64 (x9_3 + 1)), (by first | rfl | (simp; done) | (simp [*]; done)), (by first | rfl | (simp; done) | (simp [*]; done)), H', ⟨by have := HJ2.out; have := HJ10.out; have := HK3.out; omega⟩, ⟨by repeat (first | (with_reducible first | exact HB.out | apply below_alloc | apply pw_below_drewN | apply below_drew1) | exact HB.out)⟩⟩
            ·rw [if_neg c21] at H
             exact absurd H (by simp)
           ·rw [if_neg c19] at H
            have c19b0 : decide (x9_3 ≤ (wrap64 (a0 * (rd l1 (ji16))))) = false := decide_eq_false c19
            clear c19
            by_cases c33 : x8_3 = t275
            ·rw [if_pos c33] at H
             have c33b0 : (x8_3 == t275) = true := beq_iff_eq.mpr c33
             have c33b1 : (x8_3 != t275) = false := bne_eq_false_iff_eq.mpr c33
             clear c33
             replace H := Option.bind_eq_some_iff.mp H
             obtain ⟨t281, A340, H⟩ := H
             replace H : (some t281) = some r := H
             have A34 := Aside0.mk A340
             clear A340
             obtain rfl := Option.some.inj H
             have p278 : 0 ≤ ((ji16) : Int) := of_decide_eq_true (by first | (with_reducible assumption) | assumption)
             have q278 : (ji16) < (l1.length : Int) := of_decide_eq_true (by first | (with_reducible assumption) | assumption)
             obtain ⟨ad278, e278, hx278_0⟩ := Kd.at_int HR1.out (ji16) p278 q278
             cases e278
             replace hx278_0 := (HB.out.cell (World.block_lt_of_cell? w _ hx278_0)).trans hx278_0
             replace p278 := eq_true p278
             replace q278 := eq_true q278
             go_wp2_with (first | (go_at_call 16; (with_reducible refine (trishawlaw04_alive.calls k3  t281 _ A34.out).mono ?_); rintro e w35 ⟨rfl, hb⟩; have n0_ := Aside0.mk (below_step (by repeat (first | (with_reducible first | exact HB.out | apply below_alloc | apply pw_below_drewN | apply below_drew1) | exact HB.out)) hb); clear HB; have HB := n0_; clear n0_; (try clear hb); (try clear hb2); (try clear hk); (try clear hi)))
             go_ret
             exact ⟨by first | rfl | (simp [errW_none, errW_some] <;> rfl) | (simp only [← hji16]; first | rfl | (simp [errW_none, errW_some] <;> rfl)) | (simp [*, errW_none, errW_some] <;> rfl), by repeat (first | (with_reducible first | exact HB.out | apply below_alloc | apply pw_below_drewN | apply below_drew1) | exact HB.out)⟩
            ·rw [if_neg c33] at H
             exact absurd H (by simp)
          ·rw [if_neg c18] at H
           exact absurd H (by simp)
         ·rw [if_neg c17] at H
          exact absurd H (by simp)
def trishawlaw04_StampCounted.Pure : Prop := ∀ (a0 : Int) (l1 : List Int), (Lit.int .i64 a0).wf = true → l1.length ≤ maxLen → l1.length * 8 ≤ 140737488351232 → (∀ x ∈ l1, (Lit.int .i64 x).wf = true) → ∃ k, trishawlaw04_StampCounted.f k a0 l1 = some true
theorem trishawlaw04_StampCounted.walk (P : trishawlaw04_StampCounted.Pure) (a0 : Int) (a1 : Option Addr) (len1 cap1 : Nat) (z1 : List Int) (w : World) (w0 : (Lit.int .i64 a0).wf = true) (w1 : (a1 = none ∧ len1 = 0 ∧ cap1 = 0 ∧ z1 = []) ∨ ∃ x, a1 = some x ∧ len1 ≤ cap1 ∧ cap1 ≤ maxLen ∧ z1.length = cap1 ∧ (∀ i, i < z1.length → w.cell? (x.add i) = some (.int .i64 (z1.getD i 0))) ∧ ∀ n ∈ z1, (Lit.int .i64 n).wf = true) (y1 : len1 * 8 ≤ 140737488351232) :
  Calls Try.prog 6 #[.int .i64 a0, .slice a1 len1 cap1] w fun e w' => e = .returned (.bool true) ∧ Below w.heap.size w w' := by
 obtain ⟨l1, rfl, hr1, hm1, hw1, hc1⟩ := ReadsInt.ofRowC w1
 obtain ⟨k, h⟩ := P a0 l1 w0 hm1 y1 hw1
 refine (trishawlaw04_StampCounted.calls k a0 _ _ l1 true w (Kd.C_of_reads (d := (0 : Int)) (h1 := fun _ => rfl) hr1) hc1 h).mono ?_
 rintro e w' ⟨rfl, hd⟩
 exact ⟨rfl, hd⟩
end Go.Proofs.Ythbalcbibmdpnaa.OAll
