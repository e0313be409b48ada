/- A part of the proof of 'tripLevels_holds', for every input, without a condition. -/
import Derived.Test.YtlmlneneakpohaaTLeOAllx0
import Derived.Test.YtlmlneneakpohaaTLeOAllx3
import Derived.Test.YtlmlneneakpohaaTLeOAllx5
import Derived.Test.YtlmlneneakpohaaTLeOAllx9
import Derived.Test.YtlmlneneakpohaaTLeOAllx4
import Derived.Test.YtlmlneneakpohaaTLeOAllx8
import Derived.Test.YtlmlneneakpohaaTLeOAllx2
import Derived.Test.YtlmlneneakpohaaTLeOAllx18
namespace Go.Proofs.Ytlmlneneakpohaa.OAll
open Go.RowKit Go.Proofs.YtlmlneneakpohaaW.PrintWords Go.Proofs.YtlmlneneakpohaaW.PrintLast Go.Proofs.YtlmlneneakpohaaW.PrintMore
attribute [local go_sem] max2_int min2_int max_two min_two max_three min_three max_four min_four
set_option linter.unusedVariables false
set_option linter.unusedSimpArgs false
mutual
def trishawref06_Level.l0 : Nat → List (S36) → Int → Int → Int → Int → Option (Int × Int × Int)
 | 0, _, _, _, _, _ => none
 | k + 1, x0, x1, x8, x9, x10 => if x10 < (x0.length : Int) then (if 0 ≤ x10 then (if ((rd_T36 x0 x10).f0) < x1 then (trishawref06_Level.j1 k x0 x1 x8 x9 x10 (decide (((rd_T36 x0 x10).f1) ≥ x1))) else (trishawref06_Level.j1 k x0 x1 x8 x9 x10 false)) else (none)) else (some (x8, x9, 0))
def trishawref06_Level.j1 : Nat → List (S36) → Int → Int → Int → Int → Bool → Option (Int × Int × Int)
 | 0, _, _, _, _, _, _ => none
 | k + 1, x0, x1, x8, x9, x10, x37 => if x37 = true then (if 0 ≤ x10 then (if x10 < (x0.length : Int) then (if ((rd_T36 x0 x10).f0) ≥ x1 then (if ((rd_T36 x0 x10).f1) < x1 then (trishawref06_Level.l0 k x0 x1 (wrap64 (x8 + 1)) (wrap64 (x9 + 1)) (wrap64 (x10 + 1))) else (trishawref06_Level.l0 k x0 x1 (wrap64 (x8 + 1)) x9 (wrap64 (x10 + 1)))) else (trishawref06_Level.l0 k x0 x1 (wrap64 (x8 + 1)) x9 (wrap64 (x10 + 1)))) else (none)) else (none)) else (if 0 ≤ x10 then (if x10 < (x0.length : Int) then (if ((rd_T36 x0 x10).f0) ≥ x1 then (if ((rd_T36 x0 x10).f1) < x1 then (trishawref06_Level.l0 k x0 x1 x8 (wrap64 (x9 + 1)) (wrap64 (x10 + 1))) else (trishawref06_Level.l0 k x0 x1 x8 x9 (wrap64 (x10 + 1)))) else (trishawref06_Level.l0 k x0 x1 x8 x9 (wrap64 (x10 + 1)))) else (none)) else (none))
end
def trishawref06_Level.f (k : Nat) (l0 : List (S36)) (a1 : Int) : Option (Int × Int × Int) := (trishawref06_Rides.f k l0).bind fun t507 => (if t507 = 0 then (trishawref06_Level.l0 k l0 a1 0 0 0) else (some (0, 0, t507)))
set_option maxHeartbeats 8000000 in
set_option maxRecDepth 100000 in
theorem trishawref06_Level.calls (k : Nat) (A0 : Option Addr) (c0 : Nat) (l0 : List (S36)) (a1 : Int) (r1 : Int) (r2 : Int) (r3 : Int) (w : World) (hr0 : Kd.C k36 w A0 l0.length l0) (hc0 : l0.length ≤ c0) (h : trishawref06_Level.f k l0 a1 = some (r1, r2, r3)) :
  Calls Try.prog 29 #[.slice A0 l0.length c0, .int .i64 a1] w fun e w' => e = .returned (.tuple #[.int .i64 r1, .int .i64 r2, .int .i64 r3]) ∧ Drawn0 w w' := by
 have HR0 := Aside0.mk hr0
 have HC0 := Aside0.mk hc0
 clear hr0 hc0
 have H : ((trishawref06_Rides.f k l0).bind fun t507 => (if t507 = 0 then (trishawref06_Level.l0 k l0 a1 0 0 0) else (some (0, 0, t507)))) = some (r1, r2, r3) := h
 clear h
 replace H := Option.bind_eq_some_iff.mp H
 obtain ⟨t507, A30, H⟩ := H
 replace H : (if t507 = 0 then (trishawref06_Level.l0 k l0 a1 0 0 0) else (some (0, 0, t507))) = some (r1, r2, r3) := H
 have A3 := Aside0.mk A30
 clear A30
 by_cases c4 : t507 = 0
 ·rw [if_pos c4] at H
  have c4b0 : (t507 == 0) = true := beq_iff_eq.mpr c4
  have c4b1 : (t507 != 0) = false := bne_eq_false_iff_eq.mpr c4
  clear c4
  have H' := Aside0.mk H
  clear H
  go_enter Try.func29, Try.ntmps29
  go_wp2_with (first | ((with_reducible refine gate_callee (f := 22) rfl ?_); refine goesL_ (some 12) rfl rfl Try.func22 (by kernel_rfl) rfl #[.slice A0 l0.length c0] rfl (by (try simp only [List.map_toArray, List.map_cons, List.map_nil]); first | done | rfl | (simp only [List.length_drop, List.length_take]; rfl)) ?_; (with_reducible refine (trishawref06_Rides.calls k _ _ l0 t507 _ ?side1 ?side2 A3.out).mono ?_); (case side1 => repeat (first | exact HR0.out | (with_reducible refine Kd.C_alloc ?_ _) | (with_reducible refine Kd.C_drewN ?_ _) | (with_reducible refine Kd.C_drew ?_))); (case side2 => exact HC0.out); rintro e w' ⟨rfl, ⟨nd, rfl⟩⟩; refine ⟨_, rfl, ?_⟩))
  go_loopg [8, 9, 10] k (fun kq v8 v9 v10 w' => ∃ (x8_1 : Int) (x9_1 : Int) (x10_1 : Int), v8 = .int .i64 x8_1 ∧ v9 = .int .i64 x9_1 ∧ v10 = .int .i64 x10_1 ∧ Aside0 (trishawref06_Level.l0 kq l0 a1 x8_1 x9_1 x10_1 = some (r1, r2, r3)) ∧ Aside0 (kq ≤ k) ∧ Drawn0 w w')
  case atStart => exact ⟨(0), (0), (0), (by first | rfl | (simp; done) | (simp [*]; done)), (by first | rfl | (simp; done) | (simp [*]; done)), (by first | rfl | (simp; done) | (simp [*]; done)), H', ⟨Nat.le_refl _⟩, by repeat (first | exact Drawn0.refl _ | apply Drawn0.step)⟩
  case round =>
   clear H'
   try clear c2
   try clear p2
   try clear c4
   try clear c4b0
   try clear c4b1
   obtain ⟨x8_1, x9_1, x10_1, rfl, rfl, rfl, HA, HK1, ⟨m1, rfl⟩⟩ := hrel
   cases gk with
   | zero => exact absurd HA.out (by simp [trishawref06_Level.l0])
   | succ k1 =>
    have H := HA.out
    clear HA
    simp only [trishawref06_Level.l0] at H
    by_cases c5 : x10_1 < (l0.length : Int)
    ·rw [if_pos c5] at H
     have c5b0 : decide (x10_1 < (l0.length : Int)) = true := decide_eq_true c5
     clear c5
     have HC6 := Aside0.mk H
     clear H
     go_upto_region 8 with (fail)
     go_cut [37] (fun v37 wc => ∃ (kq : Nat) (x37_5 : Bool), v37 = .bool x37_5 ∧ Aside0 (trishawref06_Level.j1 kq l0 a1 x8_1 x9_1 x10_1 x37_5 = some (r1, r2, r3)) ∧ Aside0 (kq ≤ k1) ∧ Drawn0 w wc)
     case first =>
      have H := HC6.out
      clear HC6
      by_cases c7 : 0 ≤ x10_1
      ·rw [if_pos c7] at H
       have c7b0 : decide (0 ≤ x10_1) = true := decide_eq_true c7
       clear c7
       (first | rw [c7b0] | (simp only [i64_w, i32_w]; rw [c7b0]) | skip)
       by_cases c8 : ((rd_T36 l0 x10_1).f0) < a1
       ·rw [if_pos c8] at H
        have c8b0 : decide (((rd_T36 l0 x10_1).f0) < a1) = true := decide_eq_true c8
        clear c8
        have H' := Aside0.mk H
        clear H
        have p508 : 0 ≤ (x10_1 : Int) := of_decide_eq_true (by first | (with_reducible assumption) | assumption)
        have q508 : x10_1 < (l0.length : Int) := of_decide_eq_true (by first | (with_reducible assumption) | assumption)
        obtain ⟨ad508, e508, hx508_0, hx508_1⟩ := at_T36 HR0.out x10_1 p508 q508
        cases e508
        replace p508 := eq_true p508
        replace q508 := eq_true q508
        have p509 : 0 ≤ (x10_1 : Int) := of_decide_eq_true (by first | (with_reducible assumption) | assumption)
        have q509 : x10_1 < (l0.length : Int) := of_decide_eq_true (by first | (with_reducible assumption) | assumption)
        obtain ⟨ad509, e509, hx509_0, hx509_1⟩ := at_T36 HR0.out x10_1 p509 q509
        obtain rfl : ad508 = ad509 := (by injection e509)
        replace p509 := eq_true p509
        replace q509 := eq_true q509
        go_wp2
        go_meet
        case rel => exact ⟨_, (decide (((rd_T36 l0 x10_1).f1) ≥ a1)), (by first | rfl | (simp; done) | (simp [*]; done)), H', ⟨by have := HK1.out; first | omega | exact Nat.le_refl _⟩, by repeat (first | exact Drawn0.refl _ | apply Drawn0.step)⟩
       ·rw [if_neg c8] at H
        have c8b0 : decide (((rd_T36 l0 x10_1).f0) < a1) = false := decide_eq_false c8
        clear c8
        have H' := Aside0.mk H
        clear H
        have p508 : 0 ≤ (x10_1 : Int) := of_decide_eq_true (by first | (with_reducible assumption) | assumption)
        have q508 : x10_1 < (l0.length : Int) := of_decide_eq_true (by first | (with_reducible assumption) | assumption)
        obtain ⟨ad508, e508, hx508_0, hx508_1⟩ := at_T36 HR0.out x10_1 p508 q508
        cases e508
        replace p508 := eq_true p508
        replace q508 := eq_true q508
        go_wp2
        go_meet
        case rel => exact ⟨_, (false), (by first | rfl | (simp; done) | (simp [*]; done)), H', ⟨by have := HK1.out; first | omega | exact Nat.le_refl _⟩, by repeat (first | exact Drawn0.refl _ | apply Drawn0.step)⟩
      ·rw [if_neg c7] at H
       exact absurd H (by simp)
     case rest =>
      clear HC6
      try clear c2
      try clear p2
      try clear c4
      try clear c4b0
      try clear c4b1
      try clear c5
      try clear c5b0
      try clear p5
      try clear q5
      try clear hx5
      try clear c7
      try clear c7b0
      try clear c8
      try clear c8b0
      try clear hx508_0
      try clear hx508_1
      try clear hx509_0
      try clear hx509_1
      try clear p2
      try clear p508
      try clear p509
      try clear q508
      try clear q509
      obtain ⟨kq, x37_5, rfl, HA, HJ5, ⟨mc5, rfl⟩⟩ := hcut
      cases kq with
      | zero => exact absurd HA.out (by simp [trishawref06_Level.j1])
      | succ kj5 =>
       have H := HA.out
       clear HA
       simp only [trishawref06_Level.j1] at H
       by_cases c9 : x37_5 = true
       ·subst c9
        have H1 : (if 0 ≤ x10_1 then (if x10_1 < (l0.length : Int) then (if ((rd_T36 l0 x10_1).f0) ≥ a1 then (if ((rd_T36 l0 x10_1).f1) < a1 then (trishawref06_Level.l0 kj5 l0 a1 (wrap64 (x8_1 + 1)) (wrap64 (x9_1 + 1)) (wrap64 (x10_1 + 1))) else (trishawref06_Level.l0 kj5 l0 a1 (wrap64 (x8_1 + 1)) x9_1 (wrap64 (x10_1 + 1)))) else (trishawref06_Level.l0 kj5 l0 a1 (wrap64 (x8_1 + 1)) x9_1 (wrap64 (x10_1 + 1)))) else (none)) else (none)) = some (r1, r2, r3) := by rw [if_pos rfl] at H; exact H
        clear H
        have H := H1
        clear H1
        by_cases c10 : 0 ≤ x10_1
        ·rw [if_pos c10] at H
         have c10b0 : decide (0 ≤ x10_1) = true := decide_eq_true c10
         clear c10
         by_cases c11 : x10_1 < (l0.length : Int)
         ·rw [if_pos c11] at H
          have c11b0 : decide (x10_1 < (l0.length : Int)) = true := decide_eq_true c11
          clear c11
          by_cases c12 : ((rd_T36 l0 x10_1).f0) ≥ a1
          ·rw [if_pos c12] at H
           have c12b0 : decide (a1 ≤ ((rd_T36 l0 x10_1).f0)) = true := decide_eq_true c12
           clear c12
           by_cases c13 : ((rd_T36 l0 x10_1).f1) < a1
           ·rw [if_pos c13] at H
            have c13b0 : decide (((rd_T36 l0 x10_1).f1) < a1) = true := decide_eq_true c13
            clear c13
            have H' := Aside0.mk H
            clear H
            have p510 : 0 ≤ (x10_1 : Int) := of_decide_eq_true (by first | (with_reducible assumption) | assumption)
            have q510 : x10_1 < (l0.length : Int) := of_decide_eq_true (by first | (with_reducible assumption) | assumption)
            obtain ⟨ad510, e510, hx510_0, hx510_1⟩ := at_T36 HR0.out x10_1 p510 q510
            cases e510
            replace p510 := eq_true p510
            replace q510 := eq_true q510
            have p511 : 0 ≤ (x10_1 : Int) := of_decide_eq_true (by first | (with_reducible assumption) | assumption)
            have q511 : x10_1 < (l0.length : Int) := of_decide_eq_true (by first | (with_reducible assumption) | assumption)
            obtain ⟨ad511, e511, hx511_0, hx511_1⟩ := at_T36 HR0.out x10_1 p511 q511
            obtain rfl : ad510 = ad511 := (by injection e511)
            replace p511 := eq_true p511
            replace q511 := eq_true q511
            go_wp2
            go_roundg kj5
            case measure => have := HK1.out; have := HJ5.out; omega
            case rel => exact ⟨(wrap64 (x8_1 + 1)), (wrap64 (x9_1 + 1)), (wrap64 (x10_1 + 1)), (by first | rfl | (simp; done) | (simp [*]; done)), (by first | rfl | (simp; done) | (simp [*]; done)), (by first | rfl | (simp; done) | (simp [*]; done)), H', ⟨by have := HK1.out; have := HJ5.out; omega⟩, by repeat (first | exact Drawn0.refl _ | apply Drawn0.step)⟩
           ·rw [if_neg c13] at H
            have c13b0 : decide (((rd_T36 l0 x10_1).f1) < a1) = false := decide_eq_false c13
            clear c13
            have H' := Aside0.mk H
            clear H
            have p510 : 0 ≤ (x10_1 : Int) := of_decide_eq_true (by first | (with_reducible assumption) | assumption)
            have q510 : x10_1 < (l0.length : Int) := of_decide_eq_true (by first | (with_reducible assumption) | assumption)
            obtain ⟨ad510, e510, hx510_0, hx510_1⟩ := at_T36 HR0.out x10_1 p510 q510
            cases e510
            replace p510 := eq_true p510
            replace q510 := eq_true q510
            have p511 : 0 ≤ (x10_1 : Int) := of_decide_eq_true (by first | (with_reducible assumption) | assumption)
            have q511 : x10_1 < (l0.length : Int) := of_decide_eq_true (by first | (with_reducible assumption) | assumption)
            obtain ⟨ad511, e511, hx511_0, hx511_1⟩ := at_T36 HR0.out x10_1 p511 q511
            obtain rfl : ad510 = ad511 := (by injection e511)
            replace p511 := eq_true p511
            replace q511 := eq_true q511
            go_wp2
            go_roundg kj5
            case measure => have := HK1.out; have := HJ5.out; omega
            case rel => exact ⟨(wrap64 (x8_1 + 1)), (x9_1), (wrap64 (x10_1 + 1)), (by first | rfl | (simp; done) | (simp [*]; done)), (by first | rfl | (simp; done) | (simp [*]; done)), (by first | rfl | (simp; done) | (simp [*]; done)), H', ⟨by have := HK1.out; have := HJ5.out; omega⟩, by repeat (first | exact Drawn0.refl _ | apply Drawn0.step)⟩
          ·rw [if_neg c12] at H
           have c12b0 : decide (a1 ≤ ((rd_T36 l0 x10_1).f0)) = false := decide_eq_false c12
           clear c12
           have H' := Aside0.mk H
           clear H
           have p510 : 0 ≤ (x10_1 : Int) := of_decide_eq_true (by first | (with_reducible assumption) | assumption)
           have q510 : x10_1 < (l0.length : Int) := of_decide_eq_true (by first | (with_reducible assumption) | assumption)
           obtain ⟨ad510, e510, hx510_0, hx510_1⟩ := at_T36 HR0.out x10_1 p510 q510
           cases e510
           replace p510 := eq_true p510
           replace q510 := eq_true q510
           go_wp2
           go_roundg kj5
           case measure => have := HK1.out; have := HJ5.out; omega
           case rel => exact ⟨(wrap64 (x8_1 + 1)), (x9_1), (wrap64 (x10_1 + 1)), (by first | rfl | (simp; done) | (simp [*]; done)), (by first | rfl | (simp; done) | (simp [*]; done)), (by first | rfl | (simp; done) | (simp [*]; done)), H', ⟨by have := HK1.out; have := HJ5.out; omega⟩, by repeat (first | exact Drawn0.refl _ | apply Drawn0.step)⟩
         ·rw [if_neg c11] at H
          exact absurd H (by simp)
        ·rw [if_neg c10] at H
         exact absurd H (by simp)
       ·replace c9 := Bool.eq_false_iff.mpr c9
        subst c9
        have H1 : (if 0 ≤ x10_1 then (if x10_1 < (l0.length : Int) then (if ((rd_T36 l0 x10_1).f0) ≥ a1 then (if ((rd_T36 l0 x10_1).f1) < a1 then (trishawref06_Level.l0 kj5 l0 a1 x8_1 (wrap64 (x9_1 + 1)) (wrap64 (x10_1 + 1))) else (trishawref06_Level.l0 kj5 l0 a1 x8_1 x9_1 (wrap64 (x10_1 + 1)))) else (trishawref06_Level.l0 kj5 l0 a1 x8_1 x9_1 (wrap64 (x10_1 + 1)))) else (none)) else (none)) = some (r1, r2, r3) := by rw [if_neg (show ¬ (false = true) by decide)] at H; exact H
        clear H
        have H := H1
        clear H1
        by_cases c14 : 0 ≤ x10_1
        ·rw [if_pos c14] at H
         have c14b0 : decide (0 ≤ x10_1) = true := decide_eq_true c14
         clear c14
         by_cases c15 : x10_1 < (l0.length : Int)
         ·rw [if_pos c15] at H
          have c15b0 : decide (x10_1 < (l0.length : Int)) = true := decide_eq_true c15
          clear c15
          by_cases c16 : ((rd_T36 l0 x10_1).f0) ≥ a1
          ·rw [if_pos c16] at H
           have c16b0 : decide (a1 ≤ ((rd_T36 l0 x10_1).f0)) = true := decide_eq_true c16
           clear c16
           by_cases c17 : ((rd_T36 l0 x10_1).f1) < a1
           ·rw [if_pos c17] at H
            have c17b0 : decide (((rd_T36 l0 x10_1).f1) < a1) = true := decide_eq_true c17
            clear c17
            have H' := Aside0.mk H
            clear H
            have p512 : 0 ≤ (x10_1 : Int) := of_decide_eq_true (by first | (with_reducible assumption) | assumption)
            have q512 : x10_1 < (l0.length : Int) := of_decide_eq_true (by first | (with_reducible assumption) | assumption)
            obtain ⟨ad512, e512, hx512_0, hx512_1⟩ := at_T36 HR0.out x10_1 p512 q512
            cases e512
            replace p512 := eq_true p512
            replace q512 := eq_true q512
            have p513 : 0 ≤ (x10_1 : Int) := of_decide_eq_true (by first | (with_reducible assumption) | assumption)
            have q513 : x10_1 < (l0.length : Int) := of_decide_eq_true (by first | (with_reducible assumption) | assumption)
            obtain ⟨ad513, e513, hx513_0, hx513_1⟩ := at_T36 HR0.out x10_1 p513 q513
            obtain rfl : ad512 = ad513 := (by injection e513)
            replace p513 := eq_true p513
            replace q513 := eq_true q513
            go_wp2
            go_roundg kj5
            case measure => have := HK1.out; have := HJ5.out; omega
            case rel => exact ⟨(x8_1), (wrap64 (x9_1 + 1)), (wrap64 (x10_1 + 1)), (by first | rfl | (simp; done) | (simp [*]; done)), (by first | rfl | (simp; done) | (simp [*]; done)), (by first | rfl | (simp; done) | (simp [*]; done)), H', ⟨by have := HK1.out; have := HJ5.out; omega⟩, by repeat (first | exact Drawn0.refl _ | apply Drawn0.step)⟩
           ·rw [if_neg c17] at H
            have c17b0 : decide (((rd_T36 l0 x10_1).f1) < a1) = false := decide_eq_false c17
            clear c17
            have H' := Aside0.mk H
            clear H
            have p512 : 0 ≤ (x10_1 : Int) := of_decide_eq_true (by first | (with_reducible assumption) | assumption)
            have q512 : x10_1 < (l0.length : Int) := of_decide_eq_true (by first | (with_reducible assumption) | assumption)
            obtain ⟨ad512, e512, hx512_0, hx512_1⟩ := at_T36 HR0.out x10_1 p512 q512
            cases e512
            replace p512 := eq_true p512
            replace q512 := eq_true q512
            have p513 : 0 ≤ (x10_1 : Int) := of_decide_eq_true (by first | (with_reducible assumption) | assumption)
            have q513 : x10_1 < (l0.length : Int) := of_decide_eq_true (by first | (with_reducible assumption) | assumption)
            obtain ⟨ad513, e513, hx513_0, hx513_1⟩ := at_T36 HR0.out x10_1 p513 q513
            obtain rfl : ad512 = ad513 := (by injection e513)
            replace p513 := eq_true p513
            replace q513 := eq_true q513
            go_wp2
            go_roundg kj5
            case measure => have := HK1.out; have := HJ5.out; omega
            case rel => exact ⟨(x8_1), (x9_1), (wrap64 (x10_1 + 1)), (by first | rfl | (simp; done) | (simp [*]; done)), (by first | rfl | (simp; done) | (simp [*]; done)), (by first | rfl | (simp; done) | (simp [*]; done)), H', ⟨by have := HK1.out; have := HJ5.out; omega⟩, by repeat (first | exact Drawn0.refl _ | apply Drawn0.step)⟩
          ·rw [if_neg c16] at H
           have c16b0 : decide (a1 ≤ ((rd_T36 l0 x10_1).f0)) = false := decide_eq_false c16
           clear c16
           have H' := Aside0.mk H
           clear H
           have p512 : 0 ≤ (x10_1 : Int) := of_decide_eq_true (by first | (with_reducible assumption) | assumption)
           have q512 : x10_1 < (l0.length : Int) := of_decide_eq_true (by first | (with_reducible assumption) | assumption)
           obtain ⟨ad512, e512, hx512_0, hx512_1⟩ := at_T36 HR0.out x10_1 p512 q512
           cases e512
           replace p512 := eq_true p512
           replace q512 := eq_true q512
           go_wp2
           go_roundg kj5
           case measure => have := HK1.out; have := HJ5.out; omega
           case rel => exact ⟨(x8_1), (x9_1), (wrap64 (x10_1 + 1)), (by first | rfl | (simp; done) | (simp [*]; done)), (by first | rfl | (simp; done) | (simp [*]; done)), (by first | rfl | (simp; done) | (simp [*]; done)), H', ⟨by have := HK1.out; have := HJ5.out; omega⟩, by repeat (first | exact Drawn0.refl _ | apply Drawn0.step)⟩
         ·rw [if_neg c15] at H
          exact absurd H (by simp)
        ·rw [if_neg c14] at H
         exact absurd H (by simp)
    ·rw [if_neg c5] at H
     have c5b0 : decide (x10_1 < (l0.length : Int)) = false := decide_eq_false c5
     clear c5
     simp only [Option.some.injEq, Prod.mk.injEq] at H
     obtain ⟨rfl, rfl, rfl⟩ := H
     go_wp2
     go_ret3
     exact ⟨by first | rfl | (simp; done) | (simp [*]; done), by repeat (first | exact Drawn0.refl _ | apply Drawn0.step)⟩
 ·rw [if_neg c4] at H
  have c4b0 : (t507 == 0) = false := beq_eq_false_iff_ne.mpr c4
  have c4b1 : (t507 != 0) = true := bne_iff_ne.mpr c4
  simp only [Option.some.injEq, Prod.mk.injEq] at H
  obtain ⟨rfl, rfl, rfl⟩ := H
  go_enter Try.func29, Try.ntmps29
  go_wp2_with (first | ((with_reducible refine gate_callee (f := 22) rfl ?_); refine goesL_ (some 12) rfl rfl Try.func22 (by kernel_rfl) rfl #[.slice A0 l0.length c0] rfl (by (try simp only [List.map_toArray, List.map_cons, List.map_nil]); first | done | rfl | (simp only [List.length_drop, List.length_take]; rfl)) ?_; (with_reducible refine (trishawref06_Rides.calls k _ _ l0 t507 _ ?side1 ?side2 A3.out).mono ?_); (case side1 => repeat (first | exact HR0.out | (with_reducible refine Kd.C_alloc ?_ _) | (with_reducible refine Kd.C_drewN ?_ _) | (with_reducible refine Kd.C_drew ?_))); (case side2 => exact HC0.out); rintro e w' ⟨rfl, ⟨nd, rfl⟩⟩; refine ⟨_, rfl, ?_⟩))
  go_ret3
  exact ⟨by first | rfl | (simp; done) | (simp [*]; done), by repeat (first | exact Drawn0.refl _ | apply Drawn0.step)⟩
def trishawlaw06_TripLevels.f (k : Nat) (l0 : List (S36)) (a1 : Int) : Option (Bool) := (trishawlaw06_few.f l0 ([] : List Int)).bind fun t514 => (if t514 = true then ((trip_Level.f k l0 a1).bind fun bt515 => ((trishawref06_Level.f k l0 a1).bind fun bt518 => (if bt515.1 = bt518.1 then (if bt515.2.1 = bt518.2.1 then (if bt515.2.2 = bt518.2.2 then ((trishawlaw06_alive.f k).bind fun t521 => (some t521)) else (none)) else (none)) else (none)))) else ((trishawlaw06_alive.f k).bind fun t522 => (some t522)))
set_option maxHeartbeats 8000000 in
set_option maxRecDepth 100000 in
theorem trishawlaw06_TripLevels.calls (k : Nat) (A0 : Option Addr) (c0 : Nat) (l0 : List (S36)) (a1 : Int) (r : Bool) (w : World) (hr0 : Kd.C k36 w A0 l0.length l0) (hc0 : l0.length ≤ c0) (h : trishawlaw06_TripLevels.f k l0 a1 = some r) :
  Calls Try.prog 7 #[.slice A0 l0.length c0, .int .i64 a1] w fun e w' => e = .returned (.bool r) ∧ Below w.heap.size w w' := by
 have HR0 := Aside0.mk hr0
 have HC0 := Aside0.mk hc0
 clear hr0 hc0
 have HB := Aside0.mk (Below.refl w.heap.size w)
 have H : ((trishawlaw06_few.f l0 ([] : List Int)).bind fun t514 => (if t514 = true then ((trip_Level.f k l0 a1).bind fun bt515 => ((trishawref06_Level.f k l0 a1).bind fun bt518 => (if bt515.1 = bt518.1 then (if bt515.2.1 = bt518.2.1 then (if bt515.2.2 = bt518.2.2 then ((trishawlaw06_alive.f k).bind fun t521 => (some t521)) else (none)) else (none)) else (none)))) else ((trishawlaw06_alive.f k).bind fun t522 => (some t522)))) = some r := h
 clear h
 replace H := Option.bind_eq_some_iff.mp H
 obtain ⟨t514, A30, H⟩ := H
 replace H : (if t514 = true then ((trip_Level.f k l0 a1).bind fun bt515 => ((trishawref06_Level.f k l0 a1).bind fun bt518 => (if bt515.1 = bt518.1 then (if bt515.2.1 = bt518.2.1 then (if bt515.2.2 = bt518.2.2 then ((trishawlaw06_alive.f k).bind fun t521 => (some t521)) else (none)) else (none)) else (none)))) else ((trishawlaw06_alive.f k).bind fun t522 => (some t522))) = some r := H
 have A3 := Aside0.mk A30
 clear A30
 by_cases c4 : t514 = true
 ·subst c4
  have H1 : ((trip_Level.f k l0 a1).bind fun bt515 => ((trishawref06_Level.f k l0 a1).bind fun bt518 => (if bt515.1 = bt518.1 then (if bt515.2.1 = bt518.2.1 then (if bt515.2.2 = bt518.2.2 then ((trishawlaw06_alive.f k).bind fun t521 => (some t521)) else (none)) else (none)) else (none)))) = some r := by rw [if_pos rfl] at H; exact H
  clear H
  have H := H1
  clear H1
  replace H := Option.bind_eq_some_iff.mp H
  obtain ⟨⟨t515, t516, t517⟩, A50, H⟩ := H
  replace H : ((trishawref06_Level.f k l0 a1).bind fun bt518 => (if t515 = bt518.1 then (if t516 = bt518.2.1 then (if t517 = bt518.2.2 then ((trishawlaw06_alive.f k).bind fun t521 => (some t521)) else (none)) else (none)) else (none))) = some r := H
  have A5 := Aside0.mk A50
  clear A50
  replace H := Option.bind_eq_some_iff.mp H
  obtain ⟨⟨t518, t519, t520⟩, A60, H⟩ := H
  replace H : (if t515 = t518 then (if t516 = t519 then (if t517 = t520 then ((trishawlaw06_alive.f k).bind fun t521 => (some t521)) else (none)) else (none)) else (none)) = some r := H
  have A6 := Aside0.mk A60
  clear A60
  by_cases c7 : t515 = t518
  ·rw [if_pos c7] at H
   have c7b0 : (t515 == t518) = true := beq_iff_eq.mpr c7
   have c7b1 : (t515 != t518) = false := bne_eq_false_iff_eq.mpr c7
   clear c7
   by_cases c8 : t516 = t519
   ·rw [if_pos c8] at H
    have c8b0 : (t516 == t519) = true := beq_iff_eq.mpr c8
    have c8b1 : (t516 != t519) = false := bne_eq_false_iff_eq.mpr c8
    clear c8
    by_cases c9 : t517 = t520
    ·rw [if_pos c9] at H
     have c9b0 : (t517 == t520) = true := beq_iff_eq.mpr c9
     have c9b1 : (t517 != t520) = false := bne_eq_false_iff_eq.mpr c9
     clear c9
     replace H := Option.bind_eq_some_iff.mp H
     obtain ⟨t521, A100, H⟩ := H
     replace H : (some t521) = some r := H
     have A10 := Aside0.mk A100
     clear A100
     obtain rfl := Option.some.inj H
     go_enter Try.func7, Try.ntmps7
     go_wp2_with (first | ((with_reducible refine gate_callee (f := 15) rfl ?_); refine goesL_ (some 12) rfl rfl Try.func15 (by kernel_rfl) rfl #[.slice A0 l0.length c0, .slice none 0 0] rfl (by (try simp only [List.map_toArray, List.map_cons, List.map_nil]); first | done | rfl | (simp only [List.length_drop, List.length_take]; rfl)) ?_; (refine (trishawlaw06_few.calls _ _ l0 _ _ ([] : List Int) true _ ?side1 ?side2 ?side3 ?side4 A3.out).mono ?_); (case side1 => repeat (first | exact HR0.out | (with_reducible refine Kd.C_alloc ?_ _) | (with_reducible refine Kd.C_drewN ?_ _) | (with_reducible refine Kd.C_drew ?_))); (case side2 => exact HC0.out); (case side3 => exact Kd.C_nil _ _); (case side4 => exact Nat.le_refl _); rintro e w' ⟨rfl, ⟨nd, rfl⟩⟩; refine ⟨_, rfl, ?_⟩) | ((with_reducible refine gate_callee (f := 28) rfl ?_); refine goesL_ (some 18) rfl rfl Try.func28 (by kernel_rfl) rfl #[.slice A0 l0.length c0, .int .i64 a1] rfl (by (try simp only [List.map_toArray, List.map_cons, List.map_nil]); first | done | rfl | (simp only [List.length_drop, List.length_take]; rfl)) ?_; (with_reducible refine (trip_Level.calls k _ _ l0 a1 t515 t516 t517 _ ?side1 ?side2 A5.out).mono ?_); (case side1 => repeat (first | exact HR0.out | (with_reducible refine Kd.C_alloc ?_ _) | (with_reducible refine Kd.C_drewN ?_ _) | (with_reducible refine Kd.C_drew ?_))); (case side2 => exact HC0.out); rintro e w11 ⟨rfl, hb⟩; refine ⟨_, rfl, ?_⟩; have n0_ := Aside0.mk (below_step (by repeat (first | (with_reducible first | exact HB.out | apply lal | apply ldn | apply ldr) | exact HB.out)) hb); clear HB; have HB := n0_; clear n0_; (try clear hb); (try clear hb2); (try clear hk); (try clear hi)) | ((with_reducible refine gate_callee (f := 29) rfl ?_); refine goesL_ (some 25) rfl rfl Try.func29 (by kernel_rfl) rfl #[.slice A0 l0.length c0, .int .i64 a1] rfl (by (try simp only [List.map_toArray, List.map_cons, List.map_nil]); first | done | rfl | (simp only [List.length_drop, List.length_take]; rfl)) ?_; (with_reducible refine (trishawref06_Level.calls k _ _ l0 a1 t518 t519 t520 _ ?side1 ?side2 A6.out).mono ?_); (case side1 => repeat (first | exact (Kd.C_below HR0.out HB.out) | (with_reducible refine Kd.C_alloc ?_ _) | (with_reducible refine Kd.C_drewN ?_ _) | (with_reducible refine Kd.C_drew ?_))); (case side2 => exact HC0.out); rintro e w' ⟨rfl, ⟨nd, rfl⟩⟩; refine ⟨_, rfl, ?_⟩) | (go_at_call 16; (with_reducible refine (trishawlaw06_alive.calls k  t521 _ A10.out).mono ?_); rintro e w12 ⟨rfl, hb⟩; have n0_ := Aside0.mk (below_step (by repeat (first | (with_reducible first | exact HB.out | apply lal | apply ldn | apply ldr) | exact HB.out)) hb); clear HB; have HB := n0_; clear n0_; (try clear hb); (try clear hb2); (try clear hk); (try clear hi)))
     go_ret
     exact ⟨by first | rfl | (simp [errW_none, errW_some] <;> rfl) | (simp [*, errW_none, errW_some] <;> rfl), by repeat (first | (with_reducible first | exact HB.out | apply lal | apply ldn | apply ldr) | exact HB.out)⟩
    ·rw [if_neg c9] at H
     exact absurd H (by simp)
   ·rw [if_neg c8] at H
    exact absurd H (by simp)
  ·rw [if_neg c7] at H
   exact absurd H (by simp)
 ·replace c4 := Bool.eq_false_iff.mpr c4
  subst c4
  have H1 : ((trishawlaw06_alive.f k).bind fun t522 => (some t522)) = some r := by rw [if_neg (show ¬ (false = true) by decide)] at H; exact H
  clear H
  have H := H1
  clear H1
  replace H := Option.bind_eq_some_iff.mp H
  obtain ⟨t522, A130, H⟩ := H
  replace H : (some t522) = some r := H
  have A13 := Aside0.mk A130
  clear A130
  obtain rfl := Option.some.inj H
  go_enter Try.func7, Try.ntmps7
  go_wp2_with (first | ((with_reducible refine gate_callee (f := 15) rfl ?_); refine goesL_ (some 12) rfl rfl Try.func15 (by kernel_rfl) rfl #[.slice A0 l0.length c0, .slice none 0 0] rfl (by (try simp only [List.map_toArray, List.map_cons, List.map_nil]); first | done | rfl | (simp only [List.length_drop, List.length_take]; rfl)) ?_; (refine (trishawlaw06_few.calls _ _ l0 _ _ ([] : List Int) false _ ?side1 ?side2 ?side3 ?side4 A3.out).mono ?_); (case side1 => repeat (first | exact HR0.out | (with_reducible refine Kd.C_alloc ?_ _) | (with_reducible refine Kd.C_drewN ?_ _) | (with_reducible refine Kd.C_drew ?_))); (case side2 => exact HC0.out); (case side3 => exact Kd.C_nil _ _); (case side4 => exact Nat.le_refl _); rintro e w' ⟨rfl, ⟨nd, rfl⟩⟩; refine ⟨_, rfl, ?_⟩) | ((with_reducible refine gate_callee (f := 16) rfl ?_); refine goesL_ (some 14) rfl rfl Try.func16 (by kernel_rfl) rfl #[] rfl (by (try simp only [List.map_toArray, List.map_cons, List.map_nil]); first | done | rfl | (simp only [List.length_drop, List.length_take]; rfl)) ?_; (with_reducible refine (trishawlaw06_alive.calls k  t522 _ A13.out).mono ?_); rintro e w14 ⟨rfl, hb⟩; refine ⟨_, rfl, ?_⟩; have n0_ := Aside0.mk (below_step (by repeat (first | (with_reducible first | exact HB.out | apply lal | apply ldn | apply ldr) | exact HB.out)) hb); clear HB; have HB := n0_; clear n0_; (try clear hb); (try clear hb2); (try clear hk); (try clear hi)))
  go_ret
  exact ⟨by first | rfl | (simp [errW_none, errW_some] <;> rfl) | (simp [*, errW_none, errW_some] <;> rfl), by repeat (first | (with_reducible first | exact HB.out | apply lal | apply ldn | apply ldr) | exact HB.out)⟩
end Go.Proofs.Ytlmlneneakpohaa.OAll
