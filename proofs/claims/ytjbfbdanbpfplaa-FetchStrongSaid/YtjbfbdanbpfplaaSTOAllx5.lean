/- A part of the proof of 'fetchStrong_holds', for every input, without a condition. -/
import Derived.Test.YtjbfbdanbpfplaaSTOAllx0
namespace Go.Proofs.Ytjbfbdanbpfplaa.OAll
open Go.RowKit Go.Proofs.YtjbfbdanbpfplaaW.PrintWords Go.Proofs.YtjbfbdanbpfplaaW.PrintLast Go.Proofs.YtjbfbdanbpfplaaW.PrintMore
attribute [local go_sem] max2_int min2_int max_two min_two max_three min_three max_four min_four
set_option linter.unusedVariables false
set_option linter.unusedSimpArgs false
mutual
def trishawref09_reached.l0 : Nat → List (S34) → Bool → Int → Bool → Option (Int)
 | 0, _, _, _, _ => none
 | k + 1, x0, x2, x7, x8 => if x8 = true then (trishawref09_reached.l1 k x0 x2 x7 false 0) else (some x7)
def trishawref09_reached.l1 : Nat → List (S34) → Bool → Int → Bool → Int → Option (Int)
 | 0, _, _, _, _, _ => none
 | k + 1, x0, x2, x7, x8, x9 => if x9 < (x0.length : Int) then (if 0 ≤ x9 then (if 0 ≤ ((rd_T34 x0 x9).f0) then (if ((rd_T34 x0 x9).f0) ≤ 64 then (if 0 ≤ ((rd_T34 x0 x9).f1) then (if ((rd_T34 x0 x9).f1) ≤ 64 then (if (Int.tmod (x7 / 2 ^ ((rd_T34 x0 x9).f0).toNat) 2) = 1 then (if (Int.tmod (x7 / 2 ^ ((rd_T34 x0 x9).f1).toNat) 2) = 0 then (trishawref09_reached.l1 k x0 x2 (Go.bits .or .i64 (Go.bits .or .i64 x7 (wrap64 (2 ^ ((rd_T34 x0 x9).f0).toNat))) (wrap64 (2 ^ ((rd_T34 x0 x9).f1).toNat))) true (wrap64 (x9 + 1))) else (if x2 = true then (if (Int.tmod (x7 / 2 ^ ((rd_T34 x0 x9).f0).toNat) 2) = 0 then (if (Int.tmod (x7 / 2 ^ ((rd_T34 x0 x9).f1).toNat) 2) = 1 then (trishawref09_reached.l1 k x0 x2 (Go.bits .or .i64 (Go.bits .or .i64 x7 (wrap64 (2 ^ ((rd_T34 x0 x9).f0).toNat))) (wrap64 (2 ^ ((rd_T34 x0 x9).f1).toNat))) true (wrap64 (x9 + 1))) else (trishawref09_reached.l1 k x0 x2 x7 x8 (wrap64 (x9 + 1)))) else (trishawref09_reached.l1 k x0 x2 x7 x8 (wrap64 (x9 + 1)))) else (trishawref09_reached.l1 k x0 x2 x7 x8 (wrap64 (x9 + 1))))) else (if x2 = true then (if (Int.tmod (x7 / 2 ^ ((rd_T34 x0 x9).f0).toNat) 2) = 0 then (if (Int.tmod (x7 / 2 ^ ((rd_T34 x0 x9).f1).toNat) 2) = 1 then (trishawref09_reached.l1 k x0 x2 (Go.bits .or .i64 (Go.bits .or .i64 x7 (wrap64 (2 ^ ((rd_T34 x0 x9).f0).toNat))) (wrap64 (2 ^ ((rd_T34 x0 x9).f1).toNat))) true (wrap64 (x9 + 1))) else (trishawref09_reached.l1 k x0 x2 x7 x8 (wrap64 (x9 + 1)))) else (trishawref09_reached.l1 k x0 x2 x7 x8 (wrap64 (x9 + 1)))) else (trishawref09_reached.l1 k x0 x2 x7 x8 (wrap64 (x9 + 1))))) else (none)) else (none)) else (none)) else (none)) else (none)) else (trishawref09_reached.l0 k x0 x2 x7 x8)
end
def trishawref09_reached.f (k : Nat) (l0 : List (S34)) (a1 : Int) (a2 : Bool) : Option (Int) := if 0 ≤ a1 then (if a1 ≤ 64 then (trishawref09_reached.l0 k l0 a2 (wrap64 (2 ^ a1.toNat)) true) else (none)) else (none)
set_option maxHeartbeats 8000000 in
set_option maxRecDepth 100000 in
theorem trishawref09_reached.calls (k : Nat) (A0 : Option Addr) (c0 : Nat) (l0 : List (S34)) (a1 : Int) (a2 : Bool) (r : Int) (w : World) (hr0 : Kd.C k34 w A0 l0.length l0) (hc0 : l0.length ≤ c0) (h : trishawref09_reached.f k l0 a1 a2 = some r) :
  Calls Try.prog 50 #[.slice A0 l0.length c0, .int .i64 a1, .bool a2] w fun e w' => e = .returned (.int .i64 r) ∧ Drawn0 w w' := by
 have HR0 := Aside0.mk hr0
 have HC0 := Aside0.mk hc0
 clear hr0 hc0
 have H : (if 0 ≤ a1 then (if a1 ≤ 64 then (trishawref09_reached.l0 k l0 a2 (wrap64 (2 ^ a1.toNat)) true) else (none)) else (none)) = some r := h
 clear h
 by_cases c4 : 0 ≤ a1
 ·rw [if_pos c4] at H
  have c4b0 := eq_true c4
  have c4b1 : decide (0 ≤ a1) = true := decide_eq_true c4
  clear c4
  by_cases c5 : a1 ≤ 64
  ·rw [if_pos c5] at H
   have c5b0 := eq_true c5
   have c5b1 : decide (a1 ≤ 64) = true := decide_eq_true c5
   clear c5
   have H' := Aside0.mk H
   clear H
   go_enter Try.func50, Try.ntmps50
   go_wp2
   repeat (go_quiet (fail); try go_wp2)
   go_loopg [7, 8] k (fun kq v7 v8 w' => ∃ (x7_1 : Int) (x8_1 : Bool), v7 = .int .i64 x7_1 ∧ v8 = .bool x8_1 ∧ Aside0 (trishawref09_reached.l0 kq l0 a2 x7_1 x8_1 = some r) ∧ Aside0 (kq ≤ k) ∧ Drawn0 w w')
   case atStart => exact ⟨(wrap64 (2 ^ a1.toNat)), (true), (by first | rfl | (simp; done) | (simp [*]; done)), (by first | rfl | (simp; done) | (simp [*]; done)), H', ⟨Nat.le_refl _⟩, by repeat (first | exact Drawn0.refl _ | apply Drawn0.step)⟩
   case round =>
    clear H'
    try clear p2
    try clear c4
    try clear c4b0
    try clear c4b1
    try clear c5
    try clear c5b0
    try clear c5b1
    obtain ⟨x7_1, x8_1, rfl, rfl, HA, HK1, ⟨m1, rfl⟩⟩ := hrel
    cases gk with
    | zero => exact absurd HA.out (by simp [trishawref09_reached.l0])
    | succ k1 =>
     have H := HA.out
     clear HA
     simp only [trishawref09_reached.l0] at H
     by_cases c6 : x8_1 = true
     ·subst c6
      have H1 : (trishawref09_reached.l1 k1 l0 a2 x7_1 false 0) = some r := by rw [if_pos rfl] at H; exact H
      clear H
      have H := H1
      clear H1
      have H' := Aside0.mk H
      clear H
      go_wp2
      repeat (go_quiet (fail); try go_wp2)
      go_loopg [7, 8, 9] k1 (fun kq v7 v8 v9 w' => ∃ (x7_2 : Int) (x8_2 : Bool) (x9_2 : Int), v7 = .int .i64 x7_2 ∧ v8 = .bool x8_2 ∧ v9 = .int .i64 x9_2 ∧ Aside0 (trishawref09_reached.l1 kq l0 a2 x7_2 x8_2 x9_2 = some r) ∧ Aside0 (kq ≤ k1) ∧ Drawn0 w w')
      case atStart => exact ⟨(x7_1), (false), (0), (by first | rfl | (simp; done) | (simp [*]; done)), (by first | rfl | (simp; done) | (simp [*]; done)), (by first | rfl | (simp; done) | (simp [*]; done)), H', ⟨Nat.le_refl _⟩, by repeat (first | exact Drawn0.refl _ | apply Drawn0.step)⟩
      case round =>
       clear H'
       try clear p2
       try clear c4
       try clear c4b0
       try clear c4b1
       try clear c5
       try clear c5b0
       try clear c5b1
       try clear c6
       try clear p6
       try clear p2
       obtain ⟨x7_2, x8_2, x9_2, rfl, rfl, rfl, HA, HK2, ⟨m2, rfl⟩⟩ := hrel
       cases gk with
       | zero => exact absurd HA.out (by simp [trishawref09_reached.l1])
       | succ k2 =>
        have H := HA.out
        clear HA
        simp only [trishawref09_reached.l1] at H
        by_cases c7 : x9_2 < (l0.length : Int)
        ·rw [if_pos c7] at H
         have c7b0 : decide (x9_2 < (l0.length : Int)) = true := decide_eq_true c7
         clear c7
         by_cases c8 : 0 ≤ x9_2
         ·rw [if_pos c8] at H
          have c8b0 : decide (0 ≤ x9_2) = true := decide_eq_true c8
          clear c8
          by_cases c9 : 0 ≤ ((rd_T34 l0 x9_2).f0)
          ·rw [if_pos c9] at H
           have c9b0 := eq_true c9
           have c9b1 : decide (0 ≤ ((rd_T34 l0 x9_2).f0)) = true := decide_eq_true c9
           clear c9
           by_cases c10 : ((rd_T34 l0 x9_2).f0) ≤ 64
           ·rw [if_pos c10] at H
            have c10b0 := eq_true c10
            have c10b1 : decide (((rd_T34 l0 x9_2).f0) ≤ 64) = true := decide_eq_true c10
            clear c10
            by_cases c11 : 0 ≤ ((rd_T34 l0 x9_2).f1)
            ·rw [if_pos c11] at H
             have c11b0 := eq_true c11
             have c11b1 : decide (0 ≤ ((rd_T34 l0 x9_2).f1)) = true := decide_eq_true c11
             clear c11
             by_cases c12 : ((rd_T34 l0 x9_2).f1) ≤ 64
             ·rw [if_pos c12] at H
              have c12b0 := eq_true c12
              have c12b1 : decide (((rd_T34 l0 x9_2).f1) ≤ 64) = true := decide_eq_true c12
              clear c12
              by_cases c13 : (Int.tmod (x7_2 / 2 ^ ((rd_T34 l0 x9_2).f0).toNat) 2) = 1
              ·rw [if_pos c13] at H
               have c13b0 : ((Int.tmod (x7_2 / 2 ^ ((rd_T34 l0 x9_2).f0).toNat) 2) == 1) = true := beq_iff_eq.mpr c13
               have c13b1 : ((Int.tmod (x7_2 / 2 ^ ((rd_T34 l0 x9_2).f0).toNat) 2) != 1) = false := bne_eq_false_iff_eq.mpr c13
               clear c13
               by_cases c14 : (Int.tmod (x7_2 / 2 ^ ((rd_T34 l0 x9_2).f1).toNat) 2) = 0
               ·rw [if_pos c14] at H
                have c14b0 : ((Int.tmod (x7_2 / 2 ^ ((rd_T34 l0 x9_2).f1).toNat) 2) == 0) = true := beq_iff_eq.mpr c14
                have c14b1 : ((Int.tmod (x7_2 / 2 ^ ((rd_T34 l0 x9_2).f1).toNat) 2) != 0) = false := bne_eq_false_iff_eq.mpr c14
                clear c14
                have c15b0 := eq_true (of_decide_eq_true (by first | (with_reducible assumption) | assumption) : 0 ≤ ((rd_T34 l0 x9_2).f0))
                have c16b0 := eq_true (of_decide_eq_true (by first | (with_reducible assumption) | assumption) : ((rd_T34 l0 x9_2).f0) ≤ 64)
                have c17b0 := eq_true (of_decide_eq_true (by first | (with_reducible assumption) | assumption) : 0 ≤ ((rd_T34 l0 x9_2).f1))
                have c18b0 := eq_true (of_decide_eq_true (by first | (with_reducible assumption) | assumption) : ((rd_T34 l0 x9_2).f1) ≤ 64)
                have H' := Aside0.mk H
                clear H
                have p130 : 0 ≤ (x9_2 : Int) := of_decide_eq_true (by first | (with_reducible assumption) | assumption)
                have q130 : x9_2 < (l0.length : Int) := of_decide_eq_true (by first | (with_reducible assumption) | assumption)
                obtain ⟨ad130, e130, hx130_0, hx130_1⟩ := at_T34 HR0.out x9_2 p130 q130
                cases e130
                replace p130 := eq_true p130
                replace q130 := eq_true q130
                have p131 : 0 ≤ (x9_2 : Int) := of_decide_eq_true (by first | (with_reducible assumption) | assumption)
                have q131 : x9_2 < (l0.length : Int) := of_decide_eq_true (by first | (with_reducible assumption) | assumption)
                obtain ⟨ad131, e131, hx131_0, hx131_1⟩ := at_T34 HR0.out x9_2 p131 q131
                obtain rfl : ad130 = ad131 := (by injection e131)
                replace p131 := eq_true p131
                replace q131 := eq_true q131
                have p132 : 0 ≤ (x9_2 : Int) := of_decide_eq_true (by first | (with_reducible assumption) | assumption)
                have q132 : x9_2 < (l0.length : Int) := of_decide_eq_true (by first | (with_reducible assumption) | assumption)
                obtain ⟨ad132, e132, hx132_0, hx132_1⟩ := at_T34 HR0.out x9_2 p132 q132
                obtain rfl : ad130 = ad132 := (by injection e132)
                replace p132 := eq_true p132
                replace q132 := eq_true q132
                have p133 : 0 ≤ (x9_2 : Int) := of_decide_eq_true (by first | (with_reducible assumption) | assumption)
                have q133 : x9_2 < (l0.length : Int) := of_decide_eq_true (by first | (with_reducible assumption) | assumption)
                obtain ⟨ad133, e133, hx133_0, hx133_1⟩ := at_T34 HR0.out x9_2 p133 q133
                obtain rfl : ad130 = ad133 := (by injection e133)
                replace p133 := eq_true p133
                replace q133 := eq_true q133
                go_wp2
                repeat (go_quiet (fail); try go_wp2)
                go_roundg k2
                case measure => have := HK1.out; have := HK2.out; omega
                case rel => exact ⟨(Go.bits .or .i64 (Go.bits .or .i64 x7_2 (wrap64 (2 ^ ((rd_T34 l0 x9_2).f0).toNat))) (wrap64 (2 ^ ((rd_T34 l0 x9_2).f1).toNat))), (true), (wrap64 (x9_2 + 1)), (by first | rfl | (simp; done) | (simp [*]; done)), (by first | rfl | (simp; done) | (simp [*]; done)), (by first | rfl | (simp; done) | (simp [*]; done)), H', ⟨by have := HK1.out; have := HK2.out; omega⟩, by repeat (first | exact Drawn0.refl _ | apply Drawn0.step)⟩
               ·rw [if_neg c14] at H
                have c14b0 : ((Int.tmod (x7_2 / 2 ^ ((rd_T34 l0 x9_2).f1).toNat) 2) == 0) = false := beq_eq_false_iff_ne.mpr c14
                have c14b1 : ((Int.tmod (x7_2 / 2 ^ ((rd_T34 l0 x9_2).f1).toNat) 2) != 0) = true := bne_iff_ne.mpr c14
                by_cases c19 : a2 = true
                ·subst c19
                 have H1 : (if (Int.tmod (x7_2 / 2 ^ ((rd_T34 l0 x9_2).f0).toNat) 2) = 0 then (if (Int.tmod (x7_2 / 2 ^ ((rd_T34 l0 x9_2).f1).toNat) 2) = 1 then (trishawref09_reached.l1 k2 l0 true (Go.bits .or .i64 (Go.bits .or .i64 x7_2 (wrap64 (2 ^ ((rd_T34 l0 x9_2).f0).toNat))) (wrap64 (2 ^ ((rd_T34 l0 x9_2).f1).toNat))) true (wrap64 (x9_2 + 1))) else (trishawref09_reached.l1 k2 l0 true x7_2 x8_2 (wrap64 (x9_2 + 1)))) else (trishawref09_reached.l1 k2 l0 true x7_2 x8_2 (wrap64 (x9_2 + 1)))) = some r := by rw [if_pos rfl] at H; exact H
                 clear H
                 have H := H1
                 clear H1
                 by_cases c20 : (Int.tmod (x7_2 / 2 ^ ((rd_T34 l0 x9_2).f0).toNat) 2) = 0
                 ·rw [if_pos c20] at H
                  have c20b0 : ((Int.tmod (x7_2 / 2 ^ ((rd_T34 l0 x9_2).f0).toNat) 2) == 0) = true := beq_iff_eq.mpr c20
                  have c20b1 : ((Int.tmod (x7_2 / 2 ^ ((rd_T34 l0 x9_2).f0).toNat) 2) != 0) = false := bne_eq_false_iff_eq.mpr c20
                  clear c20
                  by_cases c21 : (Int.tmod (x7_2 / 2 ^ ((rd_T34 l0 x9_2).f1).toNat) 2) = 1
                  ·rw [if_pos c21] at H
                   have c21b0 : ((Int.tmod (x7_2 / 2 ^ ((rd_T34 l0 x9_2).f1).toNat) 2) == 1) = true := beq_iff_eq.mpr c21
                   have c21b1 : ((Int.tmod (x7_2 / 2 ^ ((rd_T34 l0 x9_2).f1).toNat) 2) != 1) = false := bne_eq_false_iff_eq.mpr c21
                   clear c21
                   have c22b0 := eq_true (of_decide_eq_true (by first | (with_reducible assumption) | assumption) : 0 ≤ ((rd_T34 l0 x9_2).f0))
                   have c23b0 := eq_true (of_decide_eq_true (by first | (with_reducible assumption) | assumption) : ((rd_T34 l0 x9_2).f0) ≤ 64)
                   have c24b0 := eq_true (of_decide_eq_true (by first | (with_reducible assumption) | assumption) : 0 ≤ ((rd_T34 l0 x9_2).f1))
                   have c25b0 := eq_true (of_decide_eq_true (by first | (with_reducible assumption) | assumption) : ((rd_T34 l0 x9_2).f1) ≤ 64)
                   have H' := Aside0.mk H
                   clear H
                   have p130 : 0 ≤ (x9_2 : Int) := of_decide_eq_true (by first | (with_reducible assumption) | assumption)
                   have q130 : x9_2 < (l0.length : Int) := of_decide_eq_true (by first | (with_reducible assumption) | assumption)
                   obtain ⟨ad130, e130, hx130_0, hx130_1⟩ := at_T34 HR0.out x9_2 p130 q130
                   cases e130
                   replace p130 := eq_true p130
                   replace q130 := eq_true q130
                   have p131 : 0 ≤ (x9_2 : Int) := of_decide_eq_true (by first | (with_reducible assumption) | assumption)
                   have q131 : x9_2 < (l0.length : Int) := of_decide_eq_true (by first | (with_reducible assumption) | assumption)
                   obtain ⟨ad131, e131, hx131_0, hx131_1⟩ := at_T34 HR0.out x9_2 p131 q131
                   obtain rfl : ad130 = ad131 := (by injection e131)
                   replace p131 := eq_true p131
                   replace q131 := eq_true q131
                   have p134 : 0 ≤ (x9_2 : Int) := of_decide_eq_true (by first | (with_reducible assumption) | assumption)
                   have q134 : x9_2 < (l0.length : Int) := of_decide_eq_true (by first | (with_reducible assumption) | assumption)
                   obtain ⟨ad134, e134, hx134_0, hx134_1⟩ := at_T34 HR0.out x9_2 p134 q134
                   obtain rfl : ad130 = ad134 := (by injection e134)
                   replace p134 := eq_true p134
                   replace q134 := eq_true q134
                   have p135 : 0 ≤ (x9_2 : Int) := of_decide_eq_true (by first | (with_reducible assumption) | assumption)
                   have q135 : x9_2 < (l0.length : Int) := of_decide_eq_true (by first | (with_reducible assumption) | assumption)
                   obtain ⟨ad135, e135, hx135_0, hx135_1⟩ := at_T34 HR0.out x9_2 p135 q135
                   obtain rfl : ad130 = ad135 := (by injection e135)
                   replace p135 := eq_true p135
                   replace q135 := eq_true q135
                   go_wp2
                   repeat (go_quiet (fail); try go_wp2)
                   go_roundg k2
                   case measure => have := HK1.out; have := HK2.out; omega
                   case rel => exact ⟨(Go.bits .or .i64 (Go.bits .or .i64 x7_2 (wrap64 (2 ^ ((rd_T34 l0 x9_2).f0).toNat))) (wrap64 (2 ^ ((rd_T34 l0 x9_2).f1).toNat))), (true), (wrap64 (x9_2 + 1)), (by first | rfl | (simp; done) | (simp [*]; done)), (by first | rfl | (simp; done) | (simp [*]; done)), (by first | rfl | (simp; done) | (simp [*]; done)), H', ⟨by have := HK1.out; have := HK2.out; omega⟩, by repeat (first | exact Drawn0.refl _ | apply Drawn0.step)⟩
                  ·rw [if_neg c21] at H
                   have c21b0 : ((Int.tmod (x7_2 / 2 ^ ((rd_T34 l0 x9_2).f1).toNat) 2) == 1) = false := beq_eq_false_iff_ne.mpr c21
                   have c21b1 : ((Int.tmod (x7_2 / 2 ^ ((rd_T34 l0 x9_2).f1).toNat) 2) != 1) = true := bne_iff_ne.mpr c21
                   have H' := Aside0.mk H
                   clear H
                   have p130 : 0 ≤ (x9_2 : Int) := of_decide_eq_true (by first | (with_reducible assumption) | assumption)
                   have q130 : x9_2 < (l0.length : Int) := of_decide_eq_true (by first | (with_reducible assumption) | assumption)
                   obtain ⟨ad130, e130, hx130_0, hx130_1⟩ := at_T34 HR0.out x9_2 p130 q130
                   cases e130
                   replace p130 := eq_true p130
                   replace q130 := eq_true q130
                   have p131 : 0 ≤ (x9_2 : Int) := of_decide_eq_true (by first | (with_reducible assumption) | assumption)
                   have q131 : x9_2 < (l0.length : Int) := of_decide_eq_true (by first | (with_reducible assumption) | assumption)
                   obtain ⟨ad131, e131, hx131_0, hx131_1⟩ := at_T34 HR0.out x9_2 p131 q131
                   obtain rfl : ad130 = ad131 := (by injection e131)
                   replace p131 := eq_true p131
                   replace q131 := eq_true q131
                   go_wp2
                   repeat (go_quiet (fail); try go_wp2)
                   go_roundg k2
                   case measure => have := HK1.out; have := HK2.out; omega
                   case rel => exact ⟨(x7_2), (x8_2), (wrap64 (x9_2 + 1)), (by first | rfl | (simp; done) | (simp [*]; done)), (by first | rfl | (simp; done) | (simp [*]; done)), (by first | rfl | (simp; done) | (simp [*]; done)), H', ⟨by have := HK1.out; have := HK2.out; omega⟩, by repeat (first | exact Drawn0.refl _ | apply Drawn0.step)⟩
                 ·rw [if_neg c20] at H
                  have c20b0 : ((Int.tmod (x7_2 / 2 ^ ((rd_T34 l0 x9_2).f0).toNat) 2) == 0) = false := beq_eq_false_iff_ne.mpr c20
                  have c20b1 : ((Int.tmod (x7_2 / 2 ^ ((rd_T34 l0 x9_2).f0).toNat) 2) != 0) = true := bne_iff_ne.mpr c20
                  have H' := Aside0.mk H
                  clear H
                  have p130 : 0 ≤ (x9_2 : Int) := of_decide_eq_true (by first | (with_reducible assumption) | assumption)
                  have q130 : x9_2 < (l0.length : Int) := of_decide_eq_true (by first | (with_reducible assumption) | assumption)
                  obtain ⟨ad130, e130, hx130_0, hx130_1⟩ := at_T34 HR0.out x9_2 p130 q130
                  cases e130
                  replace p130 := eq_true p130
                  replace q130 := eq_true q130
                  have p131 : 0 ≤ (x9_2 : Int) := of_decide_eq_true (by first | (with_reducible assumption) | assumption)
                  have q131 : x9_2 < (l0.length : Int) := of_decide_eq_true (by first | (with_reducible assumption) | assumption)
                  obtain ⟨ad131, e131, hx131_0, hx131_1⟩ := at_T34 HR0.out x9_2 p131 q131
                  obtain rfl : ad130 = ad131 := (by injection e131)
                  replace p131 := eq_true p131
                  replace q131 := eq_true q131
                  go_wp2
                  repeat (go_quiet (fail); try go_wp2)
                  go_roundg k2
                  case measure => have := HK1.out; have := HK2.out; omega
                  case rel => exact ⟨(x7_2), (x8_2), (wrap64 (x9_2 + 1)), (by first | rfl | (simp; done) | (simp [*]; done)), (by first | rfl | (simp; done) | (simp [*]; done)), (by first | rfl | (simp; done) | (simp [*]; done)), H', ⟨by have := HK1.out; have := HK2.out; omega⟩, by repeat (first | exact Drawn0.refl _ | apply Drawn0.step)⟩
                ·replace c19 := Bool.eq_false_iff.mpr c19
                 subst c19
                 have H1 : (trishawref09_reached.l1 k2 l0 false x7_2 x8_2 (wrap64 (x9_2 + 1))) = some r := by rw [if_neg (show ¬ (false = true) by decide)] at H; exact H
                 clear H
                 have H := H1
                 clear H1
                 have H' := Aside0.mk H
                 clear H
                 have p130 : 0 ≤ (x9_2 : Int) := of_decide_eq_true (by first | (with_reducible assumption) | assumption)
                 have q130 : x9_2 < (l0.length : Int) := of_decide_eq_true (by first | (with_reducible assumption) | assumption)
                 obtain ⟨ad130, e130, hx130_0, hx130_1⟩ := at_T34 HR0.out x9_2 p130 q130
                 cases e130
                 replace p130 := eq_true p130
                 replace q130 := eq_true q130
                 have p131 : 0 ≤ (x9_2 : Int) := of_decide_eq_true (by first | (with_reducible assumption) | assumption)
                 have q131 : x9_2 < (l0.length : Int) := of_decide_eq_true (by first | (with_reducible assumption) | assumption)
                 obtain ⟨ad131, e131, hx131_0, hx131_1⟩ := at_T34 HR0.out x9_2 p131 q131
                 obtain rfl : ad130 = ad131 := (by injection e131)
                 replace p131 := eq_true p131
                 replace q131 := eq_true q131
                 go_wp2
                 repeat (go_quiet (fail); try go_wp2)
                 go_roundg k2
                 case measure => have := HK1.out; have := HK2.out; omega
                 case rel => exact ⟨(x7_2), (x8_2), (wrap64 (x9_2 + 1)), (by first | rfl | (simp; done) | (simp [*]; done)), (by first | rfl | (simp; done) | (simp [*]; done)), (by first | rfl | (simp; done) | (simp [*]; done)), H', ⟨by have := HK1.out; have := HK2.out; omega⟩, by repeat (first | exact Drawn0.refl _ | apply Drawn0.step)⟩
              ·rw [if_neg c13] at H
               have c13b0 : ((Int.tmod (x7_2 / 2 ^ ((rd_T34 l0 x9_2).f0).toNat) 2) == 1) = false := beq_eq_false_iff_ne.mpr c13
               have c13b1 : ((Int.tmod (x7_2 / 2 ^ ((rd_T34 l0 x9_2).f0).toNat) 2) != 1) = true := bne_iff_ne.mpr c13
               by_cases c26 : a2 = true
               ·subst c26
                have H1 : (if (Int.tmod (x7_2 / 2 ^ ((rd_T34 l0 x9_2).f0).toNat) 2) = 0 then (if (Int.tmod (x7_2 / 2 ^ ((rd_T34 l0 x9_2).f1).toNat) 2) = 1 then (trishawref09_reached.l1 k2 l0 true (Go.bits .or .i64 (Go.bits .or .i64 x7_2 (wrap64 (2 ^ ((rd_T34 l0 x9_2).f0).toNat))) (wrap64 (2 ^ ((rd_T34 l0 x9_2).f1).toNat))) true (wrap64 (x9_2 + 1))) else (trishawref09_reached.l1 k2 l0 true x7_2 x8_2 (wrap64 (x9_2 + 1)))) else (trishawref09_reached.l1 k2 l0 true x7_2 x8_2 (wrap64 (x9_2 + 1)))) = some r := by rw [if_pos rfl] at H; exact H
                clear H
                have H := H1
                clear H1
                by_cases c27 : (Int.tmod (x7_2 / 2 ^ ((rd_T34 l0 x9_2).f0).toNat) 2) = 0
                ·rw [if_pos c27] at H
                 have c27b0 : ((Int.tmod (x7_2 / 2 ^ ((rd_T34 l0 x9_2).f0).toNat) 2) == 0) = true := beq_iff_eq.mpr c27
                 have c27b1 : ((Int.tmod (x7_2 / 2 ^ ((rd_T34 l0 x9_2).f0).toNat) 2) != 0) = false := bne_eq_false_iff_eq.mpr c27
                 clear c27
                 by_cases c28 : (Int.tmod (x7_2 / 2 ^ ((rd_T34 l0 x9_2).f1).toNat) 2) = 1
                 ·rw [if_pos c28] at H
                  have c28b0 : ((Int.tmod (x7_2 / 2 ^ ((rd_T34 l0 x9_2).f1).toNat) 2) == 1) = true := beq_iff_eq.mpr c28
                  have c28b1 : ((Int.tmod (x7_2 / 2 ^ ((rd_T34 l0 x9_2).f1).toNat) 2) != 1) = false := bne_eq_false_iff_eq.mpr c28
                  clear c28
                  have c29b0 := eq_true (of_decide_eq_true (by first | (with_reducible assumption) | assumption) : 0 ≤ ((rd_T34 l0 x9_2).f0))
                  have c30b0 := eq_true (of_decide_eq_true (by first | (with_reducible assumption) | assumption) : ((rd_T34 l0 x9_2).f0) ≤ 64)
                  have c31b0 := eq_true (of_decide_eq_true (by first | (with_reducible assumption) | assumption) : 0 ≤ ((rd_T34 l0 x9_2).f1))
                  have c32b0 := eq_true (of_decide_eq_true (by first | (with_reducible assumption) | assumption) : ((rd_T34 l0 x9_2).f1) ≤ 64)
                  have H' := Aside0.mk H
                  clear H
                  have p130 : 0 ≤ (x9_2 : Int) := of_decide_eq_true (by first | (with_reducible assumption) | assumption)
                  have q130 : x9_2 < (l0.length : Int) := of_decide_eq_true (by first | (with_reducible assumption) | assumption)
                  obtain ⟨ad130, e130, hx130_0, hx130_1⟩ := at_T34 HR0.out x9_2 p130 q130
                  cases e130
                  replace p130 := eq_true p130
                  replace q130 := eq_true q130
                  have p131 : 0 ≤ (x9_2 : Int) := of_decide_eq_true (by first | (with_reducible assumption) | assumption)
                  have q131 : x9_2 < (l0.length : Int) := of_decide_eq_true (by first | (with_reducible assumption) | assumption)
                  obtain ⟨ad131, e131, hx131_0, hx131_1⟩ := at_T34 HR0.out x9_2 p131 q131
                  obtain rfl : ad130 = ad131 := (by injection e131)
                  replace p131 := eq_true p131
                  replace q131 := eq_true q131
                  have p136 : 0 ≤ (x9_2 : Int) := of_decide_eq_true (by first | (with_reducible assumption) | assumption)
                  have q136 : x9_2 < (l0.length : Int) := of_decide_eq_true (by first | (with_reducible assumption) | assumption)
                  obtain ⟨ad136, e136, hx136_0, hx136_1⟩ := at_T34 HR0.out x9_2 p136 q136
                  obtain rfl : ad130 = ad136 := (by injection e136)
                  replace p136 := eq_true p136
                  replace q136 := eq_true q136
                  have p137 : 0 ≤ (x9_2 : Int) := of_decide_eq_true (by first | (with_reducible assumption) | assumption)
                  have q137 : x9_2 < (l0.length : Int) := of_decide_eq_true (by first | (with_reducible assumption) | assumption)
                  obtain ⟨ad137, e137, hx137_0, hx137_1⟩ := at_T34 HR0.out x9_2 p137 q137
                  obtain rfl : ad130 = ad137 := (by injection e137)
                  replace p137 := eq_true p137
                  replace q137 := eq_true q137
                  go_wp2
                  repeat (go_quiet (fail); try go_wp2)
                  go_roundg k2
                  case measure => have := HK1.out; have := HK2.out; omega
                  case rel => exact ⟨(Go.bits .or .i64 (Go.bits .or .i64 x7_2 (wrap64 (2 ^ ((rd_T34 l0 x9_2).f0).toNat))) (wrap64 (2 ^ ((rd_T34 l0 x9_2).f1).toNat))), (true), (wrap64 (x9_2 + 1)), (by first | rfl | (simp; done) | (simp [*]; done)), (by first | rfl | (simp; done) | (simp [*]; done)), (by first | rfl | (simp; done) | (simp [*]; done)), H', ⟨by have := HK1.out; have := HK2.out; omega⟩, by repeat (first | exact Drawn0.refl _ | apply Drawn0.step)⟩
                 ·rw [if_neg c28] at H
                  have c28b0 : ((Int.tmod (x7_2 / 2 ^ ((rd_T34 l0 x9_2).f1).toNat) 2) == 1) = false := beq_eq_false_iff_ne.mpr c28
                  have c28b1 : ((Int.tmod (x7_2 / 2 ^ ((rd_T34 l0 x9_2).f1).toNat) 2) != 1) = true := bne_iff_ne.mpr c28
                  have H' := Aside0.mk H
                  clear H
                  have p130 : 0 ≤ (x9_2 : Int) := of_decide_eq_true (by first | (with_reducible assumption) | assumption)
                  have q130 : x9_2 < (l0.length : Int) := of_decide_eq_true (by first | (with_reducible assumption) | assumption)
                  obtain ⟨ad130, e130, hx130_0, hx130_1⟩ := at_T34 HR0.out x9_2 p130 q130
                  cases e130
                  replace p130 := eq_true p130
                  replace q130 := eq_true q130
                  have p131 : 0 ≤ (x9_2 : Int) := of_decide_eq_true (by first | (with_reducible assumption) | assumption)
                  have q131 : x9_2 < (l0.length : Int) := of_decide_eq_true (by first | (with_reducible assumption) | assumption)
                  obtain ⟨ad131, e131, hx131_0, hx131_1⟩ := at_T34 HR0.out x9_2 p131 q131
                  obtain rfl : ad130 = ad131 := (by injection e131)
                  replace p131 := eq_true p131
                  replace q131 := eq_true q131
                  go_wp2
                  repeat (go_quiet (fail); try go_wp2)
                  go_roundg k2
                  case measure => have := HK1.out; have := HK2.out; omega
                  case rel => exact ⟨(x7_2), (x8_2), (wrap64 (x9_2 + 1)), (by first | rfl | (simp; done) | (simp [*]; done)), (by first | rfl | (simp; done) | (simp [*]; done)), (by first | rfl | (simp; done) | (simp [*]; done)), H', ⟨by have := HK1.out; have := HK2.out; omega⟩, by repeat (first | exact Drawn0.refl _ | apply Drawn0.step)⟩
                ·rw [if_neg c27] at H
                 have c27b0 : ((Int.tmod (x7_2 / 2 ^ ((rd_T34 l0 x9_2).f0).toNat) 2) == 0) = false := beq_eq_false_iff_ne.mpr c27
                 have c27b1 : ((Int.tmod (x7_2 / 2 ^ ((rd_T34 l0 x9_2).f0).toNat) 2) != 0) = true := bne_iff_ne.mpr c27
                 have H' := Aside0.mk H
                 clear H
                 have p130 : 0 ≤ (x9_2 : Int) := of_decide_eq_true (by first | (with_reducible assumption) | assumption)
                 have q130 : x9_2 < (l0.length : Int) := of_decide_eq_true (by first | (with_reducible assumption) | assumption)
                 obtain ⟨ad130, e130, hx130_0, hx130_1⟩ := at_T34 HR0.out x9_2 p130 q130
                 cases e130
                 replace p130 := eq_true p130
                 replace q130 := eq_true q130
                 have p131 : 0 ≤ (x9_2 : Int) := of_decide_eq_true (by first | (with_reducible assumption) | assumption)
                 have q131 : x9_2 < (l0.length : Int) := of_decide_eq_true (by first | (with_reducible assumption) | assumption)
                 obtain ⟨ad131, e131, hx131_0, hx131_1⟩ := at_T34 HR0.out x9_2 p131 q131
                 obtain rfl : ad130 = ad131 := (by injection e131)
                 replace p131 := eq_true p131
                 replace q131 := eq_true q131
                 go_wp2
                 repeat (go_quiet (fail); try go_wp2)
                 go_roundg k2
                 case measure => have := HK1.out; have := HK2.out; omega
                 case rel => exact ⟨(x7_2), (x8_2), (wrap64 (x9_2 + 1)), (by first | rfl | (simp; done) | (simp [*]; done)), (by first | rfl | (simp; done) | (simp [*]; done)), (by first | rfl | (simp; done) | (simp [*]; done)), H', ⟨by have := HK1.out; have := HK2.out; omega⟩, by repeat (first | exact Drawn0.refl _ | apply Drawn0.step)⟩
               ·replace c26 := Bool.eq_false_iff.mpr c26
                subst c26
                have H1 : (trishawref09_reached.l1 k2 l0 false x7_2 x8_2 (wrap64 (x9_2 + 1))) = some r := by rw [if_neg (show ¬ (false = true) by decide)] at H; exact H
                clear H
                have H := H1
                clear H1
                have H' := Aside0.mk H
                clear H
                have p130 : 0 ≤ (x9_2 : Int) := of_decide_eq_true (by first | (with_reducible assumption) | assumption)
                have q130 : x9_2 < (l0.length : Int) := of_decide_eq_true (by first | (with_reducible assumption) | assumption)
                obtain ⟨ad130, e130, hx130_0, hx130_1⟩ := at_T34 HR0.out x9_2 p130 q130
                cases e130
                replace p130 := eq_true p130
                replace q130 := eq_true q130
                have p131 : 0 ≤ (x9_2 : Int) := of_decide_eq_true (by first | (with_reducible assumption) | assumption)
                have q131 : x9_2 < (l0.length : Int) := of_decide_eq_true (by first | (with_reducible assumption) | assumption)
                obtain ⟨ad131, e131, hx131_0, hx131_1⟩ := at_T34 HR0.out x9_2 p131 q131
                obtain rfl : ad130 = ad131 := (by injection e131)
                replace p131 := eq_true p131
                replace q131 := eq_true q131
                go_wp2
                repeat (go_quiet (fail); try go_wp2)
                go_roundg k2
                case measure => have := HK1.out; have := HK2.out; omega
                case rel => exact ⟨(x7_2), (x8_2), (wrap64 (x9_2 + 1)), (by first | rfl | (simp; done) | (simp [*]; done)), (by first | rfl | (simp; done) | (simp [*]; done)), (by first | rfl | (simp; done) | (simp [*]; done)), H', ⟨by have := HK1.out; have := HK2.out; omega⟩, by repeat (first | exact Drawn0.refl _ | apply Drawn0.step)⟩
             ·rw [if_neg c12] at H
              exact absurd H (by simp)
            ·rw [if_neg c11] at H
             exact absurd H (by simp)
           ·rw [if_neg c10] at H
            exact absurd H (by simp)
          ·rw [if_neg c9] at H
           exact absurd H (by simp)
         ·rw [if_neg c8] at H
          exact absurd H (by simp)
        ·rw [if_neg c7] at H
         have c7b0 : decide (x9_2 < (l0.length : Int)) = false := decide_eq_false c7
         clear c7
         have H' := Aside0.mk H
         clear H
         go_wp2
         repeat (go_quiet (fail); try go_wp2)
         go_roundg k2
         case measure => have := HK1.out; have := HK2.out; omega
         case rel => exact ⟨(x7_2), (x8_2), (by first | rfl | (simp; done) | (simp [*]; done)), (by first | rfl | (simp; done) | (simp [*]; done)), H', ⟨by have := HK1.out; have := HK2.out; omega⟩, by repeat (first | exact Drawn0.refl _ | apply Drawn0.step)⟩
     ·replace c6 := Bool.eq_false_iff.mpr c6
      subst c6
      have H1 : (some x7_1) = some r := by rw [if_neg (show ¬ (false = true) by decide)] at H; exact H
      clear H
      have H := H1
      clear H1
      obtain rfl := Option.some.inj H
      go_wp2
      repeat (go_quiet (fail); try go_wp2)
      go_ret
      exact ⟨by first | rfl | (simp; done) | (simp [*]; done), by repeat (first | exact Drawn0.refl _ | apply Drawn0.step)⟩
  ·rw [if_neg c5] at H
   exact absurd H (by simp)
 ·rw [if_neg c4] at H
  exact absurd H (by simp)
end Go.Proofs.Ytjbfbdanbpfplaa.OAll
