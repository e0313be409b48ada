/- A part of the proof of 'tripPatched_holds', for every input, without a condition. -/
import Derived.Test.YtlmlneneakpohaaTPaOAllx0
import Derived.Test.YtlmlneneakpohaaTPaOAllx13
import Derived.Test.YtlmlneneakpohaaTPaOAllx15
namespace Go.Proofs.Ytlmlneneakpohaa.OAll
open Go.RowKit Go.Proofs.YtlmlneneakpohaaW.PrintWords Go.Proofs.YtlmlneneakpohaaW.PrintLast Go.Proofs.YtlmlneneakpohaaW.PrintMore
attribute [local go_sem] max2_int min2_int max_two min_two max_three min_three max_four min_four
set_option linter.unusedVariables false
set_option linter.unusedSimpArgs false
mutual
def trishawref06_Joins.l0 : Nat → List (S36) → Int → List Int → List Int → Int → Option (Bool)
 | 0, _, _, _, _, _ => none
 | k + 1, x0, x1, x5, x6, x7 => if (wrap64 (x7 + 1)) < (x0.length : Int) then (if 0 ≤ x7 then (if (Int.tmod (shr .i64 x1 x7) 2) = 0 then (trishawref06_Joins.l0 k x0 x1 x5 x6 (wrap64 (x7 + 1))) else (if x7 < (x5.length : Int) then (if 0 ≤ (rd x5 x7) then (if (rd x5 x7) < (x6.length : Int) then (if 0 ≤ (wrap64 (x7 + 1)) then (if (wrap64 (x7 + 1)) < (x5.length : Int) then (if 0 ≤ (rd x5 (wrap64 (x7 + 1))) then (if (rd x5 (wrap64 (x7 + 1))) < (x6.length : Int) then (trishawref06_Joins.l1 k x0 x1 x5 x6 x7 (rd x6 (rd x5 x7)) (rd x6 (rd x5 (wrap64 (x7 + 1)))) 0) else (none)) else (none)) else (none)) else (none)) else (none)) else (none)) else (none))) else (none)) else (trishawref06_Joins.l2 k x0 x6 0)
def trishawref06_Joins.l1 : Nat → List (S36) → Int → List Int → List Int → Int → Int → Int → Int → Option (Bool)
 | 0, _, _, _, _, _, _, _, _ => none
 | k + 1, x0, x1, x5, x6, x7, x8, x9, x10 => if x10 < (x0.length : Int) then (if 0 ≤ x10 then (if x10 < (x6.length : Int) then (if (rd x6 x10) = x9 then (trishawref06_Joins.l1 k x0 x1 x5 (x6.set (x10 : Int).toNat x8) x7 x8 x9 (wrap64 (x10 + 1))) else (trishawref06_Joins.l1 k x0 x1 x5 x6 x7 x8 x9 (wrap64 (x10 + 1)))) else (none)) else (none)) else (trishawref06_Joins.l0 k x0 x1 x5 x6 (wrap64 (x7 + 1)))
def trishawref06_Joins.l2 : Nat → List (S36) → List Int → Int → Option (Bool)
 | 0, _, _, _ => none
 | k + 1, x0, x6, x11 => if x11 < (x0.length : Int) then (if 0 ≤ x11 then (if x11 < (x6.length : Int) then (if 0 < (x6.length : Int) then (if (rd x6 x11) = (rd x6 0) then (trishawref06_Joins.l2 k x0 x6 (wrap64 (x11 + 1))) else (some false)) else (none)) else (none)) else (none)) else (some true)
end
def trishawref06_Joins.f (k : Nat) (l0 : List (S36)) (a1 : Int) : Option (Bool) := (trishawref06_sorted.f k l0 false).bind fun t423 => ((trishawref06_ringed.f k l0).bind fun t426 => (trishawref06_Joins.l0 k l0 a1 t423 t426 0))
set_option maxHeartbeats 8000000 in
set_option maxRecDepth 100000 in
theorem trishawref06_Joins.calls (k : Nat) (A0 : Option Addr) (c0 : Nat) (l0 : List (S36)) (a1 : Int) (r : Bool) (w : World) (hr0 : Kd.C k36 w A0 l0.length l0) (hc0 : l0.length ≤ c0) (h : trishawref06_Joins.f k l0 a1 = some r) :
  Calls Try.prog 36 #[.slice A0 l0.length c0, .int .i64 a1] w fun e w' => e = .returned (.bool r) ∧ Below w.heap.size w w' := by
 have HR0 := Aside0.mk hr0
 have HC0 := Aside0.mk hc0
 clear hr0 hc0
 have HB := Aside0.mk (Below.refl w.heap.size w)
 have H : ((trishawref06_sorted.f k l0 false).bind fun t423 => ((trishawref06_ringed.f k l0).bind fun t426 => (trishawref06_Joins.l0 k l0 a1 t423 t426 0))) = some r := h
 clear h
 replace H := Option.bind_eq_some_iff.mp H
 obtain ⟨t423, A30, H⟩ := H
 replace H : ((trishawref06_ringed.f k l0).bind fun t426 => (trishawref06_Joins.l0 k l0 a1 t423 t426 0)) = some r := H
 have A3 := Aside0.mk A30
 clear A30
 replace H := Option.bind_eq_some_iff.mp H
 obtain ⟨t426, A40, H⟩ := H
 replace H : (trishawref06_Joins.l0 k l0 a1 t423 t426 0) = some r := H
 have A4 := Aside0.mk A40
 clear A40
 have H' := Aside0.mk H
 clear H
 go_enter Try.func36, Try.ntmps36
 go_wp2_with (first | (go_at_call 57; (with_reducible refine (trishawref06_sorted.calls k _ _ l0 false t423 _ ?side1 ?side2 A3.out).mono ?_); (case side1 => repeat (first | exact HR0.out | (with_reducible refine Kd.C_alloc ?_ _) | (with_reducible refine Kd.C_drewN ?_ _) | (with_reducible refine Kd.C_drew ?_))); (case side2 => exact HC0.out); rintro e w5 ⟨v424, rfl, ho0, hb⟩; have n0_ := Aside0.mk (Kd.R_lower ho0 (below_size (by repeat (first | (with_reducible first | exact HB.out | apply lal | apply ldn | apply ldr) | exact HB.out)))); have n1_ := Aside0.mk (below_step (by repeat (first | (with_reducible first | exact HB.out | apply lal | apply ldn | apply ldr) | exact HB.out)) hb); clear HB; have HO425 := n0_; have HB := n1_; clear n0_ n1_; (try clear hb); (try clear hb2); (try clear hk); (try clear hi); (try clear ho0)) | (go_at_call 54; (with_reducible refine (trishawref06_ringed.calls k _ _ l0 t426 _ ?side1 ?side2 A4.out).mono ?_); (case side1 => repeat (first | exact (Kd.C_below HR0.out HB.out) | (with_reducible refine Kd.C_alloc ?_ _) | (with_reducible refine Kd.C_drewN ?_ _) | (with_reducible refine Kd.C_drew ?_))); (case side2 => exact HC0.out); rintro e w6 ⟨v427, rfl, ho0, hb⟩; have n0_ := Aside0.mk (Kd.R_elder' (by (with_reducible repeat (first | apply Kd.R_alloc | apply Kd.R_drewN | apply Kd.R_drew)); exact HO425.out) (Kd.R_base ho0) hb); have n1_ := Aside0.mk (Kd.R_lower (Kd.R_new' ho0 (Kd.R_lt (by (with_reducible repeat (first | apply Kd.R_alloc | apply Kd.R_drewN | apply Kd.R_drew)); exact HO425.out))) (below_size (by repeat (first | (with_reducible first | exact HB.out | apply lal | apply ldn | apply ldr) | exact HB.out)))); have n2_ := Aside0.mk (below_step (by repeat (first | (with_reducible first | exact HB.out | apply lal | apply ldn | apply ldr) | exact HB.out)) hb); clear HO425; clear HB; have HO425 := n0_; have HO428 := n1_; have HB := n2_; clear n0_ n1_ n2_; (try clear hb); (try clear hb2); (try clear hk); (try clear hi); (try clear ho0)))
 repeat (go_quiet (first | (go_at_call 57; (with_reducible refine (trishawref06_sorted.calls k _ _ l0 false t423 _ ?side1 ?side2 A3.out).mono ?_); (case side1 => repeat (first | exact HR0.out | (with_reducible refine Kd.C_alloc ?_ _) | (with_reducible refine Kd.C_drewN ?_ _) | (with_reducible refine Kd.C_drew ?_))); (case side2 => exact HC0.out); rintro e w5 ⟨v424, rfl, ho0, hb⟩; have n0_ := Aside0.mk (Kd.R_lower ho0 (below_size (by repeat (first | (with_reducible first | exact HB.out | apply lal | apply ldn | apply ldr) | exact HB.out)))); have n1_ := Aside0.mk (below_step (by repeat (first | (with_reducible first | exact HB.out | apply lal | apply ldn | apply ldr) | exact HB.out)) hb); clear HB; have HO425 := n0_; have HB := n1_; clear n0_ n1_; (try clear hb); (try clear hb2); (try clear hk); (try clear hi); (try clear ho0)) | (go_at_call 54; (with_reducible refine (trishawref06_ringed.calls k _ _ l0 t426 _ ?side1 ?side2 A4.out).mono ?_); (case side1 => repeat (first | exact (Kd.C_below HR0.out HB.out) | (with_reducible refine Kd.C_alloc ?_ _) | (with_reducible refine Kd.C_drewN ?_ _) | (with_reducible refine Kd.C_drew ?_))); (case side2 => exact HC0.out); rintro e w6 ⟨v427, rfl, ho0, hb⟩; have n0_ := Aside0.mk (Kd.R_elder' (by (with_reducible repeat (first | apply Kd.R_alloc | apply Kd.R_drewN | apply Kd.R_drew)); exact HO425.out) (Kd.R_base ho0) hb); have n1_ := Aside0.mk (Kd.R_lower (Kd.R_new' ho0 (Kd.R_lt (by (with_reducible repeat (first | apply Kd.R_alloc | apply Kd.R_drewN | apply Kd.R_drew)); exact HO425.out))) (below_size (by repeat (first | (with_reducible first | exact HB.out | apply lal | apply ldn | apply ldr) | exact HB.out)))); have n2_ := Aside0.mk (below_step (by repeat (first | (with_reducible first | exact HB.out | apply lal | apply ldn | apply ldr) | exact HB.out)) hb); clear HO425; clear HB; have HO425 := n0_; have HO428 := n1_; have HB := n2_; clear n0_ n1_ n2_; (try clear hb); (try clear hb2); (try clear hk); (try clear hi); (try clear ho0))); try go_wp2_with (first | (go_at_call 57; (with_reducible refine (trishawref06_sorted.calls k _ _ l0 false t423 _ ?side1 ?side2 A3.out).mono ?_); (case side1 => repeat (first | exact HR0.out | (with_reducible refine Kd.C_alloc ?_ _) | (with_reducible refine Kd.C_drewN ?_ _) | (with_reducible refine Kd.C_drew ?_))); (case side2 => exact HC0.out); rintro e w5 ⟨v424, rfl, ho0, hb⟩; have n0_ := Aside0.mk (Kd.R_lower ho0 (below_size (by repeat (first | (with_reducible first | exact HB.out | apply lal | apply ldn | apply ldr) | exact HB.out)))); have n1_ := Aside0.mk (below_step (by repeat (first | (with_reducible first | exact HB.out | apply lal | apply ldn | apply ldr) | exact HB.out)) hb); clear HB; have HO425 := n0_; have HB := n1_; clear n0_ n1_; (try clear hb); (try clear hb2); (try clear hk); (try clear hi); (try clear ho0)) | (go_at_call 54; (with_reducible refine (trishawref06_ringed.calls k _ _ l0 t426 _ ?side1 ?side2 A4.out).mono ?_); (case side1 => repeat (first | exact (Kd.C_below HR0.out HB.out) | (with_reducible refine Kd.C_alloc ?_ _) | (with_reducible refine Kd.C_drewN ?_ _) | (with_reducible refine Kd.C_drew ?_))); (case side2 => exact HC0.out); rintro e w6 ⟨v427, rfl, ho0, hb⟩; have n0_ := Aside0.mk (Kd.R_elder' (by (with_reducible repeat (first | apply Kd.R_alloc | apply Kd.R_drewN | apply Kd.R_drew)); exact HO425.out) (Kd.R_base ho0) hb); have n1_ := Aside0.mk (Kd.R_lower (Kd.R_new' ho0 (Kd.R_lt (by (with_reducible repeat (first | apply Kd.R_alloc | apply Kd.R_drewN | apply Kd.R_drew)); exact HO425.out))) (below_size (by repeat (first | (with_reducible first | exact HB.out | apply lal | apply ldn | apply ldr) | exact HB.out)))); have n2_ := Aside0.mk (below_step (by repeat (first | (with_reducible first | exact HB.out | apply lal | apply ldn | apply ldr) | exact HB.out)) hb); clear HO425; clear HB; have HO425 := n0_; have HO428 := n1_; have HB := n2_; clear n0_ n1_ n2_; (try clear hb); (try clear hb2); (try clear hk); (try clear hi); (try clear ho0))))
 go_loopg [7] k (fun kq v7 w' => ∃ (x6_1 : List Int) (x7_1 : Int), v7 = .int .i64 x7_1 ∧ Aside0 (trishawref06_Joins.l0 kq l0 a1 t423 x6_1 x7_1 = some r) ∧ Aside0 (kq ≤ k) ∧ Aside0 (Kd.R (Kd.int .i64) 3 w' w.heap.size (fun k_ => some k_ ≠ (v427 : Value).ownBlock) v424 t423) ∧ Aside0 (Kd.R (Kd.int .i64) 3 w' w.heap.size (fun k_ => some k_ ≠ (v424 : Value).ownBlock) v427 x6_1) ∧ Aside0 (Below w.heap.size w w'))
 case atStart => exact ⟨(t426), (0), (by first | rfl | (simp; done) | (simp [*]; done)), H', ⟨Nat.le_refl _⟩, ⟨by (with_reducible repeat (first | apply Kd.R_alloc | apply Kd.R_drewN | apply Kd.R_drew)); exact Kd.R_mono HO425.out (fun _ hk => hk.2)⟩, ⟨by (with_reducible repeat (first | apply Kd.R_alloc | apply Kd.R_drewN | apply Kd.R_drew)); exact Kd.R_mono HO428.out (fun _ hk => hk.2)⟩, ⟨by repeat (first | (with_reducible first | exact HB.out | apply lal | apply ldn | apply ldr) | exact HB.out)⟩⟩
 case round =>
  clear H'
  try clear p2
  try clear c3
  obtain ⟨x6_1, x7_1, rfl, HA, HK1, HO_5, HO_6, HB⟩ := hrel
  cases gk with
  | zero => exact absurd HA.out (by simp [trishawref06_Joins.l0])
  | succ k1 =>
   have H := HA.out
   clear HA
   simp only [trishawref06_Joins.l0] at H
   by_cases c7 : (wrap64 (x7_1 + 1)) < (l0.length : Int)
   ·rw [if_pos c7] at H
    have c7b0 : decide ((wrap64 (x7_1 + 1)) < (l0.length : Int)) = true := decide_eq_true c7
    clear c7
    by_cases c8 : 0 ≤ x7_1
    ·rw [if_pos c8] at H
     have c8b0 := eq_true c8
     have c8b1 : decide (0 ≤ x7_1) = true := decide_eq_true c8
     clear c8
     obtain ⟨ji9, hji9⟩ : ∃ j_ : Int, (shr .i64 a1 x7_1) = j_ := ⟨_, rfl⟩
     replace H : (if (Int.tmod (ji9) 2) = 0 then (trishawref06_Joins.l0 k1 l0 a1 t423 x6_1 (wrap64 (x7_1 + 1))) else (if x7_1 < (t423.length : Int) then (if 0 ≤ (rd t423 x7_1) then (if (rd t423 x7_1) < (x6_1.length : Int) then (if 0 ≤ (wrap64 (x7_1 + 1)) then (if (wrap64 (x7_1 + 1)) < (t423.length : Int) then (if 0 ≤ (rd t423 (wrap64 (x7_1 + 1))) then (if (rd t423 (wrap64 (x7_1 + 1))) < (x6_1.length : Int) then (trishawref06_Joins.l1 k1 l0 a1 t423 x6_1 x7_1 (rd x6_1 (rd t423 x7_1)) (rd x6_1 (rd t423 (wrap64 (x7_1 + 1)))) 0) else (none)) else (none)) else (none)) else (none)) else (none)) else (none)) else (none))) = some r := by first | (rw [hji9] at H; exact H) | (simp only [hji9] at H ⊢; exact H)
     have hji9_ : (a1 / 2 ^ min x7_1.toNat 64) = ji9 := hji9
     have hji9z : x7_1 ≤ 64 → (a1 / 2 ^ x7_1.toNat) = ji9 := shr_small hji9
     by_cases c10 : (Int.tmod (ji9) 2) = 0
     ·rw [if_pos c10] at H
      have c10b0 : ((Int.tmod (ji9) 2) == 0) = true := beq_iff_eq.mpr c10
      have c10b1 : ((Int.tmod (ji9) 2) != 0) = false := bne_eq_false_iff_eq.mpr c10
      clear c10
      have H' := Aside0.mk H
      clear H
      go_wp2
      repeat (go_quiet (fail); try go_wp2)
      go_roundg k1
      case measure => have := HK1.out; omega
      case rel => exact ⟨(x6_1), (wrap64 (x7_1 + 1)), (by first | rfl | (simp; done) | (simp [*]; done)), H', ⟨by have := HK1.out; omega⟩, ⟨by (with_reducible repeat (first | apply Kd.R_alloc | apply Kd.R_drewN | apply Kd.R_drew)); exact HO_5.out⟩, ⟨by (with_reducible repeat (first | apply Kd.R_alloc | apply Kd.R_drewN | apply Kd.R_drew)); exact HO_6.out⟩, ⟨by repeat (first | (with_reducible first | exact HB.out | apply lal | apply ldn | apply ldr) | exact HB.out)⟩⟩
     ·rw [if_neg c10] at H
      have c10b0 : ((Int.tmod (ji9) 2) == 0) = false := beq_eq_false_iff_ne.mpr c10
      have c10b1 : ((Int.tmod (ji9) 2) != 0) = true := bne_iff_ne.mpr c10
      by_cases c11 : x7_1 < (t423.length : Int)
      ·rw [if_pos c11] at H
       have c11b0 : decide (x7_1 < (t423.length : Int)) = true := decide_eq_true c11
       clear c11
       by_cases c12 : 0 ≤ (rd t423 x7_1)
       ·rw [if_pos c12] at H
        have c12b0 : decide (0 ≤ (rd t423 x7_1)) = true := decide_eq_true c12
        clear c12
        by_cases c13 : (rd t423 x7_1) < (x6_1.length : Int)
        ·rw [if_pos c13] at H
         have c13b0 : decide ((rd t423 x7_1) < (x6_1.length : Int)) = true := decide_eq_true c13
         clear c13
         obtain ⟨ji14, hji14⟩ : ∃ j_ : Int, (wrap64 (x7_1 + 1)) = j_ := ⟨_, rfl⟩
         replace H : (if 0 ≤ (ji14) then (if (ji14) < (t423.length : Int) then (if 0 ≤ (rd t423 (ji14)) then (if (rd t423 (ji14)) < (x6_1.length : Int) then (trishawref06_Joins.l1 k1 l0 a1 t423 x6_1 x7_1 (rd x6_1 (rd t423 x7_1)) (rd x6_1 (rd t423 (ji14))) 0) else (none)) else (none)) else (none)) else (none)) = some r := by first | (rw [hji14] at H; exact H) | (simp only [hji14] at H ⊢; exact H)
         (try rw [hji14] at c7b0)
         have hji14w : (IntKind.i64.wrap (x7_1 + 1)) = ji14 := (i64_w _).trans hji14
         by_cases c15 : 0 ≤ (ji14)
         ·rw [if_pos c15] at H
          have c15b0 : decide (0 ≤ (ji14)) = true := decide_eq_true c15
          clear c15
          by_cases c16 : (ji14) < (t423.length : Int)
          ·rw [if_pos c16] at H
           have c16b0 : decide ((ji14) < (t423.length : Int)) = true := decide_eq_true c16
           clear c16
           by_cases c17 : 0 ≤ (rd t423 (ji14))
           ·rw [if_pos c17] at H
            have c17b0 : decide (0 ≤ (rd t423 (ji14))) = true := decide_eq_true c17
            clear c17
            by_cases c18 : (rd t423 (ji14)) < (x6_1.length : Int)
            ·rw [if_pos c18] at H
             have c18b0 : decide ((rd t423 (ji14)) < (x6_1.length : Int)) = true := decide_eq_true c18
             clear c18
             have H' := Aside0.mk H
             clear H
             obtain ⟨Ao19, co19, eo19⟩ := Kd.R_slice HO_5.out
             subst eo19
             have p429 : 0 ≤ (x7_1 : Int) := of_decide_eq_true (by first | (with_reducible assumption) | assumption)
             have q429 : x7_1 < (t423.length : Int) := of_decide_eq_true (by first | (with_reducible assumption) | assumption)
             obtain ⟨ad429, e429, hx429_0⟩ := Kd.at_int (Kd.R_reads' HO_5.out).2.2 x7_1 p429 q429
             cases e429
             replace p429 := eq_true p429
             replace q429 := eq_true q429
             obtain ⟨Ao20, co20, eo20⟩ := Kd.R_slice HO_6.out
             subst eo20
             have p430 : 0 ≤ ((rd t423 x7_1) : Int) := of_decide_eq_true (by first | (with_reducible assumption) | assumption)
             have q430 : (rd t423 x7_1) < (x6_1.length : Int) := of_decide_eq_true (by first | (with_reducible assumption) | assumption)
             obtain ⟨ad430, e430, hx430_0⟩ := Kd.at_int (Kd.R_reads' HO_6.out).2.2 (rd t423 x7_1) p430 q430
             cases e430
             replace p430 := eq_true p430
             replace q430 := eq_true q430
             have p431 : 0 ≤ ((ji14) : Int) := of_decide_eq_true (by first | (with_reducible assumption) | assumption)
             have q431 : (ji14) < (t423.length : Int) := of_decide_eq_true (by first | (with_reducible assumption) | assumption)
             obtain ⟨ad431, e431, hx431_0⟩ := Kd.at_int (Kd.R_reads' HO_5.out).2.2 (ji14) p431 q431
             obtain rfl : ad429 = ad431 := (by injection e431)
             replace p431 := eq_true p431
             replace q431 := eq_true q431
             have p432 : 0 ≤ ((rd t423 (ji14)) : Int) := of_decide_eq_true (by first | (with_reducible assumption) | assumption)
             have q432 : (rd t423 (ji14)) < (x6_1.length : Int) := of_decide_eq_true (by first | (with_reducible assumption) | assumption)
             obtain ⟨ad432, e432, hx432_0⟩ := Kd.at_int (Kd.R_reads' HO_6.out).2.2 (rd t423 (ji14)) p432 q432
             obtain rfl : ad430 = ad432 := (by injection e432)
             replace p432 := eq_true p432
             replace q432 := eq_true q432
             go_wp2
             repeat (go_quiet (fail); try go_wp2)
             go_loopg [10] k1 (fun kq v10 w' => ∃ (x6_2 : List Int) (x10_2 : Int), v10 = .int .i64 x10_2 ∧ Aside0 (trishawref06_Joins.l1 kq l0 a1 t423 x6_2 x7_1 (rd x6_1 (rd t423 x7_1)) (rd x6_1 (rd t423 (ji14))) x10_2 = some r) ∧ Aside0 (kq ≤ k1) ∧ Aside0 (Kd.R (Kd.int .i64) 3 w' w.heap.size (fun k_ => some k_ ≠ ((.slice (some ad430) x6_1.length co20) : Value).ownBlock) (.slice (some ad429) t423.length co19) t423) ∧ Aside0 (Kd.R (Kd.int .i64) 3 w' w.heap.size (fun k_ => some k_ ≠ ((.slice (some ad429) t423.length co19) : Value).ownBlock) (.slice (some ad430) x6_1.length co20) x6_2) ∧ Aside0 (Below w.heap.size w w'))
             case atStart => exact ⟨(x6_1), (0), (by first | rfl | (simp; done) | (simp [*]; done)), H', ⟨Nat.le_refl _⟩, ⟨by (with_reducible repeat (first | apply Kd.R_alloc | apply Kd.R_drewN | apply Kd.R_drew)); exact HO_5.out⟩, ⟨by (with_reducible repeat (first | apply Kd.R_alloc | apply Kd.R_drewN | apply Kd.R_drew)); exact HO_6.out⟩, ⟨by repeat (first | (with_reducible first | exact HB.out | apply lal | apply ldn | apply ldr) | exact HB.out)⟩⟩
             case round =>
              clear H'
              try clear c1
              try clear p2
              try clear c3
              try clear p4
              try clear q4
              try clear hx4
              try clear p6
              try clear c7
              try clear c7b0
              try clear c8
              try clear c8b0
              try clear c8b1
              try clear c10
              try clear c10b0
              try clear c10b1
              try clear c11
              try clear c11b0
              try clear c12
              try clear c12b0
              try clear c13
              try clear c13b0
              try clear c15
              try clear c15b0
              try clear c16
              try clear c16b0
              try clear c17
              try clear c17b0
              try clear c18
              try clear c18b0
              try clear hx429_0
              try clear hx430_0
              try clear hx431_0
              try clear hx432_0
              try clear p2
              try clear p429
              try clear p430
              try clear p431
              try clear p432
              try clear q429
              try clear q430
              try clear q431
              try clear q432
              obtain ⟨x6_2, x10_2, rfl, HA, HK2, HO_5, HO_6, HB⟩ := hrel
              have hl6_2 := (Kd.R_reads' HO_6.out).1
              rw [hl6_2] at HO_6
              (try simp only [hl6_2])
              (try simp only [hl6_2] at HO_5)
              cases gk with
              | zero => exact absurd HA.out (by simp [trishawref06_Joins.l1])
              | succ k2 =>
               have H := HA.out
               clear HA
               simp only [trishawref06_Joins.l1] at H
               by_cases c21 : x10_2 < (l0.length : Int)
               ·rw [if_pos c21] at H
                have c21b0 : decide (x10_2 < (l0.length : Int)) = true := decide_eq_true c21
                clear c21
                by_cases c22 : 0 ≤ x10_2
                ·rw [if_pos c22] at H
                 have c22b0 : decide (0 ≤ x10_2) = true := decide_eq_true c22
                 clear c22
                 by_cases c23 : x10_2 < (x6_2.length : Int)
                 ·rw [if_pos c23] at H
                  have c23b0 : decide (x10_2 < (x6_2.length : Int)) = true := decide_eq_true c23
                  clear c23
                  by_cases c24 : (rd x6_2 x10_2) = (rd x6_1 (rd t423 (ji14)))
                  ·rw [if_pos c24] at H
                   have c24b0 : ((rd x6_2 x10_2) == (rd x6_1 (rd t423 (ji14)))) = true := beq_iff_eq.mpr c24
                   have c24b1 : ((rd x6_2 x10_2) != (rd x6_1 (rd t423 (ji14)))) = false := bne_eq_false_iff_eq.mpr c24
                   clear c24
                   obtain ⟨y434, hy434⟩ : ∃ y_ : List Int, y_ = (x6_2.set (x10_2 : Int).toNat (rd x6_1 (rd t423 x7_1))) := ⟨_, rfl⟩
                   replace H : (trishawref06_Joins.l1 k2 l0 a1 t423 y434 x7_1 (rd x6_1 (rd t423 x7_1)) (rd x6_1 (rd t423 (ji14))) (wrap64 (x10_2 + 1))) = some r := by first | (rw [hy434]; with_reducible exact H) | (have H2_ := (Option.bind_some _ _).symm.trans H; rw [hy434]; with_reducible exact H2_) | (have H2_ := (Option.bind_some _ _).symm.trans H; with_reducible exact H2_) | with_reducible exact H | (rw [hy434]; exact H) | exact H
                   have Ny434 := Aside0.mk hy434
                   clear hy434
                   have H' := Aside0.mk H
                   clear H
                   have p433 : 0 ≤ (x10_2 : Int) := of_decide_eq_true (by first | (with_reducible assumption) | assumption)
                   have q433 : x10_2 < (x6_2.length : Int) := of_decide_eq_true (by first | (with_reducible assumption) | assumption)
                   obtain ⟨ad433, e433, hx433_0⟩ := Kd.at_int (Kd.R_reads' HO_6.out).2.2 x10_2 p433 q433
                   obtain rfl : ad430 = ad433 := (by injection e433)
                   replace p433 := eq_true p433
                   replace q433 := eq_true q433
                   have p25 : 0 ≤ (x10_2 : Int) := of_decide_eq_true (by first | (with_reducible assumption) | assumption)
                   have q25 : (x10_2 : Int) < ((x6_2.length : Int) : Int) := of_decide_eq_true (by first | (with_reducible assumption) | assumption)
                   obtain ⟨go25, co25, eo25, gb25, gl25, cl25, HG25⟩ := Kd.R_form HO_6.out (by omega)
                   (first | cases eo25 | (injection eo25 with ea_ en_ ec_; (first | subst ea_ | (injection ea_ with ea_; subst ea_)); subst ec_; clear en_))
                   have GB25 := Aside0.mk gb25
                   have GG25 := Aside0.mk HG25
                   clear gb25 gl25 HG25
                   (first | simp only [add_plain] at hx430_0 | skip)
                   (first | simp only [add_plain] at hx432_0 | skip)
                   (first | simp only [add_plain] at hx433_0 | skip)
                   obtain ⟨hx25_0, hf25_0⟩ := Kd.R_celln 0 HO_6.out (x10_2 : Int) p25 q25
                   replace p25 := eq_true p25
                   replace q25 := eq_true q25
                   have HP26 := Kd.R_putg HO_6.out (x10_2 : Int) (rd x6_1 (rd t423 x7_1))
                   go_wp2_with (first | ((with_reducible refine gate_store (t := 3) (p := 58) rfl ?_); (try (rw [drewN_self wr]; generalize hq_ : World.drewN wr _ = wr; have n0_ := Aside0.mk (Kd.R_at hq_ HO_5.out); have n1_ := Aside0.mk (Kd.R_at hq_ HO_6.out); have n2_ := Aside0.mk (below_at hq_ HB.out); clear hq_ HO_5 HO_6 HB; have HO_5 := n0_; have HO_6 := n1_; have HB := n2_; clear n0_ n1_ n2_; (try (have HP26 := Kd.R_putg HO_6.out (x10_2 : Int) (rd x6_1 (rd t423 x7_1)))))); refine store_event (t := 3) (p := 58) (v := ?vo_w27) (w1 := (wr.setCell ⟨go25, (x10_2 : Int).toNat, none⟩ (.int .i64 (rd x6_1 (rd t423 x7_1))))) ?hg ?ho ?hn ?hr ?_; (case ho => rfl); (case hg => rfl); (case hn => rfl); (case hr => first | (go_simp; done) | (go_simp; rfl)); intro w27 hw; have hg : wr.grownBy w27 (some go25) := (by rw [hw]; exact HP26.2); have hp_ : Kd.R (Kd.int .i64) 3 w27 w.heap.size (fun k_ => some k_ ≠ (.slice (some ad429) t423.length co19 : Value).ownBlock) (.slice (some ⟨go25, 0, none⟩) x6_2.length co20) y434 := (by rw [hw, Ny434.out]; exact HP26.1); clear HP26; have n0_ := Aside0.mk (Kd.R_after (v := (.slice (some ⟨go25, 0, none⟩) x6_2.length co20)) (v1 := (.slice (some ⟨go25, 0, none⟩) x6_2.length co20)) (ok := (fun _ => True)) (by (with_reducible repeat (first | apply Kd.R_alloc | apply Kd.R_drewN | apply Kd.R_drew)); exact Kd.R_mono HO_5.out (fun _ hk => ⟨trivial, hk⟩)) hg (.inl rfl)); have n1_ := Aside0.mk (hp_); have n2_ := Aside0.mk ((by rw [hw]; exact below_set (HB.out) GB25.out : Below w.heap.size w w27)); clear HO_5; clear HO_6; clear HB; have HO_5 := n0_; have HO_6 := n1_; have HB := n2_; clear n0_ n1_ n2_; clear hg hw hp_))
                   repeat (go_quiet (first | ((with_reducible refine gate_store (t := 3) (p := 58) rfl ?_); (try (rw [drewN_self wr]; generalize hq_ : World.drewN wr _ = wr; have n0_ := Aside0.mk (Kd.R_at hq_ HO_5.out); have n1_ := Aside0.mk (Kd.R_at hq_ HO_6.out); have n2_ := Aside0.mk (below_at hq_ HB.out); clear hq_ HO_5 HO_6 HB; have HO_5 := n0_; have HO_6 := n1_; have HB := n2_; clear n0_ n1_ n2_; (try (have HP26 := Kd.R_putg HO_6.out (x10_2 : Int) (rd x6_1 (rd t423 x7_1)))))); refine store_event (t := 3) (p := 58) (v := ?vo_w27) (w1 := (wr.setCell ⟨go25, (x10_2 : Int).toNat, none⟩ (.int .i64 (rd x6_1 (rd t423 x7_1))))) ?hg ?ho ?hn ?hr ?_; (case ho => rfl); (case hg => rfl); (case hn => rfl); (case hr => first | (go_simp; done) | (go_simp; rfl)); intro w27 hw; have hg : wr.grownBy w27 (some go25) := (by rw [hw]; exact HP26.2); have hp_ : Kd.R (Kd.int .i64) 3 w27 w.heap.size (fun k_ => some k_ ≠ (.slice (some ad429) t423.length co19 : Value).ownBlock) (.slice (some ⟨go25, 0, none⟩) x6_2.length co20) y434 := (by rw [hw, Ny434.out]; exact HP26.1); clear HP26; have n0_ := Aside0.mk (Kd.R_after (v := (.slice (some ⟨go25, 0, none⟩) x6_2.length co20)) (v1 := (.slice (some ⟨go25, 0, none⟩) x6_2.length co20)) (ok := (fun _ => True)) (by (with_reducible repeat (first | apply Kd.R_alloc | apply Kd.R_drewN | apply Kd.R_drew)); exact Kd.R_mono HO_5.out (fun _ hk => ⟨trivial, hk⟩)) hg (.inl rfl)); have n1_ := Aside0.mk (hp_); have n2_ := Aside0.mk ((by rw [hw]; exact below_set (HB.out) GB25.out : Below w.heap.size w w27)); clear HO_5; clear HO_6; clear HB; have HO_5 := n0_; have HO_6 := n1_; have HB := n2_; clear n0_ n1_ n2_; clear hg hw hp_)); try go_wp2_with (first | ((with_reducible refine gate_store (t := 3) (p := 58) rfl ?_); (try (rw [drewN_self wr]; generalize hq_ : World.drewN wr _ = wr; have n0_ := Aside0.mk (Kd.R_at hq_ HO_5.out); have n1_ := Aside0.mk (Kd.R_at hq_ HO_6.out); have n2_ := Aside0.mk (below_at hq_ HB.out); clear hq_ HO_5 HO_6 HB; have HO_5 := n0_; have HO_6 := n1_; have HB := n2_; clear n0_ n1_ n2_; (try (have HP26 := Kd.R_putg HO_6.out (x10_2 : Int) (rd x6_1 (rd t423 x7_1)))))); refine store_event (t := 3) (p := 58) (v := ?vo_w27) (w1 := (wr.setCell ⟨go25, (x10_2 : Int).toNat, none⟩ (.int .i64 (rd x6_1 (rd t423 x7_1))))) ?hg ?ho ?hn ?hr ?_; (case ho => rfl); (case hg => rfl); (case hn => rfl); (case hr => first | (go_simp; done) | (go_simp; rfl)); intro w27 hw; have hg : wr.grownBy w27 (some go25) := (by rw [hw]; exact HP26.2); have hp_ : Kd.R (Kd.int .i64) 3 w27 w.heap.size (fun k_ => some k_ ≠ (.slice (some ad429) t423.length co19 : Value).ownBlock) (.slice (some ⟨go25, 0, none⟩) x6_2.length co20) y434 := (by rw [hw, Ny434.out]; exact HP26.1); clear HP26; have n0_ := Aside0.mk (Kd.R_after (v := (.slice (some ⟨go25, 0, none⟩) x6_2.length co20)) (v1 := (.slice (some ⟨go25, 0, none⟩) x6_2.length co20)) (ok := (fun _ => True)) (by (with_reducible repeat (first | apply Kd.R_alloc | apply Kd.R_drewN | apply Kd.R_drew)); exact Kd.R_mono HO_5.out (fun _ hk => ⟨trivial, hk⟩)) hg (.inl rfl)); have n1_ := Aside0.mk (hp_); have n2_ := Aside0.mk ((by rw [hw]; exact below_set (HB.out) GB25.out : Below w.heap.size w w27)); clear HO_5; clear HO_6; clear HB; have HO_5 := n0_; have HO_6 := n1_; have HB := n2_; clear n0_ n1_ n2_; clear hg hw hp_)))
                   (try simp only [← hl6_2])
                   have ha1_ : (⟨go25, (rd t423 x7_1).toNat, none⟩ : Addr) = (⟨go25, 0, none⟩ : Addr).add (rd t423 x7_1).toNat := by simp [add_plain]
                   have ha2_ : (⟨go25, (rd t423 ji14).toNat, none⟩ : Addr) = (⟨go25, 0, none⟩ : Addr).add (rd t423 ji14).toNat := by simp [add_plain]
                   (try simp only [ha1_, ha2_])
                   clear ha1_ ha2_
                   go_roundg k2
                   case measure => have := HK1.out; have := HK2.out; omega
                   case rel => exact ⟨(y434), (wrap64 (x10_2 + 1)), (by first | rfl | (simp; done) | (simp [*]; done)), H', ⟨by have := HK1.out; have := HK2.out; omega⟩, ⟨by (try simp only [hl6_2]); (with_reducible repeat (first | apply Kd.R_alloc | apply Kd.R_drewN | apply Kd.R_drew)); exact Kd.R_mono HO_5.out (fun _ hk => hk.2)⟩, ⟨by (try simp only [hl6_2]); (with_reducible repeat (first | apply Kd.R_alloc | apply Kd.R_drewN | apply Kd.R_drew)); exact HO_6.out⟩, ⟨by repeat (first | (with_reducible first | exact HB.out | apply lal | apply ldn | apply ldr) | exact HB.out)⟩⟩
                  ·rw [if_neg c24] at H
                   have c24b0 : ((rd x6_2 x10_2) == (rd x6_1 (rd t423 (ji14)))) = false := beq_eq_false_iff_ne.mpr c24
                   have c24b1 : ((rd x6_2 x10_2) != (rd x6_1 (rd t423 (ji14)))) = true := bne_iff_ne.mpr c24
                   have H' := Aside0.mk H
                   clear H
                   have p433 : 0 ≤ (x10_2 : Int) := of_decide_eq_true (by first | (with_reducible assumption) | assumption)
                   have q433 : x10_2 < (x6_2.length : Int) := of_decide_eq_true (by first | (with_reducible assumption) | assumption)
                   obtain ⟨ad433, e433, hx433_0⟩ := Kd.at_int (Kd.R_reads' HO_6.out).2.2 x10_2 p433 q433
                   obtain rfl : ad430 = ad433 := (by injection e433)
                   replace p433 := eq_true p433
                   replace q433 := eq_true q433
                   go_wp2
                   repeat (go_quiet (fail); try go_wp2)
                   (try simp only [← hl6_2])
                   go_roundg k2
                   case measure => have := HK1.out; have := HK2.out; omega
                   case rel => exact ⟨(x6_2), (wrap64 (x10_2 + 1)), (by first | rfl | (simp; done) | (simp [*]; done)), H', ⟨by have := HK1.out; have := HK2.out; omega⟩, ⟨by (try simp only [hl6_2]); (with_reducible repeat (first | apply Kd.R_alloc | apply Kd.R_drewN | apply Kd.R_drew)); exact HO_5.out⟩, ⟨by (try simp only [hl6_2]); (with_reducible repeat (first | apply Kd.R_alloc | apply Kd.R_drewN | apply Kd.R_drew)); exact HO_6.out⟩, ⟨by repeat (first | (with_reducible first | exact HB.out | apply lal | apply ldn | apply ldr) | exact HB.out)⟩⟩
                 ·rw [if_neg c23] at H
                  exact absurd H (by simp)
                ·rw [if_neg c22] at H
                 exact absurd H (by simp)
               ·rw [if_neg c21] at H
                have c21b0 : decide (x10_2 < (l0.length : Int)) = false := decide_eq_false c21
                clear c21
                have H' := Aside0.mk H
                clear H
                go_wp2
                repeat (go_quiet (fail); try go_wp2)
                (try simp only [← hl6_2])
                go_roundg k2
                case measure => have := HK1.out; have := HK2.out; omega
                case rel => exact ⟨(x6_2), (wrap64 (x7_1 + 1)), (by first | rfl | (simp; done) | (simp [*]; done)), H', ⟨by have := HK1.out; have := HK2.out; omega⟩, ⟨by (try simp only [hl6_2]); (with_reducible repeat (first | apply Kd.R_alloc | apply Kd.R_drewN | apply Kd.R_drew)); exact HO_5.out⟩, ⟨by (try simp only [hl6_2]); (with_reducible repeat (first | apply Kd.R_alloc | apply Kd.R_drewN | apply Kd.R_drew)); exact HO_6.out⟩, ⟨by repeat (first | (with_reducible first | exact HB.out | apply lal | apply ldn | apply ldr) | exact HB.out)⟩⟩
            ·rw [if_neg c18] at H
             exact absurd H (by simp)
           ·rw [if_neg c17] at H
            exact absurd H (by simp)
          ·rw [if_neg c16] at H
           exact absurd H (by simp)
         ·rw [if_neg c15] at H
          exact absurd H (by simp)
        ·rw [if_neg c13] at H
         exact absurd H (by simp)
       ·rw [if_neg c12] at H
        exact absurd H (by simp)
      ·rw [if_neg c11] at H
       exact absurd H (by simp)
    ·rw [if_neg c8] at H
     exact absurd H (by simp)
   ·rw [if_neg c7] at H
    have c7b0 : decide ((wrap64 (x7_1 + 1)) < (l0.length : Int)) = false := decide_eq_false c7
    clear c7
    have H' := Aside0.mk H
    clear H
    go_wp2
    repeat (go_quiet (fail); try go_wp2)
    go_loopg [11] k1 (fun kq v11 w' => ∃ (x11_2 : Int), v11 = .int .i64 x11_2 ∧ Aside0 (trishawref06_Joins.l2 kq l0 x6_1 x11_2 = some r) ∧ Aside0 (kq ≤ k1) ∧ Aside0 (Kd.R (Kd.int .i64) 3 w' w.heap.size (fun _ => True) v427 x6_1) ∧ Aside0 (Below w.heap.size w w'))
    case atStart => exact ⟨(0), (by first | rfl | (simp; done) | (simp [*]; done)), H', ⟨Nat.le_refl _⟩, ⟨by (with_reducible repeat (first | apply Kd.R_alloc | apply Kd.R_drewN | apply Kd.R_drew)); exact Kd.R_mono HO_6.out (fun _ hk => trivial)⟩, ⟨by repeat (first | (with_reducible first | exact HB.out | apply lal | apply ldn | apply ldr) | exact HB.out)⟩⟩
    case round =>
     clear H'
     try clear c1
     try clear c2
     try clear p2
     try clear q2
     try clear hx2
     try clear hf2
     try clear c3
     try clear p4
     try clear q4
     try clear hx4
     try clear p6
     try clear c7
     try clear c7b0
     try clear c8
     try clear c8b0
     try clear c8b1
     try clear c10
     try clear c10b0
     try clear c10b1
     try clear c11
     try clear c11b0
     try clear c12
     try clear c12b0
     try clear c13
     try clear c13b0
     try clear c15
     try clear c15b0
     try clear c16
     try clear c16b0
     try clear c17
     try clear c17b0
     try clear c18
     try clear c18b0
     try clear c21
     try clear c21b0
     try clear c22
     try clear c22b0
     try clear c23
     try clear c23b0
     try clear c24
     try clear c24b0
     try clear c24b1
     try clear p25
     try clear q25
     try clear hx25
     try clear hf25
     try clear hx25_0
     try clear hx429_0
     try clear hx430_0
     try clear hx431_0
     try clear hx432_0
     try clear hx433_0
     try clear p2
     try clear p25
     try clear p4
     try clear p429
     try clear p430
     try clear p431
     try clear p432
     try clear p433
     try clear p6
     try clear q25
     try clear q4
     try clear q429
     try clear q430
     try clear q431
     try clear q432
     try clear q433
     obtain ⟨x11_2, rfl, HA, HK2, HO_6, HB⟩ := hrel
     cases gk with
     | zero => exact absurd HA.out (by simp [trishawref06_Joins.l2])
     | succ k2 =>
      have H := HA.out
      clear HA
      simp only [trishawref06_Joins.l2] at H
      by_cases c28 : x11_2 < (l0.length : Int)
      ·rw [if_pos c28] at H
       have c28b0 : decide (x11_2 < (l0.length : Int)) = true := decide_eq_true c28
       clear c28
       by_cases c29 : 0 ≤ x11_2
       ·rw [if_pos c29] at H
        have c29b0 : decide (0 ≤ x11_2) = true := decide_eq_true c29
        clear c29
        by_cases c30 : x11_2 < (x6_1.length : Int)
        ·rw [if_pos c30] at H
         have c30b0 : decide (x11_2 < (x6_1.length : Int)) = true := decide_eq_true c30
         clear c30
         by_cases c31 : 0 < (x6_1.length : Int)
         ·rw [if_pos c31] at H
          have c31b0 : decide (0 < (x6_1.length : Int)) = true := decide_eq_true c31
          have c31b1 : decide (0 < x6_1.length) = true := decide_eq_true (by omega)
          clear c31
          by_cases c32 : (rd x6_1 x11_2) = (rd x6_1 0)
          ·rw [if_pos c32] at H
           have c32b0 : ((rd x6_1 x11_2) == (rd x6_1 0)) = true := beq_iff_eq.mpr c32
           have c32b1 : ((rd x6_1 x11_2) != (rd x6_1 0)) = false := bne_eq_false_iff_eq.mpr c32
           clear c32
           have H' := Aside0.mk H
           clear H
           obtain ⟨Ao33, co33, eo33⟩ := Kd.R_slice HO_6.out
           subst eo33
           have p435 : 0 ≤ (x11_2 : Int) := of_decide_eq_true (by first | (with_reducible assumption) | assumption)
           have q435 : x11_2 < (x6_1.length : Int) := of_decide_eq_true (by first | (with_reducible assumption) | assumption)
           obtain ⟨ad435, e435, hx435_0⟩ := Kd.at_int (Kd.R_reads' HO_6.out).2.2 x11_2 p435 q435
           cases e435
           replace p435 := eq_true p435
           replace q435 := eq_true q435
           have p436 : 0 ≤ (0 : Int) := (by omega)
           have q436 : 0 < (x6_1.length : Int) := of_decide_eq_true (by first | (with_reducible assumption) | assumption)
           obtain ⟨ad436, e436, hx436_0⟩ := Kd.at_int (Kd.R_reads' HO_6.out).2.2 0 p436 q436
           obtain rfl : ad435 = ad436 := (by injection e436)
           have qi436 : (0 < x6_1.length) = True := eq_true (by omega)
           (try rw [show ((0 : Int)).toNat = 0 from rfl] at hx436_0)
           (try rw [Addr.add_zero'] at hx436_0)
           replace p436 := eq_true p436
           replace q436 := eq_true q436
           go_wp2
           repeat (go_quiet (fail); try go_wp2)
           go_roundg k2
           case measure => have := HK1.out; have := HK2.out; omega
           case rel => exact ⟨(wrap64 (x11_2 + 1)), (by first | rfl | (simp; done) | (simp [*]; done)), H', ⟨by have := HK1.out; have := HK2.out; omega⟩, ⟨by (with_reducible repeat (first | apply Kd.R_alloc | apply Kd.R_drewN | apply Kd.R_drew)); exact HO_6.out⟩, ⟨by repeat (first | (with_reducible first | exact HB.out | apply lal | apply ldn | apply ldr) | exact HB.out)⟩⟩
          ·rw [if_neg c32] at H
           have c32b0 : ((rd x6_1 x11_2) == (rd x6_1 0)) = false := beq_eq_false_iff_ne.mpr c32
           have c32b1 : ((rd x6_1 x11_2) != (rd x6_1 0)) = true := bne_iff_ne.mpr c32
           obtain rfl := Option.some.inj H
           obtain ⟨Ao34, co34, eo34⟩ := Kd.R_slice HO_6.out
           subst eo34
           have p435 : 0 ≤ (x11_2 : Int) := of_decide_eq_true (by first | (with_reducible assumption) | assumption)
           have q435 : x11_2 < (x6_1.length : Int) := of_decide_eq_true (by first | (with_reducible assumption) | assumption)
           obtain ⟨ad435, e435, hx435_0⟩ := Kd.at_int (Kd.R_reads' HO_6.out).2.2 x11_2 p435 q435
           cases e435
           replace p435 := eq_true p435
           replace q435 := eq_true q435
           have p436 : 0 ≤ (0 : Int) := (by omega)
           have q436 : 0 < (x6_1.length : Int) := of_decide_eq_true (by first | (with_reducible assumption) | assumption)
           obtain ⟨ad436, e436, hx436_0⟩ := Kd.at_int (Kd.R_reads' HO_6.out).2.2 0 p436 q436
           obtain rfl : ad435 = ad436 := (by injection e436)
           have qi436 : (0 < x6_1.length) = True := eq_true (by omega)
           (try rw [show ((0 : Int)).toNat = 0 from rfl] at hx436_0)
           (try rw [Addr.add_zero'] at hx436_0)
           replace p436 := eq_true p436
           replace q436 := eq_true q436
           go_wp2
           repeat (go_quiet (fail); try go_wp2)
           go_ret
           exact ⟨by first | rfl | (simp [errW_none, errW_some] <;> rfl) | (simp [*, errW_none, errW_some] <;> rfl), by repeat (first | (with_reducible first | exact HB.out | apply lal | apply ldn | apply ldr) | exact HB.out)⟩
         ·rw [if_neg c31] at H
          exact absurd H (by simp)
        ·rw [if_neg c30] at H
         exact absurd H (by simp)
       ·rw [if_neg c29] at H
        exact absurd H (by simp)
      ·rw [if_neg c28] at H
       have c28b0 : decide (x11_2 < (l0.length : Int)) = false := decide_eq_false c28
       clear c28
       obtain rfl := Option.some.inj H
       go_wp2
       repeat (go_quiet (fail); try go_wp2)
       go_ret
       exact ⟨by first | rfl | (simp [errW_none, errW_some] <;> rfl) | (simp [*, errW_none, errW_some] <;> rfl), by repeat (first | (with_reducible first | exact HB.out | apply lal | apply ldn | apply ldr) | exact HB.out)⟩
end Go.Proofs.Ytlmlneneakpohaa.OAll
