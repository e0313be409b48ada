/- A part of the proof of 'tripRings_holds', for every input, without a condition. -/
import Derived.Test.YtlmlneneakpohaaTRiOAllx0
import Derived.Test.YtlmlneneakpohaaTRiOAllx3
import Derived.Test.YtlmlneneakpohaaTRiOAllx5
import Derived.Test.YtlmlneneakpohaaTRiOAllx9
import Derived.Test.YtlmlneneakpohaaTRiOAllx20
import Derived.Test.YtlmlneneakpohaaTRiOAllx24
namespace Go.Proofs.Ytlmlneneakpohaa.OAll
open Go.RowKit Go.Proofs.YtlmlneneakpohaaW.PrintWords Go.Proofs.YtlmlneneakpohaaW.PrintLast Go.Proofs.YtlmlneneakpohaaW.PrintMore
attribute [local go_sem] max2_int min2_int max_two min_two max_three min_three max_four min_four
set_option linter.unusedVariables false
set_option linter.unusedSimpArgs false
mutual
def trishawlaw06_TripRings.j0 : Nat → List (S36) → Bool → Int → Int → Option (Bool)
 | 0, _, _, _, _ => none
 | k + 1, x0, x27, x606000, x606001 => if x27 = true then ((trishawlaw06_alive.f k).bind fun t608 => (some t608)) else ((trip_Matching.f k x0 x606000 x606001).bind fun bt609 => ((trip_Rings.f k x0).bind fun bt614 => (if bt609.2.2 = 0 then (if bt614.2 = 0 then ((trishawref06_IsOrder.f k (x0.length : Int) bt609.1).bind fun t618 => (trishawlaw06_TripRings.j1 k x0 bt609.1 bt614.1 (!t618))) else (none)) else (none))))
def trishawlaw06_TripRings.j1 : Nat → List (S36) → List Int → List (List Int) → Bool → Option (Bool)
 | 0, _, _, _, _ => none
 | k + 1, x0, x5, x8, x53 => if x53 = true then (none) else (if 0 ≤ (x0.length : Int) then (if ((x0.length : Int) : Int).toNat ≤ 35184372088832 then (trishawlaw06_TripRings.l0 k x0 x5 x8 (List.replicate ((x0.length : Int) : Int).toNat 0) 0 0) else (none)) else (none))
def trishawlaw06_TripRings.l0 : Nat → List (S36) → List Int → List (List Int) → List Int → Int → Int → Option (Bool)
 | 0, _, _, _, _, _, _ => none
 | k + 1, x0, x5, x8, x10, x11, x12 => if x12 < (x8.length : Int) then (trishawlaw06_TripRings.l1 k x0 x5 x8 x10 x11 x12 0) else (trishawlaw06_TripRings.l2 k x0 x5 x8 x10 x11 0)
def trishawlaw06_TripRings.l1 : Nat → List (S36) → List Int → List (List Int) → List Int → Int → Int → Int → Option (Bool)
 | 0, _, _, _, _, _, _, _ => none
 | k + 1, x0, x5, x8, x10, x11, x12, x13 => if 0 ≤ x12 then (if x12 < (x8.length : Int) then (if x13 < ((rd_L1 x8 x12).length : Int) then (if 0 ≤ x13 then (if (rd (rd_L1 x8 x12) x13) < 0 then (none) else (if (rd (rd_L1 x8 x12) x13) ≥ (x0.length : Int) then (none) else (if 0 ≤ (rd (rd_L1 x8 x12) x13) then (if (rd (rd_L1 x8 x12) x13) < (x10.length : Int) then (if (rd x10 (rd (rd_L1 x8 x12) x13)) = 0 then (if x13 > 0 then (if 0 ≤ (wrap64 (x13 - 1)) then (if (wrap64 (x13 - 1)) < ((rd_L1 x8 x12).length : Int) then (if (rd (rd_L1 x8 x12) x13) ≤ (rd (rd_L1 x8 x12) (wrap64 (x13 - 1))) then (none) else (if x13 = 0 then (if x12 > 0 then (if 0 ≤ (wrap64 (x12 - 1)) then (if (wrap64 (x12 - 1)) < (x8.length : Int) then (if 0 < ((rd_L1 x8 (wrap64 (x12 - 1))).length : Int) then (if (rd (rd_L1 x8 x12) x13) ≤ (rd (rd_L1 x8 (wrap64 (x12 - 1))) 0) then (none) else (trishawlaw06_TripRings.l1 k x0 x5 x8 (x10.set ((rd (rd_L1 x8 x12) x13) : Int).toNat (wrap64 (x12 + 1))) (wrap64 (x11 + 1)) x12 (wrap64 (x13 + 1)))) else (none)) else (none)) else (none)) else (trishawlaw06_TripRings.l1 k x0 x5 x8 (x10.set ((rd (rd_L1 x8 x12) x13) : Int).toNat (wrap64 (x12 + 1))) (wrap64 (x11 + 1)) x12 (wrap64 (x13 + 1)))) else (trishawlaw06_TripRings.l1 k x0 x5 x8 (x10.set ((rd (rd_L1 x8 x12) x13) : Int).toNat (wrap64 (x12 + 1))) (wrap64 (x11 + 1)) x12 (wrap64 (x13 + 1))))) else (none)) else (none)) else (if x13 = 0 then (if x12 > 0 then (if 0 ≤ (wrap64 (x12 - 1)) then (if (wrap64 (x12 - 1)) < (x8.length : Int) then (if 0 < ((rd_L1 x8 (wrap64 (x12 - 1))).length : Int) then (if (rd (rd_L1 x8 x12) x13) ≤ (rd (rd_L1 x8 (wrap64 (x12 - 1))) 0) then (none) else (trishawlaw06_TripRings.l1 k x0 x5 x8 (x10.set ((rd (rd_L1 x8 x12) x13) : Int).toNat (wrap64 (x12 + 1))) (wrap64 (x11 + 1)) x12 (wrap64 (x13 + 1)))) else (none)) else (none)) else (none)) else (trishawlaw06_TripRings.l1 k x0 x5 x8 (x10.set ((rd (rd_L1 x8 x12) x13) : Int).toNat (wrap64 (x12 + 1))) (wrap64 (x11 + 1)) x12 (wrap64 (x13 + 1)))) else (trishawlaw06_TripRings.l1 k x0 x5 x8 (x10.set ((rd (rd_L1 x8 x12) x13) : Int).toNat (wrap64 (x12 + 1))) (wrap64 (x11 + 1)) x12 (wrap64 (x13 + 1))))) else (none)) else (none)) else (none)))) else (none)) else (if ((rd_L1 x8 x12).length : Int) = 0 then (none) else (trishawlaw06_TripRings.l0 k x0 x5 x8 x10 x11 (wrap64 (x12 + 1))))) else (none)) else (none)
def trishawlaw06_TripRings.l2 : Nat → List (S36) → List Int → List (List Int) → List Int → Int → Int → Option (Bool)
 | 0, _, _, _, _, _, _ => none
 | k + 1, x0, x5, x8, x10, x11, x15 => if x15 < (x0.length : Int) then (if 0 ≤ x15 then (if x15 < (x10.length : Int) then (if x15 < (x5.length : Int) then (if 0 ≤ (rd x5 x15) then (if (rd x5 x15) < (x10.length : Int) then (if (rd x10 x15) = (rd x10 (rd x5 x15)) then (trishawlaw06_TripRings.l2 k x0 x5 x8 x10 x11 (wrap64 (x15 + 1))) else (none)) else (none)) else (none)) else (none)) else (none)) else (none)) else (trishawlaw06_TripRings.l3 k x0 x5 x8 x11 0)
def trishawlaw06_TripRings.l3 : Nat → List (S36) → List Int → List (List Int) → Int → Int → Option (Bool)
 | 0, _, _, _, _, _ => none
 | k + 1, x0, x5, x8, x11, x16 => if x16 < (x8.length : Int) then (if 0 ≤ x16 then (if 0 < ((rd_L1 x8 x16).length : Int) then (if 0 ≤ (rd (rd_L1 x8 x16) 0) then (if (rd (rd_L1 x8 x16) 0) < (x5.length : Int) then (trishawlaw06_TripRings.l4 k x0 x5 x8 x11 x16 1 (rd x5 (rd (rd_L1 x8 x16) 0))) else (none)) else (none)) else (none)) else (none)) else (if x11 = (x0.length : Int) then ((trishawlaw06_alive.f k).bind fun t642 => (some t642)) else (none))
def trishawlaw06_TripRings.l4 : Nat → List (S36) → List Int → List (List Int) → Int → Int → Int → Int → Option (Bool)
 | 0, _, _, _, _, _, _, _ => none
 | k + 1, x0, x5, x8, x11, x16, x17, x18 => if 0 ≤ x16 then (if x16 < (x8.length : Int) then (if 0 < ((rd_L1 x8 x16).length : Int) then (if x18 = (rd (rd_L1 x8 x16) 0) then (if x17 = ((rd_L1 x8 x16).length : Int) then (trishawlaw06_TripRings.l3 k x0 x5 x8 x11 (wrap64 (x16 + 1))) else (none)) else (if 0 ≤ x18 then (if x18 < (x5.length : Int) then (trishawlaw06_TripRings.l4 k x0 x5 x8 x11 x16 (wrap64 (x17 + 1)) (rd x5 x18)) else (none)) else (none))) else (none)) else (none)) else (none)
end
def trishawlaw06_TripRings.f (k : Nat) (l0 : List (S36)) (a1_0 : Int) (a1_1 : Int) : Option (Bool) := (trishawlaw06_few.f l0 ([] : List Int)).bind fun t606 => (if t606 = true then ((trishawref06_Day.f k l0 a1_0 a1_1).bind fun t607 => (trishawlaw06_TripRings.j0 k l0 (t607 != 0) a1_0 a1_1)) else (trishawlaw06_TripRings.j0 k l0 true a1_0 a1_1))
set_option maxHeartbeats 8000000 in
set_option maxRecDepth 100000 in
theorem trishawlaw06_TripRings.calls (k : Nat) (A0 : Option Addr) (c0 : Nat) (l0 : List (S36)) (a1_0 : Int) (a1_1 : Int) (r : Bool) (w : World) (hr0 : Kd.C k36 w A0 l0.length l0) (hc0 : l0.length ≤ c0) (h : trishawlaw06_TripRings.f k l0 a1_0 a1_1 = some r) :
  Calls Try.prog 10 #[.slice A0 l0.length c0, .agg #[.int .i64 a1_0, .int .i64 a1_1]] w fun e w' => e = .returned (.bool r) ∧ Below w.heap.size w w' := by
 have hu24 := Try.underlying24
 have HR0 := Aside0.mk hr0
 have HC0 := Aside0.mk hc0
 clear hr0 hc0
 have HB := Aside0.mk (Below.refl w.heap.size w)
 have H : ((trishawlaw06_few.f l0 ([] : List Int)).bind fun t606 => (if t606 = true then ((trishawref06_Day.f k l0 a1_0 a1_1).bind fun t607 => (trishawlaw06_TripRings.j0 k l0 (t607 != 0) a1_0 a1_1)) else (trishawlaw06_TripRings.j0 k l0 true a1_0 a1_1))) = some r := h
 clear h
 have HC3 := Aside0.mk H
 clear H
 go_enter Try.func10, Try.ntmps10
 go_upto_region 1 with (first | ((with_reducible refine gate_dst (N := 3) rfl ?_); (try (refine gate_guard (by rfl) ?_; dsimp only)); refine box_event ?hg (N := 3) ?hd (cs := #[.int .i64 a1_0, .int .i64 a1_1]) (t := 24) ?hr ?_; (case hd => rfl); (case hg => rfl); (case hr => first | (go_simp; done) | (go_simp; rfl)); intro gb605 hg w4 hbox hb; have n0_ := Aside0.mk (below_step (by repeat (first | (with_reducible first | exact HB.out | apply lal | apply ldn | apply ldr) | exact HB.out)) hb); have n1_ := Aside0.mk (hbox); have n2_ := Aside0.mk ((by rw [hg]; exact (below_size (by repeat (first | (with_reducible first | exact HB.out | apply lal | apply ldn | apply ldr) | exact HB.out))) : w.heap.size ≤ gb605)); have n3_ := Aside0.mk ((by rw [hg]; exact (below_size (by repeat (first | (with_reducible first | exact HB.out | apply lal | apply ldn | apply ldr) | exact HB.out))) : w.heap.size ≤ gb605)); clear HB; have HB := n0_; have BK605 := n1_; have GW605 := n2_; have GE605 := n3_; clear n0_ n1_ n2_ n3_; clear hb hbox hg))
 repeat (go_quiet (first | ((with_reducible refine gate_dst (N := 3) rfl ?_); (try (refine gate_guard (by rfl) ?_; dsimp only)); refine box_event ?hg (N := 3) ?hd (cs := #[.int .i64 a1_0, .int .i64 a1_1]) (t := 24) ?hr ?_; (case hd => rfl); (case hg => rfl); (case hr => first | (go_simp; done) | (go_simp; rfl)); intro gb605 hg w4 hbox hb; have n0_ := Aside0.mk (below_step (by repeat (first | (with_reducible first | exact HB.out | apply lal | apply ldn | apply ldr) | exact HB.out)) hb); have n1_ := Aside0.mk (hbox); have n2_ := Aside0.mk ((by rw [hg]; exact (below_size (by repeat (first | (with_reducible first | exact HB.out | apply lal | apply ldn | apply ldr) | exact HB.out))) : w.heap.size ≤ gb605)); have n3_ := Aside0.mk ((by rw [hg]; exact (below_size (by repeat (first | (with_reducible first | exact HB.out | apply lal | apply ldn | apply ldr) | exact HB.out))) : w.heap.size ≤ gb605)); clear HB; have HB := n0_; have BK605 := n1_; have GW605 := n2_; have GE605 := n3_; clear n0_ n1_ n2_ n3_; clear hb hbox hg)); go_upto_region 1 with (first | ((with_reducible refine gate_dst (N := 3) rfl ?_); (try (refine gate_guard (by rfl) ?_; dsimp only)); refine box_event ?hg (N := 3) ?hd (cs := #[.int .i64 a1_0, .int .i64 a1_1]) (t := 24) ?hr ?_; (case hd => rfl); (case hg => rfl); (case hr => first | (go_simp; done) | (go_simp; rfl)); intro gb605 hg w4 hbox hb; have n0_ := Aside0.mk (below_step (by repeat (first | (with_reducible first | exact HB.out | apply lal | apply ldn | apply ldr) | exact HB.out)) hb); have n1_ := Aside0.mk (hbox); have n2_ := Aside0.mk ((by rw [hg]; exact (below_size (by repeat (first | (with_reducible first | exact HB.out | apply lal | apply ldn | apply ldr) | exact HB.out))) : w.heap.size ≤ gb605)); have n3_ := Aside0.mk ((by rw [hg]; exact (below_size (by repeat (first | (with_reducible first | exact HB.out | apply lal | apply ldn | apply ldr) | exact HB.out))) : w.heap.size ≤ gb605)); clear HB; have HB := n0_; have BK605 := n1_; have GW605 := n2_; have GE605 := n3_; clear n0_ n1_ n2_ n3_; clear hb hbox hg)))
 (try simp only [Act.put, sia, sc0, scs])
 go_cut [27] (fun v27 wc => ∃ (kq : Nat) (x27_2 : Bool), v27 = .bool x27_2 ∧ Aside0 (trishawlaw06_TripRings.j0 kq l0 x27_2 a1_0 a1_1 = some r) ∧ Aside0 (kq ≤ k) ∧ Aside0 (wc.heap[gb605]? = some (.cells #[.int .i64 a1_0, .int .i64 a1_1] 24 (0, 0))) ∧ Aside0 (Below w.heap.size w wc))
 case first =>
  have H := HC3.out
  clear HC3
  replace H := Option.bind_eq_some_iff.mp H
  obtain ⟨t606, A50, H⟩ := H
  replace H : (if t606 = true then ((trishawref06_Day.f k l0 a1_0 a1_1).bind fun t607 => (trishawlaw06_TripRings.j0 k l0 (t607 != 0) a1_0 a1_1)) else (trishawlaw06_TripRings.j0 k l0 true a1_0 a1_1)) = some r := H
  have A5 := Aside0.mk A50
  clear A50
  by_cases c6 : t606 = true
  ·subst c6
   have H1 : ((trishawref06_Day.f k l0 a1_0 a1_1).bind fun t607 => (trishawlaw06_TripRings.j0 k l0 (t607 != 0) a1_0 a1_1)) = some r := by rw [if_pos rfl] at H; exact H
   clear H
   have H := H1
   clear H1
   replace H := Option.bind_eq_some_iff.mp H
   obtain ⟨t607, A70, H⟩ := H
   replace H : (trishawlaw06_TripRings.j0 k l0 (t607 != 0) a1_0 a1_1) = some r := H
   have A7 := Aside0.mk A70
   clear A70
   have H' := Aside0.mk H
   clear H
   go_wp2_with (first | (go_at_call 15; (refine (trishawlaw06_few.calls _ _ l0 _ _ ([] : List Int) true _ ?side1 ?side2 ?side3 ?side4 A5.out).mono ?_); (case side1 => repeat (first | exact (Kd.C_below HR0.out HB.out) | (with_reducible refine Kd.C_alloc ?_ _) | (with_reducible refine Kd.C_drewN ?_ _) | (with_reducible refine Kd.C_drew ?_))); (case side2 => exact HC0.out); (case side3 => exact Kd.C_nil _ _); (case side4 => exact Nat.le_refl _); rintro e w' ⟨rfl, ⟨nd, rfl⟩⟩; (try first | exact ⟨rfl, _, World.drewN_drewN _ _ _⟩ | exact ⟨rfl, _, Eq.trans (World.drewN_drewN _ _ _) (congrArg (World.drewN _) (Nat.add_assoc _ _ _))⟩); have hcz8_0 : w4.cell? ⟨gb605, 0, none⟩ = some (.int .i64 a1_0) := (blk_cell BK605.out 0).trans rfl; have hcz8_1 : w4.cell? ⟨gb605, 1, none⟩ = some (.int .i64 a1_1) := (blk_cell BK605.out 1).trans rfl; have hfz8_0 := blk_frozen BK605.out 0; have hfz8_1 := blk_frozen BK605.out 1) | (go_at_call 20; (with_reducible refine (trishawref06_Day.calls k _ _ l0 a1_0 a1_1 t607 _ ?side1 ?side2 A7.out).mono ?_); (case side1 => repeat (first | exact (Kd.C_below HR0.out (by repeat (first | (with_reducible first | exact HB.out | apply lal | apply ldn | apply ldr | refine below_set ?_ GE605.out) | exact HB.out))) | (with_reducible refine Kd.C_alloc ?_ _) | (with_reducible refine Kd.C_drewN ?_ _) | (with_reducible refine Kd.C_drew ?_))); (case side2 => exact HC0.out); rintro e w9 ⟨rfl, hb⟩; have n0_ := Aside0.mk (blk_below (g := gb605) (o := .cells #[.int .i64 a1_0, .int .i64 a1_1] 24 (0, 0)) (by (with_reducible repeat (first | apply kdn | apply kdr | apply kal)); exact BK605.out) hb); have n1_ := Aside0.mk (below_step (by repeat (first | (with_reducible first | exact HB.out | apply lal | apply ldn | apply ldr | refine below_set ?_ GE605.out) | exact HB.out)) hb); clear BK605; clear HB; have BK605 := n0_; have HB := n1_; clear n0_ n1_; (try clear hb); (try clear hb2); (try clear hk); (try clear hi)))
   repeat (go_quiet (first | (go_at_call 15; (refine (trishawlaw06_few.calls _ _ l0 _ _ ([] : List Int) true _ ?side1 ?side2 ?side3 ?side4 A5.out).mono ?_); (case side1 => repeat (first | exact (Kd.C_below HR0.out HB.out) | (with_reducible refine Kd.C_alloc ?_ _) | (with_reducible refine Kd.C_drewN ?_ _) | (with_reducible refine Kd.C_drew ?_))); (case side2 => exact HC0.out); (case side3 => exact Kd.C_nil _ _); (case side4 => exact Nat.le_refl _); rintro e w' ⟨rfl, ⟨nd, rfl⟩⟩; (try first | exact ⟨rfl, _, World.drewN_drewN _ _ _⟩ | exact ⟨rfl, _, Eq.trans (World.drewN_drewN _ _ _) (congrArg (World.drewN _) (Nat.add_assoc _ _ _))⟩); have hcz8_0 : w4.cell? ⟨gb605, 0, none⟩ = some (.int .i64 a1_0) := (blk_cell BK605.out 0).trans rfl; have hcz8_1 : w4.cell? ⟨gb605, 1, none⟩ = some (.int .i64 a1_1) := (blk_cell BK605.out 1).trans rfl; have hfz8_0 := blk_frozen BK605.out 0; have hfz8_1 := blk_frozen BK605.out 1) | (go_at_call 20; (with_reducible refine (trishawref06_Day.calls k _ _ l0 a1_0 a1_1 t607 _ ?side1 ?side2 A7.out).mono ?_); (case side1 => repeat (first | exact (Kd.C_below HR0.out (by repeat (first | (with_reducible first | exact HB.out | apply lal | apply ldn | apply ldr | refine below_set ?_ GE605.out) | exact HB.out))) | (with_reducible refine Kd.C_alloc ?_ _) | (with_reducible refine Kd.C_drewN ?_ _) | (with_reducible refine Kd.C_drew ?_))); (case side2 => exact HC0.out); rintro e w9 ⟨rfl, hb⟩; have n0_ := Aside0.mk (blk_below (g := gb605) (o := .cells #[.int .i64 a1_0, .int .i64 a1_1] 24 (0, 0)) (by (with_reducible repeat (first | apply kdn | apply kdr | apply kal)); exact BK605.out) hb); have n1_ := Aside0.mk (below_step (by repeat (first | (with_reducible first | exact HB.out | apply lal | apply ldn | apply ldr | refine below_set ?_ GE605.out) | exact HB.out)) hb); clear BK605; clear HB; have BK605 := n0_; have HB := n1_; clear n0_ n1_; (try clear hb); (try clear hb2); (try clear hk); (try clear hi))); try go_wp2_with (first | (go_at_call 15; (refine (trishawlaw06_few.calls _ _ l0 _ _ ([] : List Int) true _ ?side1 ?side2 ?side3 ?side4 A5.out).mono ?_); (case side1 => repeat (first | exact (Kd.C_below HR0.out HB.out) | (with_reducible refine Kd.C_alloc ?_ _) | (with_reducible refine Kd.C_drewN ?_ _) | (with_reducible refine Kd.C_drew ?_))); (case side2 => exact HC0.out); (case side3 => exact Kd.C_nil _ _); (case side4 => exact Nat.le_refl _); rintro e w' ⟨rfl, ⟨nd, rfl⟩⟩; (try first | exact ⟨rfl, _, World.drewN_drewN _ _ _⟩ | exact ⟨rfl, _, Eq.trans (World.drewN_drewN _ _ _) (congrArg (World.drewN _) (Nat.add_assoc _ _ _))⟩); have hcz8_0 : w4.cell? ⟨gb605, 0, none⟩ = some (.int .i64 a1_0) := (blk_cell BK605.out 0).trans rfl; have hcz8_1 : w4.cell? ⟨gb605, 1, none⟩ = some (.int .i64 a1_1) := (blk_cell BK605.out 1).trans rfl; have hfz8_0 := blk_frozen BK605.out 0; have hfz8_1 := blk_frozen BK605.out 1) | (go_at_call 20; (with_reducible refine (trishawref06_Day.calls k _ _ l0 a1_0 a1_1 t607 _ ?side1 ?side2 A7.out).mono ?_); (case side1 => repeat (first | exact (Kd.C_below HR0.out (by repeat (first | (with_reducible first | exact HB.out | apply lal | apply ldn | apply ldr | refine below_set ?_ GE605.out) | exact HB.out))) | (with_reducible refine Kd.C_alloc ?_ _) | (with_reducible refine Kd.C_drewN ?_ _) | (with_reducible refine Kd.C_drew ?_))); (case side2 => exact HC0.out); rintro e w9 ⟨rfl, hb⟩; have n0_ := Aside0.mk (blk_below (g := gb605) (o := .cells #[.int .i64 a1_0, .int .i64 a1_1] 24 (0, 0)) (by (with_reducible repeat (first | apply kdn | apply kdr | apply kal)); exact BK605.out) hb); have n1_ := Aside0.mk (below_step (by repeat (first | (with_reducible first | exact HB.out | apply lal | apply ldn | apply ldr | refine below_set ?_ GE605.out) | exact HB.out)) hb); clear BK605; clear HB; have BK605 := n0_; have HB := n1_; clear n0_ n1_; (try clear hb); (try clear hb2); (try clear hk); (try clear hi))))
   go_meet
   case rel => exact ⟨_, ((t607 != 0)), (by first | rfl | (simp; done) | (simp [*]; done)), H', ⟨by first | omega | exact Nat.le_refl _⟩, ⟨by (with_reducible repeat (first | apply kdn | apply kdr | apply kal)); exact BK605.out⟩, ⟨by repeat (first | (with_reducible first | exact HB.out | apply lal | apply ldn | apply ldr | refine below_set ?_ GE605.out) | exact HB.out)⟩⟩
  ·replace c6 := Bool.eq_false_iff.mpr c6
   subst c6
   have H1 : (trishawlaw06_TripRings.j0 k l0 true a1_0 a1_1) = some r := by rw [if_neg (show ¬ (false = true) by decide)] at H; exact H
   clear H
   have H := H1
   clear H1
   have H' := Aside0.mk H
   clear H
   go_wp2_with (first | (go_at_call 15; (refine (trishawlaw06_few.calls _ _ l0 _ _ ([] : List Int) false _ ?side1 ?side2 ?side3 ?side4 A5.out).mono ?_); (case side1 => repeat (first | exact (Kd.C_below HR0.out HB.out) | (with_reducible refine Kd.C_alloc ?_ _) | (with_reducible refine Kd.C_drewN ?_ _) | (with_reducible refine Kd.C_drew ?_))); (case side2 => exact HC0.out); (case side3 => exact Kd.C_nil _ _); (case side4 => exact Nat.le_refl _); rintro e w' ⟨rfl, ⟨nd, rfl⟩⟩; (try first | exact ⟨rfl, _, World.drewN_drewN _ _ _⟩ | exact ⟨rfl, _, Eq.trans (World.drewN_drewN _ _ _) (congrArg (World.drewN _) (Nat.add_assoc _ _ _))⟩)))
   repeat (go_quiet (first | (go_at_call 15; (refine (trishawlaw06_few.calls _ _ l0 _ _ ([] : List Int) false _ ?side1 ?side2 ?side3 ?side4 A5.out).mono ?_); (case side1 => repeat (first | exact (Kd.C_below HR0.out HB.out) | (with_reducible refine Kd.C_alloc ?_ _) | (with_reducible refine Kd.C_drewN ?_ _) | (with_reducible refine Kd.C_drew ?_))); (case side2 => exact HC0.out); (case side3 => exact Kd.C_nil _ _); (case side4 => exact Nat.le_refl _); rintro e w' ⟨rfl, ⟨nd, rfl⟩⟩; (try first | exact ⟨rfl, _, World.drewN_drewN _ _ _⟩ | exact ⟨rfl, _, Eq.trans (World.drewN_drewN _ _ _) (congrArg (World.drewN _) (Nat.add_assoc _ _ _))⟩))); try go_wp2_with (first | (go_at_call 15; (refine (trishawlaw06_few.calls _ _ l0 _ _ ([] : List Int) false _ ?side1 ?side2 ?side3 ?side4 A5.out).mono ?_); (case side1 => repeat (first | exact (Kd.C_below HR0.out HB.out) | (with_reducible refine Kd.C_alloc ?_ _) | (with_reducible refine Kd.C_drewN ?_ _) | (with_reducible refine Kd.C_drew ?_))); (case side2 => exact HC0.out); (case side3 => exact Kd.C_nil _ _); (case side4 => exact Nat.le_refl _); rintro e w' ⟨rfl, ⟨nd, rfl⟩⟩; (try first | exact ⟨rfl, _, World.drewN_drewN _ _ _⟩ | exact ⟨rfl, _, Eq.trans (World.drewN_drewN _ _ _) (congrArg (World.drewN _) (Nat.add_assoc _ _ _))⟩))))
   go_meet
   case rel => exact ⟨_, (true), (by first | rfl | (simp; done) | (simp [*]; done)), H', ⟨by first | omega | exact Nat.le_refl _⟩, ⟨by (with_reducible repeat (first | apply kdn | apply kdr | apply kal)); exact BK605.out⟩, ⟨by repeat (first | (with_reducible first | exact HB.out | apply lal | apply ldn | apply ldr | refine below_set ?_ GE605.out) | exact HB.out)⟩⟩
 case rest =>
  clear HC3
  try clear c1
  try clear p2
  try clear c6
  try clear hcz8_0
  try clear hcz8_1
  try clear hfz8_0
  try clear hfz8_1
  obtain ⟨kq, x27_2, rfl, HA, HJ2, BK605, HB⟩ := hcut
  cases kq with
  | zero => exact absurd HA.out (by simp [trishawlaw06_TripRings.j0])
  | succ kj2 =>
   have H := HA.out
   clear HA
   simp only [trishawlaw06_TripRings.j0] at H
   by_cases c10 : x27_2 = true
   ·subst c10
    have H1 : ((trishawlaw06_alive.f kj2).bind fun t608 => (some t608)) = some r := by rw [if_pos rfl] at H; exact H
    clear H
    have H := H1
    clear H1
    replace H := Option.bind_eq_some_iff.mp H
    obtain ⟨t608, A110, H⟩ := H
    replace H : (some t608) = some r := H
    have A11 := Aside0.mk A110
    clear A110
    obtain rfl := Option.some.inj H
    go_wp2_with (first | (go_at_call 16; (with_reducible refine (trishawlaw06_alive.calls kj2  t608 _ A11.out).mono ?_); rintro e w12 ⟨rfl, hb⟩; have n0_ := Aside0.mk (blk_below (g := gb605) (o := .cells #[.int .i64 a1_0, .int .i64 a1_1] 24 (0, 0)) (by (with_reducible repeat (first | apply kdn | apply kdr | apply kal)); exact BK605.out) hb); have n1_ := Aside0.mk (below_step (by repeat (first | (with_reducible first | exact HB.out | apply lal | apply ldn | apply ldr | refine below_set ?_ GE605.out) | exact HB.out)) hb); clear BK605; clear HB; have BK605 := n0_; have HB := n1_; clear n0_ n1_; (try clear hb); (try clear hb2); (try clear hk); (try clear hi)))
    repeat (go_quiet (first | (go_at_call 16; (with_reducible refine (trishawlaw06_alive.calls kj2  t608 _ A11.out).mono ?_); rintro e w12 ⟨rfl, hb⟩; have n0_ := Aside0.mk (blk_below (g := gb605) (o := .cells #[.int .i64 a1_0, .int .i64 a1_1] 24 (0, 0)) (by (with_reducible repeat (first | apply kdn | apply kdr | apply kal)); exact BK605.out) hb); have n1_ := Aside0.mk (below_step (by repeat (first | (with_reducible first | exact HB.out | apply lal | apply ldn | apply ldr | refine below_set ?_ GE605.out) | exact HB.out)) hb); clear BK605; clear HB; have BK605 := n0_; have HB := n1_; clear n0_ n1_; (try clear hb); (try clear hb2); (try clear hk); (try clear hi))); try go_wp2_with (first | (go_at_call 16; (with_reducible refine (trishawlaw06_alive.calls kj2  t608 _ A11.out).mono ?_); rintro e w12 ⟨rfl, hb⟩; have n0_ := Aside0.mk (blk_below (g := gb605) (o := .cells #[.int .i64 a1_0, .int .i64 a1_1] 24 (0, 0)) (by (with_reducible repeat (first | apply kdn | apply kdr | apply kal)); exact BK605.out) hb); have n1_ := Aside0.mk (below_step (by repeat (first | (with_reducible first | exact HB.out | apply lal | apply ldn | apply ldr | refine below_set ?_ GE605.out) | exact HB.out)) hb); clear BK605; clear HB; have BK605 := n0_; have HB := n1_; clear n0_ n1_; (try clear hb); (try clear hb2); (try clear hk); (try clear hi))))
    go_ret
    exact ⟨by first | rfl | (simp [errW_none, errW_some] <;> rfl) | (simp [*, errW_none, errW_some] <;> rfl), by repeat (first | (with_reducible first | exact HB.out | apply lal | apply ldn | apply ldr | refine below_set ?_ GE605.out) | exact HB.out)⟩
   ·replace c10 := Bool.eq_false_iff.mpr c10
    subst c10
    have H1 : ((trip_Matching.f kj2 l0 a1_0 a1_1).bind fun bt609 => ((trip_Rings.f kj2 l0).bind fun bt614 => (if bt609.2.2 = 0 then (if bt614.2 = 0 then ((trishawref06_IsOrder.f kj2 (l0.length : Int) bt609.1).bind fun t618 => (trishawlaw06_TripRings.j1 kj2 l0 bt609.1 bt614.1 (!t618))) else (none)) else (none)))) = some r := by rw [if_neg (show ¬ (false = true) by decide)] at H; exact H
    clear H
    have H := H1
    clear H1
    replace H := Option.bind_eq_some_iff.mp H
    obtain ⟨⟨t609, t612, t613⟩, A130, H⟩ := H
    replace H : ((trip_Rings.f kj2 l0).bind fun bt614 => (if t613 = 0 then (if bt614.2 = 0 then ((trishawref06_IsOrder.f kj2 (l0.length : Int) t609).bind fun t618 => (trishawlaw06_TripRings.j1 kj2 l0 t609 bt614.1 (!t618))) else (none)) else (none))) = some r := H
    have A13 := Aside0.mk A130
    clear A130
    replace H := Option.bind_eq_some_iff.mp H
    obtain ⟨⟨t614, t615⟩, A140, H⟩ := H
    replace H : (if t613 = 0 then (if t615 = 0 then ((trishawref06_IsOrder.f kj2 (l0.length : Int) t609).bind fun t618 => (trishawlaw06_TripRings.j1 kj2 l0 t609 t614 (!t618))) else (none)) else (none)) = some r := H
    have A14 := Aside0.mk A140
    clear A140
    have HC15 := Aside0.mk H
    clear H
    have hcz16_0 : wc.cell? ⟨gb605, 0, none⟩ = some (.int .i64 a1_0) := (blk_cell BK605.out 0).trans rfl
    have hcz16_1 : wc.cell? ⟨gb605, 1, none⟩ = some (.int .i64 a1_1) := (blk_cell BK605.out 1).trans rfl
    have hfz16_0 := blk_frozen BK605.out 0
    have hfz16_1 := blk_frozen BK605.out 1
    go_upto_region 5 with (first | (go_at_call 30; (with_reducible refine (trip_Matching.calls kj2 _ _ l0 a1_0 a1_1 t609 t612 t613 _ ?side1 ?side2 A13.out).mono ?_); (case side1 => repeat (first | exact (Kd.C_below HR0.out HB.out) | (with_reducible refine Kd.C_alloc ?_ _) | (with_reducible refine Kd.C_drewN ?_ _) | (with_reducible refine Kd.C_drew ?_))); (case side2 => exact HC0.out); rintro e w17 ⟨v610, rfl, ho0, hb⟩; have n0_ := Aside0.mk (Kd.R_lower ho0 (below_size (by repeat (first | (with_reducible first | exact HB.out | apply lal | apply ldn | apply ldr | refine below_set ?_ GE605.out) | exact HB.out)))); have n1_ := Aside0.mk (blk_below (g := gb605) (o := .cells #[.int .i64 a1_0, .int .i64 a1_1] 24 (0, 0)) (by (with_reducible repeat (first | apply kdn | apply kdr | apply kal)); exact BK605.out) hb); have n2_ := Aside0.mk (below_step (by repeat (first | (with_reducible first | exact HB.out | apply lal | apply ldn | apply ldr | refine below_set ?_ GE605.out) | exact HB.out)) hb); clear BK605; clear HB; have HO611 := n0_; have BK605 := n1_; have HB := n2_; clear n0_ n1_ n2_; (try clear hb); (try clear hb2); (try clear hk); (try clear hi); (try clear ho0)) | (go_at_call 33; (with_reducible refine (trip_Rings.calls kj2 _ _ l0 t614 t615 _ ?side1 ?side2 A14.out).mono ?_); (case side1 => repeat (first | exact (Kd.C_below HR0.out HB.out) | (with_reducible refine Kd.C_alloc ?_ _) | (with_reducible refine Kd.C_drewN ?_ _) | (with_reducible refine Kd.C_drew ?_))); (case side2 => exact HC0.out); rintro e w18 ⟨v616, rfl, ho0, hb⟩; have n0_ := Aside0.mk (Kd.R_below (by (with_reducible repeat (first | apply Kd.R_alloc | apply Kd.R_drewN | apply Kd.R_drew)); exact HO611.out) hb); have n1_ := Aside0.mk (Kd.S_lower (Kd.S_new' ho0 (Kd.R_lt (by (with_reducible repeat (first | apply Kd.R_alloc | apply Kd.R_drewN | apply Kd.R_drew)); exact HO611.out))) (below_size (by repeat (first | (with_reducible first | exact HB.out | apply lal | apply ldn | apply ldr | refine below_set ?_ GE605.out) | exact HB.out)))); have n2_ := Aside0.mk (blk_below (g := gb605) (o := .cells #[.int .i64 a1_0, .int .i64 a1_1] 24 (0, 0)) (by (with_reducible repeat (first | apply kdn | apply kdr | apply kal)); exact BK605.out) hb); have n3_ := Aside0.mk (below_step (by repeat (first | (with_reducible first | exact HB.out | apply lal | apply ldn | apply ldr | refine below_set ?_ GE605.out) | exact HB.out)) hb); clear HO611; clear BK605; clear HB; have HO611 := n0_; have HO617 := n1_; have BK605 := n2_; have HB := n3_; clear n0_ n1_ n2_ n3_; (try clear hb); (try clear hb2); (try clear hk); (try clear hi); (try clear ho0)))
    repeat (go_quiet (first | (go_at_call 30; (with_reducible refine (trip_Matching.calls kj2 _ _ l0 a1_0 a1_1 t609 t612 t613 _ ?side1 ?side2 A13.out).mono ?_); (case side1 => repeat (first | exact (Kd.C_below HR0.out HB.out) | (with_reducible refine Kd.C_alloc ?_ _) | (with_reducible refine Kd.C_drewN ?_ _) | (with_reducible refine Kd.C_drew ?_))); (case side2 => exact HC0.out); rintro e w17 ⟨v610, rfl, ho0, hb⟩; have n0_ := Aside0.mk (Kd.R_lower ho0 (below_size (by repeat (first | (with_reducible first | exact HB.out | apply lal | apply ldn | apply ldr | refine below_set ?_ GE605.out) | exact HB.out)))); have n1_ := Aside0.mk (blk_below (g := gb605) (o := .cells #[.int .i64 a1_0, .int .i64 a1_1] 24 (0, 0)) (by (with_reducible repeat (first | apply kdn | apply kdr | apply kal)); exact BK605.out) hb); have n2_ := Aside0.mk (below_step (by repeat (first | (with_reducible first | exact HB.out | apply lal | apply ldn | apply ldr | refine below_set ?_ GE605.out) | exact HB.out)) hb); clear BK605; clear HB; have HO611 := n0_; have BK605 := n1_; have HB := n2_; clear n0_ n1_ n2_; (try clear hb); (try clear hb2); (try clear hk); (try clear hi); (try clear ho0)) | (go_at_call 33; (with_reducible refine (trip_Rings.calls kj2 _ _ l0 t614 t615 _ ?side1 ?side2 A14.out).mono ?_); (case side1 => repeat (first | exact (Kd.C_below HR0.out HB.out) | (with_reducible refine Kd.C_alloc ?_ _) | (with_reducible refine Kd.C_drewN ?_ _) | (with_reducible refine Kd.C_drew ?_))); (case side2 => exact HC0.out); rintro e w18 ⟨v616, rfl, ho0, hb⟩; have n0_ := Aside0.mk (Kd.R_below (by (with_reducible repeat (first | apply Kd.R_alloc | apply Kd.R_drewN | apply Kd.R_drew)); exact HO611.out) hb); have n1_ := Aside0.mk (Kd.S_lower (Kd.S_new' ho0 (Kd.R_lt (by (with_reducible repeat (first | apply Kd.R_alloc | apply Kd.R_drewN | apply Kd.R_drew)); exact HO611.out))) (below_size (by repeat (first | (with_reducible first | exact HB.out | apply lal | apply ldn | apply ldr | refine below_set ?_ GE605.out) | exact HB.out)))); have n2_ := Aside0.mk (blk_below (g := gb605) (o := .cells #[.int .i64 a1_0, .int .i64 a1_1] 24 (0, 0)) (by (with_reducible repeat (first | apply kdn | apply kdr | apply kal)); exact BK605.out) hb); have n3_ := Aside0.mk (below_step (by repeat (first | (with_reducible first | exact HB.out | apply lal | apply ldn | apply ldr | refine below_set ?_ GE605.out) | exact HB.out)) hb); clear HO611; clear BK605; clear HB; have HO611 := n0_; have HO617 := n1_; have BK605 := n2_; have HB := n3_; clear n0_ n1_ n2_ n3_; (try clear hb); (try clear hb2); (try clear hk); (try clear hi); (try clear ho0))); go_upto_region 5 with (first | (go_at_call 30; (with_reducible refine (trip_Matching.calls kj2 _ _ l0 a1_0 a1_1 t609 t612 t613 _ ?side1 ?side2 A13.out).mono ?_); (case side1 => repeat (first | exact (Kd.C_below HR0.out HB.out) | (with_reducible refine Kd.C_alloc ?_ _) | (with_reducible refine Kd.C_drewN ?_ _) | (with_reducible refine Kd.C_drew ?_))); (case side2 => exact HC0.out); rintro e w17 ⟨v610, rfl, ho0, hb⟩; have n0_ := Aside0.mk (Kd.R_lower ho0 (below_size (by repeat (first | (with_reducible first | exact HB.out | apply lal | apply ldn | apply ldr | refine below_set ?_ GE605.out) | exact HB.out)))); have n1_ := Aside0.mk (blk_below (g := gb605) (o := .cells #[.int .i64 a1_0, .int .i64 a1_1] 24 (0, 0)) (by (with_reducible repeat (first | apply kdn | apply kdr | apply kal)); exact BK605.out) hb); have n2_ := Aside0.mk (below_step (by repeat (first | (with_reducible first | exact HB.out | apply lal | apply ldn | apply ldr | refine below_set ?_ GE605.out) | exact HB.out)) hb); clear BK605; clear HB; have HO611 := n0_; have BK605 := n1_; have HB := n2_; clear n0_ n1_ n2_; (try clear hb); (try clear hb2); (try clear hk); (try clear hi); (try clear ho0)) | (go_at_call 33; (with_reducible refine (trip_Rings.calls kj2 _ _ l0 t614 t615 _ ?side1 ?side2 A14.out).mono ?_); (case side1 => repeat (first | exact (Kd.C_below HR0.out HB.out) | (with_reducible refine Kd.C_alloc ?_ _) | (with_reducible refine Kd.C_drewN ?_ _) | (with_reducible refine Kd.C_drew ?_))); (case side2 => exact HC0.out); rintro e w18 ⟨v616, rfl, ho0, hb⟩; have n0_ := Aside0.mk (Kd.R_below (by (with_reducible repeat (first | apply Kd.R_alloc | apply Kd.R_drewN | apply Kd.R_drew)); exact HO611.out) hb); have n1_ := Aside0.mk (Kd.S_lower (Kd.S_new' ho0 (Kd.R_lt (by (with_reducible repeat (first | apply Kd.R_alloc | apply Kd.R_drewN | apply Kd.R_drew)); exact HO611.out))) (below_size (by repeat (first | (with_reducible first | exact HB.out | apply lal | apply ldn | apply ldr | refine below_set ?_ GE605.out) | exact HB.out)))); have n2_ := Aside0.mk (blk_below (g := gb605) (o := .cells #[.int .i64 a1_0, .int .i64 a1_1] 24 (0, 0)) (by (with_reducible repeat (first | apply kdn | apply kdr | apply kal)); exact BK605.out) hb); have n3_ := Aside0.mk (below_step (by repeat (first | (with_reducible first | exact HB.out | apply lal | apply ldn | apply ldr | refine below_set ?_ GE605.out) | exact HB.out)) hb); clear HO611; clear BK605; clear HB; have HO611 := n0_; have HO617 := n1_; have BK605 := n2_; have HB := n3_; clear n0_ n1_ n2_ n3_; (try clear hb); (try clear hb2); (try clear hk); (try clear hi); (try clear ho0))))
    (try simp only [Act.put, sia, sc0, scs])
    go_cut [53] (fun v53 wc => ∃ (kq : Nat) (x53_14 : Bool), v53 = .bool x53_14 ∧ Aside0 (trishawlaw06_TripRings.j1 kq l0 t609 t614 x53_14 = some r) ∧ Aside0 (kq ≤ kj2) ∧ Aside0 (Kd.R (Kd.int .i64) 3 wc w.heap.size (fun _ => True) v610 t609) ∧ Aside0 (Kd.S (Kd.slice 3 (Kd.int .i64)) 27 wc w.heap.size (fun k_ => some k_ ≠ (v610 : Value).ownBlock) v616 t614) ∧ Aside0 (wc.heap[gb605]? = some (.cells #[.int .i64 a1_0, .int .i64 a1_1] 24 (0, 0))) ∧ Aside0 (Below w.heap.size w wc))
    case first =>
     have H := HC15.out
     clear HC15
     by_cases c19 : t613 = 0
     ·rw [if_pos c19] at H
      have c19b0 : (t613 == 0) = true := beq_iff_eq.mpr c19
      have c19b1 : (t613 != 0) = false := bne_eq_false_iff_eq.mpr c19
      clear c19
      (first | rw [c19b0] | (simp only [i64_w, i32_w]; rw [c19b0]) | skip)
      by_cases c20 : t615 = 0
      ·rw [if_pos c20] at H
       have c20b0 : (t615 == 0) = true := beq_iff_eq.mpr c20
       have c20b1 : (t615 != 0) = false := bne_eq_false_iff_eq.mpr c20
       clear c20
       replace H := Option.bind_eq_some_iff.mp H
       obtain ⟨t618, A210, H⟩ := H
       replace H : (trishawlaw06_TripRings.j1 kj2 l0 t609 t614 (!t618)) = some r := H
       have A21 := Aside0.mk A210
       clear A210
       have H' := Aside0.mk H
       clear H
       obtain ⟨Ao22, co22, eo22⟩ := Kd.R_slice HO611.out
       subst eo22
       go_wp2_with (first | (go_at_call 34; (with_reducible refine (trishawref06_IsOrder.calls kj2 (l0.length : Int) _ _ t609 t618 _ ?side1 ?side2 A21.out).mono ?_); (case side1 => repeat (first | exact (Kd.R_reads' HO611.out).2.2 | (with_reducible refine Kd.C_alloc ?_ _) | (with_reducible refine Kd.C_drewN ?_ _) | (with_reducible refine Kd.C_drew ?_))); (case side2 => exact (Kd.R_reads' HO611.out).2.1); rintro e w23 ⟨rfl, hb⟩; have n0_ := Aside0.mk (Kd.R_below (by (with_reducible repeat (first | apply Kd.R_alloc | apply Kd.R_drewN | apply Kd.R_drew)); exact HO611.out) hb); have n1_ := Aside0.mk (Kd.S_below (by (with_reducible repeat (first | apply Kd.S_alloc | apply Kd.S_drewN | apply Kd.S_drew)); exact HO617.out) hb); have n2_ := Aside0.mk (blk_below (g := gb605) (o := .cells #[.int .i64 a1_0, .int .i64 a1_1] 24 (0, 0)) (by (with_reducible repeat (first | apply kdn | apply kdr | apply kal)); exact BK605.out) hb); have n3_ := Aside0.mk (below_step (by repeat (first | (with_reducible first | exact HB.out | apply lal | apply ldn | apply ldr | refine below_set ?_ GE605.out) | exact HB.out)) hb); clear HO611; clear HO617; clear BK605; clear HB; have HO611 := n0_; have HO617 := n1_; have BK605 := n2_; have HB := n3_; clear n0_ n1_ n2_ n3_; (try clear hb); (try clear hb2); (try clear hk); (try clear hi)))
       repeat (go_quiet (first | (go_at_call 34; (with_reducible refine (trishawref06_IsOrder.calls kj2 (l0.length : Int) _ _ t609 t618 _ ?side1 ?side2 A21.out).mono ?_); (case side1 => repeat (first | exact (Kd.R_reads' HO611.out).2.2 | (with_reducible refine Kd.C_alloc ?_ _) | (with_reducible refine Kd.C_drewN ?_ _) | (with_reducible refine Kd.C_drew ?_))); (case side2 => exact (Kd.R_reads' HO611.out).2.1); rintro e w23 ⟨rfl, hb⟩; have n0_ := Aside0.mk (Kd.R_below (by (with_reducible repeat (first | apply Kd.R_alloc | apply Kd.R_drewN | apply Kd.R_drew)); exact HO611.out) hb); have n1_ := Aside0.mk (Kd.S_below (by (with_reducible repeat (first | apply Kd.S_alloc | apply Kd.S_drewN | apply Kd.S_drew)); exact HO617.out) hb); have n2_ := Aside0.mk (blk_below (g := gb605) (o := .cells #[.int .i64 a1_0, .int .i64 a1_1] 24 (0, 0)) (by (with_reducible repeat (first | apply kdn | apply kdr | apply kal)); exact BK605.out) hb); have n3_ := Aside0.mk (below_step (by repeat (first | (with_reducible first | exact HB.out | apply lal | apply ldn | apply ldr | refine below_set ?_ GE605.out) | exact HB.out)) hb); clear HO611; clear HO617; clear BK605; clear HB; have HO611 := n0_; have HO617 := n1_; have BK605 := n2_; have HB := n3_; clear n0_ n1_ n2_ n3_; (try clear hb); (try clear hb2); (try clear hk); (try clear hi))); try go_wp2_with (first | (go_at_call 34; (with_reducible refine (trishawref06_IsOrder.calls kj2 (l0.length : Int) _ _ t609 t618 _ ?side1 ?side2 A21.out).mono ?_); (case side1 => repeat (first | exact (Kd.R_reads' HO611.out).2.2 | (with_reducible refine Kd.C_alloc ?_ _) | (with_reducible refine Kd.C_drewN ?_ _) | (with_reducible refine Kd.C_drew ?_))); (case side2 => exact (Kd.R_reads' HO611.out).2.1); rintro e w23 ⟨rfl, hb⟩; have n0_ := Aside0.mk (Kd.R_below (by (with_reducible repeat (first | apply Kd.R_alloc | apply Kd.R_drewN | apply Kd.R_drew)); exact HO611.out) hb); have n1_ := Aside0.mk (Kd.S_below (by (with_reducible repeat (first | apply Kd.S_alloc | apply Kd.S_drewN | apply Kd.S_drew)); exact HO617.out) hb); have n2_ := Aside0.mk (blk_below (g := gb605) (o := .cells #[.int .i64 a1_0, .int .i64 a1_1] 24 (0, 0)) (by (with_reducible repeat (first | apply kdn | apply kdr | apply kal)); exact BK605.out) hb); have n3_ := Aside0.mk (below_step (by repeat (first | (with_reducible first | exact HB.out | apply lal | apply ldn | apply ldr | refine below_set ?_ GE605.out) | exact HB.out)) hb); clear HO611; clear HO617; clear BK605; clear HB; have HO611 := n0_; have HO617 := n1_; have BK605 := n2_; have HB := n3_; clear n0_ n1_ n2_ n3_; (try clear hb); (try clear hb2); (try clear hk); (try clear hi))))
       go_meet
       case rel => exact ⟨_, (!t618), (by first | rfl | (simp; done) | (simp [*]; done)), H', ⟨by have := HJ2.out; first | omega | exact Nat.le_refl _⟩, ⟨by (with_reducible repeat (first | apply Kd.R_alloc | apply Kd.R_drewN | apply Kd.R_drew)); exact HO611.out⟩, ⟨by (with_reducible repeat (first | apply Kd.S_alloc | apply Kd.S_drewN | apply Kd.S_drew)); exact Kd.S_mono HO617.out (fun _ hk => hk.2)⟩, ⟨by (with_reducible repeat (first | apply kdn | apply kdr | apply kal)); exact BK605.out⟩, ⟨by repeat (first | (with_reducible first | exact HB.out | apply lal | apply ldn | apply ldr | refine below_set ?_ GE605.out) | exact HB.out)⟩⟩
      ·rw [if_neg c20] at H
       exact absurd H (by simp)
     ·rw [if_neg c19] at H
      exact absurd H (by simp)
    case rest =>
     clear HC15
     try clear c1
     try clear c2
     try clear p2
     try clear c6
     try clear c10
     try clear c19
     try clear c19b0
     try clear c19b1
     try clear c20
     try clear c20b0
     try clear c20b1
     try clear hcz16_0
     try clear hcz16_1
     try clear hcz8_0
     try clear hcz8_1
     try clear hfz16_0
     try clear hfz16_1
     try clear hfz8_0
     try clear hfz8_1
     try clear p2
     obtain ⟨kq, x53_14, rfl, HA, HJ14, HO_5, HO_8, BK605, HB⟩ := hcut
     cases kq with
     | zero => exact absurd HA.out (by simp [trishawlaw06_TripRings.j1])
     | succ kj14 =>
      have H := HA.out
      clear HA
      simp only [trishawlaw06_TripRings.j1] at H
      by_cases c24 : x53_14 = true
      ·subst c24
       have H1 : (none) = some r := by rw [if_pos rfl] at H; exact H
       clear H
       have H := H1
       clear H1
       exact absurd H (by simp)
      ·replace c24 := Bool.eq_false_iff.mpr c24
       subst c24
       have H1 : (if 0 ≤ (l0.length : Int) then (if ((l0.length : Int) : Int).toNat ≤ 35184372088832 then (trishawlaw06_TripRings.l0 kj14 l0 t609 t614 (List.replicate ((l0.length : Int) : Int).toNat 0) 0 0) else (none)) else (none)) = some r := by rw [if_neg (show ¬ (false = true) by decide)] at H; exact H
       clear H
       have H := H1
       clear H1
       by_cases c25 : 0 ≤ (l0.length : Int)
       ·rw [if_pos c25] at H
        have c25b0 := eq_true c25
        have c25b1 : decide (0 ≤ (l0.length : Int)) = true := decide_eq_true c25
        clear c25
        by_cases c26 : ((l0.length : Int) : Int).toNat ≤ 35184372088832
        ·rw [if_pos c26] at H
         have c26b0 := eq_true c26
         have c26b1 : decide (((l0.length : Int) : Int).toNat ≤ 35184372088832) = true := decide_eq_true c26
         clear c26
         obtain ⟨y619, hy619⟩ : ∃ y_ : List Int, y_ = (List.replicate ((l0.length : Int) : Int).toNat 0) := ⟨_, rfl⟩
         replace H : (trishawlaw06_TripRings.l0 kj14 l0 t609 t614 y619 0 0) = some r := by first | (rw [hy619]; with_reducible exact H) | (have H2_ := (Option.bind_some _ _).symm.trans H; rw [hy619]; with_reducible exact H2_) | (have H2_ := (Option.bind_some _ _).symm.trans H; with_reducible exact H2_) | with_reducible exact H | (rw [hy619]; exact H) | exact H
         have Ny619 := Aside0.mk hy619
         clear hy619
         have H' := Aside0.mk H
         clear H
         go_wp2_with (first | ((with_reducible refine gate_dst (N := 56) rfl ?_); (try (refine gate_guard (by rfl) ?_; dsimp only)); refine Kd.R_make (Kd.int .i64) _ 3 rfl (N := 56) rfl 27 _ _ rfl (l0.length : Int) rfl rfl Try.underlying27 (.int .i64 0) 8 info3 rfl (by decide) (by omega) 0 (ok := fun _ => True) (okp := fun _ => True) rfl (fun _ hk => hk) trivial (of_decide_eq_true (by first | (with_reducible assumption) | assumption)) (Nat.le_trans (Nat.mul_le_mul_right _ (of_decide_eq_true (by first | (with_reducible assumption) | assumption) : (l0.length : Int).toNat ≤ 35184372088832)) (by omega)) (Below.refl _ _) (Nat.le_refl _) ?_; intro v620 w27 ho28 hb hg_ hnew_; clear hg_ hnew_; (first | rw [← Ny619.out] at ho28 | (simp only [Int.reduceToNat] at ho28; rw [← Ny619.out] at ho28)); have n0_ := Aside0.mk (Kd.R_elder' (by (with_reducible repeat (first | apply Kd.R_alloc | apply Kd.R_drewN | apply Kd.R_drew)); exact HO_5.out) (Kd.R_base ho28) hb); have n1_ := Aside0.mk (Kd.S_elder' (by (with_reducible repeat (first | apply Kd.S_alloc | apply Kd.S_drewN | apply Kd.S_drew)); exact HO_8.out) (Kd.R_base ho28) hb); have n2_ := Aside0.mk (Kd.R_lower (Kd.R_new' ho28 (Kd.R_lt (by (with_reducible repeat (first | apply Kd.R_alloc | apply Kd.R_drewN | apply Kd.R_drew)); exact HO_5.out))) (below_size (by repeat (first | (with_reducible first | exact HB.out | apply lal | apply ldn | apply ldr | refine below_set ?_ GE605.out) | exact HB.out)))); have n3_ := Aside0.mk (blk_below (g := gb605) (o := .cells #[.int .i64 a1_0, .int .i64 a1_1] 24 (0, 0)) (by (with_reducible repeat (first | apply kdn | apply kdr | apply kal)); exact BK605.out) hb); have n4_ := Aside0.mk (below_step (by repeat (first | (with_reducible first | exact HB.out | apply lal | apply ldn | apply ldr | refine below_set ?_ GE605.out) | exact HB.out)) hb); clear HO_5; clear HO_8; clear BK605; clear HB; have HO_5 := n0_; have HO_8 := n1_; have HO621 := n2_; have BK605 := n3_; have HB := n4_; clear n0_ n1_ n2_ n3_ n4_; clear hb ho28))
         repeat (go_quiet (first | ((with_reducible refine gate_dst (N := 56) rfl ?_); (try (refine gate_guard (by rfl) ?_; dsimp only)); refine Kd.R_make (Kd.int .i64) _ 3 rfl (N := 56) rfl 27 _ _ rfl (l0.length : Int) rfl rfl Try.underlying27 (.int .i64 0) 8 info3 rfl (by decide) (by omega) 0 (ok := fun _ => True) (okp := fun _ => True) rfl (fun _ hk => hk) trivial (of_decide_eq_true (by first | (with_reducible assumption) | assumption)) (Nat.le_trans (Nat.mul_le_mul_right _ (of_decide_eq_true (by first | (with_reducible assumption) | assumption) : (l0.length : Int).toNat ≤ 35184372088832)) (by omega)) (Below.refl _ _) (Nat.le_refl _) ?_; intro v620 w27 ho28 hb hg_ hnew_; clear hg_ hnew_; (first | rw [← Ny619.out] at ho28 | (simp only [Int.reduceToNat] at ho28; rw [← Ny619.out] at ho28)); have n0_ := Aside0.mk (Kd.R_elder' (by (with_reducible repeat (first | apply Kd.R_alloc | apply Kd.R_drewN | apply Kd.R_drew)); exact HO_5.out) (Kd.R_base ho28) hb); have n1_ := Aside0.mk (Kd.S_elder' (by (with_reducible repeat (first | apply Kd.S_alloc | apply Kd.S_drewN | apply Kd.S_drew)); exact HO_8.out) (Kd.R_base ho28) hb); have n2_ := Aside0.mk (Kd.R_lower (Kd.R_new' ho28 (Kd.R_lt (by (with_reducible repeat (first | apply Kd.R_alloc | apply Kd.R_drewN | apply Kd.R_drew)); exact HO_5.out))) (below_size (by repeat (first | (with_reducible first | exact HB.out | apply lal | apply ldn | apply ldr | refine below_set ?_ GE605.out) | exact HB.out)))); have n3_ := Aside0.mk (blk_below (g := gb605) (o := .cells #[.int .i64 a1_0, .int .i64 a1_1] 24 (0, 0)) (by (with_reducible repeat (first | apply kdn | apply kdr | apply kal)); exact BK605.out) hb); have n4_ := Aside0.mk (below_step (by repeat (first | (with_reducible first | exact HB.out | apply lal | apply ldn | apply ldr | refine below_set ?_ GE605.out) | exact HB.out)) hb); clear HO_5; clear HO_8; clear BK605; clear HB; have HO_5 := n0_; have HO_8 := n1_; have HO621 := n2_; have BK605 := n3_; have HB := n4_; clear n0_ n1_ n2_ n3_ n4_; clear hb ho28)); try go_wp2_with (first | ((with_reducible refine gate_dst (N := 56) rfl ?_); (try (refine gate_guard (by rfl) ?_; dsimp only)); refine Kd.R_make (Kd.int .i64) _ 3 rfl (N := 56) rfl 27 _ _ rfl (l0.length : Int) rfl rfl Try.underlying27 (.int .i64 0) 8 info3 rfl (by decide) (by omega) 0 (ok := fun _ => True) (okp := fun _ => True) rfl (fun _ hk => hk) trivial (of_decide_eq_true (by first | (with_reducible assumption) | assumption)) (Nat.le_trans (Nat.mul_le_mul_right _ (of_decide_eq_true (by first | (with_reducible assumption) | assumption) : (l0.length : Int).toNat ≤ 35184372088832)) (by omega)) (Below.refl _ _) (Nat.le_refl _) ?_; intro v620 w27 ho28 hb hg_ hnew_; clear hg_ hnew_; (first | rw [← Ny619.out] at ho28 | (simp only [Int.reduceToNat] at ho28; rw [← Ny619.out] at ho28)); have n0_ := Aside0.mk (Kd.R_elder' (by (with_reducible repeat (first | apply Kd.R_alloc | apply Kd.R_drewN | apply Kd.R_drew)); exact HO_5.out) (Kd.R_base ho28) hb); have n1_ := Aside0.mk (Kd.S_elder' (by (with_reducible repeat (first | apply Kd.S_alloc | apply Kd.S_drewN | apply Kd.S_drew)); exact HO_8.out) (Kd.R_base ho28) hb); have n2_ := Aside0.mk (Kd.R_lower (Kd.R_new' ho28 (Kd.R_lt (by (with_reducible repeat (first | apply Kd.R_alloc | apply Kd.R_drewN | apply Kd.R_drew)); exact HO_5.out))) (below_size (by repeat (first | (with_reducible first | exact HB.out | apply lal | apply ldn | apply ldr | refine below_set ?_ GE605.out) | exact HB.out)))); have n3_ := Aside0.mk (blk_below (g := gb605) (o := .cells #[.int .i64 a1_0, .int .i64 a1_1] 24 (0, 0)) (by (with_reducible repeat (first | apply kdn | apply kdr | apply kal)); exact BK605.out) hb); have n4_ := Aside0.mk (below_step (by repeat (first | (with_reducible first | exact HB.out | apply lal | apply ldn | apply ldr | refine below_set ?_ GE605.out) | exact HB.out)) hb); clear HO_5; clear HO_8; clear BK605; clear HB; have HO_5 := n0_; have HO_8 := n1_; have HO621 := n2_; have BK605 := n3_; have HB := n4_; clear n0_ n1_ n2_ n3_ n4_; clear hb ho28)))
         go_loopg [11, 12] kj14 (fun kq v11 v12 w' => ∃ (x10_3 : List Int) (x11_3 : Int) (x12_3 : Int), v11 = .int .i64 x11_3 ∧ v12 = .int .i64 x12_3 ∧ Aside0 (trishawlaw06_TripRings.l0 kq l0 t609 t614 x10_3 x11_3 x12_3 = some r) ∧ Aside0 (kq ≤ kj14) ∧ Aside0 (Kd.R (Kd.int .i64) 3 w' w.heap.size (fun k_ => some k_ ≠ (v620 : Value).ownBlock) v610 t609) ∧ Aside0 (Kd.S (Kd.slice 3 (Kd.int .i64)) 27 w' w.heap.size (fun k_ => some k_ ≠ (v610 : Value).ownBlock ∧ some k_ ≠ (v620 : Value).ownBlock) v616 t614) ∧ Aside0 (Kd.R (Kd.int .i64) 3 w' w.heap.size (fun k_ => some k_ ≠ (v610 : Value).ownBlock) v620 x10_3) ∧ Aside0 (w'.heap[gb605]? = some (.cells #[.int .i64 a1_0, .int .i64 a1_1] 24 (0, 0))) ∧ Aside0 (Below w.heap.size w w'))
         case atStart => exact ⟨(y619), (0), (0), (by first | rfl | (simp; done) | (simp [*]; done)), (by first | rfl | (simp; done) | (simp [*]; done)), H', ⟨Nat.le_refl _⟩, ⟨by (with_reducible repeat (first | apply Kd.R_alloc | apply Kd.R_drewN | apply Kd.R_drew)); exact Kd.R_mono HO_5.out (fun _ hk => hk.2)⟩, ⟨by (with_reducible repeat (first | apply Kd.S_alloc | apply Kd.S_drewN | apply Kd.S_drew)); exact HO_8.out⟩, ⟨by (with_reducible repeat (first | apply Kd.R_alloc | apply Kd.R_drewN | apply Kd.R_drew)); exact Kd.R_mono HO621.out (fun _ hk => hk.2)⟩, ⟨by (with_reducible repeat (first | apply kdn | apply kdr | apply kal)); exact BK605.out⟩, ⟨by repeat (first | (with_reducible first | exact HB.out | apply lal | apply ldn | apply ldr | refine below_set ?_ GE605.out) | exact HB.out)⟩⟩
         case round =>
          clear H'
          try clear c1
          try clear c2
          try clear p2
          try clear c6
          try clear c10
          try clear c19
          try clear c19b0
          try clear c19b1
          try clear c20
          try clear c20b0
          try clear c20b1
          try clear c24
          try clear c25
          try clear c25b0
          try clear c25b1
          try clear c26
          try clear c26b0
          try clear c26b1
          try clear hcz16_0
          try clear hcz16_1
          try clear hcz8_0
          try clear hcz8_1
          try clear hfz16_0
          try clear hfz16_1
          try clear hfz8_0
          try clear hfz8_1
          try clear p2
          obtain ⟨x10_3, x11_3, x12_3, rfl, rfl, HA, HK3, HO_5, HO_8, HO_10, BK605, HB⟩ := hrel
          cases gk with
          | zero => exact absurd HA.out (by simp [trishawlaw06_TripRings.l0])
          | succ k3 =>
           have H := HA.out
           clear HA
           simp only [trishawlaw06_TripRings.l0] at H
           by_cases c29 : x12_3 < (t614.length : Int)
           ·rw [if_pos c29] at H
            have c29b0 : decide (x12_3 < (t614.length : Int)) = true := decide_eq_true c29
            clear c29
            have H' := Aside0.mk H
            clear H
            obtain ⟨Ao30, co30, eo30⟩ := Kd.S_slice HO_8.out
            subst eo30
            go_wp2
            repeat (go_quiet (fail); try go_wp2)
            go_loopg [11, 13] k3 (fun kq v11 v13 w' => ∃ (x10_4 : List Int) (x11_4 : Int) (x13_4 : Int), v11 = .int .i64 x11_4 ∧ v13 = .int .i64 x13_4 ∧ Aside0 (trishawlaw06_TripRings.l1 kq l0 t609 t614 x10_4 x11_4 x12_3 x13_4 = some r) ∧ Aside0 (kq ≤ k3) ∧ Aside0 (Kd.R (Kd.int .i64) 3 w' w.heap.size (fun k_ => some k_ ≠ (v620 : Value).ownBlock) v610 t609) ∧ Aside0 (Kd.S (Kd.slice 3 (Kd.int .i64)) 27 w' w.heap.size (fun k_ => some k_ ≠ (v610 : Value).ownBlock ∧ some k_ ≠ (v620 : Value).ownBlock) (.slice Ao30 t614.length co30) t614) ∧ Aside0 (Kd.R (Kd.int .i64) 3 w' w.heap.size (fun k_ => some k_ ≠ (v610 : Value).ownBlock) v620 x10_4) ∧ Aside0 (w'.heap[gb605]? = some (.cells #[.int .i64 a1_0, .int .i64 a1_1] 24 (0, 0))) ∧ Aside0 (Below w.heap.size w w'))
            case atStart => exact ⟨(x10_3), (x11_3), (0), (by first | rfl | (simp; done) | (simp [*]; done)), (by first | rfl | (simp; done) | (simp [*]; done)), H', ⟨Nat.le_refl _⟩, ⟨by (with_reducible repeat (first | apply Kd.R_alloc | apply Kd.R_drewN | apply Kd.R_drew)); exact HO_5.out⟩, ⟨by (with_reducible repeat (first | apply Kd.S_alloc | apply Kd.S_drewN | apply Kd.S_drew)); exact HO_8.out⟩, ⟨by (with_reducible repeat (first | apply Kd.R_alloc | apply Kd.R_drewN | apply Kd.R_drew)); exact HO_10.out⟩, ⟨by (with_reducible repeat (first | apply kdn | apply kdr | apply kal)); exact BK605.out⟩, ⟨by repeat (first | (with_reducible first | exact HB.out | apply lal | apply ldn | apply ldr | refine below_set ?_ GE605.out) | exact HB.out)⟩⟩
            case round =>
             clear H'
             try clear c1
             try clear c2
             try clear p2
             try clear c6
             try clear c10
             try clear c19
             try clear c19b0
             try clear c19b1
             try clear c20
             try clear c20b0
             try clear c20b1
             try clear c24
             try clear c25
             try clear c25b0
             try clear c25b1
             try clear c26
             try clear c26b0
             try clear c26b1
             try clear c29
             try clear c29b0
             try clear hcz16_0
             try clear hcz16_1
             try clear hcz8_0
             try clear hcz8_1
             try clear hfz16_0
             try clear hfz16_1
             try clear hfz8_0
             try clear hfz8_1
             try clear p2
             obtain ⟨x10_4, x11_4, x13_4, rfl, rfl, HA, HK4, HO_5, HO_8, HO_10, BK605, HB⟩ := hrel
             cases gk with
             | zero => exact absurd HA.out (by simp [trishawlaw06_TripRings.l1])
             | succ k4 =>
              have H := HA.out
              clear HA
              simp only [trishawlaw06_TripRings.l1] at H
              by_cases c31 : 0 ≤ x12_3
              ·rw [if_pos c31] at H
               have c31b0 : decide (0 ≤ x12_3) = true := decide_eq_true c31
               clear c31
               by_cases c32 : x12_3 < (t614.length : Int)
               ·rw [if_pos c32] at H
                have c32b0 : decide (x12_3 < (t614.length : Int)) = true := decide_eq_true c32
                clear c32
                by_cases c33 : x13_4 < ((rd_L1 t614 x12_3).length : Int)
                ·rw [if_pos c33] at H
                 have c33b0 : decide (x13_4 < ((rd_L1 t614 x12_3).length : Int)) = true := decide_eq_true c33
                 clear c33
                 by_cases c34 : 0 ≤ x13_4
                 ·rw [if_pos c34] at H
                  have c34b0 : decide (0 ≤ x13_4) = true := decide_eq_true c34
                  clear c34
                  by_cases c35 : (rd (rd_L1 t614 x12_3) x13_4) < 0
                  ·rw [if_pos c35] at H
                   exact absurd H (by simp)
                  ·rw [if_neg c35] at H
                   have c35b0 : decide ((rd (rd_L1 t614 x12_3) x13_4) < 0) = false := decide_eq_false c35
                   clear c35
                   by_cases c36 : (rd (rd_L1 t614 x12_3) x13_4) ≥ (l0.length : Int)
                   ·rw [if_pos c36] at H
                    exact absurd H (by simp)
                   ·rw [if_neg c36] at H
                    have c36b0 : decide ((l0.length : Int) ≤ (rd (rd_L1 t614 x12_3) x13_4)) = false := decide_eq_false c36
                    clear c36
                    by_cases c37 : 0 ≤ (rd (rd_L1 t614 x12_3) x13_4)
                    ·rw [if_pos c37] at H
                     have c37b0 : decide (0 ≤ (rd (rd_L1 t614 x12_3) x13_4)) = true := decide_eq_true c37
                     clear c37
                     by_cases c38 : (rd (rd_L1 t614 x12_3) x13_4) < (x10_4.length : Int)
                     ·rw [if_pos c38] at H
                      have c38b0 : decide ((rd (rd_L1 t614 x12_3) x13_4) < (x10_4.length : Int)) = true := decide_eq_true c38
                      clear c38
                      by_cases c39 : (rd x10_4 (rd (rd_L1 t614 x12_3) x13_4)) = 0
                      ·rw [if_pos c39] at H
                       have c39b0 : ((rd x10_4 (rd (rd_L1 t614 x12_3) x13_4)) == 0) = true := beq_iff_eq.mpr c39
                       have c39b1 : ((rd x10_4 (rd (rd_L1 t614 x12_3) x13_4)) != 0) = false := bne_eq_false_iff_eq.mpr c39
                       clear c39
                       by_cases c40 : x13_4 > 0
                       ·rw [if_pos c40] at H
                        have c40b0 : decide (0 < x13_4) = true := decide_eq_true c40
                        clear c40
                        obtain ⟨ji41, hji41⟩ : ∃ j_ : Int, (wrap64 (x13_4 - 1)) = j_ := ⟨_, rfl⟩
                        replace H : (if 0 ≤ (ji41) then (if (ji41) < ((rd_L1 t614 x12_3).length : Int) then (if (rd (rd_L1 t614 x12_3) x13_4) ≤ (rd (rd_L1 t614 x12_3) (ji41)) then (none) else (if x13_4 = 0 then (if x12_3 > 0 then (if 0 ≤ (wrap64 (x12_3 - 1)) then (if (wrap64 (x12_3 - 1)) < (t614.length : Int) then (if 0 < ((rd_L1 t614 (wrap64 (x12_3 - 1))).length : Int) then (if (rd (rd_L1 t614 x12_3) x13_4) ≤ (rd (rd_L1 t614 (wrap64 (x12_3 - 1))) 0) then (none) else (trishawlaw06_TripRings.l1 k4 l0 t609 t614 (x10_4.set ((rd (rd_L1 t614 x12_3) x13_4) : Int).toNat (wrap64 (x12_3 + 1))) (wrap64 (x11_4 + 1)) x12_3 (wrap64 (x13_4 + 1)))) else (none)) else (none)) else (none)) else (trishawlaw06_TripRings.l1 k4 l0 t609 t614 (x10_4.set ((rd (rd_L1 t614 x12_3) x13_4) : Int).toNat (wrap64 (x12_3 + 1))) (wrap64 (x11_4 + 1)) x12_3 (wrap64 (x13_4 + 1)))) else (trishawlaw06_TripRings.l1 k4 l0 t609 t614 (x10_4.set ((rd (rd_L1 t614 x12_3) x13_4) : Int).toNat (wrap64 (x12_3 + 1))) (wrap64 (x11_4 + 1)) x12_3 (wrap64 (x13_4 + 1))))) else (none)) else (none)) = some r := by first | (rw [hji41] at H; exact H) | (simp only [hji41] at H ⊢; exact H)
                        have hji41w : (IntKind.i64.wrap (x13_4 - 1)) = ji41 := (i64_w _).trans hji41
                        by_cases c42 : 0 ≤ (ji41)
                        ·rw [if_pos c42] at H
                         have c42b0 : decide (0 ≤ (ji41)) = true := decide_eq_true c42
                         clear c42
                         by_cases c43 : (ji41) < ((rd_L1 t614 x12_3).length : Int)
                         ·rw [if_pos c43] at H
                          have c43b0 : decide ((ji41) < ((rd_L1 t614 x12_3).length : Int)) = true := decide_eq_true c43
                          clear c43
                          by_cases c44 : (rd (rd_L1 t614 x12_3) x13_4) ≤ (rd (rd_L1 t614 x12_3) (ji41))
                          ·rw [if_pos c44] at H
                           exact absurd H (by simp)
                          ·rw [if_neg c44] at H
                           have c44b0 : decide ((rd (rd_L1 t614 x12_3) x13_4) ≤ (rd (rd_L1 t614 x12_3) (ji41))) = false := decide_eq_false c44
                           clear c44
                           by_cases c45 : x13_4 = 0
                           ·rw [if_pos c45] at H
                            have c45b0 : (x13_4 == 0) = true := beq_iff_eq.mpr c45
                            have c45b1 : (x13_4 != 0) = false := bne_eq_false_iff_eq.mpr c45
                            clear c45
                            by_cases c46 : x12_3 > 0
                            ·rw [if_pos c46] at H
                             have c46b0 : decide (0 < x12_3) = true := decide_eq_true c46
                             clear c46
                             obtain ⟨ji47, hji47⟩ : ∃ j_ : Int, (wrap64 (x12_3 - 1)) = j_ := ⟨_, rfl⟩
                             replace H : (if 0 ≤ (ji47) then (if (ji47) < (t614.length : Int) then (if 0 < ((rd_L1 t614 (ji47)).length : Int) then (if (rd (rd_L1 t614 x12_3) x13_4) ≤ (rd (rd_L1 t614 (ji47)) 0) then (none) else (trishawlaw06_TripRings.l1 k4 l0 t609 t614 (x10_4.set ((rd (rd_L1 t614 x12_3) x13_4) : Int).toNat (wrap64 (x12_3 + 1))) (wrap64 (x11_4 + 1)) x12_3 (wrap64 (x13_4 + 1)))) else (none)) else (none)) else (none)) = some r := by first | (rw [hji47] at H; exact H) | (simp only [hji47] at H ⊢; exact H)
                             have hji47w : (IntKind.i64.wrap (x12_3 - 1)) = ji47 := (i64_w _).trans hji47
                             by_cases c48 : 0 ≤ (ji47)
                             ·rw [if_pos c48] at H
                              have c48b0 : decide (0 ≤ (ji47)) = true := decide_eq_true c48
                              clear c48
                              by_cases c49 : (ji47) < (t614.length : Int)
                              ·rw [if_pos c49] at H
                               have c49b0 : decide ((ji47) < (t614.length : Int)) = true := decide_eq_true c49
                               clear c49
                               by_cases c50 : 0 < ((rd_L1 t614 (ji47)).length : Int)
                               ·rw [if_pos c50] at H
                                have c50b0 : decide (0 < ((rd_L1 t614 (ji47)).length : Int)) = true := decide_eq_true c50
                                have c50b1 : decide (0 < (rd_L1 t614 (ji47)).length) = true := decide_eq_true (by omega)
                                clear c50
                                by_cases c51 : (rd (rd_L1 t614 x12_3) x13_4) ≤ (rd (rd_L1 t614 (ji47)) 0)
                                ·rw [if_pos c51] at H
                                 exact absurd H (by simp)
                                ·rw [if_neg c51] at H
                                 have c51b0 : decide ((rd (rd_L1 t614 x12_3) x13_4) ≤ (rd (rd_L1 t614 (ji47)) 0)) = false := decide_eq_false c51
                                 clear c51
                                 obtain ⟨y630, hy630⟩ : ∃ y_ : List Int, y_ = (x10_4.set ((rd (rd_L1 t614 x12_3) x13_4) : Int).toNat (wrap64 (x12_3 + 1))) := ⟨_, rfl⟩
                                 replace H : (trishawlaw06_TripRings.l1 k4 l0 t609 t614 y630 (wrap64 (x11_4 + 1)) x12_3 (wrap64 (x13_4 + 1))) = some r := by first | (rw [hy630]; with_reducible exact H) | (have H2_ := (Option.bind_some _ _).symm.trans H; rw [hy630]; with_reducible exact H2_) | (have H2_ := (Option.bind_some _ _).symm.trans H; with_reducible exact H2_) | with_reducible exact H | (rw [hy630]; exact H) | exact H
                                 have Ny630 := Aside0.mk hy630
                                 clear hy630
                                 have H' := Aside0.mk H
                                 clear H
                                 have p622 : 0 ≤ (x12_3 : Int) := of_decide_eq_true (by first | (with_reducible assumption) | assumption)
                                 have q622 : x12_3 < (t614.length : Int) := of_decide_eq_true (by first | (with_reducible assumption) | assumption)
                                 obtain ⟨ad622, A622_0, c622_0, e622, hx622_0, hl622_0, hi622_0⟩ := at_L1 (Kd.S_reads' HO_8.out).2.2 x12_3 p622 q622
                                 cases e622
                                 obtain ⟨ce622, hce622, hMe622, hcc622⟩ := Kd.S_get HO_8.out [] x12_3 p622 (by first | exact q622 | exact of_decide_eq_true (by first | (with_reducible assumption) | assumption) | (have e_ := (Kd.S_reads' HO_8.out).1; omega))
                                 obtain ⟨ve622_0, rfl, ge622_0⟩ := hMe622
                                 have hv622_0 := hcc622 0 _ rfl
                                 rw [Nat.add_zero, show ((Kd.slice 3 (Kd.int .i64))).sz = 1 from rfl, Nat.mul_one] at hv622_0
                                 replace hv622_0 := Option.some.inj (hv622_0.symm.trans hx622_0)
                                 rw [hv622_0] at ge622_0
                                 have HL622_0 := Aside0.mk (show Kd.R (Kd.int .i64) 3 _ _ _ _ (rd_L1 t614 x12_3) from ge622_0)
                                 clear hv622_0 ge622_0
                                 clear hcc622 hce622
                                 have HR622_0 := Aside0.mk hi622_0
                                 have HC622_0 := Aside0.mk hl622_0
                                 clear hi622_0 hl622_0
                                 replace p622 := eq_true p622
                                 replace q622 := eq_true q622
                                 have p623 : 0 ≤ (x12_3 : Int) := of_decide_eq_true (by first | (with_reducible assumption) | assumption)
                                 have q623 : x12_3 < (t614.length : Int) := of_decide_eq_true (by first | (with_reducible assumption) | assumption)
                                 obtain ⟨ad623, A623_0, c623_0, e623, hx623_0, hl623_0, hi623_0⟩ := at_L1 (Kd.S_reads' HO_8.out).2.2 x12_3 p623 q623
                                 obtain rfl : ad622 = ad623 := (by injection e623)
                                 obtain ⟨ce623, hce623, hMe623, hcc623⟩ := Kd.S_get HO_8.out [] x12_3 p623 (by first | exact q623 | exact of_decide_eq_true (by first | (with_reducible assumption) | assumption) | (have e_ := (Kd.S_reads' HO_8.out).1; omega))
                                 obtain ⟨ve623_0, rfl, ge623_0⟩ := hMe623
                                 have hv623_0 := hcc623 0 _ rfl
                                 rw [Nat.add_zero, show ((Kd.slice 3 (Kd.int .i64))).sz = 1 from rfl, Nat.mul_one] at hv623_0
                                 replace hv623_0 := Option.some.inj (hv623_0.symm.trans hx623_0)
                                 rw [hv623_0] at ge623_0
                                 have HL623_0 := Aside0.mk (show Kd.R (Kd.int .i64) 3 _ _ _ _ (rd_L1 t614 x12_3) from ge623_0)
                                 clear hv623_0 ge623_0
                                 clear hcc623 hce623
                                 have HR623_0 := Aside0.mk hi623_0
                                 have HC623_0 := Aside0.mk hl623_0
                                 clear hi623_0 hl623_0
                                 replace p623 := eq_true p623
                                 replace q623 := eq_true q623
                                 have ea_ := Option.some.inj (hx622_0.symm.trans hx623_0)
                                 injection ea_ with ea_ en_ ec_
                                 subst ea_
                                 subst ec_
                                 clear en_
                                 have p624 : 0 ≤ (x13_4 : Int) := of_decide_eq_true (by first | (with_reducible assumption) | assumption)
                                 have q624 : x13_4 < ((rd_L1 t614 x12_3).length : Int) := of_decide_eq_true (by first | (with_reducible assumption) | assumption)
                                 obtain ⟨ad624, e624, hx624_0⟩ := Kd.at_int (by repeat (first | (with_reducible exact HR623_0.out) | (with_reducible refine Kd.C_alloc ?_ _) | (with_reducible refine Kd.C_drewN ?_ _) | (with_reducible refine Kd.C_drew ?_) | exact HR623_0.out)) x13_4 p624 q624
                                 cases e624
                                 replace p624 := eq_true p624
                                 replace q624 := eq_true q624
                                 obtain ⟨Ao53, co53, eo53⟩ := Kd.R_slice HO_10.out
                                 subst eo53
                                 have p625 : 0 ≤ ((rd (rd_L1 t614 x12_3) x13_4) : Int) := of_decide_eq_true (by first | (with_reducible assumption) | assumption)
                                 have q625 : (rd (rd_L1 t614 x12_3) x13_4) < (x10_4.length : Int) := of_decide_eq_true (by first | (with_reducible assumption) | assumption)
                                 obtain ⟨ad625, e625, hx625_0⟩ := Kd.at_int (Kd.R_reads' HO_10.out).2.2 (rd (rd_L1 t614 x12_3) x13_4) p625 q625
                                 cases e625
                                 replace p625 := eq_true p625
                                 replace q625 := eq_true q625
                                 have p626 : 0 ≤ (x12_3 : Int) := of_decide_eq_true (by first | (with_reducible assumption) | assumption)
                                 have q626 : x12_3 < (t614.length : Int) := of_decide_eq_true (by first | (with_reducible assumption) | assumption)
                                 obtain ⟨ad626, A626_0, c626_0, e626, hx626_0, hl626_0, hi626_0⟩ := at_L1 (Kd.S_reads' HO_8.out).2.2 x12_3 p626 q626
                                 obtain rfl : ad622 = ad626 := (by injection e626)
                                 obtain ⟨ce626, hce626, hMe626, hcc626⟩ := Kd.S_get HO_8.out [] x12_3 p626 (by first | exact q626 | exact of_decide_eq_true (by first | (with_reducible assumption) | assumption) | (have e_ := (Kd.S_reads' HO_8.out).1; omega))
                                 obtain ⟨ve626_0, rfl, ge626_0⟩ := hMe626
                                 have hv626_0 := hcc626 0 _ rfl
                                 rw [Nat.add_zero, show ((Kd.slice 3 (Kd.int .i64))).sz = 1 from rfl, Nat.mul_one] at hv626_0
                                 replace hv626_0 := Option.some.inj (hv626_0.symm.trans hx626_0)
                                 rw [hv626_0] at ge626_0
                                 have HL626_0 := Aside0.mk (show Kd.R (Kd.int .i64) 3 _ _ _ _ (rd_L1 t614 x12_3) from ge626_0)
                                 clear hv626_0 ge626_0
                                 clear hcc626 hce626
                                 have HR626_0 := Aside0.mk hi626_0
                                 have HC626_0 := Aside0.mk hl626_0
                                 clear hi626_0 hl626_0
                                 replace p626 := eq_true p626
                                 replace q626 := eq_true q626
                                 have ea_ := Option.some.inj (hx622_0.symm.trans hx626_0)
                                 injection ea_ with ea_ en_ ec_
                                 subst ea_
                                 subst ec_
                                 clear en_
                                 have p627 : 0 ≤ ((ji41) : Int) := of_decide_eq_true (by first | (with_reducible assumption) | assumption)
                                 have q627 : (ji41) < ((rd_L1 t614 x12_3).length : Int) := of_decide_eq_true (by first | (with_reducible assumption) | assumption)
                                 obtain ⟨ad627, e627, hx627_0⟩ := Kd.at_int (by repeat (first | (with_reducible exact HR626_0.out) | (with_reducible refine Kd.C_alloc ?_ _) | (with_reducible refine Kd.C_drewN ?_ _) | (with_reducible refine Kd.C_drew ?_) | exact HR626_0.out)) (ji41) p627 q627
                                 cases e627
                                 replace p627 := eq_true p627
                                 replace q627 := eq_true q627
                                 have p628 : 0 ≤ ((ji47) : Int) := of_decide_eq_true (by first | (with_reducible assumption) | assumption)
                                 have q628 : (ji47) < (t614.length : Int) := of_decide_eq_true (by first | (with_reducible assumption) | assumption)
                                 obtain ⟨ad628, A628_0, c628_0, e628, hx628_0, hl628_0, hi628_0⟩ := at_L1 (Kd.S_reads' HO_8.out).2.2 (ji47) p628 q628
                                 obtain rfl : ad622 = ad628 := (by injection e628)
                                 obtain ⟨ce628, hce628, hMe628, hcc628⟩ := Kd.S_get HO_8.out [] (ji47) p628 (by first | exact q628 | exact of_decide_eq_true (by first | (with_reducible assumption) | assumption) | (have e_ := (Kd.S_reads' HO_8.out).1; omega))
                                 obtain ⟨ve628_0, rfl, ge628_0⟩ := hMe628
                                 have hv628_0 := hcc628 0 _ rfl
                                 rw [Nat.add_zero, show ((Kd.slice 3 (Kd.int .i64))).sz = 1 from rfl, Nat.mul_one] at hv628_0
                                 replace hv628_0 := Option.some.inj (hv628_0.symm.trans hx628_0)
                                 rw [hv628_0] at ge628_0
                                 have HL628_0 := Aside0.mk (show Kd.R (Kd.int .i64) 3 _ _ _ _ (rd_L1 t614 (ji47)) from ge628_0)
                                 clear hv628_0 ge628_0
                                 clear hcc628 hce628
                                 have HR628_0 := Aside0.mk hi628_0
                                 have HC628_0 := Aside0.mk hl628_0
                                 clear hi628_0 hl628_0
                                 replace p628 := eq_true p628
                                 replace q628 := eq_true q628
                                 have p629 : 0 ≤ (0 : Int) := (by omega)
                                 have q629 : 0 < ((rd_L1 t614 (ji47)).length : Int) := of_decide_eq_true (by first | (with_reducible assumption) | assumption)
                                 obtain ⟨ad629, e629, hx629_0⟩ := Kd.at_int (by repeat (first | (with_reducible exact HR628_0.out) | (with_reducible refine Kd.C_alloc ?_ _) | (with_reducible refine Kd.C_drewN ?_ _) | (with_reducible refine Kd.C_drew ?_) | exact HR628_0.out)) 0 p629 q629
                                 cases e629
                                 have qi629 : (0 < (rd_L1 t614 (ji47)).length) = True := eq_true (by omega)
                                 (try rw [show ((0 : Int)).toNat = 0 from rfl] at hx629_0)
                                 (try rw [Addr.add_zero'] at hx629_0)
                                 replace p629 := eq_true p629
                                 replace q629 := eq_true q629
                                 have p52 : 0 ≤ ((rd (rd_L1 t614 x12_3) x13_4) : Int) := of_decide_eq_true (by first | (with_reducible assumption) | assumption)
                                 have q52 : ((rd (rd_L1 t614 x12_3) x13_4) : Int) < ((x10_4.length : Int) : Int) := of_decide_eq_true (by first | (with_reducible assumption) | assumption)
                                 obtain ⟨go52, co52, eo52, gb52, gl52, cl52, HG52⟩ := Kd.R_form HO_10.out (by omega)
                                 (first | cases eo52 | (injection eo52 with ea_ en_ ec_; (first | subst ea_ | (injection ea_ with ea_; subst ea_)); subst ec_; clear en_))
                                 have GB52 := Aside0.mk gb52
                                 have GG52 := Aside0.mk HG52
                                 clear gb52 gl52 HG52
                                 (first | simp only [add_plain] at hx625_0 | skip)
                                 obtain ⟨hx52_0, hf52_0⟩ := Kd.R_celln 0 HO_10.out ((rd (rd_L1 t614 x12_3) x13_4) : Int) p52 q52
                                 replace p52 := eq_true p52
                                 replace q52 := eq_true q52
                                 have HP54 := Kd.R_putg HO_10.out ((rd (rd_L1 t614 x12_3) x13_4) : Int) (wrap64 (x12_3 + 1))
                                 go_wp2_with (first | ((with_reducible refine gate_store (t := 3) (p := 133) rfl ?_); (try (rw [drewN_self wr]; generalize hq_ : World.drewN wr _ = wr; have n0_ := Aside0.mk (Kd.R_at hq_ HO_5.out); have n1_ := Aside0.mk (Kd.S_at hq_ HO_8.out); have n2_ := Aside0.mk (Kd.R_at hq_ HO_10.out); have n3_ := Aside0.mk (Kd.R_at hq_ HL622_0.out); have n4_ := Aside0.mk (Kd.R_at hq_ HL623_0.out); have n5_ := Aside0.mk (Kd.R_at hq_ HL626_0.out); have n6_ := Aside0.mk (Kd.R_at hq_ HL628_0.out); have n7_ := Aside0.mk (blk_at hq_ BK605.out); have n8_ := Aside0.mk (below_at hq_ HB.out); clear hq_ HO_5 HO_8 HO_10 HL622_0 HL623_0 HL626_0 HL628_0 BK605 HB; have HO_5 := n0_; have HO_8 := n1_; have HO_10 := n2_; have HL622_0 := n3_; have HL623_0 := n4_; have HL626_0 := n5_; have HL628_0 := n6_; have BK605 := n7_; have HB := n8_; clear n0_ n1_ n2_ n3_ n4_ n5_ n6_ n7_ n8_; (try (have HP54 := Kd.R_putg HO_10.out ((rd (rd_L1 t614 x12_3) x13_4) : Int) (wrap64 (x12_3 + 1)))))); refine store_event (t := 3) (p := 133) (v := ?vo_w55) (w1 := (wr.setCell ⟨go52, ((rd (rd_L1 t614 x12_3) x13_4) : Int).toNat, none⟩ (.int .i64 (wrap64 (x12_3 + 1))))) ?hg ?ho ?hn ?hr ?_; (case ho => rfl); (case hg => rfl); (case hn => rfl); (case hr => first | (go_simp; done) | (go_simp; rfl)); intro w55 hw; have hg : wr.grownBy w55 (some go52) := (by rw [hw]; exact HP54.2); have hp_ : Kd.R (Kd.int .i64) 3 w55 w.heap.size (fun k_ => some k_ ≠ (v610 : Value).ownBlock) (.slice (some ⟨go52, 0, none⟩) x10_4.length co53) y630 := (by rw [hw, Ny630.out]; exact HP54.1); clear HP54; have n0_ := Aside0.mk (Kd.R_after (v := (.slice (some ⟨go52, 0, none⟩) x10_4.length co53)) (v1 := (.slice (some ⟨go52, 0, none⟩) x10_4.length co53)) (ok := (fun _ => True)) (by (with_reducible repeat (first | apply Kd.R_alloc | apply Kd.R_drewN | apply Kd.R_drew)); exact Kd.R_mono HO_5.out (fun _ hk => ⟨trivial, hk⟩)) hg (.inl rfl)); have n1_ := Aside0.mk (Kd.S_after (v := (.slice (some ⟨go52, 0, none⟩) x10_4.length co53)) (v1 := (.slice (some ⟨go52, 0, none⟩) x10_4.length co53)) (ok := (fun k_ => some k_ ≠ (v610 : Value).ownBlock)) (by (with_reducible repeat (first | apply Kd.S_alloc | apply Kd.S_drewN | apply Kd.S_drew)); exact HO_8.out) hg (.inl rfl)); have n2_ := Aside0.mk (hp_); have n3_ := Aside0.mk (blk_grown (g := gb605) (o := .cells #[.int .i64 a1_0, .int .i64 a1_1] 24 (0, 0)) (by (with_reducible repeat (first | apply kdn | apply kdr | apply kal)); exact BK605.out) hg (Kd.R_ne HO_10.out BK605.out (by decide))); have n4_ := Aside0.mk (Kd.R_after (v := (.slice (some ⟨go52, 0, none⟩) x10_4.length co53)) (v1 := (.slice (some ⟨go52, 0, none⟩) x10_4.length co53)) (ok := (fun k_ => some k_ ≠ (v610 : Value).ownBlock ∧ some k_ ≠ (.slice (some ad622) t614.length co30 : Value).ownBlock)) (by (with_reducible repeat (first | apply Kd.R_alloc | apply Kd.R_drewN | apply Kd.R_drew)); exact Kd.R_mono HL622_0.out (fun _ hk => ⟨⟨hk.1.1, hk.2⟩, hk.1.2⟩)) hg (.inl rfl)); have n5_ := Aside0.mk (Kd.R_after (v := (.slice (some ⟨go52, 0, none⟩) x10_4.length co53)) (v1 := (.slice (some ⟨go52, 0, none⟩) x10_4.length co53)) (ok := (fun k_ => some k_ ≠ (v610 : Value).ownBlock ∧ some k_ ≠ (.slice (some ad622) t614.length co30 : Value).ownBlock)) (by (with_reducible repeat (first | apply Kd.R_alloc | apply Kd.R_drewN | apply Kd.R_drew)); exact Kd.R_mono HL623_0.out (fun _ hk => ⟨⟨hk.1.1, hk.2⟩, hk.1.2⟩)) hg (.inl rfl)); have n6_ := Aside0.mk (Kd.R_after (v := (.slice (some ⟨go52, 0, none⟩) x10_4.length co53)) (v1 := (.slice (some ⟨go52, 0, none⟩) x10_4.length co53)) (ok := (fun k_ => some k_ ≠ (v610 : Value).ownBlock ∧ some k_ ≠ (.slice (some ad622) t614.length co30 : Value).ownBlock)) (by (with_reducible repeat (first | apply Kd.R_alloc | apply Kd.R_drewN | apply Kd.R_drew)); exact Kd.R_mono HL626_0.out (fun _ hk => ⟨⟨hk.1.1, hk.2⟩, hk.1.2⟩)) hg (.inl rfl)); have n7_ := Aside0.mk (Kd.R_after (v := (.slice (some ⟨go52, 0, none⟩) x10_4.length co53)) (v1 := (.slice (some ⟨go52, 0, none⟩) x10_4.length co53)) (ok := (fun k_ => some k_ ≠ (v610 : Value).ownBlock ∧ some k_ ≠ (.slice (some ad622) t614.length co30 : Value).ownBlock)) (by (with_reducible repeat (first | apply Kd.R_alloc | apply Kd.R_drewN | apply Kd.R_drew)); exact Kd.R_mono HL628_0.out (fun _ hk => ⟨⟨hk.1.1, hk.2⟩, hk.1.2⟩)) hg (.inl rfl)); have n8_ := Aside0.mk ((by rw [hw]; exact below_set (HB.out) GB52.out : Below w.heap.size w w55)); clear HO_5; clear HO_8; clear HO_10; clear BK605; clear HL622_0; clear HL623_0; clear HL626_0; clear HL628_0; clear HB; have HO_5 := n0_; have HO_8 := n1_; have HO_10 := n2_; have BK605 := n3_; have HL622_0 := n4_; have HL623_0 := n5_; have HL626_0 := n6_; have HL628_0 := n7_; have HB := n8_; clear n0_ n1_ n2_ n3_ n4_ n5_ n6_ n7_ n8_; clear hg hw hp_))
                                 repeat (go_quiet (first | ((with_reducible refine gate_store (t := 3) (p := 133) rfl ?_); (try (rw [drewN_self wr]; generalize hq_ : World.drewN wr _ = wr; have n0_ := Aside0.mk (Kd.R_at hq_ HO_5.out); have n1_ := Aside0.mk (Kd.S_at hq_ HO_8.out); have n2_ := Aside0.mk (Kd.R_at hq_ HO_10.out); have n3_ := Aside0.mk (Kd.R_at hq_ HL622_0.out); have n4_ := Aside0.mk (Kd.R_at hq_ HL623_0.out); have n5_ := Aside0.mk (Kd.R_at hq_ HL626_0.out); have n6_ := Aside0.mk (Kd.R_at hq_ HL628_0.out); have n7_ := Aside0.mk (blk_at hq_ BK605.out); have n8_ := Aside0.mk (below_at hq_ HB.out); clear hq_ HO_5 HO_8 HO_10 HL622_0 HL623_0 HL626_0 HL628_0 BK605 HB; have HO_5 := n0_; have HO_8 := n1_; have HO_10 := n2_; have HL622_0 := n3_; have HL623_0 := n4_; have HL626_0 := n5_; have HL628_0 := n6_; have BK605 := n7_; have HB := n8_; clear n0_ n1_ n2_ n3_ n4_ n5_ n6_ n7_ n8_; (try (have HP54 := Kd.R_putg HO_10.out ((rd (rd_L1 t614 x12_3) x13_4) : Int) (wrap64 (x12_3 + 1)))))); refine store_event (t := 3) (p := 133) (v := ?vo_w55) (w1 := (wr.setCell ⟨go52, ((rd (rd_L1 t614 x12_3) x13_4) : Int).toNat, none⟩ (.int .i64 (wrap64 (x12_3 + 1))))) ?hg ?ho ?hn ?hr ?_; (case ho => rfl); (case hg => rfl); (case hn => rfl); (case hr => first | (go_simp; done) | (go_simp; rfl)); intro w55 hw; have hg : wr.grownBy w55 (some go52) := (by rw [hw]; exact HP54.2); have hp_ : Kd.R (Kd.int .i64) 3 w55 w.heap.size (fun k_ => some k_ ≠ (v610 : Value).ownBlock) (.slice (some ⟨go52, 0, none⟩) x10_4.length co53) y630 := (by rw [hw, Ny630.out]; exact HP54.1); clear HP54; have n0_ := Aside0.mk (Kd.R_after (v := (.slice (some ⟨go52, 0, none⟩) x10_4.length co53)) (v1 := (.slice (some ⟨go52, 0, none⟩) x10_4.length co53)) (ok := (fun _ => True)) (by (with_reducible repeat (first | apply Kd.R_alloc | apply Kd.R_drewN | apply Kd.R_drew)); exact Kd.R_mono HO_5.out (fun _ hk => ⟨trivial, hk⟩)) hg (.inl rfl)); have n1_ := Aside0.mk (Kd.S_after (v := (.slice (some ⟨go52, 0, none⟩) x10_4.length co53)) (v1 := (.slice (some ⟨go52, 0, none⟩) x10_4.length co53)) (ok := (fun k_ => some k_ ≠ (v610 : Value).ownBlock)) (by (with_reducible repeat (first | apply Kd.S_alloc | apply Kd.S_drewN | apply Kd.S_drew)); exact HO_8.out) hg (.inl rfl)); have n2_ := Aside0.mk (hp_); have n3_ := Aside0.mk (blk_grown (g := gb605) (o := .cells #[.int .i64 a1_0, .int .i64 a1_1] 24 (0, 0)) (by (with_reducible repeat (first | apply kdn | apply kdr | apply kal)); exact BK605.out) hg (Kd.R_ne HO_10.out BK605.out (by decide))); have n4_ := Aside0.mk (Kd.R_after (v := (.slice (some ⟨go52, 0, none⟩) x10_4.length co53)) (v1 := (.slice (some ⟨go52, 0, none⟩) x10_4.length co53)) (ok := (fun k_ => some k_ ≠ (v610 : Value).ownBlock ∧ some k_ ≠ (.slice (some ad622) t614.length co30 : Value).ownBlock)) (by (with_reducible repeat (first | apply Kd.R_alloc | apply Kd.R_drewN | apply Kd.R_drew)); exact Kd.R_mono HL622_0.out (fun _ hk => ⟨⟨hk.1.1, hk.2⟩, hk.1.2⟩)) hg (.inl rfl)); have n5_ := Aside0.mk (Kd.R_after (v := (.slice (some ⟨go52, 0, none⟩) x10_4.length co53)) (v1 := (.slice (some ⟨go52, 0, none⟩) x10_4.length co53)) (ok := (fun k_ => some k_ ≠ (v610 : Value).ownBlock ∧ some k_ ≠ (.slice (some ad622) t614.length co30 : Value).ownBlock)) (by (with_reducible repeat (first | apply Kd.R_alloc | apply Kd.R_drewN | apply Kd.R_drew)); exact Kd.R_mono HL623_0.out (fun _ hk => ⟨⟨hk.1.1, hk.2⟩, hk.1.2⟩)) hg (.inl rfl)); have n6_ := Aside0.mk (Kd.R_after (v := (.slice (some ⟨go52, 0, none⟩) x10_4.length co53)) (v1 := (.slice (some ⟨go52, 0, none⟩) x10_4.length co53)) (ok := (fun k_ => some k_ ≠ (v610 : Value).ownBlock ∧ some k_ ≠ (.slice (some ad622) t614.length co30 : Value).ownBlock)) (by (with_reducible repeat (first | apply Kd.R_alloc | apply Kd.R_drewN | apply Kd.R_drew)); exact Kd.R_mono HL626_0.out (fun _ hk => ⟨⟨hk.1.1, hk.2⟩, hk.1.2⟩)) hg (.inl rfl)); have n7_ := Aside0.mk (Kd.R_after (v := (.slice (some ⟨go52, 0, none⟩) x10_4.length co53)) (v1 := (.slice (some ⟨go52, 0, none⟩) x10_4.length co53)) (ok := (fun k_ => some k_ ≠ (v610 : Value).ownBlock ∧ some k_ ≠ (.slice (some ad622) t614.length co30 : Value).ownBlock)) (by (with_reducible repeat (first | apply Kd.R_alloc | apply Kd.R_drewN | apply Kd.R_drew)); exact Kd.R_mono HL628_0.out (fun _ hk => ⟨⟨hk.1.1, hk.2⟩, hk.1.2⟩)) hg (.inl rfl)); have n8_ := Aside0.mk ((by rw [hw]; exact below_set (HB.out) GB52.out : Below w.heap.size w w55)); clear HO_5; clear HO_8; clear HO_10; clear BK605; clear HL622_0; clear HL623_0; clear HL626_0; clear HL628_0; clear HB; have HO_5 := n0_; have HO_8 := n1_; have HO_10 := n2_; have BK605 := n3_; have HL622_0 := n4_; have HL623_0 := n5_; have HL626_0 := n6_; have HL628_0 := n7_; have HB := n8_; clear n0_ n1_ n2_ n3_ n4_ n5_ n6_ n7_ n8_; clear hg hw hp_)); try go_wp2_with (first | ((with_reducible refine gate_store (t := 3) (p := 133) rfl ?_); (try (rw [drewN_self wr]; generalize hq_ : World.drewN wr _ = wr; have n0_ := Aside0.mk (Kd.R_at hq_ HO_5.out); have n1_ := Aside0.mk (Kd.S_at hq_ HO_8.out); have n2_ := Aside0.mk (Kd.R_at hq_ HO_10.out); have n3_ := Aside0.mk (Kd.R_at hq_ HL622_0.out); have n4_ := Aside0.mk (Kd.R_at hq_ HL623_0.out); have n5_ := Aside0.mk (Kd.R_at hq_ HL626_0.out); have n6_ := Aside0.mk (Kd.R_at hq_ HL628_0.out); have n7_ := Aside0.mk (blk_at hq_ BK605.out); have n8_ := Aside0.mk (below_at hq_ HB.out); clear hq_ HO_5 HO_8 HO_10 HL622_0 HL623_0 HL626_0 HL628_0 BK605 HB; have HO_5 := n0_; have HO_8 := n1_; have HO_10 := n2_; have HL622_0 := n3_; have HL623_0 := n4_; have HL626_0 := n5_; have HL628_0 := n6_; have BK605 := n7_; have HB := n8_; clear n0_ n1_ n2_ n3_ n4_ n5_ n6_ n7_ n8_; (try (have HP54 := Kd.R_putg HO_10.out ((rd (rd_L1 t614 x12_3) x13_4) : Int) (wrap64 (x12_3 + 1)))))); refine store_event (t := 3) (p := 133) (v := ?vo_w55) (w1 := (wr.setCell ⟨go52, ((rd (rd_L1 t614 x12_3) x13_4) : Int).toNat, none⟩ (.int .i64 (wrap64 (x12_3 + 1))))) ?hg ?ho ?hn ?hr ?_; (case ho => rfl); (case hg => rfl); (case hn => rfl); (case hr => first | (go_simp; done) | (go_simp; rfl)); intro w55 hw; have hg : wr.grownBy w55 (some go52) := (by rw [hw]; exact HP54.2); have hp_ : Kd.R (Kd.int .i64) 3 w55 w.heap.size (fun k_ => some k_ ≠ (v610 : Value).ownBlock) (.slice (some ⟨go52, 0, none⟩) x10_4.length co53) y630 := (by rw [hw, Ny630.out]; exact HP54.1); clear HP54; have n0_ := Aside0.mk (Kd.R_after (v := (.slice (some ⟨go52, 0, none⟩) x10_4.length co53)) (v1 := (.slice (some ⟨go52, 0, none⟩) x10_4.length co53)) (ok := (fun _ => True)) (by (with_reducible repeat (first | apply Kd.R_alloc | apply Kd.R_drewN | apply Kd.R_drew)); exact Kd.R_mono HO_5.out (fun _ hk => ⟨trivial, hk⟩)) hg (.inl rfl)); have n1_ := Aside0.mk (Kd.S_after (v := (.slice (some ⟨go52, 0, none⟩) x10_4.length co53)) (v1 := (.slice (some ⟨go52, 0, none⟩) x10_4.length co53)) (ok := (fun k_ => some k_ ≠ (v610 : Value).ownBlock)) (by (with_reducible repeat (first | apply Kd.S_alloc | apply Kd.S_drewN | apply Kd.S_drew)); exact HO_8.out) hg (.inl rfl)); have n2_ := Aside0.mk (hp_); have n3_ := Aside0.mk (blk_grown (g := gb605) (o := .cells #[.int .i64 a1_0, .int .i64 a1_1] 24 (0, 0)) (by (with_reducible repeat (first | apply kdn | apply kdr | apply kal)); exact BK605.out) hg (Kd.R_ne HO_10.out BK605.out (by decide))); have n4_ := Aside0.mk (Kd.R_after (v := (.slice (some ⟨go52, 0, none⟩) x10_4.length co53)) (v1 := (.slice (some ⟨go52, 0, none⟩) x10_4.length co53)) (ok := (fun k_ => some k_ ≠ (v610 : Value).ownBlock ∧ some k_ ≠ (.slice (some ad622) t614.length co30 : Value).ownBlock)) (by (with_reducible repeat (first | apply Kd.R_alloc | apply Kd.R_drewN | apply Kd.R_drew)); exact Kd.R_mono HL622_0.out (fun _ hk => ⟨⟨hk.1.1, hk.2⟩, hk.1.2⟩)) hg (.inl rfl)); have n5_ := Aside0.mk (Kd.R_after (v := (.slice (some ⟨go52, 0, none⟩) x10_4.length co53)) (v1 := (.slice (some ⟨go52, 0, none⟩) x10_4.length co53)) (ok := (fun k_ => some k_ ≠ (v610 : Value).ownBlock ∧ some k_ ≠ (.slice (some ad622) t614.length co30 : Value).ownBlock)) (by (with_reducible repeat (first | apply Kd.R_alloc | apply Kd.R_drewN | apply Kd.R_drew)); exact Kd.R_mono HL623_0.out (fun _ hk => ⟨⟨hk.1.1, hk.2⟩, hk.1.2⟩)) hg (.inl rfl)); have n6_ := Aside0.mk (Kd.R_after (v := (.slice (some ⟨go52, 0, none⟩) x10_4.length co53)) (v1 := (.slice (some ⟨go52, 0, none⟩) x10_4.length co53)) (ok := (fun k_ => some k_ ≠ (v610 : Value).ownBlock ∧ some k_ ≠ (.slice (some ad622) t614.length co30 : Value).ownBlock)) (by (with_reducible repeat (first | apply Kd.R_alloc | apply Kd.R_drewN | apply Kd.R_drew)); exact Kd.R_mono HL626_0.out (fun _ hk => ⟨⟨hk.1.1, hk.2⟩, hk.1.2⟩)) hg (.inl rfl)); have n7_ := Aside0.mk (Kd.R_after (v := (.slice (some ⟨go52, 0, none⟩) x10_4.length co53)) (v1 := (.slice (some ⟨go52, 0, none⟩) x10_4.length co53)) (ok := (fun k_ => some k_ ≠ (v610 : Value).ownBlock ∧ some k_ ≠ (.slice (some ad622) t614.length co30 : Value).ownBlock)) (by (with_reducible repeat (first | apply Kd.R_alloc | apply Kd.R_drewN | apply Kd.R_drew)); exact Kd.R_mono HL628_0.out (fun _ hk => ⟨⟨hk.1.1, hk.2⟩, hk.1.2⟩)) hg (.inl rfl)); have n8_ := Aside0.mk ((by rw [hw]; exact below_set (HB.out) GB52.out : Below w.heap.size w w55)); clear HO_5; clear HO_8; clear HO_10; clear BK605; clear HL622_0; clear HL623_0; clear HL626_0; clear HL628_0; clear HB; have HO_5 := n0_; have HO_8 := n1_; have HO_10 := n2_; have BK605 := n3_; have HL622_0 := n4_; have HL623_0 := n5_; have HL626_0 := n6_; have HL628_0 := n7_; have HB := n8_; clear n0_ n1_ n2_ n3_ n4_ n5_ n6_ n7_ n8_; clear hg hw hp_)))
                                 go_roundg k4
                                 case measure => have := HJ2.out; have := HJ14.out; have := HK3.out; have := HK4.out; omega
                                 case rel => exact ⟨(y630), (wrap64 (x11_4 + 1)), (wrap64 (x13_4 + 1)), (by first | rfl | (simp; done) | (simp [*]; done)), (by first | rfl | (simp; done) | (simp [*]; done)), H', ⟨by have := HJ2.out; have := HJ14.out; have := HK3.out; have := HK4.out; omega⟩, ⟨by (with_reducible repeat (first | apply Kd.R_alloc | apply Kd.R_drewN | apply Kd.R_drew)); exact Kd.R_mono HO_5.out (fun _ hk => hk.2)⟩, ⟨by (with_reducible repeat (first | apply Kd.S_alloc | apply Kd.S_drewN | apply Kd.S_drew)); exact HO_8.out⟩, ⟨by (with_reducible repeat (first | apply Kd.R_alloc | apply Kd.R_drewN | apply Kd.R_drew)); exact HO_10.out⟩, ⟨by (with_reducible repeat (first | apply kdn | apply kdr | apply kal)); exact BK605.out⟩, ⟨by repeat (first | (with_reducible first | exact HB.out | apply lal | apply ldn | apply ldr | refine below_set ?_ GE605.out) | exact HB.out)⟩⟩
                               ·rw [if_neg c50] at H
                                exact absurd H (by simp)
                              ·rw [if_neg c49] at H
                               exact absurd H (by simp)
                             ·rw [if_neg c48] at H
                              exact absurd H (by simp)
                            ·rw [if_neg c46] at H
                             have c46b0 : decide (0 < x12_3) = false := decide_eq_false c46
                             clear c46
                             obtain ⟨y631, hy631⟩ : ∃ y_ : List Int, y_ = (x10_4.set ((rd (rd_L1 t614 x12_3) x13_4) : Int).toNat (wrap64 (x12_3 + 1))) := ⟨_, rfl⟩
                             replace H : (trishawlaw06_TripRings.l1 k4 l0 t609 t614 y631 (wrap64 (x11_4 + 1)) x12_3 (wrap64 (x13_4 + 1))) = some r := by first | (rw [hy631]; with_reducible exact H) | (have H2_ := (Option.bind_some _ _).symm.trans H; rw [hy631]; with_reducible exact H2_) | (have H2_ := (Option.bind_some _ _).symm.trans H; with_reducible exact H2_) | with_reducible exact H | (rw [hy631]; exact H) | exact H
                             have Ny631 := Aside0.mk hy631
                             clear hy631
                             have H' := Aside0.mk H
                             clear H
                             have p622 : 0 ≤ (x12_3 : Int) := of_decide_eq_true (by first | (with_reducible assumption) | assumption)
                             have q622 : x12_3 < (t614.length : Int) := of_decide_eq_true (by first | (with_reducible assumption) | assumption)
                             obtain ⟨ad622, A622_0, c622_0, e622, hx622_0, hl622_0, hi622_0⟩ := at_L1 (Kd.S_reads' HO_8.out).2.2 x12_3 p622 q622
                             cases e622
                             obtain ⟨ce622, hce622, hMe622, hcc622⟩ := Kd.S_get HO_8.out [] x12_3 p622 (by first | exact q622 | exact of_decide_eq_true (by first | (with_reducible assumption) | assumption) | (have e_ := (Kd.S_reads' HO_8.out).1; omega))
                             obtain ⟨ve622_0, rfl, ge622_0⟩ := hMe622
                             have hv622_0 := hcc622 0 _ rfl
                             rw [Nat.add_zero, show ((Kd.slice 3 (Kd.int .i64))).sz = 1 from rfl, Nat.mul_one] at hv622_0
                             replace hv622_0 := Option.some.inj (hv622_0.symm.trans hx622_0)
                             rw [hv622_0] at ge622_0
                             have HL622_0 := Aside0.mk (show Kd.R (Kd.int .i64) 3 _ _ _ _ (rd_L1 t614 x12_3) from ge622_0)
                             clear hv622_0 ge622_0
                             clear hcc622 hce622
                             have HR622_0 := Aside0.mk hi622_0
                             have HC622_0 := Aside0.mk hl622_0
                             clear hi622_0 hl622_0
                             replace p622 := eq_true p622
                             replace q622 := eq_true q622
                             have p623 : 0 ≤ (x12_3 : Int) := of_decide_eq_true (by first | (with_reducible assumption) | assumption)
                             have q623 : x12_3 < (t614.length : Int) := of_decide_eq_true (by first | (with_reducible assumption) | assumption)
                             obtain ⟨ad623, A623_0, c623_0, e623, hx623_0, hl623_0, hi623_0⟩ := at_L1 (Kd.S_reads' HO_8.out).2.2 x12_3 p623 q623
                             obtain rfl : ad622 = ad623 := (by injection e623)
                             obtain ⟨ce623, hce623, hMe623, hcc623⟩ := Kd.S_get HO_8.out [] x12_3 p623 (by first | exact q623 | exact of_decide_eq_true (by first | (with_reducible assumption) | assumption) | (have e_ := (Kd.S_reads' HO_8.out).1; omega))
                             obtain ⟨ve623_0, rfl, ge623_0⟩ := hMe623
                             have hv623_0 := hcc623 0 _ rfl
                             rw [Nat.add_zero, show ((Kd.slice 3 (Kd.int .i64))).sz = 1 from rfl, Nat.mul_one] at hv623_0
                             replace hv623_0 := Option.some.inj (hv623_0.symm.trans hx623_0)
                             rw [hv623_0] at ge623_0
                             have HL623_0 := Aside0.mk (show Kd.R (Kd.int .i64) 3 _ _ _ _ (rd_L1 t614 x12_3) from ge623_0)
                             clear hv623_0 ge623_0
                             clear hcc623 hce623
                             have HR623_0 := Aside0.mk hi623_0
                             have HC623_0 := Aside0.mk hl623_0
                             clear hi623_0 hl623_0
                             replace p623 := eq_true p623
                             replace q623 := eq_true q623
                             have ea_ := Option.some.inj (hx622_0.symm.trans hx623_0)
                             injection ea_ with ea_ en_ ec_
                             subst ea_
                             subst ec_
                             clear en_
                             have p624 : 0 ≤ (x13_4 : Int) := of_decide_eq_true (by first | (with_reducible assumption) | assumption)
                             have q624 : x13_4 < ((rd_L1 t614 x12_3).length : Int) := of_decide_eq_true (by first | (with_reducible assumption) | assumption)
                             obtain ⟨ad624, e624, hx624_0⟩ := Kd.at_int (by repeat (first | (with_reducible exact HR623_0.out) | (with_reducible refine Kd.C_alloc ?_ _) | (with_reducible refine Kd.C_drewN ?_ _) | (with_reducible refine Kd.C_drew ?_) | exact HR623_0.out)) x13_4 p624 q624
                             cases e624
                             replace p624 := eq_true p624
                             replace q624 := eq_true q624
                             obtain ⟨Ao57, co57, eo57⟩ := Kd.R_slice HO_10.out
                             subst eo57
                             have p625 : 0 ≤ ((rd (rd_L1 t614 x12_3) x13_4) : Int) := of_decide_eq_true (by first | (with_reducible assumption) | assumption)
                             have q625 : (rd (rd_L1 t614 x12_3) x13_4) < (x10_4.length : Int) := of_decide_eq_true (by first | (with_reducible assumption) | assumption)
                             obtain ⟨ad625, e625, hx625_0⟩ := Kd.at_int (Kd.R_reads' HO_10.out).2.2 (rd (rd_L1 t614 x12_3) x13_4) p625 q625
                             cases e625
                             replace p625 := eq_true p625
                             replace q625 := eq_true q625
                             have p626 : 0 ≤ (x12_3 : Int) := of_decide_eq_true (by first | (with_reducible assumption) | assumption)
                             have q626 : x12_3 < (t614.length : Int) := of_decide_eq_true (by first | (with_reducible assumption) | assumption)
                             obtain ⟨ad626, A626_0, c626_0, e626, hx626_0, hl626_0, hi626_0⟩ := at_L1 (Kd.S_reads' HO_8.out).2.2 x12_3 p626 q626
                             obtain rfl : ad622 = ad626 := (by injection e626)
                             obtain ⟨ce626, hce626, hMe626, hcc626⟩ := Kd.S_get HO_8.out [] x12_3 p626 (by first | exact q626 | exact of_decide_eq_true (by first | (with_reducible assumption) | assumption) | (have e_ := (Kd.S_reads' HO_8.out).1; omega))
                             obtain ⟨ve626_0, rfl, ge626_0⟩ := hMe626
                             have hv626_0 := hcc626 0 _ rfl
                             rw [Nat.add_zero, show ((Kd.slice 3 (Kd.int .i64))).sz = 1 from rfl, Nat.mul_one] at hv626_0
                             replace hv626_0 := Option.some.inj (hv626_0.symm.trans hx626_0)
                             rw [hv626_0] at ge626_0
                             have HL626_0 := Aside0.mk (show Kd.R (Kd.int .i64) 3 _ _ _ _ (rd_L1 t614 x12_3) from ge626_0)
                             clear hv626_0 ge626_0
                             clear hcc626 hce626
                             have HR626_0 := Aside0.mk hi626_0
                             have HC626_0 := Aside0.mk hl626_0
                             clear hi626_0 hl626_0
                             replace p626 := eq_true p626
                             replace q626 := eq_true q626
                             have ea_ := Option.some.inj (hx622_0.symm.trans hx626_0)
                             injection ea_ with ea_ en_ ec_
                             subst ea_
                             subst ec_
                             clear en_
                             have p627 : 0 ≤ ((ji41) : Int) := of_decide_eq_true (by first | (with_reducible assumption) | assumption)
                             have q627 : (ji41) < ((rd_L1 t614 x12_3).length : Int) := of_decide_eq_true (by first | (with_reducible assumption) | assumption)
                             obtain ⟨ad627, e627, hx627_0⟩ := Kd.at_int (by repeat (first | (with_reducible exact HR626_0.out) | (with_reducible refine Kd.C_alloc ?_ _) | (with_reducible refine Kd.C_drewN ?_ _) | (with_reducible refine Kd.C_drew ?_) | exact HR626_0.out)) (ji41) p627 q627
                             cases e627
                             replace p627 := eq_true p627
                             replace q627 := eq_true q627
                             have p56 : 0 ≤ ((rd (rd_L1 t614 x12_3) x13_4) : Int) := of_decide_eq_true (by first | (with_reducible assumption) | assumption)
                             have q56 : ((rd (rd_L1 t614 x12_3) x13_4) : Int) < ((x10_4.length : Int) : Int) := of_decide_eq_true (by first | (with_reducible assumption) | assumption)
                             obtain ⟨go56, co56, eo56, gb56, gl56, cl56, HG56⟩ := Kd.R_form HO_10.out (by omega)
                             (first | cases eo56 | (injection eo56 with ea_ en_ ec_; (first | subst ea_ | (injection ea_ with ea_; subst ea_)); subst ec_; clear en_))
                             have GB56 := Aside0.mk gb56
                             have GG56 := Aside0.mk HG56
                             clear gb56 gl56 HG56
                             (first | simp only [add_plain] at hx625_0 | skip)
                             obtain ⟨hx56_0, hf56_0⟩ := Kd.R_celln 0 HO_10.out ((rd (rd_L1 t614 x12_3) x13_4) : Int) p56 q56
                             replace p56 := eq_true p56
                             replace q56 := eq_true q56
                             have HP58 := Kd.R_putg HO_10.out ((rd (rd_L1 t614 x12_3) x13_4) : Int) (wrap64 (x12_3 + 1))
                             go_wp2_with (first | ((with_reducible refine gate_store (t := 3) (p := 133) rfl ?_); (try (rw [drewN_self wr]; generalize hq_ : World.drewN wr _ = wr; have n0_ := Aside0.mk (Kd.R_at hq_ HO_5.out); have n1_ := Aside0.mk (Kd.S_at hq_ HO_8.out); have n2_ := Aside0.mk (Kd.R_at hq_ HO_10.out); have n3_ := Aside0.mk (Kd.R_at hq_ HL622_0.out); have n4_ := Aside0.mk (Kd.R_at hq_ HL623_0.out); have n5_ := Aside0.mk (Kd.R_at hq_ HL626_0.out); have n6_ := Aside0.mk (blk_at hq_ BK605.out); have n7_ := Aside0.mk (below_at hq_ HB.out); clear hq_ HO_5 HO_8 HO_10 HL622_0 HL623_0 HL626_0 BK605 HB; have HO_5 := n0_; have HO_8 := n1_; have HO_10 := n2_; have HL622_0 := n3_; have HL623_0 := n4_; have HL626_0 := n5_; have BK605 := n6_; have HB := n7_; clear n0_ n1_ n2_ n3_ n4_ n5_ n6_ n7_; (try (have HP58 := Kd.R_putg HO_10.out ((rd (rd_L1 t614 x12_3) x13_4) : Int) (wrap64 (x12_3 + 1)))))); refine store_event (t := 3) (p := 133) (v := ?vo_w59) (w1 := (wr.setCell ⟨go56, ((rd (rd_L1 t614 x12_3) x13_4) : Int).toNat, none⟩ (.int .i64 (wrap64 (x12_3 + 1))))) ?hg ?ho ?hn ?hr ?_; (case ho => rfl); (case hg => rfl); (case hn => rfl); (case hr => first | (go_simp; done) | (go_simp; rfl)); intro w59 hw; have hg : wr.grownBy w59 (some go56) := (by rw [hw]; exact HP58.2); have hp_ : Kd.R (Kd.int .i64) 3 w59 w.heap.size (fun k_ => some k_ ≠ (v610 : Value).ownBlock) (.slice (some ⟨go56, 0, none⟩) x10_4.length co57) y631 := (by rw [hw, Ny631.out]; exact HP58.1); clear HP58; have n0_ := Aside0.mk (Kd.R_after (v := (.slice (some ⟨go56, 0, none⟩) x10_4.length co57)) (v1 := (.slice (some ⟨go56, 0, none⟩) x10_4.length co57)) (ok := (fun _ => True)) (by (with_reducible repeat (first | apply Kd.R_alloc | apply Kd.R_drewN | apply Kd.R_drew)); exact Kd.R_mono HO_5.out (fun _ hk => ⟨trivial, hk⟩)) hg (.inl rfl)); have n1_ := Aside0.mk (Kd.S_after (v := (.slice (some ⟨go56, 0, none⟩) x10_4.length co57)) (v1 := (.slice (some ⟨go56, 0, none⟩) x10_4.length co57)) (ok := (fun k_ => some k_ ≠ (v610 : Value).ownBlock)) (by (with_reducible repeat (first | apply Kd.S_alloc | apply Kd.S_drewN | apply Kd.S_drew)); exact HO_8.out) hg (.inl rfl)); have n2_ := Aside0.mk (hp_); have n3_ := Aside0.mk (blk_grown (g := gb605) (o := .cells #[.int .i64 a1_0, .int .i64 a1_1] 24 (0, 0)) (by (with_reducible repeat (first | apply kdn | apply kdr | apply kal)); exact BK605.out) hg (Kd.R_ne HO_10.out BK605.out (by decide))); have n4_ := Aside0.mk (Kd.R_after (v := (.slice (some ⟨go56, 0, none⟩) x10_4.length co57)) (v1 := (.slice (some ⟨go56, 0, none⟩) x10_4.length co57)) (ok := (fun k_ => some k_ ≠ (v610 : Value).ownBlock ∧ some k_ ≠ (.slice (some ad622) t614.length co30 : Value).ownBlock)) (by (with_reducible repeat (first | apply Kd.R_alloc | apply Kd.R_drewN | apply Kd.R_drew)); exact Kd.R_mono HL622_0.out (fun _ hk => ⟨⟨hk.1.1, hk.2⟩, hk.1.2⟩)) hg (.inl rfl)); have n5_ := Aside0.mk (Kd.R_after (v := (.slice (some ⟨go56, 0, none⟩) x10_4.length co57)) (v1 := (.slice (some ⟨go56, 0, none⟩) x10_4.length co57)) (ok := (fun k_ => some k_ ≠ (v610 : Value).ownBlock ∧ some k_ ≠ (.slice (some ad622) t614.length co30 : Value).ownBlock)) (by (with_reducible repeat (first | apply Kd.R_alloc | apply Kd.R_drewN | apply Kd.R_drew)); exact Kd.R_mono HL623_0.out (fun _ hk => ⟨⟨hk.1.1, hk.2⟩, hk.1.2⟩)) hg (.inl rfl)); have n6_ := Aside0.mk (Kd.R_after (v := (.slice (some ⟨go56, 0, none⟩) x10_4.length co57)) (v1 := (.slice (some ⟨go56, 0, none⟩) x10_4.length co57)) (ok := (fun k_ => some k_ ≠ (v610 : Value).ownBlock ∧ some k_ ≠ (.slice (some ad622) t614.length co30 : Value).ownBlock)) (by (with_reducible repeat (first | apply Kd.R_alloc | apply Kd.R_drewN | apply Kd.R_drew)); exact Kd.R_mono HL626_0.out (fun _ hk => ⟨⟨hk.1.1, hk.2⟩, hk.1.2⟩)) hg (.inl rfl)); have n7_ := Aside0.mk ((by rw [hw]; exact below_set (HB.out) GB56.out : Below w.heap.size w w59)); clear HO_5; clear HO_8; clear HO_10; clear BK605; clear HL622_0; clear HL623_0; clear HL626_0; clear HB; have HO_5 := n0_; have HO_8 := n1_; have HO_10 := n2_; have BK605 := n3_; have HL622_0 := n4_; have HL623_0 := n5_; have HL626_0 := n6_; have HB := n7_; clear n0_ n1_ n2_ n3_ n4_ n5_ n6_ n7_; clear hg hw hp_))
                             repeat (go_quiet (first | ((with_reducible refine gate_store (t := 3) (p := 133) rfl ?_); (try (rw [drewN_self wr]; generalize hq_ : World.drewN wr _ = wr; have n0_ := Aside0.mk (Kd.R_at hq_ HO_5.out); have n1_ := Aside0.mk (Kd.S_at hq_ HO_8.out); have n2_ := Aside0.mk (Kd.R_at hq_ HO_10.out); have n3_ := Aside0.mk (Kd.R_at hq_ HL622_0.out); have n4_ := Aside0.mk (Kd.R_at hq_ HL623_0.out); have n5_ := Aside0.mk (Kd.R_at hq_ HL626_0.out); have n6_ := Aside0.mk (blk_at hq_ BK605.out); have n7_ := Aside0.mk (below_at hq_ HB.out); clear hq_ HO_5 HO_8 HO_10 HL622_0 HL623_0 HL626_0 BK605 HB; have HO_5 := n0_; have HO_8 := n1_; have HO_10 := n2_; have HL622_0 := n3_; have HL623_0 := n4_; have HL626_0 := n5_; have BK605 := n6_; have HB := n7_; clear n0_ n1_ n2_ n3_ n4_ n5_ n6_ n7_; (try (have HP58 := Kd.R_putg HO_10.out ((rd (rd_L1 t614 x12_3) x13_4) : Int) (wrap64 (x12_3 + 1)))))); refine store_event (t := 3) (p := 133) (v := ?vo_w59) (w1 := (wr.setCell ⟨go56, ((rd (rd_L1 t614 x12_3) x13_4) : Int).toNat, none⟩ (.int .i64 (wrap64 (x12_3 + 1))))) ?hg ?ho ?hn ?hr ?_; (case ho => rfl); (case hg => rfl); (case hn => rfl); (case hr => first | (go_simp; done) | (go_simp; rfl)); intro w59 hw; have hg : wr.grownBy w59 (some go56) := (by rw [hw]; exact HP58.2); have hp_ : Kd.R (Kd.int .i64) 3 w59 w.heap.size (fun k_ => some k_ ≠ (v610 : Value).ownBlock) (.slice (some ⟨go56, 0, none⟩) x10_4.length co57) y631 := (by rw [hw, Ny631.out]; exact HP58.1); clear HP58; have n0_ := Aside0.mk (Kd.R_after (v := (.slice (some ⟨go56, 0, none⟩) x10_4.length co57)) (v1 := (.slice (some ⟨go56, 0, none⟩) x10_4.length co57)) (ok := (fun _ => True)) (by (with_reducible repeat (first | apply Kd.R_alloc | apply Kd.R_drewN | apply Kd.R_drew)); exact Kd.R_mono HO_5.out (fun _ hk => ⟨trivial, hk⟩)) hg (.inl rfl)); have n1_ := Aside0.mk (Kd.S_after (v := (.slice (some ⟨go56, 0, none⟩) x10_4.length co57)) (v1 := (.slice (some ⟨go56, 0, none⟩) x10_4.length co57)) (ok := (fun k_ => some k_ ≠ (v610 : Value).ownBlock)) (by (with_reducible repeat (first | apply Kd.S_alloc | apply Kd.S_drewN | apply Kd.S_drew)); exact HO_8.out) hg (.inl rfl)); have n2_ := Aside0.mk (hp_); have n3_ := Aside0.mk (blk_grown (g := gb605) (o := .cells #[.int .i64 a1_0, .int .i64 a1_1] 24 (0, 0)) (by (with_reducible repeat (first | apply kdn | apply kdr | apply kal)); exact BK605.out) hg (Kd.R_ne HO_10.out BK605.out (by decide))); have n4_ := Aside0.mk (Kd.R_after (v := (.slice (some ⟨go56, 0, none⟩) x10_4.length co57)) (v1 := (.slice (some ⟨go56, 0, none⟩) x10_4.length co57)) (ok := (fun k_ => some k_ ≠ (v610 : Value).ownBlock ∧ some k_ ≠ (.slice (some ad622) t614.length co30 : Value).ownBlock)) (by (with_reducible repeat (first | apply Kd.R_alloc | apply Kd.R_drewN | apply Kd.R_drew)); exact Kd.R_mono HL622_0.out (fun _ hk => ⟨⟨hk.1.1, hk.2⟩, hk.1.2⟩)) hg (.inl rfl)); have n5_ := Aside0.mk (Kd.R_after (v := (.slice (some ⟨go56, 0, none⟩) x10_4.length co57)) (v1 := (.slice (some ⟨go56, 0, none⟩) x10_4.length co57)) (ok := (fun k_ => some k_ ≠ (v610 : Value).ownBlock ∧ some k_ ≠ (.slice (some ad622) t614.length co30 : Value).ownBlock)) (by (with_reducible repeat (first | apply Kd.R_alloc | apply Kd.R_drewN | apply Kd.R_drew)); exact Kd.R_mono HL623_0.out (fun _ hk => ⟨⟨hk.1.1, hk.2⟩, hk.1.2⟩)) hg (.inl rfl)); have n6_ := Aside0.mk (Kd.R_after (v := (.slice (some ⟨go56, 0, none⟩) x10_4.length co57)) (v1 := (.slice (some ⟨go56, 0, none⟩) x10_4.length co57)) (ok := (fun k_ => some k_ ≠ (v610 : Value).ownBlock ∧ some k_ ≠ (.slice (some ad622) t614.length co30 : Value).ownBlock)) (by (with_reducible repeat (first | apply Kd.R_alloc | apply Kd.R_drewN | apply Kd.R_drew)); exact Kd.R_mono HL626_0.out (fun _ hk => ⟨⟨hk.1.1, hk.2⟩, hk.1.2⟩)) hg (.inl rfl)); have n7_ := Aside0.mk ((by rw [hw]; exact below_set (HB.out) GB56.out : Below w.heap.size w w59)); clear HO_5; clear HO_8; clear HO_10; clear BK605; clear HL622_0; clear HL623_0; clear HL626_0; clear HB; have HO_5 := n0_; have HO_8 := n1_; have HO_10 := n2_; have BK605 := n3_; have HL622_0 := n4_; have HL623_0 := n5_; have HL626_0 := n6_; have HB := n7_; clear n0_ n1_ n2_ n3_ n4_ n5_ n6_ n7_; clear hg hw hp_)); try go_wp2_with (first | ((with_reducible refine gate_store (t := 3) (p := 133) rfl ?_); (try (rw [drewN_self wr]; generalize hq_ : World.drewN wr _ = wr; have n0_ := Aside0.mk (Kd.R_at hq_ HO_5.out); have n1_ := Aside0.mk (Kd.S_at hq_ HO_8.out); have n2_ := Aside0.mk (Kd.R_at hq_ HO_10.out); have n3_ := Aside0.mk (Kd.R_at hq_ HL622_0.out); have n4_ := Aside0.mk (Kd.R_at hq_ HL623_0.out); have n5_ := Aside0.mk (Kd.R_at hq_ HL626_0.out); have n6_ := Aside0.mk (blk_at hq_ BK605.out); have n7_ := Aside0.mk (below_at hq_ HB.out); clear hq_ HO_5 HO_8 HO_10 HL622_0 HL623_0 HL626_0 BK605 HB; have HO_5 := n0_; have HO_8 := n1_; have HO_10 := n2_; have HL622_0 := n3_; have HL623_0 := n4_; have HL626_0 := n5_; have BK605 := n6_; have HB := n7_; clear n0_ n1_ n2_ n3_ n4_ n5_ n6_ n7_; (try (have HP58 := Kd.R_putg HO_10.out ((rd (rd_L1 t614 x12_3) x13_4) : Int) (wrap64 (x12_3 + 1)))))); refine store_event (t := 3) (p := 133) (v := ?vo_w59) (w1 := (wr.setCell ⟨go56, ((rd (rd_L1 t614 x12_3) x13_4) : Int).toNat, none⟩ (.int .i64 (wrap64 (x12_3 + 1))))) ?hg ?ho ?hn ?hr ?_; (case ho => rfl); (case hg => rfl); (case hn => rfl); (case hr => first | (go_simp; done) | (go_simp; rfl)); intro w59 hw; have hg : wr.grownBy w59 (some go56) := (by rw [hw]; exact HP58.2); have hp_ : Kd.R (Kd.int .i64) 3 w59 w.heap.size (fun k_ => some k_ ≠ (v610 : Value).ownBlock) (.slice (some ⟨go56, 0, none⟩) x10_4.length co57) y631 := (by rw [hw, Ny631.out]; exact HP58.1); clear HP58; have n0_ := Aside0.mk (Kd.R_after (v := (.slice (some ⟨go56, 0, none⟩) x10_4.length co57)) (v1 := (.slice (some ⟨go56, 0, none⟩) x10_4.length co57)) (ok := (fun _ => True)) (by (with_reducible repeat (first | apply Kd.R_alloc | apply Kd.R_drewN | apply Kd.R_drew)); exact Kd.R_mono HO_5.out (fun _ hk => ⟨trivial, hk⟩)) hg (.inl rfl)); have n1_ := Aside0.mk (Kd.S_after (v := (.slice (some ⟨go56, 0, none⟩) x10_4.length co57)) (v1 := (.slice (some ⟨go56, 0, none⟩) x10_4.length co57)) (ok := (fun k_ => some k_ ≠ (v610 : Value).ownBlock)) (by (with_reducible repeat (first | apply Kd.S_alloc | apply Kd.S_drewN | apply Kd.S_drew)); exact HO_8.out) hg (.inl rfl)); have n2_ := Aside0.mk (hp_); have n3_ := Aside0.mk (blk_grown (g := gb605) (o := .cells #[.int .i64 a1_0, .int .i64 a1_1] 24 (0, 0)) (by (with_reducible repeat (first | apply kdn | apply kdr | apply kal)); exact BK605.out) hg (Kd.R_ne HO_10.out BK605.out (by decide))); have n4_ := Aside0.mk (Kd.R_after (v := (.slice (some ⟨go56, 0, none⟩) x10_4.length co57)) (v1 := (.slice (some ⟨go56, 0, none⟩) x10_4.length co57)) (ok := (fun k_ => some k_ ≠ (v610 : Value).ownBlock ∧ some k_ ≠ (.slice (some ad622) t614.length co30 : Value).ownBlock)) (by (with_reducible repeat (first | apply Kd.R_alloc | apply Kd.R_drewN | apply Kd.R_drew)); exact Kd.R_mono HL622_0.out (fun _ hk => ⟨⟨hk.1.1, hk.2⟩, hk.1.2⟩)) hg (.inl rfl)); have n5_ := Aside0.mk (Kd.R_after (v := (.slice (some ⟨go56, 0, none⟩) x10_4.length co57)) (v1 := (.slice (some ⟨go56, 0, none⟩) x10_4.length co57)) (ok := (fun k_ => some k_ ≠ (v610 : Value).ownBlock ∧ some k_ ≠ (.slice (some ad622) t614.length co30 : Value).ownBlock)) (by (with_reducible repeat (first | apply Kd.R_alloc | apply Kd.R_drewN | apply Kd.R_drew)); exact Kd.R_mono HL623_0.out (fun _ hk => ⟨⟨hk.1.1, hk.2⟩, hk.1.2⟩)) hg (.inl rfl)); have n6_ := Aside0.mk (Kd.R_after (v := (.slice (some ⟨go56, 0, none⟩) x10_4.length co57)) (v1 := (.slice (some ⟨go56, 0, none⟩) x10_4.length co57)) (ok := (fun k_ => some k_ ≠ (v610 : Value).ownBlock ∧ some k_ ≠ (.slice (some ad622) t614.length co30 : Value).ownBlock)) (by (with_reducible repeat (first | apply Kd.R_alloc | apply Kd.R_drewN | apply Kd.R_drew)); exact Kd.R_mono HL626_0.out (fun _ hk => ⟨⟨hk.1.1, hk.2⟩, hk.1.2⟩)) hg (.inl rfl)); have n7_ := Aside0.mk ((by rw [hw]; exact below_set (HB.out) GB56.out : Below w.heap.size w w59)); clear HO_5; clear HO_8; clear HO_10; clear BK605; clear HL622_0; clear HL623_0; clear HL626_0; clear HB; have HO_5 := n0_; have HO_8 := n1_; have HO_10 := n2_; have BK605 := n3_; have HL622_0 := n4_; have HL623_0 := n5_; have HL626_0 := n6_; have HB := n7_; clear n0_ n1_ n2_ n3_ n4_ n5_ n6_ n7_; clear hg hw hp_)))
                             go_roundg k4
                             case measure => have := HJ2.out; have := HJ14.out; have := HK3.out; have := HK4.out; omega
                             case rel => exact ⟨(y631), (wrap64 (x11_4 + 1)), (wrap64 (x13_4 + 1)), (by first | rfl | (simp; done) | (simp [*]; done)), (by first | rfl | (simp; done) | (simp [*]; done)), H', ⟨by have := HJ2.out; have := HJ14.out; have := HK3.out; have := HK4.out; omega⟩, ⟨by (with_reducible repeat (first | apply Kd.R_alloc | apply Kd.R_drewN | apply Kd.R_drew)); exact Kd.R_mono HO_5.out (fun _ hk => hk.2)⟩, ⟨by (with_reducible repeat (first | apply Kd.S_alloc | apply Kd.S_drewN | apply Kd.S_drew)); exact HO_8.out⟩, ⟨by (with_reducible repeat (first | apply Kd.R_alloc | apply Kd.R_drewN | apply Kd.R_drew)); exact HO_10.out⟩, ⟨by (with_reducible repeat (first | apply kdn | apply kdr | apply kal)); exact BK605.out⟩, ⟨by repeat (first | (with_reducible first | exact HB.out | apply lal | apply ldn | apply ldr | refine below_set ?_ GE605.out) | exact HB.out)⟩⟩
                           ·rw [if_neg c45] at H
                            have c45b0 : (x13_4 == 0) = false := beq_eq_false_iff_ne.mpr c45
                            have c45b1 : (x13_4 != 0) = true := bne_iff_ne.mpr c45
                            obtain ⟨y632, hy632⟩ : ∃ y_ : List Int, y_ = (x10_4.set ((rd (rd_L1 t614 x12_3) x13_4) : Int).toNat (wrap64 (x12_3 + 1))) := ⟨_, rfl⟩
                            replace H : (trishawlaw06_TripRings.l1 k4 l0 t609 t614 y632 (wrap64 (x11_4 + 1)) x12_3 (wrap64 (x13_4 + 1))) = some r := by first | (rw [hy632]; with_reducible exact H) | (have H2_ := (Option.bind_some _ _).symm.trans H; rw [hy632]; with_reducible exact H2_) | (have H2_ := (Option.bind_some _ _).symm.trans H; with_reducible exact H2_) | with_reducible exact H | (rw [hy632]; exact H) | exact H
                            have Ny632 := Aside0.mk hy632
                            clear hy632
                            have H' := Aside0.mk H
                            clear H
                            have p622 : 0 ≤ (x12_3 : Int) := of_decide_eq_true (by first | (with_reducible assumption) | assumption)
                            have q622 : x12_3 < (t614.length : Int) := of_decide_eq_true (by first | (with_reducible assumption) | assumption)
                            obtain ⟨ad622, A622_0, c622_0, e622, hx622_0, hl622_0, hi622_0⟩ := at_L1 (Kd.S_reads' HO_8.out).2.2 x12_3 p622 q622
                            cases e622
                            obtain ⟨ce622, hce622, hMe622, hcc622⟩ := Kd.S_get HO_8.out [] x12_3 p622 (by first | exact q622 | exact of_decide_eq_true (by first | (with_reducible assumption) | assumption) | (have e_ := (Kd.S_reads' HO_8.out).1; omega))
                            obtain ⟨ve622_0, rfl, ge622_0⟩ := hMe622
                            have hv622_0 := hcc622 0 _ rfl
                            rw [Nat.add_zero, show ((Kd.slice 3 (Kd.int .i64))).sz = 1 from rfl, Nat.mul_one] at hv622_0
                            replace hv622_0 := Option.some.inj (hv622_0.symm.trans hx622_0)
                            rw [hv622_0] at ge622_0
                            have HL622_0 := Aside0.mk (show Kd.R (Kd.int .i64) 3 _ _ _ _ (rd_L1 t614 x12_3) from ge622_0)
                            clear hv622_0 ge622_0
                            clear hcc622 hce622
                            have HR622_0 := Aside0.mk hi622_0
                            have HC622_0 := Aside0.mk hl622_0
                            clear hi622_0 hl622_0
                            replace p622 := eq_true p622
                            replace q622 := eq_true q622
                            have p623 : 0 ≤ (x12_3 : Int) := of_decide_eq_true (by first | (with_reducible assumption) | assumption)
                            have q623 : x12_3 < (t614.length : Int) := of_decide_eq_true (by first | (with_reducible assumption) | assumption)
                            obtain ⟨ad623, A623_0, c623_0, e623, hx623_0, hl623_0, hi623_0⟩ := at_L1 (Kd.S_reads' HO_8.out).2.2 x12_3 p623 q623
                            obtain rfl : ad622 = ad623 := (by injection e623)
                            obtain ⟨ce623, hce623, hMe623, hcc623⟩ := Kd.S_get HO_8.out [] x12_3 p623 (by first | exact q623 | exact of_decide_eq_true (by first | (with_reducible assumption) | assumption) | (have e_ := (Kd.S_reads' HO_8.out).1; omega))
                            obtain ⟨ve623_0, rfl, ge623_0⟩ := hMe623
                            have hv623_0 := hcc623 0 _ rfl
                            rw [Nat.add_zero, show ((Kd.slice 3 (Kd.int .i64))).sz = 1 from rfl, Nat.mul_one] at hv623_0
                            replace hv623_0 := Option.some.inj (hv623_0.symm.trans hx623_0)
                            rw [hv623_0] at ge623_0
                            have HL623_0 := Aside0.mk (show Kd.R (Kd.int .i64) 3 _ _ _ _ (rd_L1 t614 x12_3) from ge623_0)
                            clear hv623_0 ge623_0
                            clear hcc623 hce623
                            have HR623_0 := Aside0.mk hi623_0
                            have HC623_0 := Aside0.mk hl623_0
                            clear hi623_0 hl623_0
                            replace p623 := eq_true p623
                            replace q623 := eq_true q623
                            have ea_ := Option.some.inj (hx622_0.symm.trans hx623_0)
                            injection ea_ with ea_ en_ ec_
                            subst ea_
                            subst ec_
                            clear en_
                            have p624 : 0 ≤ (x13_4 : Int) := of_decide_eq_true (by first | (with_reducible assumption) | assumption)
                            have q624 : x13_4 < ((rd_L1 t614 x12_3).length : Int) := of_decide_eq_true (by first | (with_reducible assumption) | assumption)
                            obtain ⟨ad624, e624, hx624_0⟩ := Kd.at_int (by repeat (first | (with_reducible exact HR623_0.out) | (with_reducible refine Kd.C_alloc ?_ _) | (with_reducible refine Kd.C_drewN ?_ _) | (with_reducible refine Kd.C_drew ?_) | exact HR623_0.out)) x13_4 p624 q624
                            cases e624
                            replace p624 := eq_true p624
                            replace q624 := eq_true q624
                            obtain ⟨Ao61, co61, eo61⟩ := Kd.R_slice HO_10.out
                            subst eo61
                            have p625 : 0 ≤ ((rd (rd_L1 t614 x12_3) x13_4) : Int) := of_decide_eq_true (by first | (with_reducible assumption) | assumption)
                            have q625 : (rd (rd_L1 t614 x12_3) x13_4) < (x10_4.length : Int) := of_decide_eq_true (by first | (with_reducible assumption) | assumption)
                            obtain ⟨ad625, e625, hx625_0⟩ := Kd.at_int (Kd.R_reads' HO_10.out).2.2 (rd (rd_L1 t614 x12_3) x13_4) p625 q625
                            cases e625
                            replace p625 := eq_true p625
                            replace q625 := eq_true q625
                            have p626 : 0 ≤ (x12_3 : Int) := of_decide_eq_true (by first | (with_reducible assumption) | assumption)
                            have q626 : x12_3 < (t614.length : Int) := of_decide_eq_true (by first | (with_reducible assumption) | assumption)
                            obtain ⟨ad626, A626_0, c626_0, e626, hx626_0, hl626_0, hi626_0⟩ := at_L1 (Kd.S_reads' HO_8.out).2.2 x12_3 p626 q626
                            obtain rfl : ad622 = ad626 := (by injection e626)
                            obtain ⟨ce626, hce626, hMe626, hcc626⟩ := Kd.S_get HO_8.out [] x12_3 p626 (by first | exact q626 | exact of_decide_eq_true (by first | (with_reducible assumption) | assumption) | (have e_ := (Kd.S_reads' HO_8.out).1; omega))
                            obtain ⟨ve626_0, rfl, ge626_0⟩ := hMe626
                            have hv626_0 := hcc626 0 _ rfl
                            rw [Nat.add_zero, show ((Kd.slice 3 (Kd.int .i64))).sz = 1 from rfl, Nat.mul_one] at hv626_0
                            replace hv626_0 := Option.some.inj (hv626_0.symm.trans hx626_0)
                            rw [hv626_0] at ge626_0
                            have HL626_0 := Aside0.mk (show Kd.R (Kd.int .i64) 3 _ _ _ _ (rd_L1 t614 x12_3) from ge626_0)
                            clear hv626_0 ge626_0
                            clear hcc626 hce626
                            have HR626_0 := Aside0.mk hi626_0
                            have HC626_0 := Aside0.mk hl626_0
                            clear hi626_0 hl626_0
                            replace p626 := eq_true p626
                            replace q626 := eq_true q626
                            have ea_ := Option.some.inj (hx622_0.symm.trans hx626_0)
                            injection ea_ with ea_ en_ ec_
                            subst ea_
                            subst ec_
                            clear en_
                            have p627 : 0 ≤ ((ji41) : Int) := of_decide_eq_true (by first | (with_reducible assumption) | assumption)
                            have q627 : (ji41) < ((rd_L1 t614 x12_3).length : Int) := of_decide_eq_true (by first | (with_reducible assumption) | assumption)
                            obtain ⟨ad627, e627, hx627_0⟩ := Kd.at_int (by repeat (first | (with_reducible exact HR626_0.out) | (with_reducible refine Kd.C_alloc ?_ _) | (with_reducible refine Kd.C_drewN ?_ _) | (with_reducible refine Kd.C_drew ?_) | exact HR626_0.out)) (ji41) p627 q627
                            cases e627
                            replace p627 := eq_true p627
                            replace q627 := eq_true q627
                            have p60 : 0 ≤ ((rd (rd_L1 t614 x12_3) x13_4) : Int) := of_decide_eq_true (by first | (with_reducible assumption) | assumption)
                            have q60 : ((rd (rd_L1 t614 x12_3) x13_4) : Int) < ((x10_4.length : Int) : Int) := of_decide_eq_true (by first | (with_reducible assumption) | assumption)
                            obtain ⟨go60, co60, eo60, gb60, gl60, cl60, HG60⟩ := Kd.R_form HO_10.out (by omega)
                            (first | cases eo60 | (injection eo60 with ea_ en_ ec_; (first | subst ea_ | (injection ea_ with ea_; subst ea_)); subst ec_; clear en_))
                            have GB60 := Aside0.mk gb60
                            have GG60 := Aside0.mk HG60
                            clear gb60 gl60 HG60
                            (first | simp only [add_plain] at hx625_0 | skip)
                            obtain ⟨hx60_0, hf60_0⟩ := Kd.R_celln 0 HO_10.out ((rd (rd_L1 t614 x12_3) x13_4) : Int) p60 q60
                            replace p60 := eq_true p60
                            replace q60 := eq_true q60
                            have HP62 := Kd.R_putg HO_10.out ((rd (rd_L1 t614 x12_3) x13_4) : Int) (wrap64 (x12_3 + 1))
                            go_wp2_with (first | ((with_reducible refine gate_store (t := 3) (p := 133) rfl ?_); (try (rw [drewN_self wr]; generalize hq_ : World.drewN wr _ = wr; have n0_ := Aside0.mk (Kd.R_at hq_ HO_5.out); have n1_ := Aside0.mk (Kd.S_at hq_ HO_8.out); have n2_ := Aside0.mk (Kd.R_at hq_ HO_10.out); have n3_ := Aside0.mk (Kd.R_at hq_ HL622_0.out); have n4_ := Aside0.mk (Kd.R_at hq_ HL623_0.out); have n5_ := Aside0.mk (Kd.R_at hq_ HL626_0.out); have n6_ := Aside0.mk (blk_at hq_ BK605.out); have n7_ := Aside0.mk (below_at hq_ HB.out); clear hq_ HO_5 HO_8 HO_10 HL622_0 HL623_0 HL626_0 BK605 HB; have HO_5 := n0_; have HO_8 := n1_; have HO_10 := n2_; have HL622_0 := n3_; have HL623_0 := n4_; have HL626_0 := n5_; have BK605 := n6_; have HB := n7_; clear n0_ n1_ n2_ n3_ n4_ n5_ n6_ n7_; (try (have HP62 := Kd.R_putg HO_10.out ((rd (rd_L1 t614 x12_3) x13_4) : Int) (wrap64 (x12_3 + 1)))))); refine store_event (t := 3) (p := 133) (v := ?vo_w63) (w1 := (wr.setCell ⟨go60, ((rd (rd_L1 t614 x12_3) x13_4) : Int).toNat, none⟩ (.int .i64 (wrap64 (x12_3 + 1))))) ?hg ?ho ?hn ?hr ?_; (case ho => rfl); (case hg => rfl); (case hn => rfl); (case hr => first | (go_simp; done) | (go_simp; rfl)); intro w63 hw; have hg : wr.grownBy w63 (some go60) := (by rw [hw]; exact HP62.2); have hp_ : Kd.R (Kd.int .i64) 3 w63 w.heap.size (fun k_ => some k_ ≠ (v610 : Value).ownBlock) (.slice (some ⟨go60, 0, none⟩) x10_4.length co61) y632 := (by rw [hw, Ny632.out]; exact HP62.1); clear HP62; have n0_ := Aside0.mk (Kd.R_after (v := (.slice (some ⟨go60, 0, none⟩) x10_4.length co61)) (v1 := (.slice (some ⟨go60, 0, none⟩) x10_4.length co61)) (ok := (fun _ => True)) (by (with_reducible repeat (first | apply Kd.R_alloc | apply Kd.R_drewN | apply Kd.R_drew)); exact Kd.R_mono HO_5.out (fun _ hk => ⟨trivial, hk⟩)) hg (.inl rfl)); have n1_ := Aside0.mk (Kd.S_after (v := (.slice (some ⟨go60, 0, none⟩) x10_4.length co61)) (v1 := (.slice (some ⟨go60, 0, none⟩) x10_4.length co61)) (ok := (fun k_ => some k_ ≠ (v610 : Value).ownBlock)) (by (with_reducible repeat (first | apply Kd.S_alloc | apply Kd.S_drewN | apply Kd.S_drew)); exact HO_8.out) hg (.inl rfl)); have n2_ := Aside0.mk (hp_); have n3_ := Aside0.mk (blk_grown (g := gb605) (o := .cells #[.int .i64 a1_0, .int .i64 a1_1] 24 (0, 0)) (by (with_reducible repeat (first | apply kdn | apply kdr | apply kal)); exact BK605.out) hg (Kd.R_ne HO_10.out BK605.out (by decide))); have n4_ := Aside0.mk (Kd.R_after (v := (.slice (some ⟨go60, 0, none⟩) x10_4.length co61)) (v1 := (.slice (some ⟨go60, 0, none⟩) x10_4.length co61)) (ok := (fun k_ => some k_ ≠ (v610 : Value).ownBlock ∧ some k_ ≠ (.slice (some ad622) t614.length co30 : Value).ownBlock)) (by (with_reducible repeat (first | apply Kd.R_alloc | apply Kd.R_drewN | apply Kd.R_drew)); exact Kd.R_mono HL622_0.out (fun _ hk => ⟨⟨hk.1.1, hk.2⟩, hk.1.2⟩)) hg (.inl rfl)); have n5_ := Aside0.mk (Kd.R_after (v := (.slice (some ⟨go60, 0, none⟩) x10_4.length co61)) (v1 := (.slice (some ⟨go60, 0, none⟩) x10_4.length co61)) (ok := (fun k_ => some k_ ≠ (v610 : Value).ownBlock ∧ some k_ ≠ (.slice (some ad622) t614.length co30 : Value).ownBlock)) (by (with_reducible repeat (first | apply Kd.R_alloc | apply Kd.R_drewN | apply Kd.R_drew)); exact Kd.R_mono HL623_0.out (fun _ hk => ⟨⟨hk.1.1, hk.2⟩, hk.1.2⟩)) hg (.inl rfl)); have n6_ := Aside0.mk (Kd.R_after (v := (.slice (some ⟨go60, 0, none⟩) x10_4.length co61)) (v1 := (.slice (some ⟨go60, 0, none⟩) x10_4.length co61)) (ok := (fun k_ => some k_ ≠ (v610 : Value).ownBlock ∧ some k_ ≠ (.slice (some ad622) t614.length co30 : Value).ownBlock)) (by (with_reducible repeat (first | apply Kd.R_alloc | apply Kd.R_drewN | apply Kd.R_drew)); exact Kd.R_mono HL626_0.out (fun _ hk => ⟨⟨hk.1.1, hk.2⟩, hk.1.2⟩)) hg (.inl rfl)); have n7_ := Aside0.mk ((by rw [hw]; exact below_set (HB.out) GB60.out : Below w.heap.size w w63)); clear HO_5; clear HO_8; clear HO_10; clear BK605; clear HL622_0; clear HL623_0; clear HL626_0; clear HB; have HO_5 := n0_; have HO_8 := n1_; have HO_10 := n2_; have BK605 := n3_; have HL622_0 := n4_; have HL623_0 := n5_; have HL626_0 := n6_; have HB := n7_; clear n0_ n1_ n2_ n3_ n4_ n5_ n6_ n7_; clear hg hw hp_))
                            repeat (go_quiet (first | ((with_reducible refine gate_store (t := 3) (p := 133) rfl ?_); (try (rw [drewN_self wr]; generalize hq_ : World.drewN wr _ = wr; have n0_ := Aside0.mk (Kd.R_at hq_ HO_5.out); have n1_ := Aside0.mk (Kd.S_at hq_ HO_8.out); have n2_ := Aside0.mk (Kd.R_at hq_ HO_10.out); have n3_ := Aside0.mk (Kd.R_at hq_ HL622_0.out); have n4_ := Aside0.mk (Kd.R_at hq_ HL623_0.out); have n5_ := Aside0.mk (Kd.R_at hq_ HL626_0.out); have n6_ := Aside0.mk (blk_at hq_ BK605.out); have n7_ := Aside0.mk (below_at hq_ HB.out); clear hq_ HO_5 HO_8 HO_10 HL622_0 HL623_0 HL626_0 BK605 HB; have HO_5 := n0_; have HO_8 := n1_; have HO_10 := n2_; have HL622_0 := n3_; have HL623_0 := n4_; have HL626_0 := n5_; have BK605 := n6_; have HB := n7_; clear n0_ n1_ n2_ n3_ n4_ n5_ n6_ n7_; (try (have HP62 := Kd.R_putg HO_10.out ((rd (rd_L1 t614 x12_3) x13_4) : Int) (wrap64 (x12_3 + 1)))))); refine store_event (t := 3) (p := 133) (v := ?vo_w63) (w1 := (wr.setCell ⟨go60, ((rd (rd_L1 t614 x12_3) x13_4) : Int).toNat, none⟩ (.int .i64 (wrap64 (x12_3 + 1))))) ?hg ?ho ?hn ?hr ?_; (case ho => rfl); (case hg => rfl); (case hn => rfl); (case hr => first | (go_simp; done) | (go_simp; rfl)); intro w63 hw; have hg : wr.grownBy w63 (some go60) := (by rw [hw]; exact HP62.2); have hp_ : Kd.R (Kd.int .i64) 3 w63 w.heap.size (fun k_ => some k_ ≠ (v610 : Value).ownBlock) (.slice (some ⟨go60, 0, none⟩) x10_4.length co61) y632 := (by rw [hw, Ny632.out]; exact HP62.1); clear HP62; have n0_ := Aside0.mk (Kd.R_after (v := (.slice (some ⟨go60, 0, none⟩) x10_4.length co61)) (v1 := (.slice (some ⟨go60, 0, none⟩) x10_4.length co61)) (ok := (fun _ => True)) (by (with_reducible repeat (first | apply Kd.R_alloc | apply Kd.R_drewN | apply Kd.R_drew)); exact Kd.R_mono HO_5.out (fun _ hk => ⟨trivial, hk⟩)) hg (.inl rfl)); have n1_ := Aside0.mk (Kd.S_after (v := (.slice (some ⟨go60, 0, none⟩) x10_4.length co61)) (v1 := (.slice (some ⟨go60, 0, none⟩) x10_4.length co61)) (ok := (fun k_ => some k_ ≠ (v610 : Value).ownBlock)) (by (with_reducible repeat (first | apply Kd.S_alloc | apply Kd.S_drewN | apply Kd.S_drew)); exact HO_8.out) hg (.inl rfl)); have n2_ := Aside0.mk (hp_); have n3_ := Aside0.mk (blk_grown (g := gb605) (o := .cells #[.int .i64 a1_0, .int .i64 a1_1] 24 (0, 0)) (by (with_reducible repeat (first | apply kdn | apply kdr | apply kal)); exact BK605.out) hg (Kd.R_ne HO_10.out BK605.out (by decide))); have n4_ := Aside0.mk (Kd.R_after (v := (.slice (some ⟨go60, 0, none⟩) x10_4.length co61)) (v1 := (.slice (some ⟨go60, 0, none⟩) x10_4.length co61)) (ok := (fun k_ => some k_ ≠ (v610 : Value).ownBlock ∧ some k_ ≠ (.slice (some ad622) t614.length co30 : Value).ownBlock)) (by (with_reducible repeat (first | apply Kd.R_alloc | apply Kd.R_drewN | apply Kd.R_drew)); exact Kd.R_mono HL622_0.out (fun _ hk => ⟨⟨hk.1.1, hk.2⟩, hk.1.2⟩)) hg (.inl rfl)); have n5_ := Aside0.mk (Kd.R_after (v := (.slice (some ⟨go60, 0, none⟩) x10_4.length co61)) (v1 := (.slice (some ⟨go60, 0, none⟩) x10_4.length co61)) (ok := (fun k_ => some k_ ≠ (v610 : Value).ownBlock ∧ some k_ ≠ (.slice (some ad622) t614.length co30 : Value).ownBlock)) (by (with_reducible repeat (first | apply Kd.R_alloc | apply Kd.R_drewN | apply Kd.R_drew)); exact Kd.R_mono HL623_0.out (fun _ hk => ⟨⟨hk.1.1, hk.2⟩, hk.1.2⟩)) hg (.inl rfl)); have n6_ := Aside0.mk (Kd.R_after (v := (.slice (some ⟨go60, 0, none⟩) x10_4.length co61)) (v1 := (.slice (some ⟨go60, 0, none⟩) x10_4.length co61)) (ok := (fun k_ => some k_ ≠ (v610 : Value).ownBlock ∧ some k_ ≠ (.slice (some ad622) t614.length co30 : Value).ownBlock)) (by (with_reducible repeat (first | apply Kd.R_alloc | apply Kd.R_drewN | apply Kd.R_drew)); exact Kd.R_mono HL626_0.out (fun _ hk => ⟨⟨hk.1.1, hk.2⟩, hk.1.2⟩)) hg (.inl rfl)); have n7_ := Aside0.mk ((by rw [hw]; exact below_set (HB.out) GB60.out : Below w.heap.size w w63)); clear HO_5; clear HO_8; clear HO_10; clear BK605; clear HL622_0; clear HL623_0; clear HL626_0; clear HB; have HO_5 := n0_; have HO_8 := n1_; have HO_10 := n2_; have BK605 := n3_; have HL622_0 := n4_; have HL623_0 := n5_; have HL626_0 := n6_; have HB := n7_; clear n0_ n1_ n2_ n3_ n4_ n5_ n6_ n7_; clear hg hw hp_)); try go_wp2_with (first | ((with_reducible refine gate_store (t := 3) (p := 133) rfl ?_); (try (rw [drewN_self wr]; generalize hq_ : World.drewN wr _ = wr; have n0_ := Aside0.mk (Kd.R_at hq_ HO_5.out); have n1_ := Aside0.mk (Kd.S_at hq_ HO_8.out); have n2_ := Aside0.mk (Kd.R_at hq_ HO_10.out); have n3_ := Aside0.mk (Kd.R_at hq_ HL622_0.out); have n4_ := Aside0.mk (Kd.R_at hq_ HL623_0.out); have n5_ := Aside0.mk (Kd.R_at hq_ HL626_0.out); have n6_ := Aside0.mk (blk_at hq_ BK605.out); have n7_ := Aside0.mk (below_at hq_ HB.out); clear hq_ HO_5 HO_8 HO_10 HL622_0 HL623_0 HL626_0 BK605 HB; have HO_5 := n0_; have HO_8 := n1_; have HO_10 := n2_; have HL622_0 := n3_; have HL623_0 := n4_; have HL626_0 := n5_; have BK605 := n6_; have HB := n7_; clear n0_ n1_ n2_ n3_ n4_ n5_ n6_ n7_; (try (have HP62 := Kd.R_putg HO_10.out ((rd (rd_L1 t614 x12_3) x13_4) : Int) (wrap64 (x12_3 + 1)))))); refine store_event (t := 3) (p := 133) (v := ?vo_w63) (w1 := (wr.setCell ⟨go60, ((rd (rd_L1 t614 x12_3) x13_4) : Int).toNat, none⟩ (.int .i64 (wrap64 (x12_3 + 1))))) ?hg ?ho ?hn ?hr ?_; (case ho => rfl); (case hg => rfl); (case hn => rfl); (case hr => first | (go_simp; done) | (go_simp; rfl)); intro w63 hw; have hg : wr.grownBy w63 (some go60) := (by rw [hw]; exact HP62.2); have hp_ : Kd.R (Kd.int .i64) 3 w63 w.heap.size (fun k_ => some k_ ≠ (v610 : Value).ownBlock) (.slice (some ⟨go60, 0, none⟩) x10_4.length co61) y632 := (by rw [hw, Ny632.out]; exact HP62.1); clear HP62; have n0_ := Aside0.mk (Kd.R_after (v := (.slice (some ⟨go60, 0, none⟩) x10_4.length co61)) (v1 := (.slice (some ⟨go60, 0, none⟩) x10_4.length co61)) (ok := (fun _ => True)) (by (with_reducible repeat (first | apply Kd.R_alloc | apply Kd.R_drewN | apply Kd.R_drew)); exact Kd.R_mono HO_5.out (fun _ hk => ⟨trivial, hk⟩)) hg (.inl rfl)); have n1_ := Aside0.mk (Kd.S_after (v := (.slice (some ⟨go60, 0, none⟩) x10_4.length co61)) (v1 := (.slice (some ⟨go60, 0, none⟩) x10_4.length co61)) (ok := (fun k_ => some k_ ≠ (v610 : Value).ownBlock)) (by (with_reducible repeat (first | apply Kd.S_alloc | apply Kd.S_drewN | apply Kd.S_drew)); exact HO_8.out) hg (.inl rfl)); have n2_ := Aside0.mk (hp_); have n3_ := Aside0.mk (blk_grown (g := gb605) (o := .cells #[.int .i64 a1_0, .int .i64 a1_1] 24 (0, 0)) (by (with_reducible repeat (first | apply kdn | apply kdr | apply kal)); exact BK605.out) hg (Kd.R_ne HO_10.out BK605.out (by decide))); have n4_ := Aside0.mk (Kd.R_after (v := (.slice (some ⟨go60, 0, none⟩) x10_4.length co61)) (v1 := (.slice (some ⟨go60, 0, none⟩) x10_4.length co61)) (ok := (fun k_ => some k_ ≠ (v610 : Value).ownBlock ∧ some k_ ≠ (.slice (some ad622) t614.length co30 : Value).ownBlock)) (by (with_reducible repeat (first | apply Kd.R_alloc | apply Kd.R_drewN | apply Kd.R_drew)); exact Kd.R_mono HL622_0.out (fun _ hk => ⟨⟨hk.1.1, hk.2⟩, hk.1.2⟩)) hg (.inl rfl)); have n5_ := Aside0.mk (Kd.R_after (v := (.slice (some ⟨go60, 0, none⟩) x10_4.length co61)) (v1 := (.slice (some ⟨go60, 0, none⟩) x10_4.length co61)) (ok := (fun k_ => some k_ ≠ (v610 : Value).ownBlock ∧ some k_ ≠ (.slice (some ad622) t614.length co30 : Value).ownBlock)) (by (with_reducible repeat (first | apply Kd.R_alloc | apply Kd.R_drewN | apply Kd.R_drew)); exact Kd.R_mono HL623_0.out (fun _ hk => ⟨⟨hk.1.1, hk.2⟩, hk.1.2⟩)) hg (.inl rfl)); have n6_ := Aside0.mk (Kd.R_after (v := (.slice (some ⟨go60, 0, none⟩) x10_4.length co61)) (v1 := (.slice (some ⟨go60, 0, none⟩) x10_4.length co61)) (ok := (fun k_ => some k_ ≠ (v610 : Value).ownBlock ∧ some k_ ≠ (.slice (some ad622) t614.length co30 : Value).ownBlock)) (by (with_reducible repeat (first | apply Kd.R_alloc | apply Kd.R_drewN | apply Kd.R_drew)); exact Kd.R_mono HL626_0.out (fun _ hk => ⟨⟨hk.1.1, hk.2⟩, hk.1.2⟩)) hg (.inl rfl)); have n7_ := Aside0.mk ((by rw [hw]; exact below_set (HB.out) GB60.out : Below w.heap.size w w63)); clear HO_5; clear HO_8; clear HO_10; clear BK605; clear HL622_0; clear HL623_0; clear HL626_0; clear HB; have HO_5 := n0_; have HO_8 := n1_; have HO_10 := n2_; have BK605 := n3_; have HL622_0 := n4_; have HL623_0 := n5_; have HL626_0 := n6_; have HB := n7_; clear n0_ n1_ n2_ n3_ n4_ n5_ n6_ n7_; clear hg hw hp_)))
                            go_roundg k4
                            case measure => have := HJ2.out; have := HJ14.out; have := HK3.out; have := HK4.out; omega
                            case rel => exact ⟨(y632), (wrap64 (x11_4 + 1)), (wrap64 (x13_4 + 1)), (by first | rfl | (simp; done) | (simp [*]; done)), (by first | rfl | (simp; done) | (simp [*]; done)), H', ⟨by have := HJ2.out; have := HJ14.out; have := HK3.out; have := HK4.out; omega⟩, ⟨by (with_reducible repeat (first | apply Kd.R_alloc | apply Kd.R_drewN | apply Kd.R_drew)); exact Kd.R_mono HO_5.out (fun _ hk => hk.2)⟩, ⟨by (with_reducible repeat (first | apply Kd.S_alloc | apply Kd.S_drewN | apply Kd.S_drew)); exact HO_8.out⟩, ⟨by (with_reducible repeat (first | apply Kd.R_alloc | apply Kd.R_drewN | apply Kd.R_drew)); exact HO_10.out⟩, ⟨by (with_reducible repeat (first | apply kdn | apply kdr | apply kal)); exact BK605.out⟩, ⟨by repeat (first | (with_reducible first | exact HB.out | apply lal | apply ldn | apply ldr | refine below_set ?_ GE605.out) | exact HB.out)⟩⟩
                         ·rw [if_neg c43] at H
                          exact absurd H (by simp)
                        ·rw [if_neg c42] at H
                         exact absurd H (by simp)
                       ·rw [if_neg c40] at H
                        have c40b0 : decide (0 < x13_4) = false := decide_eq_false c40
                        clear c40
                        by_cases c64 : x13_4 = 0
                        ·rw [if_pos c64] at H
                         have c64b0 : (x13_4 == 0) = true := beq_iff_eq.mpr c64
                         have c64b1 : (x13_4 != 0) = false := bne_eq_false_iff_eq.mpr c64
                         clear c64
                         by_cases c65 : x12_3 > 0
                         ·rw [if_pos c65] at H
                          have c65b0 : decide (0 < x12_3) = true := decide_eq_true c65
                          clear c65
                          obtain ⟨ji66, hji66⟩ : ∃ j_ : Int, (wrap64 (x12_3 - 1)) = j_ := ⟨_, rfl⟩
                          replace H : (if 0 ≤ (ji66) then (if (ji66) < (t614.length : Int) then (if 0 < ((rd_L1 t614 (ji66)).length : Int) then (if (rd (rd_L1 t614 x12_3) x13_4) ≤ (rd (rd_L1 t614 (ji66)) 0) then (none) else (trishawlaw06_TripRings.l1 k4 l0 t609 t614 (x10_4.set ((rd (rd_L1 t614 x12_3) x13_4) : Int).toNat (wrap64 (x12_3 + 1))) (wrap64 (x11_4 + 1)) x12_3 (wrap64 (x13_4 + 1)))) else (none)) else (none)) else (none)) = some r := by first | (rw [hji66] at H; exact H) | (simp only [hji66] at H ⊢; exact H)
                          have hji66w : (IntKind.i64.wrap (x12_3 - 1)) = ji66 := (i64_w _).trans hji66
                          by_cases c67 : 0 ≤ (ji66)
                          ·rw [if_pos c67] at H
                           have c67b0 : decide (0 ≤ (ji66)) = true := decide_eq_true c67
                           clear c67
                           by_cases c68 : (ji66) < (t614.length : Int)
                           ·rw [if_pos c68] at H
                            have c68b0 : decide ((ji66) < (t614.length : Int)) = true := decide_eq_true c68
                            clear c68
                            by_cases c69 : 0 < ((rd_L1 t614 (ji66)).length : Int)
                            ·rw [if_pos c69] at H
                             have c69b0 : decide (0 < ((rd_L1 t614 (ji66)).length : Int)) = true := decide_eq_true c69
                             have c69b1 : decide (0 < (rd_L1 t614 (ji66)).length) = true := decide_eq_true (by omega)
                             clear c69
                             by_cases c70 : (rd (rd_L1 t614 x12_3) x13_4) ≤ (rd (rd_L1 t614 (ji66)) 0)
                             ·rw [if_pos c70] at H
                              exact absurd H (by simp)
                             ·rw [if_neg c70] at H
                              have c70b0 : decide ((rd (rd_L1 t614 x12_3) x13_4) ≤ (rd (rd_L1 t614 (ji66)) 0)) = false := decide_eq_false c70
                              clear c70
                              obtain ⟨y635, hy635⟩ : ∃ y_ : List Int, y_ = (x10_4.set ((rd (rd_L1 t614 x12_3) x13_4) : Int).toNat (wrap64 (x12_3 + 1))) := ⟨_, rfl⟩
                              replace H : (trishawlaw06_TripRings.l1 k4 l0 t609 t614 y635 (wrap64 (x11_4 + 1)) x12_3 (wrap64 (x13_4 + 1))) = some r := by first | (rw [hy635]; with_reducible exact H) | (have H2_ := (Option.bind_some _ _).symm.trans H; rw [hy635]; with_reducible exact H2_) | (have H2_ := (Option.bind_some _ _).symm.trans H; with_reducible exact H2_) | with_reducible exact H | (rw [hy635]; exact H) | exact H
                              have Ny635 := Aside0.mk hy635
                              clear hy635
                              have H' := Aside0.mk H
                              clear H
                              have p622 : 0 ≤ (x12_3 : Int) := of_decide_eq_true (by first | (with_reducible assumption) | assumption)
                              have q622 : x12_3 < (t614.length : Int) := of_decide_eq_true (by first | (with_reducible assumption) | assumption)
                              obtain ⟨ad622, A622_0, c622_0, e622, hx622_0, hl622_0, hi622_0⟩ := at_L1 (Kd.S_reads' HO_8.out).2.2 x12_3 p622 q622
                              cases e622
                              obtain ⟨ce622, hce622, hMe622, hcc622⟩ := Kd.S_get HO_8.out [] x12_3 p622 (by first | exact q622 | exact of_decide_eq_true (by first | (with_reducible assumption) | assumption) | (have e_ := (Kd.S_reads' HO_8.out).1; omega))
                              obtain ⟨ve622_0, rfl, ge622_0⟩ := hMe622
                              have hv622_0 := hcc622 0 _ rfl
                              rw [Nat.add_zero, show ((Kd.slice 3 (Kd.int .i64))).sz = 1 from rfl, Nat.mul_one] at hv622_0
                              replace hv622_0 := Option.some.inj (hv622_0.symm.trans hx622_0)
                              rw [hv622_0] at ge622_0
                              have HL622_0 := Aside0.mk (show Kd.R (Kd.int .i64) 3 _ _ _ _ (rd_L1 t614 x12_3) from ge622_0)
                              clear hv622_0 ge622_0
                              clear hcc622 hce622
                              have HR622_0 := Aside0.mk hi622_0
                              have HC622_0 := Aside0.mk hl622_0
                              clear hi622_0 hl622_0
                              replace p622 := eq_true p622
                              replace q622 := eq_true q622
                              have p623 : 0 ≤ (x12_3 : Int) := of_decide_eq_true (by first | (with_reducible assumption) | assumption)
                              have q623 : x12_3 < (t614.length : Int) := of_decide_eq_true (by first | (with_reducible assumption) | assumption)
                              obtain ⟨ad623, A623_0, c623_0, e623, hx623_0, hl623_0, hi623_0⟩ := at_L1 (Kd.S_reads' HO_8.out).2.2 x12_3 p623 q623
                              obtain rfl : ad622 = ad623 := (by injection e623)
                              obtain ⟨ce623, hce623, hMe623, hcc623⟩ := Kd.S_get HO_8.out [] x12_3 p623 (by first | exact q623 | exact of_decide_eq_true (by first | (with_reducible assumption) | assumption) | (have e_ := (Kd.S_reads' HO_8.out).1; omega))
                              obtain ⟨ve623_0, rfl, ge623_0⟩ := hMe623
                              have hv623_0 := hcc623 0 _ rfl
                              rw [Nat.add_zero, show ((Kd.slice 3 (Kd.int .i64))).sz = 1 from rfl, Nat.mul_one] at hv623_0
                              replace hv623_0 := Option.some.inj (hv623_0.symm.trans hx623_0)
                              rw [hv623_0] at ge623_0
                              have HL623_0 := Aside0.mk (show Kd.R (Kd.int .i64) 3 _ _ _ _ (rd_L1 t614 x12_3) from ge623_0)
                              clear hv623_0 ge623_0
                              clear hcc623 hce623
                              have HR623_0 := Aside0.mk hi623_0
                              have HC623_0 := Aside0.mk hl623_0
                              clear hi623_0 hl623_0
                              replace p623 := eq_true p623
                              replace q623 := eq_true q623
                              have ea_ := Option.some.inj (hx622_0.symm.trans hx623_0)
                              injection ea_ with ea_ en_ ec_
                              subst ea_
                              subst ec_
                              clear en_
                              have p624 : 0 ≤ (x13_4 : Int) := of_decide_eq_true (by first | (with_reducible assumption) | assumption)
                              have q624 : x13_4 < ((rd_L1 t614 x12_3).length : Int) := of_decide_eq_true (by first | (with_reducible assumption) | assumption)
                              obtain ⟨ad624, e624, hx624_0⟩ := Kd.at_int (by repeat (first | (with_reducible exact HR623_0.out) | (with_reducible refine Kd.C_alloc ?_ _) | (with_reducible refine Kd.C_drewN ?_ _) | (with_reducible refine Kd.C_drew ?_) | exact HR623_0.out)) x13_4 p624 q624
                              cases e624
                              replace p624 := eq_true p624
                              replace q624 := eq_true q624
                              obtain ⟨Ao72, co72, eo72⟩ := Kd.R_slice HO_10.out
                              subst eo72
                              have p625 : 0 ≤ ((rd (rd_L1 t614 x12_3) x13_4) : Int) := of_decide_eq_true (by first | (with_reducible assumption) | assumption)
                              have q625 : (rd (rd_L1 t614 x12_3) x13_4) < (x10_4.length : Int) := of_decide_eq_true (by first | (with_reducible assumption) | assumption)
                              obtain ⟨ad625, e625, hx625_0⟩ := Kd.at_int (Kd.R_reads' HO_10.out).2.2 (rd (rd_L1 t614 x12_3) x13_4) p625 q625
                              cases e625
                              replace p625 := eq_true p625
                              replace q625 := eq_true q625
                              have p633 : 0 ≤ ((ji66) : Int) := of_decide_eq_true (by first | (with_reducible assumption) | assumption)
                              have q633 : (ji66) < (t614.length : Int) := of_decide_eq_true (by first | (with_reducible assumption) | assumption)
                              obtain ⟨ad633, A633_0, c633_0, e633, hx633_0, hl633_0, hi633_0⟩ := at_L1 (Kd.S_reads' HO_8.out).2.2 (ji66) p633 q633
                              obtain rfl : ad622 = ad633 := (by injection e633)
                              obtain ⟨ce633, hce633, hMe633, hcc633⟩ := Kd.S_get HO_8.out [] (ji66) p633 (by first | exact q633 | exact of_decide_eq_true (by first | (with_reducible assumption) | assumption) | (have e_ := (Kd.S_reads' HO_8.out).1; omega))
                              obtain ⟨ve633_0, rfl, ge633_0⟩ := hMe633
                              have hv633_0 := hcc633 0 _ rfl
                              rw [Nat.add_zero, show ((Kd.slice 3 (Kd.int .i64))).sz = 1 from rfl, Nat.mul_one] at hv633_0
                              replace hv633_0 := Option.some.inj (hv633_0.symm.trans hx633_0)
                              rw [hv633_0] at ge633_0
                              have HL633_0 := Aside0.mk (show Kd.R (Kd.int .i64) 3 _ _ _ _ (rd_L1 t614 (ji66)) from ge633_0)
                              clear hv633_0 ge633_0
                              clear hcc633 hce633
                              have HR633_0 := Aside0.mk hi633_0
                              have HC633_0 := Aside0.mk hl633_0
                              clear hi633_0 hl633_0
                              replace p633 := eq_true p633
                              replace q633 := eq_true q633
                              have p634 : 0 ≤ (0 : Int) := (by omega)
                              have q634 : 0 < ((rd_L1 t614 (ji66)).length : Int) := of_decide_eq_true (by first | (with_reducible assumption) | assumption)
                              obtain ⟨ad634, e634, hx634_0⟩ := Kd.at_int (by repeat (first | (with_reducible exact HR633_0.out) | (with_reducible refine Kd.C_alloc ?_ _) | (with_reducible refine Kd.C_drewN ?_ _) | (with_reducible refine Kd.C_drew ?_) | exact HR633_0.out)) 0 p634 q634
                              cases e634
                              have qi634 : (0 < (rd_L1 t614 (ji66)).length) = True := eq_true (by omega)
                              (try rw [show ((0 : Int)).toNat = 0 from rfl] at hx634_0)
                              (try rw [Addr.add_zero'] at hx634_0)
                              replace p634 := eq_true p634
                              replace q634 := eq_true q634
                              have p71 : 0 ≤ ((rd (rd_L1 t614 x12_3) x13_4) : Int) := of_decide_eq_true (by first | (with_reducible assumption) | assumption)
                              have q71 : ((rd (rd_L1 t614 x12_3) x13_4) : Int) < ((x10_4.length : Int) : Int) := of_decide_eq_true (by first | (with_reducible assumption) | assumption)
                              obtain ⟨go71, co71, eo71, gb71, gl71, cl71, HG71⟩ := Kd.R_form HO_10.out (by omega)
                              (first | cases eo71 | (injection eo71 with ea_ en_ ec_; (first | subst ea_ | (injection ea_ with ea_; subst ea_)); subst ec_; clear en_))
                              have GB71 := Aside0.mk gb71
                              have GG71 := Aside0.mk HG71
                              clear gb71 gl71 HG71
                              (first | simp only [add_plain] at hx625_0 | skip)
                              obtain ⟨hx71_0, hf71_0⟩ := Kd.R_celln 0 HO_10.out ((rd (rd_L1 t614 x12_3) x13_4) : Int) p71 q71
                              replace p71 := eq_true p71
                              replace q71 := eq_true q71
                              have HP73 := Kd.R_putg HO_10.out ((rd (rd_L1 t614 x12_3) x13_4) : Int) (wrap64 (x12_3 + 1))
                              go_wp2_with (first | ((with_reducible refine gate_store (t := 3) (p := 133) rfl ?_); (try (rw [drewN_self wr]; generalize hq_ : World.drewN wr _ = wr; have n0_ := Aside0.mk (Kd.R_at hq_ HO_5.out); have n1_ := Aside0.mk (Kd.S_at hq_ HO_8.out); have n2_ := Aside0.mk (Kd.R_at hq_ HO_10.out); have n3_ := Aside0.mk (Kd.R_at hq_ HL622_0.out); have n4_ := Aside0.mk (Kd.R_at hq_ HL623_0.out); have n5_ := Aside0.mk (Kd.R_at hq_ HL633_0.out); have n6_ := Aside0.mk (blk_at hq_ BK605.out); have n7_ := Aside0.mk (below_at hq_ HB.out); clear hq_ HO_5 HO_8 HO_10 HL622_0 HL623_0 HL633_0 BK605 HB; have HO_5 := n0_; have HO_8 := n1_; have HO_10 := n2_; have HL622_0 := n3_; have HL623_0 := n4_; have HL633_0 := n5_; have BK605 := n6_; have HB := n7_; clear n0_ n1_ n2_ n3_ n4_ n5_ n6_ n7_; (try (have HP73 := Kd.R_putg HO_10.out ((rd (rd_L1 t614 x12_3) x13_4) : Int) (wrap64 (x12_3 + 1)))))); refine store_event (t := 3) (p := 133) (v := ?vo_w74) (w1 := (wr.setCell ⟨go71, ((rd (rd_L1 t614 x12_3) x13_4) : Int).toNat, none⟩ (.int .i64 (wrap64 (x12_3 + 1))))) ?hg ?ho ?hn ?hr ?_; (case ho => rfl); (case hg => rfl); (case hn => rfl); (case hr => first | (go_simp; done) | (go_simp; rfl)); intro w74 hw; have hg : wr.grownBy w74 (some go71) := (by rw [hw]; exact HP73.2); have hp_ : Kd.R (Kd.int .i64) 3 w74 w.heap.size (fun k_ => some k_ ≠ (v610 : Value).ownBlock) (.slice (some ⟨go71, 0, none⟩) x10_4.length co72) y635 := (by rw [hw, Ny635.out]; exact HP73.1); clear HP73; have n0_ := Aside0.mk (Kd.R_after (v := (.slice (some ⟨go71, 0, none⟩) x10_4.length co72)) (v1 := (.slice (some ⟨go71, 0, none⟩) x10_4.length co72)) (ok := (fun _ => True)) (by (with_reducible repeat (first | apply Kd.R_alloc | apply Kd.R_drewN | apply Kd.R_drew)); exact Kd.R_mono HO_5.out (fun _ hk => ⟨trivial, hk⟩)) hg (.inl rfl)); have n1_ := Aside0.mk (Kd.S_after (v := (.slice (some ⟨go71, 0, none⟩) x10_4.length co72)) (v1 := (.slice (some ⟨go71, 0, none⟩) x10_4.length co72)) (ok := (fun k_ => some k_ ≠ (v610 : Value).ownBlock)) (by (with_reducible repeat (first | apply Kd.S_alloc | apply Kd.S_drewN | apply Kd.S_drew)); exact HO_8.out) hg (.inl rfl)); have n2_ := Aside0.mk (hp_); have n3_ := Aside0.mk (blk_grown (g := gb605) (o := .cells #[.int .i64 a1_0, .int .i64 a1_1] 24 (0, 0)) (by (with_reducible repeat (first | apply kdn | apply kdr | apply kal)); exact BK605.out) hg (Kd.R_ne HO_10.out BK605.out (by decide))); have n4_ := Aside0.mk (Kd.R_after (v := (.slice (some ⟨go71, 0, none⟩) x10_4.length co72)) (v1 := (.slice (some ⟨go71, 0, none⟩) x10_4.length co72)) (ok := (fun k_ => some k_ ≠ (v610 : Value).ownBlock ∧ some k_ ≠ (.slice (some ad622) t614.length co30 : Value).ownBlock)) (by (with_reducible repeat (first | apply Kd.R_alloc | apply Kd.R_drewN | apply Kd.R_drew)); exact Kd.R_mono HL622_0.out (fun _ hk => ⟨⟨hk.1.1, hk.2⟩, hk.1.2⟩)) hg (.inl rfl)); have n5_ := Aside0.mk (Kd.R_after (v := (.slice (some ⟨go71, 0, none⟩) x10_4.length co72)) (v1 := (.slice (some ⟨go71, 0, none⟩) x10_4.length co72)) (ok := (fun k_ => some k_ ≠ (v610 : Value).ownBlock ∧ some k_ ≠ (.slice (some ad622) t614.length co30 : Value).ownBlock)) (by (with_reducible repeat (first | apply Kd.R_alloc | apply Kd.R_drewN | apply Kd.R_drew)); exact Kd.R_mono HL623_0.out (fun _ hk => ⟨⟨hk.1.1, hk.2⟩, hk.1.2⟩)) hg (.inl rfl)); have n6_ := Aside0.mk (Kd.R_after (v := (.slice (some ⟨go71, 0, none⟩) x10_4.length co72)) (v1 := (.slice (some ⟨go71, 0, none⟩) x10_4.length co72)) (ok := (fun k_ => some k_ ≠ (v610 : Value).ownBlock ∧ some k_ ≠ (.slice (some ad622) t614.length co30 : Value).ownBlock)) (by (with_reducible repeat (first | apply Kd.R_alloc | apply Kd.R_drewN | apply Kd.R_drew)); exact Kd.R_mono HL633_0.out (fun _ hk => ⟨⟨hk.1.1, hk.2⟩, hk.1.2⟩)) hg (.inl rfl)); have n7_ := Aside0.mk ((by rw [hw]; exact below_set (HB.out) GB71.out : Below w.heap.size w w74)); clear HO_5; clear HO_8; clear HO_10; clear BK605; clear HL622_0; clear HL623_0; clear HL633_0; clear HB; have HO_5 := n0_; have HO_8 := n1_; have HO_10 := n2_; have BK605 := n3_; have HL622_0 := n4_; have HL623_0 := n5_; have HL633_0 := n6_; have HB := n7_; clear n0_ n1_ n2_ n3_ n4_ n5_ n6_ n7_; clear hg hw hp_))
                              repeat (go_quiet (first | ((with_reducible refine gate_store (t := 3) (p := 133) rfl ?_); (try (rw [drewN_self wr]; generalize hq_ : World.drewN wr _ = wr; have n0_ := Aside0.mk (Kd.R_at hq_ HO_5.out); have n1_ := Aside0.mk (Kd.S_at hq_ HO_8.out); have n2_ := Aside0.mk (Kd.R_at hq_ HO_10.out); have n3_ := Aside0.mk (Kd.R_at hq_ HL622_0.out); have n4_ := Aside0.mk (Kd.R_at hq_ HL623_0.out); have n5_ := Aside0.mk (Kd.R_at hq_ HL633_0.out); have n6_ := Aside0.mk (blk_at hq_ BK605.out); have n7_ := Aside0.mk (below_at hq_ HB.out); clear hq_ HO_5 HO_8 HO_10 HL622_0 HL623_0 HL633_0 BK605 HB; have HO_5 := n0_; have HO_8 := n1_; have HO_10 := n2_; have HL622_0 := n3_; have HL623_0 := n4_; have HL633_0 := n5_; have BK605 := n6_; have HB := n7_; clear n0_ n1_ n2_ n3_ n4_ n5_ n6_ n7_; (try (have HP73 := Kd.R_putg HO_10.out ((rd (rd_L1 t614 x12_3) x13_4) : Int) (wrap64 (x12_3 + 1)))))); refine store_event (t := 3) (p := 133) (v := ?vo_w74) (w1 := (wr.setCell ⟨go71, ((rd (rd_L1 t614 x12_3) x13_4) : Int).toNat, none⟩ (.int .i64 (wrap64 (x12_3 + 1))))) ?hg ?ho ?hn ?hr ?_; (case ho => rfl); (case hg => rfl); (case hn => rfl); (case hr => first | (go_simp; done) | (go_simp; rfl)); intro w74 hw; have hg : wr.grownBy w74 (some go71) := (by rw [hw]; exact HP73.2); have hp_ : Kd.R (Kd.int .i64) 3 w74 w.heap.size (fun k_ => some k_ ≠ (v610 : Value).ownBlock) (.slice (some ⟨go71, 0, none⟩) x10_4.length co72) y635 := (by rw [hw, Ny635.out]; exact HP73.1); clear HP73; have n0_ := Aside0.mk (Kd.R_after (v := (.slice (some ⟨go71, 0, none⟩) x10_4.length co72)) (v1 := (.slice (some ⟨go71, 0, none⟩) x10_4.length co72)) (ok := (fun _ => True)) (by (with_reducible repeat (first | apply Kd.R_alloc | apply Kd.R_drewN | apply Kd.R_drew)); exact Kd.R_mono HO_5.out (fun _ hk => ⟨trivial, hk⟩)) hg (.inl rfl)); have n1_ := Aside0.mk (Kd.S_after (v := (.slice (some ⟨go71, 0, none⟩) x10_4.length co72)) (v1 := (.slice (some ⟨go71, 0, none⟩) x10_4.length co72)) (ok := (fun k_ => some k_ ≠ (v610 : Value).ownBlock)) (by (with_reducible repeat (first | apply Kd.S_alloc | apply Kd.S_drewN | apply Kd.S_drew)); exact HO_8.out) hg (.inl rfl)); have n2_ := Aside0.mk (hp_); have n3_ := Aside0.mk (blk_grown (g := gb605) (o := .cells #[.int .i64 a1_0, .int .i64 a1_1] 24 (0, 0)) (by (with_reducible repeat (first | apply kdn | apply kdr | apply kal)); exact BK605.out) hg (Kd.R_ne HO_10.out BK605.out (by decide))); have n4_ := Aside0.mk (Kd.R_after (v := (.slice (some ⟨go71, 0, none⟩) x10_4.length co72)) (v1 := (.slice (some ⟨go71, 0, none⟩) x10_4.length co72)) (ok := (fun k_ => some k_ ≠ (v610 : Value).ownBlock ∧ some k_ ≠ (.slice (some ad622) t614.length co30 : Value).ownBlock)) (by (with_reducible repeat (first | apply Kd.R_alloc | apply Kd.R_drewN | apply Kd.R_drew)); exact Kd.R_mono HL622_0.out (fun _ hk => ⟨⟨hk.1.1, hk.2⟩, hk.1.2⟩)) hg (.inl rfl)); have n5_ := Aside0.mk (Kd.R_after (v := (.slice (some ⟨go71, 0, none⟩) x10_4.length co72)) (v1 := (.slice (some ⟨go71, 0, none⟩) x10_4.length co72)) (ok := (fun k_ => some k_ ≠ (v610 : Value).ownBlock ∧ some k_ ≠ (.slice (some ad622) t614.length co30 : Value).ownBlock)) (by (with_reducible repeat (first | apply Kd.R_alloc | apply Kd.R_drewN | apply Kd.R_drew)); exact Kd.R_mono HL623_0.out (fun _ hk => ⟨⟨hk.1.1, hk.2⟩, hk.1.2⟩)) hg (.inl rfl)); have n6_ := Aside0.mk (Kd.R_after (v := (.slice (some ⟨go71, 0, none⟩) x10_4.length co72)) (v1 := (.slice (some ⟨go71, 0, none⟩) x10_4.length co72)) (ok := (fun k_ => some k_ ≠ (v610 : Value).ownBlock ∧ some k_ ≠ (.slice (some ad622) t614.length co30 : Value).ownBlock)) (by (with_reducible repeat (first | apply Kd.R_alloc | apply Kd.R_drewN | apply Kd.R_drew)); exact Kd.R_mono HL633_0.out (fun _ hk => ⟨⟨hk.1.1, hk.2⟩, hk.1.2⟩)) hg (.inl rfl)); have n7_ := Aside0.mk ((by rw [hw]; exact below_set (HB.out) GB71.out : Below w.heap.size w w74)); clear HO_5; clear HO_8; clear HO_10; clear BK605; clear HL622_0; clear HL623_0; clear HL633_0; clear HB; have HO_5 := n0_; have HO_8 := n1_; have HO_10 := n2_; have BK605 := n3_; have HL622_0 := n4_; have HL623_0 := n5_; have HL633_0 := n6_; have HB := n7_; clear n0_ n1_ n2_ n3_ n4_ n5_ n6_ n7_; clear hg hw hp_)); try go_wp2_with (first | ((with_reducible refine gate_store (t := 3) (p := 133) rfl ?_); (try (rw [drewN_self wr]; generalize hq_ : World.drewN wr _ = wr; have n0_ := Aside0.mk (Kd.R_at hq_ HO_5.out); have n1_ := Aside0.mk (Kd.S_at hq_ HO_8.out); have n2_ := Aside0.mk (Kd.R_at hq_ HO_10.out); have n3_ := Aside0.mk (Kd.R_at hq_ HL622_0.out); have n4_ := Aside0.mk (Kd.R_at hq_ HL623_0.out); have n5_ := Aside0.mk (Kd.R_at hq_ HL633_0.out); have n6_ := Aside0.mk (blk_at hq_ BK605.out); have n7_ := Aside0.mk (below_at hq_ HB.out); clear hq_ HO_5 HO_8 HO_10 HL622_0 HL623_0 HL633_0 BK605 HB; have HO_5 := n0_; have HO_8 := n1_; have HO_10 := n2_; have HL622_0 := n3_; have HL623_0 := n4_; have HL633_0 := n5_; have BK605 := n6_; have HB := n7_; clear n0_ n1_ n2_ n3_ n4_ n5_ n6_ n7_; (try (have HP73 := Kd.R_putg HO_10.out ((rd (rd_L1 t614 x12_3) x13_4) : Int) (wrap64 (x12_3 + 1)))))); refine store_event (t := 3) (p := 133) (v := ?vo_w74) (w1 := (wr.setCell ⟨go71, ((rd (rd_L1 t614 x12_3) x13_4) : Int).toNat, none⟩ (.int .i64 (wrap64 (x12_3 + 1))))) ?hg ?ho ?hn ?hr ?_; (case ho => rfl); (case hg => rfl); (case hn => rfl); (case hr => first | (go_simp; done) | (go_simp; rfl)); intro w74 hw; have hg : wr.grownBy w74 (some go71) := (by rw [hw]; exact HP73.2); have hp_ : Kd.R (Kd.int .i64) 3 w74 w.heap.size (fun k_ => some k_ ≠ (v610 : Value).ownBlock) (.slice (some ⟨go71, 0, none⟩) x10_4.length co72) y635 := (by rw [hw, Ny635.out]; exact HP73.1); clear HP73; have n0_ := Aside0.mk (Kd.R_after (v := (.slice (some ⟨go71, 0, none⟩) x10_4.length co72)) (v1 := (.slice (some ⟨go71, 0, none⟩) x10_4.length co72)) (ok := (fun _ => True)) (by (with_reducible repeat (first | apply Kd.R_alloc | apply Kd.R_drewN | apply Kd.R_drew)); exact Kd.R_mono HO_5.out (fun _ hk => ⟨trivial, hk⟩)) hg (.inl rfl)); have n1_ := Aside0.mk (Kd.S_after (v := (.slice (some ⟨go71, 0, none⟩) x10_4.length co72)) (v1 := (.slice (some ⟨go71, 0, none⟩) x10_4.length co72)) (ok := (fun k_ => some k_ ≠ (v610 : Value).ownBlock)) (by (with_reducible repeat (first | apply Kd.S_alloc | apply Kd.S_drewN | apply Kd.S_drew)); exact HO_8.out) hg (.inl rfl)); have n2_ := Aside0.mk (hp_); have n3_ := Aside0.mk (blk_grown (g := gb605) (o := .cells #[.int .i64 a1_0, .int .i64 a1_1] 24 (0, 0)) (by (with_reducible repeat (first | apply kdn | apply kdr | apply kal)); exact BK605.out) hg (Kd.R_ne HO_10.out BK605.out (by decide))); have n4_ := Aside0.mk (Kd.R_after (v := (.slice (some ⟨go71, 0, none⟩) x10_4.length co72)) (v1 := (.slice (some ⟨go71, 0, none⟩) x10_4.length co72)) (ok := (fun k_ => some k_ ≠ (v610 : Value).ownBlock ∧ some k_ ≠ (.slice (some ad622) t614.length co30 : Value).ownBlock)) (by (with_reducible repeat (first | apply Kd.R_alloc | apply Kd.R_drewN | apply Kd.R_drew)); exact Kd.R_mono HL622_0.out (fun _ hk => ⟨⟨hk.1.1, hk.2⟩, hk.1.2⟩)) hg (.inl rfl)); have n5_ := Aside0.mk (Kd.R_after (v := (.slice (some ⟨go71, 0, none⟩) x10_4.length co72)) (v1 := (.slice (some ⟨go71, 0, none⟩) x10_4.length co72)) (ok := (fun k_ => some k_ ≠ (v610 : Value).ownBlock ∧ some k_ ≠ (.slice (some ad622) t614.length co30 : Value).ownBlock)) (by (with_reducible repeat (first | apply Kd.R_alloc | apply Kd.R_drewN | apply Kd.R_drew)); exact Kd.R_mono HL623_0.out (fun _ hk => ⟨⟨hk.1.1, hk.2⟩, hk.1.2⟩)) hg (.inl rfl)); have n6_ := Aside0.mk (Kd.R_after (v := (.slice (some ⟨go71, 0, none⟩) x10_4.length co72)) (v1 := (.slice (some ⟨go71, 0, none⟩) x10_4.length co72)) (ok := (fun k_ => some k_ ≠ (v610 : Value).ownBlock ∧ some k_ ≠ (.slice (some ad622) t614.length co30 : Value).ownBlock)) (by (with_reducible repeat (first | apply Kd.R_alloc | apply Kd.R_drewN | apply Kd.R_drew)); exact Kd.R_mono HL633_0.out (fun _ hk => ⟨⟨hk.1.1, hk.2⟩, hk.1.2⟩)) hg (.inl rfl)); have n7_ := Aside0.mk ((by rw [hw]; exact below_set (HB.out) GB71.out : Below w.heap.size w w74)); clear HO_5; clear HO_8; clear HO_10; clear BK605; clear HL622_0; clear HL623_0; clear HL633_0; clear HB; have HO_5 := n0_; have HO_8 := n1_; have HO_10 := n2_; have BK605 := n3_; have HL622_0 := n4_; have HL623_0 := n5_; have HL633_0 := n6_; have HB := n7_; clear n0_ n1_ n2_ n3_ n4_ n5_ n6_ n7_; clear hg hw hp_)))
                              go_roundg k4
                              case measure => have := HJ2.out; have := HJ14.out; have := HK3.out; have := HK4.out; omega
                              case rel => exact ⟨(y635), (wrap64 (x11_4 + 1)), (wrap64 (x13_4 + 1)), (by first | rfl | (simp; done) | (simp [*]; done)), (by first | rfl | (simp; done) | (simp [*]; done)), H', ⟨by have := HJ2.out; have := HJ14.out; have := HK3.out; have := HK4.out; omega⟩, ⟨by (with_reducible repeat (first | apply Kd.R_alloc | apply Kd.R_drewN | apply Kd.R_drew)); exact Kd.R_mono HO_5.out (fun _ hk => hk.2)⟩, ⟨by (with_reducible repeat (first | apply Kd.S_alloc | apply Kd.S_drewN | apply Kd.S_drew)); exact HO_8.out⟩, ⟨by (with_reducible repeat (first | apply Kd.R_alloc | apply Kd.R_drewN | apply Kd.R_drew)); exact HO_10.out⟩, ⟨by (with_reducible repeat (first | apply kdn | apply kdr | apply kal)); exact BK605.out⟩, ⟨by repeat (first | (with_reducible first | exact HB.out | apply lal | apply ldn | apply ldr | refine below_set ?_ GE605.out) | exact HB.out)⟩⟩
                            ·rw [if_neg c69] at H
                             exact absurd H (by simp)
                           ·rw [if_neg c68] at H
                            exact absurd H (by simp)
                          ·rw [if_neg c67] at H
                           exact absurd H (by simp)
                         ·rw [if_neg c65] at H
                          have c65b0 : decide (0 < x12_3) = false := decide_eq_false c65
                          clear c65
                          obtain ⟨y636, hy636⟩ : ∃ y_ : List Int, y_ = (x10_4.set ((rd (rd_L1 t614 x12_3) x13_4) : Int).toNat (wrap64 (x12_3 + 1))) := ⟨_, rfl⟩
                          replace H : (trishawlaw06_TripRings.l1 k4 l0 t609 t614 y636 (wrap64 (x11_4 + 1)) x12_3 (wrap64 (x13_4 + 1))) = some r := by first | (rw [hy636]; with_reducible exact H) | (have H2_ := (Option.bind_some _ _).symm.trans H; rw [hy636]; with_reducible exact H2_) | (have H2_ := (Option.bind_some _ _).symm.trans H; with_reducible exact H2_) | with_reducible exact H | (rw [hy636]; exact H) | exact H
                          have Ny636 := Aside0.mk hy636
                          clear hy636
                          have H' := Aside0.mk H
                          clear H
                          have p622 : 0 ≤ (x12_3 : Int) := of_decide_eq_true (by first | (with_reducible assumption) | assumption)
                          have q622 : x12_3 < (t614.length : Int) := of_decide_eq_true (by first | (with_reducible assumption) | assumption)
                          obtain ⟨ad622, A622_0, c622_0, e622, hx622_0, hl622_0, hi622_0⟩ := at_L1 (Kd.S_reads' HO_8.out).2.2 x12_3 p622 q622
                          cases e622
                          obtain ⟨ce622, hce622, hMe622, hcc622⟩ := Kd.S_get HO_8.out [] x12_3 p622 (by first | exact q622 | exact of_decide_eq_true (by first | (with_reducible assumption) | assumption) | (have e_ := (Kd.S_reads' HO_8.out).1; omega))
                          obtain ⟨ve622_0, rfl, ge622_0⟩ := hMe622
                          have hv622_0 := hcc622 0 _ rfl
                          rw [Nat.add_zero, show ((Kd.slice 3 (Kd.int .i64))).sz = 1 from rfl, Nat.mul_one] at hv622_0
                          replace hv622_0 := Option.some.inj (hv622_0.symm.trans hx622_0)
                          rw [hv622_0] at ge622_0
                          have HL622_0 := Aside0.mk (show Kd.R (Kd.int .i64) 3 _ _ _ _ (rd_L1 t614 x12_3) from ge622_0)
                          clear hv622_0 ge622_0
                          clear hcc622 hce622
                          have HR622_0 := Aside0.mk hi622_0
                          have HC622_0 := Aside0.mk hl622_0
                          clear hi622_0 hl622_0
                          replace p622 := eq_true p622
                          replace q622 := eq_true q622
                          have p623 : 0 ≤ (x12_3 : Int) := of_decide_eq_true (by first | (with_reducible assumption) | assumption)
                          have q623 : x12_3 < (t614.length : Int) := of_decide_eq_true (by first | (with_reducible assumption) | assumption)
                          obtain ⟨ad623, A623_0, c623_0, e623, hx623_0, hl623_0, hi623_0⟩ := at_L1 (Kd.S_reads' HO_8.out).2.2 x12_3 p623 q623
                          obtain rfl : ad622 = ad623 := (by injection e623)
                          obtain ⟨ce623, hce623, hMe623, hcc623⟩ := Kd.S_get HO_8.out [] x12_3 p623 (by first | exact q623 | exact of_decide_eq_true (by first | (with_reducible assumption) | assumption) | (have e_ := (Kd.S_reads' HO_8.out).1; omega))
                          obtain ⟨ve623_0, rfl, ge623_0⟩ := hMe623
                          have hv623_0 := hcc623 0 _ rfl
                          rw [Nat.add_zero, show ((Kd.slice 3 (Kd.int .i64))).sz = 1 from rfl, Nat.mul_one] at hv623_0
                          replace hv623_0 := Option.some.inj (hv623_0.symm.trans hx623_0)
                          rw [hv623_0] at ge623_0
                          have HL623_0 := Aside0.mk (show Kd.R (Kd.int .i64) 3 _ _ _ _ (rd_L1 t614 x12_3) from ge623_0)
                          clear hv623_0 ge623_0
                          clear hcc623 hce623
                          have HR623_0 := Aside0.mk hi623_0
                          have HC623_0 := Aside0.mk hl623_0
                          clear hi623_0 hl623_0
                          replace p623 := eq_true p623
                          replace q623 := eq_true q623
                          have ea_ := Option.some.inj (hx622_0.symm.trans hx623_0)
                          injection ea_ with ea_ en_ ec_
                          subst ea_
                          subst ec_
                          clear en_
                          have p624 : 0 ≤ (x13_4 : Int) := of_decide_eq_true (by first | (with_reducible assumption) | assumption)
                          have q624 : x13_4 < ((rd_L1 t614 x12_3).length : Int) := of_decide_eq_true (by first | (with_reducible assumption) | assumption)
                          obtain ⟨ad624, e624, hx624_0⟩ := Kd.at_int (by repeat (first | (with_reducible exact HR623_0.out) | (with_reducible refine Kd.C_alloc ?_ _) | (with_reducible refine Kd.C_drewN ?_ _) | (with_reducible refine Kd.C_drew ?_) | exact HR623_0.out)) x13_4 p624 q624
                          cases e624
                          replace p624 := eq_true p624
                          replace q624 := eq_true q624
                          obtain ⟨Ao76, co76, eo76⟩ := Kd.R_slice HO_10.out
                          subst eo76
                          have p625 : 0 ≤ ((rd (rd_L1 t614 x12_3) x13_4) : Int) := of_decide_eq_true (by first | (with_reducible assumption) | assumption)
                          have q625 : (rd (rd_L1 t614 x12_3) x13_4) < (x10_4.length : Int) := of_decide_eq_true (by first | (with_reducible assumption) | assumption)
                          obtain ⟨ad625, e625, hx625_0⟩ := Kd.at_int (Kd.R_reads' HO_10.out).2.2 (rd (rd_L1 t614 x12_3) x13_4) p625 q625
                          cases e625
                          replace p625 := eq_true p625
                          replace q625 := eq_true q625
                          have p75 : 0 ≤ ((rd (rd_L1 t614 x12_3) x13_4) : Int) := of_decide_eq_true (by first | (with_reducible assumption) | assumption)
                          have q75 : ((rd (rd_L1 t614 x12_3) x13_4) : Int) < ((x10_4.length : Int) : Int) := of_decide_eq_true (by first | (with_reducible assumption) | assumption)
                          obtain ⟨go75, co75, eo75, gb75, gl75, cl75, HG75⟩ := Kd.R_form HO_10.out (by omega)
                          (first | cases eo75 | (injection eo75 with ea_ en_ ec_; (first | subst ea_ | (injection ea_ with ea_; subst ea_)); subst ec_; clear en_))
                          have GB75 := Aside0.mk gb75
                          have GG75 := Aside0.mk HG75
                          clear gb75 gl75 HG75
                          (first | simp only [add_plain] at hx625_0 | skip)
                          obtain ⟨hx75_0, hf75_0⟩ := Kd.R_celln 0 HO_10.out ((rd (rd_L1 t614 x12_3) x13_4) : Int) p75 q75
                          replace p75 := eq_true p75
                          replace q75 := eq_true q75
                          have HP77 := Kd.R_putg HO_10.out ((rd (rd_L1 t614 x12_3) x13_4) : Int) (wrap64 (x12_3 + 1))
                          go_wp2_with (first | ((with_reducible refine gate_store (t := 3) (p := 133) rfl ?_); (try (rw [drewN_self wr]; generalize hq_ : World.drewN wr _ = wr; have n0_ := Aside0.mk (Kd.R_at hq_ HO_5.out); have n1_ := Aside0.mk (Kd.S_at hq_ HO_8.out); have n2_ := Aside0.mk (Kd.R_at hq_ HO_10.out); have n3_ := Aside0.mk (Kd.R_at hq_ HL622_0.out); have n4_ := Aside0.mk (Kd.R_at hq_ HL623_0.out); have n5_ := Aside0.mk (blk_at hq_ BK605.out); have n6_ := Aside0.mk (below_at hq_ HB.out); clear hq_ HO_5 HO_8 HO_10 HL622_0 HL623_0 BK605 HB; have HO_5 := n0_; have HO_8 := n1_; have HO_10 := n2_; have HL622_0 := n3_; have HL623_0 := n4_; have BK605 := n5_; have HB := n6_; clear n0_ n1_ n2_ n3_ n4_ n5_ n6_; (try (have HP77 := Kd.R_putg HO_10.out ((rd (rd_L1 t614 x12_3) x13_4) : Int) (wrap64 (x12_3 + 1)))))); refine store_event (t := 3) (p := 133) (v := ?vo_w78) (w1 := (wr.setCell ⟨go75, ((rd (rd_L1 t614 x12_3) x13_4) : Int).toNat, none⟩ (.int .i64 (wrap64 (x12_3 + 1))))) ?hg ?ho ?hn ?hr ?_; (case ho => rfl); (case hg => rfl); (case hn => rfl); (case hr => first | (go_simp; done) | (go_simp; rfl)); intro w78 hw; have hg : wr.grownBy w78 (some go75) := (by rw [hw]; exact HP77.2); have hp_ : Kd.R (Kd.int .i64) 3 w78 w.heap.size (fun k_ => some k_ ≠ (v610 : Value).ownBlock) (.slice (some ⟨go75, 0, none⟩) x10_4.length co76) y636 := (by rw [hw, Ny636.out]; exact HP77.1); clear HP77; have n0_ := Aside0.mk (Kd.R_after (v := (.slice (some ⟨go75, 0, none⟩) x10_4.length co76)) (v1 := (.slice (some ⟨go75, 0, none⟩) x10_4.length co76)) (ok := (fun _ => True)) (by (with_reducible repeat (first | apply Kd.R_alloc | apply Kd.R_drewN | apply Kd.R_drew)); exact Kd.R_mono HO_5.out (fun _ hk => ⟨trivial, hk⟩)) hg (.inl rfl)); have n1_ := Aside0.mk (Kd.S_after (v := (.slice (some ⟨go75, 0, none⟩) x10_4.length co76)) (v1 := (.slice (some ⟨go75, 0, none⟩) x10_4.length co76)) (ok := (fun k_ => some k_ ≠ (v610 : Value).ownBlock)) (by (with_reducible repeat (first | apply Kd.S_alloc | apply Kd.S_drewN | apply Kd.S_drew)); exact HO_8.out) hg (.inl rfl)); have n2_ := Aside0.mk (hp_); have n3_ := Aside0.mk (blk_grown (g := gb605) (o := .cells #[.int .i64 a1_0, .int .i64 a1_1] 24 (0, 0)) (by (with_reducible repeat (first | apply kdn | apply kdr | apply kal)); exact BK605.out) hg (Kd.R_ne HO_10.out BK605.out (by decide))); have n4_ := Aside0.mk (Kd.R_after (v := (.slice (some ⟨go75, 0, none⟩) x10_4.length co76)) (v1 := (.slice (some ⟨go75, 0, none⟩) x10_4.length co76)) (ok := (fun k_ => some k_ ≠ (v610 : Value).ownBlock ∧ some k_ ≠ (.slice (some ad622) t614.length co30 : Value).ownBlock)) (by (with_reducible repeat (first | apply Kd.R_alloc | apply Kd.R_drewN | apply Kd.R_drew)); exact Kd.R_mono HL622_0.out (fun _ hk => ⟨⟨hk.1.1, hk.2⟩, hk.1.2⟩)) hg (.inl rfl)); have n5_ := Aside0.mk (Kd.R_after (v := (.slice (some ⟨go75, 0, none⟩) x10_4.length co76)) (v1 := (.slice (some ⟨go75, 0, none⟩) x10_4.length co76)) (ok := (fun k_ => some k_ ≠ (v610 : Value).ownBlock ∧ some k_ ≠ (.slice (some ad622) t614.length co30 : Value).ownBlock)) (by (with_reducible repeat (first | apply Kd.R_alloc | apply Kd.R_drewN | apply Kd.R_drew)); exact Kd.R_mono HL623_0.out (fun _ hk => ⟨⟨hk.1.1, hk.2⟩, hk.1.2⟩)) hg (.inl rfl)); have n6_ := Aside0.mk ((by rw [hw]; exact below_set (HB.out) GB75.out : Below w.heap.size w w78)); clear HO_5; clear HO_8; clear HO_10; clear BK605; clear HL622_0; clear HL623_0; clear HB; have HO_5 := n0_; have HO_8 := n1_; have HO_10 := n2_; have BK605 := n3_; have HL622_0 := n4_; have HL623_0 := n5_; have HB := n6_; clear n0_ n1_ n2_ n3_ n4_ n5_ n6_; clear hg hw hp_))
                          repeat (go_quiet (first | ((with_reducible refine gate_store (t := 3) (p := 133) rfl ?_); (try (rw [drewN_self wr]; generalize hq_ : World.drewN wr _ = wr; have n0_ := Aside0.mk (Kd.R_at hq_ HO_5.out); have n1_ := Aside0.mk (Kd.S_at hq_ HO_8.out); have n2_ := Aside0.mk (Kd.R_at hq_ HO_10.out); have n3_ := Aside0.mk (Kd.R_at hq_ HL622_0.out); have n4_ := Aside0.mk (Kd.R_at hq_ HL623_0.out); have n5_ := Aside0.mk (blk_at hq_ BK605.out); have n6_ := Aside0.mk (below_at hq_ HB.out); clear hq_ HO_5 HO_8 HO_10 HL622_0 HL623_0 BK605 HB; have HO_5 := n0_; have HO_8 := n1_; have HO_10 := n2_; have HL622_0 := n3_; have HL623_0 := n4_; have BK605 := n5_; have HB := n6_; clear n0_ n1_ n2_ n3_ n4_ n5_ n6_; (try (have HP77 := Kd.R_putg HO_10.out ((rd (rd_L1 t614 x12_3) x13_4) : Int) (wrap64 (x12_3 + 1)))))); refine store_event (t := 3) (p := 133) (v := ?vo_w78) (w1 := (wr.setCell ⟨go75, ((rd (rd_L1 t614 x12_3) x13_4) : Int).toNat, none⟩ (.int .i64 (wrap64 (x12_3 + 1))))) ?hg ?ho ?hn ?hr ?_; (case ho => rfl); (case hg => rfl); (case hn => rfl); (case hr => first | (go_simp; done) | (go_simp; rfl)); intro w78 hw; have hg : wr.grownBy w78 (some go75) := (by rw [hw]; exact HP77.2); have hp_ : Kd.R (Kd.int .i64) 3 w78 w.heap.size (fun k_ => some k_ ≠ (v610 : Value).ownBlock) (.slice (some ⟨go75, 0, none⟩) x10_4.length co76) y636 := (by rw [hw, Ny636.out]; exact HP77.1); clear HP77; have n0_ := Aside0.mk (Kd.R_after (v := (.slice (some ⟨go75, 0, none⟩) x10_4.length co76)) (v1 := (.slice (some ⟨go75, 0, none⟩) x10_4.length co76)) (ok := (fun _ => True)) (by (with_reducible repeat (first | apply Kd.R_alloc | apply Kd.R_drewN | apply Kd.R_drew)); exact Kd.R_mono HO_5.out (fun _ hk => ⟨trivial, hk⟩)) hg (.inl rfl)); have n1_ := Aside0.mk (Kd.S_after (v := (.slice (some ⟨go75, 0, none⟩) x10_4.length co76)) (v1 := (.slice (some ⟨go75, 0, none⟩) x10_4.length co76)) (ok := (fun k_ => some k_ ≠ (v610 : Value).ownBlock)) (by (with_reducible repeat (first | apply Kd.S_alloc | apply Kd.S_drewN | apply Kd.S_drew)); exact HO_8.out) hg (.inl rfl)); have n2_ := Aside0.mk (hp_); have n3_ := Aside0.mk (blk_grown (g := gb605) (o := .cells #[.int .i64 a1_0, .int .i64 a1_1] 24 (0, 0)) (by (with_reducible repeat (first | apply kdn | apply kdr | apply kal)); exact BK605.out) hg (Kd.R_ne HO_10.out BK605.out (by decide))); have n4_ := Aside0.mk (Kd.R_after (v := (.slice (some ⟨go75, 0, none⟩) x10_4.length co76)) (v1 := (.slice (some ⟨go75, 0, none⟩) x10_4.length co76)) (ok := (fun k_ => some k_ ≠ (v610 : Value).ownBlock ∧ some k_ ≠ (.slice (some ad622) t614.length co30 : Value).ownBlock)) (by (with_reducible repeat (first | apply Kd.R_alloc | apply Kd.R_drewN | apply Kd.R_drew)); exact Kd.R_mono HL622_0.out (fun _ hk => ⟨⟨hk.1.1, hk.2⟩, hk.1.2⟩)) hg (.inl rfl)); have n5_ := Aside0.mk (Kd.R_after (v := (.slice (some ⟨go75, 0, none⟩) x10_4.length co76)) (v1 := (.slice (some ⟨go75, 0, none⟩) x10_4.length co76)) (ok := (fun k_ => some k_ ≠ (v610 : Value).ownBlock ∧ some k_ ≠ (.slice (some ad622) t614.length co30 : Value).ownBlock)) (by (with_reducible repeat (first | apply Kd.R_alloc | apply Kd.R_drewN | apply Kd.R_drew)); exact Kd.R_mono HL623_0.out (fun _ hk => ⟨⟨hk.1.1, hk.2⟩, hk.1.2⟩)) hg (.inl rfl)); have n6_ := Aside0.mk ((by rw [hw]; exact below_set (HB.out) GB75.out : Below w.heap.size w w78)); clear HO_5; clear HO_8; clear HO_10; clear BK605; clear HL622_0; clear HL623_0; clear HB; have HO_5 := n0_; have HO_8 := n1_; have HO_10 := n2_; have BK605 := n3_; have HL622_0 := n4_; have HL623_0 := n5_; have HB := n6_; clear n0_ n1_ n2_ n3_ n4_ n5_ n6_; clear hg hw hp_)); try go_wp2_with (first | ((with_reducible refine gate_store (t := 3) (p := 133) rfl ?_); (try (rw [drewN_self wr]; generalize hq_ : World.drewN wr _ = wr; have n0_ := Aside0.mk (Kd.R_at hq_ HO_5.out); have n1_ := Aside0.mk (Kd.S_at hq_ HO_8.out); have n2_ := Aside0.mk (Kd.R_at hq_ HO_10.out); have n3_ := Aside0.mk (Kd.R_at hq_ HL622_0.out); have n4_ := Aside0.mk (Kd.R_at hq_ HL623_0.out); have n5_ := Aside0.mk (blk_at hq_ BK605.out); have n6_ := Aside0.mk (below_at hq_ HB.out); clear hq_ HO_5 HO_8 HO_10 HL622_0 HL623_0 BK605 HB; have HO_5 := n0_; have HO_8 := n1_; have HO_10 := n2_; have HL622_0 := n3_; have HL623_0 := n4_; have BK605 := n5_; have HB := n6_; clear n0_ n1_ n2_ n3_ n4_ n5_ n6_; (try (have HP77 := Kd.R_putg HO_10.out ((rd (rd_L1 t614 x12_3) x13_4) : Int) (wrap64 (x12_3 + 1)))))); refine store_event (t := 3) (p := 133) (v := ?vo_w78) (w1 := (wr.setCell ⟨go75, ((rd (rd_L1 t614 x12_3) x13_4) : Int).toNat, none⟩ (.int .i64 (wrap64 (x12_3 + 1))))) ?hg ?ho ?hn ?hr ?_; (case ho => rfl); (case hg => rfl); (case hn => rfl); (case hr => first | (go_simp; done) | (go_simp; rfl)); intro w78 hw; have hg : wr.grownBy w78 (some go75) := (by rw [hw]; exact HP77.2); have hp_ : Kd.R (Kd.int .i64) 3 w78 w.heap.size (fun k_ => some k_ ≠ (v610 : Value).ownBlock) (.slice (some ⟨go75, 0, none⟩) x10_4.length co76) y636 := (by rw [hw, Ny636.out]; exact HP77.1); clear HP77; have n0_ := Aside0.mk (Kd.R_after (v := (.slice (some ⟨go75, 0, none⟩) x10_4.length co76)) (v1 := (.slice (some ⟨go75, 0, none⟩) x10_4.length co76)) (ok := (fun _ => True)) (by (with_reducible repeat (first | apply Kd.R_alloc | apply Kd.R_drewN | apply Kd.R_drew)); exact Kd.R_mono HO_5.out (fun _ hk => ⟨trivial, hk⟩)) hg (.inl rfl)); have n1_ := Aside0.mk (Kd.S_after (v := (.slice (some ⟨go75, 0, none⟩) x10_4.length co76)) (v1 := (.slice (some ⟨go75, 0, none⟩) x10_4.length co76)) (ok := (fun k_ => some k_ ≠ (v610 : Value).ownBlock)) (by (with_reducible repeat (first | apply Kd.S_alloc | apply Kd.S_drewN | apply Kd.S_drew)); exact HO_8.out) hg (.inl rfl)); have n2_ := Aside0.mk (hp_); have n3_ := Aside0.mk (blk_grown (g := gb605) (o := .cells #[.int .i64 a1_0, .int .i64 a1_1] 24 (0, 0)) (by (with_reducible repeat (first | apply kdn | apply kdr | apply kal)); exact BK605.out) hg (Kd.R_ne HO_10.out BK605.out (by decide))); have n4_ := Aside0.mk (Kd.R_after (v := (.slice (some ⟨go75, 0, none⟩) x10_4.length co76)) (v1 := (.slice (some ⟨go75, 0, none⟩) x10_4.length co76)) (ok := (fun k_ => some k_ ≠ (v610 : Value).ownBlock ∧ some k_ ≠ (.slice (some ad622) t614.length co30 : Value).ownBlock)) (by (with_reducible repeat (first | apply Kd.R_alloc | apply Kd.R_drewN | apply Kd.R_drew)); exact Kd.R_mono HL622_0.out (fun _ hk => ⟨⟨hk.1.1, hk.2⟩, hk.1.2⟩)) hg (.inl rfl)); have n5_ := Aside0.mk (Kd.R_after (v := (.slice (some ⟨go75, 0, none⟩) x10_4.length co76)) (v1 := (.slice (some ⟨go75, 0, none⟩) x10_4.length co76)) (ok := (fun k_ => some k_ ≠ (v610 : Value).ownBlock ∧ some k_ ≠ (.slice (some ad622) t614.length co30 : Value).ownBlock)) (by (with_reducible repeat (first | apply Kd.R_alloc | apply Kd.R_drewN | apply Kd.R_drew)); exact Kd.R_mono HL623_0.out (fun _ hk => ⟨⟨hk.1.1, hk.2⟩, hk.1.2⟩)) hg (.inl rfl)); have n6_ := Aside0.mk ((by rw [hw]; exact below_set (HB.out) GB75.out : Below w.heap.size w w78)); clear HO_5; clear HO_8; clear HO_10; clear BK605; clear HL622_0; clear HL623_0; clear HB; have HO_5 := n0_; have HO_8 := n1_; have HO_10 := n2_; have BK605 := n3_; have HL622_0 := n4_; have HL623_0 := n5_; have HB := n6_; clear n0_ n1_ n2_ n3_ n4_ n5_ n6_; clear hg hw hp_)))
                          go_roundg k4
                          case measure => have := HJ2.out; have := HJ14.out; have := HK3.out; have := HK4.out; omega
                          case rel => exact ⟨(y636), (wrap64 (x11_4 + 1)), (wrap64 (x13_4 + 1)), (by first | rfl | (simp; done) | (simp [*]; done)), (by first | rfl | (simp; done) | (simp [*]; done)), H', ⟨by have := HJ2.out; have := HJ14.out; have := HK3.out; have := HK4.out; omega⟩, ⟨by (with_reducible repeat (first | apply Kd.R_alloc | apply Kd.R_drewN | apply Kd.R_drew)); exact Kd.R_mono HO_5.out (fun _ hk => hk.2)⟩, ⟨by (with_reducible repeat (first | apply Kd.S_alloc | apply Kd.S_drewN | apply Kd.S_drew)); exact HO_8.out⟩, ⟨by (with_reducible repeat (first | apply Kd.R_alloc | apply Kd.R_drewN | apply Kd.R_drew)); exact HO_10.out⟩, ⟨by (with_reducible repeat (first | apply kdn | apply kdr | apply kal)); exact BK605.out⟩, ⟨by repeat (first | (with_reducible first | exact HB.out | apply lal | apply ldn | apply ldr | refine below_set ?_ GE605.out) | exact HB.out)⟩⟩
                        ·rw [if_neg c64] at H
                         have c64b0 : (x13_4 == 0) = false := beq_eq_false_iff_ne.mpr c64
                         have c64b1 : (x13_4 != 0) = true := bne_iff_ne.mpr c64
                         obtain ⟨y637, hy637⟩ : ∃ y_ : List Int, y_ = (x10_4.set ((rd (rd_L1 t614 x12_3) x13_4) : Int).toNat (wrap64 (x12_3 + 1))) := ⟨_, rfl⟩
                         replace H : (trishawlaw06_TripRings.l1 k4 l0 t609 t614 y637 (wrap64 (x11_4 + 1)) x12_3 (wrap64 (x13_4 + 1))) = some r := by first | (rw [hy637]; with_reducible exact H) | (have H2_ := (Option.bind_some _ _).symm.trans H; rw [hy637]; with_reducible exact H2_) | (have H2_ := (Option.bind_some _ _).symm.trans H; with_reducible exact H2_) | with_reducible exact H | (rw [hy637]; exact H) | exact H
                         have Ny637 := Aside0.mk hy637
                         clear hy637
                         have H' := Aside0.mk H
                         clear H
                         have p622 : 0 ≤ (x12_3 : Int) := of_decide_eq_true (by first | (with_reducible assumption) | assumption)
                         have q622 : x12_3 < (t614.length : Int) := of_decide_eq_true (by first | (with_reducible assumption) | assumption)
                         obtain ⟨ad622, A622_0, c622_0, e622, hx622_0, hl622_0, hi622_0⟩ := at_L1 (Kd.S_reads' HO_8.out).2.2 x12_3 p622 q622
                         cases e622
                         obtain ⟨ce622, hce622, hMe622, hcc622⟩ := Kd.S_get HO_8.out [] x12_3 p622 (by first | exact q622 | exact of_decide_eq_true (by first | (with_reducible assumption) | assumption) | (have e_ := (Kd.S_reads' HO_8.out).1; omega))
                         obtain ⟨ve622_0, rfl, ge622_0⟩ := hMe622
                         have hv622_0 := hcc622 0 _ rfl
                         rw [Nat.add_zero, show ((Kd.slice 3 (Kd.int .i64))).sz = 1 from rfl, Nat.mul_one] at hv622_0
                         replace hv622_0 := Option.some.inj (hv622_0.symm.trans hx622_0)
                         rw [hv622_0] at ge622_0
                         have HL622_0 := Aside0.mk (show Kd.R (Kd.int .i64) 3 _ _ _ _ (rd_L1 t614 x12_3) from ge622_0)
                         clear hv622_0 ge622_0
                         clear hcc622 hce622
                         have HR622_0 := Aside0.mk hi622_0
                         have HC622_0 := Aside0.mk hl622_0
                         clear hi622_0 hl622_0
                         replace p622 := eq_true p622
                         replace q622 := eq_true q622
                         have p623 : 0 ≤ (x12_3 : Int) := of_decide_eq_true (by first | (with_reducible assumption) | assumption)
                         have q623 : x12_3 < (t614.length : Int) := of_decide_eq_true (by first | (with_reducible assumption) | assumption)
                         obtain ⟨ad623, A623_0, c623_0, e623, hx623_0, hl623_0, hi623_0⟩ := at_L1 (Kd.S_reads' HO_8.out).2.2 x12_3 p623 q623
                         obtain rfl : ad622 = ad623 := (by injection e623)
                         obtain ⟨ce623, hce623, hMe623, hcc623⟩ := Kd.S_get HO_8.out [] x12_3 p623 (by first | exact q623 | exact of_decide_eq_true (by first | (with_reducible assumption) | assumption) | (have e_ := (Kd.S_reads' HO_8.out).1; omega))
                         obtain ⟨ve623_0, rfl, ge623_0⟩ := hMe623
                         have hv623_0 := hcc623 0 _ rfl
                         rw [Nat.add_zero, show ((Kd.slice 3 (Kd.int .i64))).sz = 1 from rfl, Nat.mul_one] at hv623_0
                         replace hv623_0 := Option.some.inj (hv623_0.symm.trans hx623_0)
                         rw [hv623_0] at ge623_0
                         have HL623_0 := Aside0.mk (show Kd.R (Kd.int .i64) 3 _ _ _ _ (rd_L1 t614 x12_3) from ge623_0)
                         clear hv623_0 ge623_0
                         clear hcc623 hce623
                         have HR623_0 := Aside0.mk hi623_0
                         have HC623_0 := Aside0.mk hl623_0
                         clear hi623_0 hl623_0
                         replace p623 := eq_true p623
                         replace q623 := eq_true q623
                         have ea_ := Option.some.inj (hx622_0.symm.trans hx623_0)
                         injection ea_ with ea_ en_ ec_
                         subst ea_
                         subst ec_
                         clear en_
                         have p624 : 0 ≤ (x13_4 : Int) := of_decide_eq_true (by first | (with_reducible assumption) | assumption)
                         have q624 : x13_4 < ((rd_L1 t614 x12_3).length : Int) := of_decide_eq_true (by first | (with_reducible assumption) | assumption)
                         obtain ⟨ad624, e624, hx624_0⟩ := Kd.at_int (by repeat (first | (with_reducible exact HR623_0.out) | (with_reducible refine Kd.C_alloc ?_ _) | (with_reducible refine Kd.C_drewN ?_ _) | (with_reducible refine Kd.C_drew ?_) | exact HR623_0.out)) x13_4 p624 q624
                         cases e624
                         replace p624 := eq_true p624
                         replace q624 := eq_true q624
                         obtain ⟨Ao80, co80, eo80⟩ := Kd.R_slice HO_10.out
                         subst eo80
                         have p625 : 0 ≤ ((rd (rd_L1 t614 x12_3) x13_4) : Int) := of_decide_eq_true (by first | (with_reducible assumption) | assumption)
                         have q625 : (rd (rd_L1 t614 x12_3) x13_4) < (x10_4.length : Int) := of_decide_eq_true (by first | (with_reducible assumption) | assumption)
                         obtain ⟨ad625, e625, hx625_0⟩ := Kd.at_int (Kd.R_reads' HO_10.out).2.2 (rd (rd_L1 t614 x12_3) x13_4) p625 q625
                         cases e625
                         replace p625 := eq_true p625
                         replace q625 := eq_true q625
                         have p79 : 0 ≤ ((rd (rd_L1 t614 x12_3) x13_4) : Int) := of_decide_eq_true (by first | (with_reducible assumption) | assumption)
                         have q79 : ((rd (rd_L1 t614 x12_3) x13_4) : Int) < ((x10_4.length : Int) : Int) := of_decide_eq_true (by first | (with_reducible assumption) | assumption)
                         obtain ⟨go79, co79, eo79, gb79, gl79, cl79, HG79⟩ := Kd.R_form HO_10.out (by omega)
                         (first | cases eo79 | (injection eo79 with ea_ en_ ec_; (first | subst ea_ | (injection ea_ with ea_; subst ea_)); subst ec_; clear en_))
                         have GB79 := Aside0.mk gb79
                         have GG79 := Aside0.mk HG79
                         clear gb79 gl79 HG79
                         (first | simp only [add_plain] at hx625_0 | skip)
                         obtain ⟨hx79_0, hf79_0⟩ := Kd.R_celln 0 HO_10.out ((rd (rd_L1 t614 x12_3) x13_4) : Int) p79 q79
                         replace p79 := eq_true p79
                         replace q79 := eq_true q79
                         have HP81 := Kd.R_putg HO_10.out ((rd (rd_L1 t614 x12_3) x13_4) : Int) (wrap64 (x12_3 + 1))
                         go_wp2_with (first | ((with_reducible refine gate_store (t := 3) (p := 133) rfl ?_); (try (rw [drewN_self wr]; generalize hq_ : World.drewN wr _ = wr; have n0_ := Aside0.mk (Kd.R_at hq_ HO_5.out); have n1_ := Aside0.mk (Kd.S_at hq_ HO_8.out); have n2_ := Aside0.mk (Kd.R_at hq_ HO_10.out); have n3_ := Aside0.mk (Kd.R_at hq_ HL622_0.out); have n4_ := Aside0.mk (Kd.R_at hq_ HL623_0.out); have n5_ := Aside0.mk (blk_at hq_ BK605.out); have n6_ := Aside0.mk (below_at hq_ HB.out); clear hq_ HO_5 HO_8 HO_10 HL622_0 HL623_0 BK605 HB; have HO_5 := n0_; have HO_8 := n1_; have HO_10 := n2_; have HL622_0 := n3_; have HL623_0 := n4_; have BK605 := n5_; have HB := n6_; clear n0_ n1_ n2_ n3_ n4_ n5_ n6_; (try (have HP81 := Kd.R_putg HO_10.out ((rd (rd_L1 t614 x12_3) x13_4) : Int) (wrap64 (x12_3 + 1)))))); refine store_event (t := 3) (p := 133) (v := ?vo_w82) (w1 := (wr.setCell ⟨go79, ((rd (rd_L1 t614 x12_3) x13_4) : Int).toNat, none⟩ (.int .i64 (wrap64 (x12_3 + 1))))) ?hg ?ho ?hn ?hr ?_; (case ho => rfl); (case hg => rfl); (case hn => rfl); (case hr => first | (go_simp; done) | (go_simp; rfl)); intro w82 hw; have hg : wr.grownBy w82 (some go79) := (by rw [hw]; exact HP81.2); have hp_ : Kd.R (Kd.int .i64) 3 w82 w.heap.size (fun k_ => some k_ ≠ (v610 : Value).ownBlock) (.slice (some ⟨go79, 0, none⟩) x10_4.length co80) y637 := (by rw [hw, Ny637.out]; exact HP81.1); clear HP81; have n0_ := Aside0.mk (Kd.R_after (v := (.slice (some ⟨go79, 0, none⟩) x10_4.length co80)) (v1 := (.slice (some ⟨go79, 0, none⟩) x10_4.length co80)) (ok := (fun _ => True)) (by (with_reducible repeat (first | apply Kd.R_alloc | apply Kd.R_drewN | apply Kd.R_drew)); exact Kd.R_mono HO_5.out (fun _ hk => ⟨trivial, hk⟩)) hg (.inl rfl)); have n1_ := Aside0.mk (Kd.S_after (v := (.slice (some ⟨go79, 0, none⟩) x10_4.length co80)) (v1 := (.slice (some ⟨go79, 0, none⟩) x10_4.length co80)) (ok := (fun k_ => some k_ ≠ (v610 : Value).ownBlock)) (by (with_reducible repeat (first | apply Kd.S_alloc | apply Kd.S_drewN | apply Kd.S_drew)); exact HO_8.out) hg (.inl rfl)); have n2_ := Aside0.mk (hp_); have n3_ := Aside0.mk (blk_grown (g := gb605) (o := .cells #[.int .i64 a1_0, .int .i64 a1_1] 24 (0, 0)) (by (with_reducible repeat (first | apply kdn | apply kdr | apply kal)); exact BK605.out) hg (Kd.R_ne HO_10.out BK605.out (by decide))); have n4_ := Aside0.mk (Kd.R_after (v := (.slice (some ⟨go79, 0, none⟩) x10_4.length co80)) (v1 := (.slice (some ⟨go79, 0, none⟩) x10_4.length co80)) (ok := (fun k_ => some k_ ≠ (v610 : Value).ownBlock ∧ some k_ ≠ (.slice (some ad622) t614.length co30 : Value).ownBlock)) (by (with_reducible repeat (first | apply Kd.R_alloc | apply Kd.R_drewN | apply Kd.R_drew)); exact Kd.R_mono HL622_0.out (fun _ hk => ⟨⟨hk.1.1, hk.2⟩, hk.1.2⟩)) hg (.inl rfl)); have n5_ := Aside0.mk (Kd.R_after (v := (.slice (some ⟨go79, 0, none⟩) x10_4.length co80)) (v1 := (.slice (some ⟨go79, 0, none⟩) x10_4.length co80)) (ok := (fun k_ => some k_ ≠ (v610 : Value).ownBlock ∧ some k_ ≠ (.slice (some ad622) t614.length co30 : Value).ownBlock)) (by (with_reducible repeat (first | apply Kd.R_alloc | apply Kd.R_drewN | apply Kd.R_drew)); exact Kd.R_mono HL623_0.out (fun _ hk => ⟨⟨hk.1.1, hk.2⟩, hk.1.2⟩)) hg (.inl rfl)); have n6_ := Aside0.mk ((by rw [hw]; exact below_set (HB.out) GB79.out : Below w.heap.size w w82)); clear HO_5; clear HO_8; clear HO_10; clear BK605; clear HL622_0; clear HL623_0; clear HB; have HO_5 := n0_; have HO_8 := n1_; have HO_10 := n2_; have BK605 := n3_; have HL622_0 := n4_; have HL623_0 := n5_; have HB := n6_; clear n0_ n1_ n2_ n3_ n4_ n5_ n6_; clear hg hw hp_))
                         repeat (go_quiet (first | ((with_reducible refine gate_store (t := 3) (p := 133) rfl ?_); (try (rw [drewN_self wr]; generalize hq_ : World.drewN wr _ = wr; have n0_ := Aside0.mk (Kd.R_at hq_ HO_5.out); have n1_ := Aside0.mk (Kd.S_at hq_ HO_8.out); have n2_ := Aside0.mk (Kd.R_at hq_ HO_10.out); have n3_ := Aside0.mk (Kd.R_at hq_ HL622_0.out); have n4_ := Aside0.mk (Kd.R_at hq_ HL623_0.out); have n5_ := Aside0.mk (blk_at hq_ BK605.out); have n6_ := Aside0.mk (below_at hq_ HB.out); clear hq_ HO_5 HO_8 HO_10 HL622_0 HL623_0 BK605 HB; have HO_5 := n0_; have HO_8 := n1_; have HO_10 := n2_; have HL622_0 := n3_; have HL623_0 := n4_; have BK605 := n5_; have HB := n6_; clear n0_ n1_ n2_ n3_ n4_ n5_ n6_; (try (have HP81 := Kd.R_putg HO_10.out ((rd (rd_L1 t614 x12_3) x13_4) : Int) (wrap64 (x12_3 + 1)))))); refine store_event (t := 3) (p := 133) (v := ?vo_w82) (w1 := (wr.setCell ⟨go79, ((rd (rd_L1 t614 x12_3) x13_4) : Int).toNat, none⟩ (.int .i64 (wrap64 (x12_3 + 1))))) ?hg ?ho ?hn ?hr ?_; (case ho => rfl); (case hg => rfl); (case hn => rfl); (case hr => first | (go_simp; done) | (go_simp; rfl)); intro w82 hw; have hg : wr.grownBy w82 (some go79) := (by rw [hw]; exact HP81.2); have hp_ : Kd.R (Kd.int .i64) 3 w82 w.heap.size (fun k_ => some k_ ≠ (v610 : Value).ownBlock) (.slice (some ⟨go79, 0, none⟩) x10_4.length co80) y637 := (by rw [hw, Ny637.out]; exact HP81.1); clear HP81; have n0_ := Aside0.mk (Kd.R_after (v := (.slice (some ⟨go79, 0, none⟩) x10_4.length co80)) (v1 := (.slice (some ⟨go79, 0, none⟩) x10_4.length co80)) (ok := (fun _ => True)) (by (with_reducible repeat (first | apply Kd.R_alloc | apply Kd.R_drewN | apply Kd.R_drew)); exact Kd.R_mono HO_5.out (fun _ hk => ⟨trivial, hk⟩)) hg (.inl rfl)); have n1_ := Aside0.mk (Kd.S_after (v := (.slice (some ⟨go79, 0, none⟩) x10_4.length co80)) (v1 := (.slice (some ⟨go79, 0, none⟩) x10_4.length co80)) (ok := (fun k_ => some k_ ≠ (v610 : Value).ownBlock)) (by (with_reducible repeat (first | apply Kd.S_alloc | apply Kd.S_drewN | apply Kd.S_drew)); exact HO_8.out) hg (.inl rfl)); have n2_ := Aside0.mk (hp_); have n3_ := Aside0.mk (blk_grown (g := gb605) (o := .cells #[.int .i64 a1_0, .int .i64 a1_1] 24 (0, 0)) (by (with_reducible repeat (first | apply kdn | apply kdr | apply kal)); exact BK605.out) hg (Kd.R_ne HO_10.out BK605.out (by decide))); have n4_ := Aside0.mk (Kd.R_after (v := (.slice (some ⟨go79, 0, none⟩) x10_4.length co80)) (v1 := (.slice (some ⟨go79, 0, none⟩) x10_4.length co80)) (ok := (fun k_ => some k_ ≠ (v610 : Value).ownBlock ∧ some k_ ≠ (.slice (some ad622) t614.length co30 : Value).ownBlock)) (by (with_reducible repeat (first | apply Kd.R_alloc | apply Kd.R_drewN | apply Kd.R_drew)); exact Kd.R_mono HL622_0.out (fun _ hk => ⟨⟨hk.1.1, hk.2⟩, hk.1.2⟩)) hg (.inl rfl)); have n5_ := Aside0.mk (Kd.R_after (v := (.slice (some ⟨go79, 0, none⟩) x10_4.length co80)) (v1 := (.slice (some ⟨go79, 0, none⟩) x10_4.length co80)) (ok := (fun k_ => some k_ ≠ (v610 : Value).ownBlock ∧ some k_ ≠ (.slice (some ad622) t614.length co30 : Value).ownBlock)) (by (with_reducible repeat (first | apply Kd.R_alloc | apply Kd.R_drewN | apply Kd.R_drew)); exact Kd.R_mono HL623_0.out (fun _ hk => ⟨⟨hk.1.1, hk.2⟩, hk.1.2⟩)) hg (.inl rfl)); have n6_ := Aside0.mk ((by rw [hw]; exact below_set (HB.out) GB79.out : Below w.heap.size w w82)); clear HO_5; clear HO_8; clear HO_10; clear BK605; clear HL622_0; clear HL623_0; clear HB; have HO_5 := n0_; have HO_8 := n1_; have HO_10 := n2_; have BK605 := n3_; have HL622_0 := n4_; have HL623_0 := n5_; have HB := n6_; clear n0_ n1_ n2_ n3_ n4_ n5_ n6_; clear hg hw hp_)); try go_wp2_with (first | ((with_reducible refine gate_store (t := 3) (p := 133) rfl ?_); (try (rw [drewN_self wr]; generalize hq_ : World.drewN wr _ = wr; have n0_ := Aside0.mk (Kd.R_at hq_ HO_5.out); have n1_ := Aside0.mk (Kd.S_at hq_ HO_8.out); have n2_ := Aside0.mk (Kd.R_at hq_ HO_10.out); have n3_ := Aside0.mk (Kd.R_at hq_ HL622_0.out); have n4_ := Aside0.mk (Kd.R_at hq_ HL623_0.out); have n5_ := Aside0.mk (blk_at hq_ BK605.out); have n6_ := Aside0.mk (below_at hq_ HB.out); clear hq_ HO_5 HO_8 HO_10 HL622_0 HL623_0 BK605 HB; have HO_5 := n0_; have HO_8 := n1_; have HO_10 := n2_; have HL622_0 := n3_; have HL623_0 := n4_; have BK605 := n5_; have HB := n6_; clear n0_ n1_ n2_ n3_ n4_ n5_ n6_; (try (have HP81 := Kd.R_putg HO_10.out ((rd (rd_L1 t614 x12_3) x13_4) : Int) (wrap64 (x12_3 + 1)))))); refine store_event (t := 3) (p := 133) (v := ?vo_w82) (w1 := (wr.setCell ⟨go79, ((rd (rd_L1 t614 x12_3) x13_4) : Int).toNat, none⟩ (.int .i64 (wrap64 (x12_3 + 1))))) ?hg ?ho ?hn ?hr ?_; (case ho => rfl); (case hg => rfl); (case hn => rfl); (case hr => first | (go_simp; done) | (go_simp; rfl)); intro w82 hw; have hg : wr.grownBy w82 (some go79) := (by rw [hw]; exact HP81.2); have hp_ : Kd.R (Kd.int .i64) 3 w82 w.heap.size (fun k_ => some k_ ≠ (v610 : Value).ownBlock) (.slice (some ⟨go79, 0, none⟩) x10_4.length co80) y637 := (by rw [hw, Ny637.out]; exact HP81.1); clear HP81; have n0_ := Aside0.mk (Kd.R_after (v := (.slice (some ⟨go79, 0, none⟩) x10_4.length co80)) (v1 := (.slice (some ⟨go79, 0, none⟩) x10_4.length co80)) (ok := (fun _ => True)) (by (with_reducible repeat (first | apply Kd.R_alloc | apply Kd.R_drewN | apply Kd.R_drew)); exact Kd.R_mono HO_5.out (fun _ hk => ⟨trivial, hk⟩)) hg (.inl rfl)); have n1_ := Aside0.mk (Kd.S_after (v := (.slice (some ⟨go79, 0, none⟩) x10_4.length co80)) (v1 := (.slice (some ⟨go79, 0, none⟩) x10_4.length co80)) (ok := (fun k_ => some k_ ≠ (v610 : Value).ownBlock)) (by (with_reducible repeat (first | apply Kd.S_alloc | apply Kd.S_drewN | apply Kd.S_drew)); exact HO_8.out) hg (.inl rfl)); have n2_ := Aside0.mk (hp_); have n3_ := Aside0.mk (blk_grown (g := gb605) (o := .cells #[.int .i64 a1_0, .int .i64 a1_1] 24 (0, 0)) (by (with_reducible repeat (first | apply kdn | apply kdr | apply kal)); exact BK605.out) hg (Kd.R_ne HO_10.out BK605.out (by decide))); have n4_ := Aside0.mk (Kd.R_after (v := (.slice (some ⟨go79, 0, none⟩) x10_4.length co80)) (v1 := (.slice (some ⟨go79, 0, none⟩) x10_4.length co80)) (ok := (fun k_ => some k_ ≠ (v610 : Value).ownBlock ∧ some k_ ≠ (.slice (some ad622) t614.length co30 : Value).ownBlock)) (by (with_reducible repeat (first | apply Kd.R_alloc | apply Kd.R_drewN | apply Kd.R_drew)); exact Kd.R_mono HL622_0.out (fun _ hk => ⟨⟨hk.1.1, hk.2⟩, hk.1.2⟩)) hg (.inl rfl)); have n5_ := Aside0.mk (Kd.R_after (v := (.slice (some ⟨go79, 0, none⟩) x10_4.length co80)) (v1 := (.slice (some ⟨go79, 0, none⟩) x10_4.length co80)) (ok := (fun k_ => some k_ ≠ (v610 : Value).ownBlock ∧ some k_ ≠ (.slice (some ad622) t614.length co30 : Value).ownBlock)) (by (with_reducible repeat (first | apply Kd.R_alloc | apply Kd.R_drewN | apply Kd.R_drew)); exact Kd.R_mono HL623_0.out (fun _ hk => ⟨⟨hk.1.1, hk.2⟩, hk.1.2⟩)) hg (.inl rfl)); have n6_ := Aside0.mk ((by rw [hw]; exact below_set (HB.out) GB79.out : Below w.heap.size w w82)); clear HO_5; clear HO_8; clear HO_10; clear BK605; clear HL622_0; clear HL623_0; clear HB; have HO_5 := n0_; have HO_8 := n1_; have HO_10 := n2_; have BK605 := n3_; have HL622_0 := n4_; have HL623_0 := n5_; have HB := n6_; clear n0_ n1_ n2_ n3_ n4_ n5_ n6_; clear hg hw hp_)))
                         go_roundg k4
                         case measure => have := HJ2.out; have := HJ14.out; have := HK3.out; have := HK4.out; omega
                         case rel => exact ⟨(y637), (wrap64 (x11_4 + 1)), (wrap64 (x13_4 + 1)), (by first | rfl | (simp; done) | (simp [*]; done)), (by first | rfl | (simp; done) | (simp [*]; done)), H', ⟨by have := HJ2.out; have := HJ14.out; have := HK3.out; have := HK4.out; omega⟩, ⟨by (with_reducible repeat (first | apply Kd.R_alloc | apply Kd.R_drewN | apply Kd.R_drew)); exact Kd.R_mono HO_5.out (fun _ hk => hk.2)⟩, ⟨by (with_reducible repeat (first | apply Kd.S_alloc | apply Kd.S_drewN | apply Kd.S_drew)); exact HO_8.out⟩, ⟨by (with_reducible repeat (first | apply Kd.R_alloc | apply Kd.R_drewN | apply Kd.R_drew)); exact HO_10.out⟩, ⟨by (with_reducible repeat (first | apply kdn | apply kdr | apply kal)); exact BK605.out⟩, ⟨by repeat (first | (with_reducible first | exact HB.out | apply lal | apply ldn | apply ldr | refine below_set ?_ GE605.out) | exact HB.out)⟩⟩
                      ·rw [if_neg c39] at H
                       exact absurd H (by simp)
                     ·rw [if_neg c38] at H
                      exact absurd H (by simp)
                    ·rw [if_neg c37] at H
                     exact absurd H (by simp)
                 ·rw [if_neg c34] at H
                  exact absurd H (by simp)
                ·rw [if_neg c33] at H
                 have c33b0 : decide (x13_4 < ((rd_L1 t614 x12_3).length : Int)) = false := decide_eq_false c33
                 clear c33
                 by_cases c83 : ((rd_L1 t614 x12_3).length : Int) = 0
                 ·rw [if_pos c83] at H
                  exact absurd H (by simp)
                 ·rw [if_neg c83] at H
                  have c83b0 : (((rd_L1 t614 x12_3).length : Int) == 0) = false := beq_eq_false_iff_ne.mpr c83
                  have c83b1 : (((rd_L1 t614 x12_3).length : Int) != 0) = true := bne_iff_ne.mpr c83
                  have c83b2 : ¬ ((rd_L1 t614 x12_3) = []) := fun h_ => c83 (by rw [h_]; rfl)
                  have H' := Aside0.mk H
                  clear H
                  have p622 : 0 ≤ (x12_3 : Int) := of_decide_eq_true (by first | (with_reducible assumption) | assumption)
                  have q622 : x12_3 < (t614.length : Int) := of_decide_eq_true (by first | (with_reducible assumption) | assumption)
                  obtain ⟨ad622, A622_0, c622_0, e622, hx622_0, hl622_0, hi622_0⟩ := at_L1 (Kd.S_reads' HO_8.out).2.2 x12_3 p622 q622
                  cases e622
                  obtain ⟨ce622, hce622, hMe622, hcc622⟩ := Kd.S_get HO_8.out [] x12_3 p622 (by first | exact q622 | exact of_decide_eq_true (by first | (with_reducible assumption) | assumption) | (have e_ := (Kd.S_reads' HO_8.out).1; omega))
                  obtain ⟨ve622_0, rfl, ge622_0⟩ := hMe622
                  have hv622_0 := hcc622 0 _ rfl
                  rw [Nat.add_zero, show ((Kd.slice 3 (Kd.int .i64))).sz = 1 from rfl, Nat.mul_one] at hv622_0
                  replace hv622_0 := Option.some.inj (hv622_0.symm.trans hx622_0)
                  rw [hv622_0] at ge622_0
                  have HL622_0 := Aside0.mk (show Kd.R (Kd.int .i64) 3 _ _ _ _ (rd_L1 t614 x12_3) from ge622_0)
                  clear hv622_0 ge622_0
                  clear hcc622 hce622
                  have HR622_0 := Aside0.mk hi622_0
                  have HC622_0 := Aside0.mk hl622_0
                  clear hi622_0 hl622_0
                  replace p622 := eq_true p622
                  replace q622 := eq_true q622
                  have p638 : 0 ≤ (x12_3 : Int) := of_decide_eq_true (by first | (with_reducible assumption) | assumption)
                  have q638 : x12_3 < (t614.length : Int) := of_decide_eq_true (by first | (with_reducible assumption) | assumption)
                  obtain ⟨ad638, A638_0, c638_0, e638, hx638_0, hl638_0, hi638_0⟩ := at_L1 (Kd.S_reads' HO_8.out).2.2 x12_3 p638 q638
                  obtain rfl : ad622 = ad638 := (by injection e638)
                  obtain ⟨ce638, hce638, hMe638, hcc638⟩ := Kd.S_get HO_8.out [] x12_3 p638 (by first | exact q638 | exact of_decide_eq_true (by first | (with_reducible assumption) | assumption) | (have e_ := (Kd.S_reads' HO_8.out).1; omega))
                  obtain ⟨ve638_0, rfl, ge638_0⟩ := hMe638
                  have hv638_0 := hcc638 0 _ rfl
                  rw [Nat.add_zero, show ((Kd.slice 3 (Kd.int .i64))).sz = 1 from rfl, Nat.mul_one] at hv638_0
                  replace hv638_0 := Option.some.inj (hv638_0.symm.trans hx638_0)
                  rw [hv638_0] at ge638_0
                  have HL638_0 := Aside0.mk (show Kd.R (Kd.int .i64) 3 _ _ _ _ (rd_L1 t614 x12_3) from ge638_0)
                  clear hv638_0 ge638_0
                  clear hcc638 hce638
                  have HR638_0 := Aside0.mk hi638_0
                  have HC638_0 := Aside0.mk hl638_0
                  clear hi638_0 hl638_0
                  replace p638 := eq_true p638
                  replace q638 := eq_true q638
                  have ea_ := Option.some.inj (hx622_0.symm.trans hx638_0)
                  injection ea_ with ea_ en_ ec_
                  subst ea_
                  subst ec_
                  clear en_
                  go_wp2
                  repeat (go_quiet (fail); try go_wp2)
                  go_roundg k4
                  case measure => have := HJ2.out; have := HJ14.out; have := HK3.out; have := HK4.out; omega
                  case rel => exact ⟨(x10_4), (x11_4), (wrap64 (x12_3 + 1)), (by first | rfl | (simp; done) | (simp [*]; done)), (by first | rfl | (simp; done) | (simp [*]; done)), H', ⟨by have := HJ2.out; have := HJ14.out; have := HK3.out; have := HK4.out; omega⟩, ⟨by (with_reducible repeat (first | apply Kd.R_alloc | apply Kd.R_drewN | apply Kd.R_drew)); exact HO_5.out⟩, ⟨by (with_reducible repeat (first | apply Kd.S_alloc | apply Kd.S_drewN | apply Kd.S_drew)); exact HO_8.out⟩, ⟨by (with_reducible repeat (first | apply Kd.R_alloc | apply Kd.R_drewN | apply Kd.R_drew)); exact HO_10.out⟩, ⟨by (with_reducible repeat (first | apply kdn | apply kdr | apply kal)); exact BK605.out⟩, ⟨by repeat (first | (with_reducible first | exact HB.out | apply lal | apply ldn | apply ldr | refine below_set ?_ GE605.out) | exact HB.out)⟩⟩
               ·rw [if_neg c32] at H
                exact absurd H (by simp)
              ·rw [if_neg c31] at H
               exact absurd H (by simp)
           ·rw [if_neg c29] at H
            have c29b0 : decide (x12_3 < (t614.length : Int)) = false := decide_eq_false c29
            clear c29
            have H' := Aside0.mk H
            clear H
            obtain ⟨Ao84, co84, eo84⟩ := Kd.S_slice HO_8.out
            subst eo84
            go_wp2
            repeat (go_quiet (fail); try go_wp2)
            go_loopg [15] k3 (fun kq v15 w' => ∃ (x15_4 : Int), v15 = .int .i64 x15_4 ∧ Aside0 (trishawlaw06_TripRings.l2 kq l0 t609 t614 x10_3 x11_3 x15_4 = some r) ∧ Aside0 (kq ≤ k3) ∧ Aside0 (Kd.R (Kd.int .i64) 3 w' w.heap.size (fun k_ => some k_ ≠ (v620 : Value).ownBlock) v610 t609) ∧ Aside0 (Kd.S (Kd.slice 3 (Kd.int .i64)) 27 w' w.heap.size (fun k_ => some k_ ≠ (v610 : Value).ownBlock ∧ some k_ ≠ (v620 : Value).ownBlock) (.slice Ao84 t614.length co84) t614) ∧ Aside0 (Kd.R (Kd.int .i64) 3 w' w.heap.size (fun k_ => some k_ ≠ (v610 : Value).ownBlock) v620 x10_3) ∧ Aside0 (w'.heap[gb605]? = some (.cells #[.int .i64 a1_0, .int .i64 a1_1] 24 (0, 0))) ∧ Aside0 (Below w.heap.size w w'))
            case atStart => exact ⟨(0), (by first | rfl | (simp; done) | (simp [*]; done)), H', ⟨Nat.le_refl _⟩, ⟨by (with_reducible repeat (first | apply Kd.R_alloc | apply Kd.R_drewN | apply Kd.R_drew)); exact HO_5.out⟩, ⟨by (with_reducible repeat (first | apply Kd.S_alloc | apply Kd.S_drewN | apply Kd.S_drew)); exact HO_8.out⟩, ⟨by (with_reducible repeat (first | apply Kd.R_alloc | apply Kd.R_drewN | apply Kd.R_drew)); exact HO_10.out⟩, ⟨by (with_reducible repeat (first | apply kdn | apply kdr | apply kal)); exact BK605.out⟩, ⟨by repeat (first | (with_reducible first | exact HB.out | apply lal | apply ldn | apply ldr | refine below_set ?_ GE605.out) | exact HB.out)⟩⟩
            case round =>
             clear H'
             try clear c2
             try clear p2
             try clear c3
             try clear c4
             try clear p5
             try clear q5
             try clear hx5
             try clear hf5
             try clear c6
             try clear p6
             try clear q6
             try clear hx6
             try clear qi6
             try clear hf6
             try clear c7
             try clear p7
             try clear q7
             try clear hx7
             try clear hf7
             try clear c8
             try clear c29
             try clear c29b0
             try clear c31
             try clear c32
             try clear c33
             try clear c33b0
             try clear c34
             try clear c37
             try clear c38
             try clear c39
             try clear c40
             try clear c40b0
             try clear c42
             try clear c43
             try clear c45
             try clear c45b0
             try clear c45b1
             try clear p56
             try clear q56
             try clear hx56
             try clear hf56
             try clear p60
             try clear q60
             try clear hx60
             try clear hf60
             try clear c62
             try clear p62
             try clear q62
             try clear hx62
             try clear c63
             try clear p63
             try clear q63
             try clear hx63
             try clear qi63
             try clear c64
             try clear c64b0
             try clear c64b1
             try clear p64
             try clear c65
             try clear c65b0
             try clear c67
             try clear c67b0
             try clear c68
             try clear c68b0
             try clear c69
             try clear c69b0
             try clear c69b1
             try clear c70
             try clear c70b0
             try clear p71
             try clear q71
             try clear hx71
             try clear hf71
             try clear p75
             try clear q75
             try clear hx75
             try clear hf75
             try clear p79
             try clear q79
             try clear hx79
             try clear hf79
             try clear c83
             try clear c83b0
             try clear c83b1
             try clear c83b2
             try clear hx56_0
             try clear hx60_0
             try clear hx622_0
             try clear hx623_0
             try clear hx624_0
             try clear hx625_0
             try clear hx626_0
             try clear hx627_0
             try clear hx633_0
             try clear hx634_0
             try clear hx638_0
             try clear hx71_0
             try clear hx75_0
             try clear hx79_0
             try clear p56
             try clear p60
             try clear p622
             try clear p623
             try clear p624
             try clear p625
             try clear p626
             try clear p627
             try clear p633
             try clear p634
             try clear p638
             try clear p71
             try clear p75
             try clear p79
             try clear q56
             try clear q60
             try clear q622
             try clear q623
             try clear q624
             try clear q625
             try clear q626
             try clear q627
             try clear q633
             try clear q634
             try clear q638
             try clear q71
             try clear q75
             try clear q79
             obtain ⟨x15_4, rfl, HA, HK4, HO_5, HO_8, HO_10, BK605, HB⟩ := hrel
             cases gk with
             | zero => exact absurd HA.out (by simp [trishawlaw06_TripRings.l2])
             | succ k4 =>
              have H := HA.out
              clear HA
              simp only [trishawlaw06_TripRings.l2] at H
              by_cases c85 : x15_4 < (l0.length : Int)
              ·rw [if_pos c85] at H
               have c85b0 : decide (x15_4 < (l0.length : Int)) = true := decide_eq_true c85
               clear c85
               by_cases c86 : 0 ≤ x15_4
               ·rw [if_pos c86] at H
                have c86b0 : decide (0 ≤ x15_4) = true := decide_eq_true c86
                clear c86
                by_cases c87 : x15_4 < (x10_3.length : Int)
                ·rw [if_pos c87] at H
                 have c87b0 : decide (x15_4 < (x10_3.length : Int)) = true := decide_eq_true c87
                 clear c87
                 by_cases c88 : x15_4 < (t609.length : Int)
                 ·rw [if_pos c88] at H
                  have c88b0 : decide (x15_4 < (t609.length : Int)) = true := decide_eq_true c88
                  clear c88
                  by_cases c89 : 0 ≤ (rd t609 x15_4)
                  ·rw [if_pos c89] at H
                   have c89b0 : decide (0 ≤ (rd t609 x15_4)) = true := decide_eq_true c89
                   clear c89
                   by_cases c90 : (rd t609 x15_4) < (x10_3.length : Int)
                   ·rw [if_pos c90] at H
                    have c90b0 : decide ((rd t609 x15_4) < (x10_3.length : Int)) = true := decide_eq_true c90
                    clear c90
                    by_cases c91 : (rd x10_3 x15_4) = (rd x10_3 (rd t609 x15_4))
                    ·rw [if_pos c91] at H
                     have c91b0 : ((rd x10_3 x15_4) == (rd x10_3 (rd t609 x15_4))) = true := beq_iff_eq.mpr c91
                     have c91b1 : ((rd x10_3 x15_4) != (rd x10_3 (rd t609 x15_4))) = false := bne_eq_false_iff_eq.mpr c91
                     clear c91
                     have H' := Aside0.mk H
                     clear H
                     obtain ⟨Ao92, co92, eo92⟩ := Kd.R_slice HO_10.out
                     subst eo92
                     have p639 : 0 ≤ (x15_4 : Int) := of_decide_eq_true (by first | (with_reducible assumption) | assumption)
                     have q639 : x15_4 < (x10_3.length : Int) := of_decide_eq_true (by first | (with_reducible assumption) | assumption)
                     obtain ⟨ad639, e639, hx639_0⟩ := Kd.at_int (Kd.R_reads' HO_10.out).2.2 x15_4 p639 q639
                     cases e639
                     replace p639 := eq_true p639
                     replace q639 := eq_true q639
                     obtain ⟨Ao93, co93, eo93⟩ := Kd.R_slice HO_5.out
                     subst eo93
                     have p640 : 0 ≤ (x15_4 : Int) := of_decide_eq_true (by first | (with_reducible assumption) | assumption)
                     have q640 : x15_4 < (t609.length : Int) := of_decide_eq_true (by first | (with_reducible assumption) | assumption)
                     obtain ⟨ad640, e640, hx640_0⟩ := Kd.at_int (Kd.R_reads' HO_5.out).2.2 x15_4 p640 q640
                     cases e640
                     replace p640 := eq_true p640
                     replace q640 := eq_true q640
                     have p641 : 0 ≤ ((rd t609 x15_4) : Int) := of_decide_eq_true (by first | (with_reducible assumption) | assumption)
                     have q641 : (rd t609 x15_4) < (x10_3.length : Int) := of_decide_eq_true (by first | (with_reducible assumption) | assumption)
                     obtain ⟨ad641, e641, hx641_0⟩ := Kd.at_int (Kd.R_reads' HO_10.out).2.2 (rd t609 x15_4) p641 q641
                     obtain rfl : ad639 = ad641 := (by injection e641)
                     replace p641 := eq_true p641
                     replace q641 := eq_true q641
                     go_wp2
                     repeat (go_quiet (fail); try go_wp2)
                     go_roundg k4
                     case measure => have := HJ2.out; have := HJ14.out; have := HK3.out; have := HK4.out; omega
                     case rel => exact ⟨(wrap64 (x15_4 + 1)), (by first | rfl | (simp; done) | (simp [*]; done)), H', ⟨by have := HJ2.out; have := HJ14.out; have := HK3.out; have := HK4.out; omega⟩, ⟨by (with_reducible repeat (first | apply Kd.R_alloc | apply Kd.R_drewN | apply Kd.R_drew)); exact HO_5.out⟩, ⟨by (with_reducible repeat (first | apply Kd.S_alloc | apply Kd.S_drewN | apply Kd.S_drew)); exact HO_8.out⟩, ⟨by (with_reducible repeat (first | apply Kd.R_alloc | apply Kd.R_drewN | apply Kd.R_drew)); exact HO_10.out⟩, ⟨by (with_reducible repeat (first | apply kdn | apply kdr | apply kal)); exact BK605.out⟩, ⟨by repeat (first | (with_reducible first | exact HB.out | apply lal | apply ldn | apply ldr | refine below_set ?_ GE605.out) | exact HB.out)⟩⟩
                    ·rw [if_neg c91] at H
                     exact absurd H (by simp)
                   ·rw [if_neg c90] at H
                    exact absurd H (by simp)
                  ·rw [if_neg c89] at H
                   exact absurd H (by simp)
                 ·rw [if_neg c88] at H
                  exact absurd H (by simp)
                ·rw [if_neg c87] at H
                 exact absurd H (by simp)
               ·rw [if_neg c86] at H
                exact absurd H (by simp)
              ·rw [if_neg c85] at H
               have c85b0 : decide (x15_4 < (l0.length : Int)) = false := decide_eq_false c85
               clear c85
               have H' := Aside0.mk H
               clear H
               go_wp2
               repeat (go_quiet (fail); try go_wp2)
               go_loopg [16] k4 (fun kq v16 w' => ∃ (x16_5 : Int), v16 = .int .i64 x16_5 ∧ Aside0 (trishawlaw06_TripRings.l3 kq l0 t609 t614 x11_3 x16_5 = some r) ∧ Aside0 (kq ≤ k4) ∧ Aside0 (Kd.R (Kd.int .i64) 3 w' w.heap.size (fun _ => True) v610 t609) ∧ Aside0 (Kd.S (Kd.slice 3 (Kd.int .i64)) 27 w' w.heap.size (fun k_ => some k_ ≠ (v610 : Value).ownBlock) (.slice Ao84 t614.length co84) t614) ∧ Aside0 (w'.heap[gb605]? = some (.cells #[.int .i64 a1_0, .int .i64 a1_1] 24 (0, 0))) ∧ Aside0 (Below w.heap.size w w'))
               case atStart => exact ⟨(0), (by first | rfl | (simp; done) | (simp [*]; done)), H', ⟨Nat.le_refl _⟩, ⟨by (with_reducible repeat (first | apply Kd.R_alloc | apply Kd.R_drewN | apply Kd.R_drew)); exact Kd.R_mono HO_5.out (fun _ hk => trivial)⟩, ⟨by (with_reducible repeat (first | apply Kd.S_alloc | apply Kd.S_drewN | apply Kd.S_drew)); exact Kd.S_mono HO_8.out (fun _ hk => hk.1)⟩, ⟨by (with_reducible repeat (first | apply kdn | apply kdr | apply kal)); exact BK605.out⟩, ⟨by repeat (first | (with_reducible first | exact HB.out | apply lal | apply ldn | apply ldr | refine below_set ?_ GE605.out) | exact HB.out)⟩⟩
               case round =>
                clear H'
                try clear c2
                try clear p2
                try clear c3
                try clear c4
                try clear p5
                try clear q5
                try clear hx5
                try clear hf5
                try clear c6
                try clear p6
                try clear q6
                try clear hx6
                try clear qi6
                try clear hf6
                try clear c7
                try clear p7
                try clear q7
                try clear hx7
                try clear hf7
                try clear c8
                try clear c9
                try clear c29
                try clear c29b0
                try clear c31
                try clear c32
                try clear c33
                try clear c33b0
                try clear c34
                try clear c37
                try clear c38
                try clear c39
                try clear c40
                try clear c40b0
                try clear c42
                try clear c43
                try clear c45
                try clear c45b0
                try clear c45b1
                try clear p56
                try clear q56
                try clear hx56
                try clear hf56
                try clear p60
                try clear q60
                try clear hx60
                try clear hf60
                try clear c62
                try clear p62
                try clear q62
                try clear hx62
                try clear c63
                try clear p63
                try clear q63
                try clear hx63
                try clear qi63
                try clear c64
                try clear c64b0
                try clear c64b1
                try clear p64
                try clear q64
                try clear hx64
                try clear c65
                try clear c65b0
                try clear c67
                try clear c67b0
                try clear c68
                try clear c68b0
                try clear c69
                try clear c69b0
                try clear c69b1
                try clear c70
                try clear c70b0
                try clear p71
                try clear q71
                try clear hx71
                try clear hf71
                try clear p75
                try clear q75
                try clear hx75
                try clear hf75
                try clear p79
                try clear q79
                try clear hx79
                try clear hf79
                try clear c83
                try clear c83b0
                try clear c83b1
                try clear c83b2
                try clear c85
                try clear c85b0
                try clear c86
                try clear c86b0
                try clear c87
                try clear c87b0
                try clear c88
                try clear c88b0
                try clear c89
                try clear c89b0
                try clear c90
                try clear c90b0
                try clear c91
                try clear c91b0
                try clear c91b1
                try clear hx56_0
                try clear hx60_0
                try clear hx622_0
                try clear hx623_0
                try clear hx624_0
                try clear hx625_0
                try clear hx626_0
                try clear hx627_0
                try clear hx633_0
                try clear hx634_0
                try clear hx638_0
                try clear hx639_0
                try clear hx640_0
                try clear hx641_0
                try clear hx71_0
                try clear hx75_0
                try clear hx79_0
                try clear p2
                try clear p5
                try clear p56
                try clear p6
                try clear p60
                try clear p62
                try clear p622
                try clear p623
                try clear p624
                try clear p625
                try clear p626
                try clear p627
                try clear p63
                try clear p633
                try clear p634
                try clear p638
                try clear p639
                try clear p64
                try clear p640
                try clear p641
                try clear p7
                try clear p71
                try clear p75
                try clear p79
                try clear q5
                try clear q56
                try clear q6
                try clear q60
                try clear q62
                try clear q622
                try clear q623
                try clear q624
                try clear q625
                try clear q626
                try clear q627
                try clear q63
                try clear q633
                try clear q634
                try clear q638
                try clear q639
                try clear q640
                try clear q641
                try clear q7
                try clear q71
                try clear q75
                try clear q79
                obtain ⟨x16_5, rfl, HA, HK5, HO_5, HO_8, BK605, HB⟩ := hrel
                cases gk with
                | zero => exact absurd HA.out (by simp [trishawlaw06_TripRings.l3])
                | succ k5 =>
                 have H := HA.out
                 clear HA
                 simp only [trishawlaw06_TripRings.l3] at H
                 by_cases c94 : x16_5 < (t614.length : Int)
                 ·rw [if_pos c94] at H
                  have c94b0 : decide (x16_5 < (t614.length : Int)) = true := decide_eq_true c94
                  clear c94
                  by_cases c95 : 0 ≤ x16_5
                  ·rw [if_pos c95] at H
                   have c95b0 : decide (0 ≤ x16_5) = true := decide_eq_true c95
                   clear c95
                   by_cases c96 : 0 < ((rd_L1 t614 x16_5).length : Int)
                   ·rw [if_pos c96] at H
                    have c96b0 : decide (0 < ((rd_L1 t614 x16_5).length : Int)) = true := decide_eq_true c96
                    have c96b1 : decide (0 < (rd_L1 t614 x16_5).length) = true := decide_eq_true (by omega)
                    clear c96
                    by_cases c97 : 0 ≤ (rd (rd_L1 t614 x16_5) 0)
                    ·rw [if_pos c97] at H
                     have c97b0 : decide (0 ≤ (rd (rd_L1 t614 x16_5) 0)) = true := decide_eq_true c97
                     clear c97
                     by_cases c98 : (rd (rd_L1 t614 x16_5) 0) < (t609.length : Int)
                     ·rw [if_pos c98] at H
                      have c98b0 : decide ((rd (rd_L1 t614 x16_5) 0) < (t609.length : Int)) = true := decide_eq_true c98
                      clear c98
                      have H' := Aside0.mk H
                      clear H
                      have p643 : 0 ≤ (x16_5 : Int) := of_decide_eq_true (by first | (with_reducible assumption) | assumption)
                      have q643 : x16_5 < (t614.length : Int) := of_decide_eq_true (by first | (with_reducible assumption) | assumption)
                      obtain ⟨ad643, A643_0, c643_0, e643, hx643_0, hl643_0, hi643_0⟩ := at_L1 (Kd.S_reads' HO_8.out).2.2 x16_5 p643 q643
                      cases e643
                      obtain ⟨ce643, hce643, hMe643, hcc643⟩ := Kd.S_get HO_8.out [] x16_5 p643 (by first | exact q643 | exact of_decide_eq_true (by first | (with_reducible assumption) | assumption) | (have e_ := (Kd.S_reads' HO_8.out).1; omega))
                      obtain ⟨ve643_0, rfl, ge643_0⟩ := hMe643
                      have hv643_0 := hcc643 0 _ rfl
                      rw [Nat.add_zero, show ((Kd.slice 3 (Kd.int .i64))).sz = 1 from rfl, Nat.mul_one] at hv643_0
                      replace hv643_0 := Option.some.inj (hv643_0.symm.trans hx643_0)
                      rw [hv643_0] at ge643_0
                      have HL643_0 := Aside0.mk (show Kd.R (Kd.int .i64) 3 _ _ _ _ (rd_L1 t614 x16_5) from ge643_0)
                      clear hv643_0 ge643_0
                      clear hcc643 hce643
                      have HR643_0 := Aside0.mk hi643_0
                      have HC643_0 := Aside0.mk hl643_0
                      clear hi643_0 hl643_0
                      replace p643 := eq_true p643
                      replace q643 := eq_true q643
                      have p644 : 0 ≤ (0 : Int) := (by omega)
                      have q644 : 0 < ((rd_L1 t614 x16_5).length : Int) := of_decide_eq_true (by first | (with_reducible assumption) | assumption)
                      obtain ⟨ad644, e644, hx644_0⟩ := Kd.at_int (by repeat (first | (with_reducible exact HR643_0.out) | (with_reducible refine Kd.C_alloc ?_ _) | (with_reducible refine Kd.C_drewN ?_ _) | (with_reducible refine Kd.C_drew ?_) | exact HR643_0.out)) 0 p644 q644
                      cases e644
                      have qi644 : (0 < (rd_L1 t614 x16_5).length) = True := eq_true (by omega)
                      (try rw [show ((0 : Int)).toNat = 0 from rfl] at hx644_0)
                      (try rw [Addr.add_zero'] at hx644_0)
                      replace p644 := eq_true p644
                      replace q644 := eq_true q644
                      obtain ⟨Ao99, co99, eo99⟩ := Kd.R_slice HO_5.out
                      subst eo99
                      have p645 : 0 ≤ ((rd (rd_L1 t614 x16_5) 0) : Int) := of_decide_eq_true (by first | (with_reducible assumption) | assumption)
                      have q645 : (rd (rd_L1 t614 x16_5) 0) < (t609.length : Int) := of_decide_eq_true (by first | (with_reducible assumption) | assumption)
                      obtain ⟨ad645, e645, hx645_0⟩ := Kd.at_int (Kd.R_reads' HO_5.out).2.2 (rd (rd_L1 t614 x16_5) 0) p645 q645
                      cases e645
                      replace p645 := eq_true p645
                      replace q645 := eq_true q645
                      go_wp2
                      repeat (go_quiet (fail); try go_wp2)
                      go_loopg [17, 18] k5 (fun kq v17 v18 w' => ∃ (x17_6 : Int) (x18_6 : Int), v17 = .int .i64 x17_6 ∧ v18 = .int .i64 x18_6 ∧ Aside0 (trishawlaw06_TripRings.l4 kq l0 t609 t614 x11_3 x16_5 x17_6 x18_6 = some r) ∧ Aside0 (kq ≤ k5) ∧ Aside0 (Kd.R (Kd.int .i64) 3 w' w.heap.size (fun _ => True) (.slice (some ad645) t609.length co99) t609) ∧ Aside0 (Kd.S (Kd.slice 3 (Kd.int .i64)) 27 w' w.heap.size (fun k_ => some k_ ≠ ((.slice (some ad645) t609.length co99) : Value).ownBlock) (.slice (some ad643) t614.length co84) t614) ∧ Aside0 (w'.heap[gb605]? = some (.cells #[.int .i64 a1_0, .int .i64 a1_1] 24 (0, 0))) ∧ Aside0 (Kd.C (Kd.int .i64) w' (some ad644) (rd_L1 t614 x16_5).length (rd_L1 t614 x16_5)) ∧ Aside0 (Below w.heap.size w w'))
                      case atStart => exact ⟨(1), (rd t609 (rd (rd_L1 t614 x16_5) 0)), (by first | rfl | (simp; done) | (simp [*]; done)), (by first | rfl | (simp; done) | (simp [*]; done)), H', ⟨Nat.le_refl _⟩, ⟨by (with_reducible repeat (first | apply Kd.R_alloc | apply Kd.R_drewN | apply Kd.R_drew)); exact HO_5.out⟩, ⟨by (with_reducible repeat (first | apply Kd.S_alloc | apply Kd.S_drewN | apply Kd.S_drew)); exact HO_8.out⟩, ⟨by (with_reducible repeat (first | apply kdn | apply kdr | apply kal)); exact BK605.out⟩, ⟨by repeat (first | (with_reducible exact HR643_0.out) | (with_reducible refine Kd.C_alloc ?_ _) | (with_reducible refine Kd.C_drewN ?_ _) | (with_reducible refine Kd.C_drew ?_) | exact HR643_0.out)⟩, ⟨by repeat (first | (with_reducible first | exact HB.out | apply lal | apply ldn | apply ldr | refine below_set ?_ GE605.out) | exact HB.out)⟩⟩
                      case round =>
                       clear H'
                       try clear c2
                       try clear p2
                       try clear c3
                       try clear c4
                       try clear p5
                       try clear q5
                       try clear hx5
                       try clear hf5
                       try clear c6
                       try clear p6
                       try clear q6
                       try clear hx6
                       try clear qi6
                       try clear hf6
                       try clear c7
                       try clear p7
                       try clear q7
                       try clear hx7
                       try clear hf7
                       try clear c8
                       try clear c9
                       try clear c29
                       try clear c29b0
                       try clear c31
                       try clear c32
                       try clear c33
                       try clear c33b0
                       try clear c34
                       try clear c37
                       try clear c38
                       try clear c39
                       try clear c40
                       try clear c40b0
                       try clear c42
                       try clear c43
                       try clear c45
                       try clear c45b0
                       try clear c45b1
                       try clear p56
                       try clear q56
                       try clear hx56
                       try clear hf56
                       try clear p60
                       try clear q60
                       try clear hx60
                       try clear hf60
                       try clear c62
                       try clear p62
                       try clear q62
                       try clear hx62
                       try clear c63
                       try clear p63
                       try clear q63
                       try clear hx63
                       try clear qi63
                       try clear c64
                       try clear c64b0
                       try clear c64b1
                       try clear p64
                       try clear q64
                       try clear hx64
                       try clear qi64
                       try clear c65
                       try clear c65b0
                       try clear c67
                       try clear c67b0
                       try clear c68
                       try clear c68b0
                       try clear c69
                       try clear c69b0
                       try clear c69b1
                       try clear c70
                       try clear c70b0
                       try clear p71
                       try clear q71
                       try clear hx71
                       try clear hf71
                       try clear p75
                       try clear q75
                       try clear hx75
                       try clear hf75
                       try clear p79
                       try clear q79
                       try clear hx79
                       try clear hf79
                       try clear c83
                       try clear c83b0
                       try clear c83b1
                       try clear c83b2
                       try clear c85
                       try clear c85b0
                       try clear c86
                       try clear c86b0
                       try clear c87
                       try clear c87b0
                       try clear c88
                       try clear c88b0
                       try clear c89
                       try clear c89b0
                       try clear c90
                       try clear c90b0
                       try clear c91
                       try clear c91b0
                       try clear c91b1
                       try clear c94
                       try clear c94b0
                       try clear c95
                       try clear c95b0
                       try clear c96
                       try clear c96b0
                       try clear c96b1
                       try clear c97
                       try clear c97b0
                       try clear c98
                       try clear c98b0
                       try clear hx56_0
                       try clear hx60_0
                       try clear hx622_0
                       try clear hx623_0
                       try clear hx624_0
                       try clear hx625_0
                       try clear hx626_0
                       try clear hx627_0
                       try clear hx633_0
                       try clear hx634_0
                       try clear hx638_0
                       try clear hx639_0
                       try clear hx640_0
                       try clear hx641_0
                       try clear hx643_0
                       try clear hx644_0
                       try clear hx645_0
                       try clear hx71_0
                       try clear hx75_0
                       try clear hx79_0
                       try clear p2
                       try clear p5
                       try clear p56
                       try clear p6
                       try clear p60
                       try clear p62
                       try clear p622
                       try clear p623
                       try clear p624
                       try clear p625
                       try clear p626
                       try clear p627
                       try clear p63
                       try clear p633
                       try clear p634
                       try clear p638
                       try clear p639
                       try clear p64
                       try clear p640
                       try clear p641
                       try clear p643
                       try clear p644
                       try clear p645
                       try clear p7
                       try clear p71
                       try clear p75
                       try clear p79
                       try clear q5
                       try clear q56
                       try clear q6
                       try clear q60
                       try clear q62
                       try clear q622
                       try clear q623
                       try clear q624
                       try clear q625
                       try clear q626
                       try clear q627
                       try clear q63
                       try clear q633
                       try clear q634
                       try clear q638
                       try clear q639
                       try clear q64
                       try clear q640
                       try clear q641
                       try clear q643
                       try clear q644
                       try clear q645
                       try clear q7
                       try clear q71
                       try clear q75
                       try clear q79
                       obtain ⟨x17_6, x18_6, rfl, rfl, HA, HK6, HO_5, HO_8, BK605, HR643_0, HB⟩ := hrel
                       cases gk with
                       | zero => exact absurd HA.out (by simp [trishawlaw06_TripRings.l4])
                       | succ k6 =>
                        have H := HA.out
                        clear HA
                        simp only [trishawlaw06_TripRings.l4] at H
                        by_cases c100 : 0 ≤ x16_5
                        ·rw [if_pos c100] at H
                         have c100b0 : decide (0 ≤ x16_5) = true := decide_eq_true c100
                         clear c100
                         by_cases c101 : x16_5 < (t614.length : Int)
                         ·rw [if_pos c101] at H
                          have c101b0 : decide (x16_5 < (t614.length : Int)) = true := decide_eq_true c101
                          clear c101
                          by_cases c102 : 0 < ((rd_L1 t614 x16_5).length : Int)
                          ·rw [if_pos c102] at H
                           have c102b0 : decide (0 < ((rd_L1 t614 x16_5).length : Int)) = true := decide_eq_true c102
                           have c102b1 : decide (0 < (rd_L1 t614 x16_5).length) = true := decide_eq_true (by omega)
                           clear c102
                           by_cases c103 : x18_6 = (rd (rd_L1 t614 x16_5) 0)
                           ·rw [if_pos c103] at H
                            have c103b0 : (x18_6 == (rd (rd_L1 t614 x16_5) 0)) = true := beq_iff_eq.mpr c103
                            have c103b1 : (x18_6 != (rd (rd_L1 t614 x16_5) 0)) = false := bne_eq_false_iff_eq.mpr c103
                            clear c103
                            by_cases c104 : x17_6 = ((rd_L1 t614 x16_5).length : Int)
                            ·rw [if_pos c104] at H
                             have c104b0 : (x17_6 == ((rd_L1 t614 x16_5).length : Int)) = true := beq_iff_eq.mpr c104
                             have c104b1 : (x17_6 != ((rd_L1 t614 x16_5).length : Int)) = false := bne_eq_false_iff_eq.mpr c104
                             clear c104
                             have H' := Aside0.mk H
                             clear H
                             have p646 : 0 ≤ (x16_5 : Int) := of_decide_eq_true (by first | (with_reducible assumption) | assumption)
                             have q646 : x16_5 < (t614.length : Int) := of_decide_eq_true (by first | (with_reducible assumption) | assumption)
                             obtain ⟨ad646, A646_0, c646_0, e646, hx646_0, hl646_0, hi646_0⟩ := at_L1 (Kd.S_reads' HO_8.out).2.2 x16_5 p646 q646
                             obtain rfl : ad643 = ad646 := (by injection e646)
                             obtain ⟨ce646, hce646, hMe646, hcc646⟩ := Kd.S_get HO_8.out [] x16_5 p646 (by first | exact q646 | exact of_decide_eq_true (by first | (with_reducible assumption) | assumption) | (have e_ := (Kd.S_reads' HO_8.out).1; omega))
                             obtain ⟨ve646_0, rfl, ge646_0⟩ := hMe646
                             have hv646_0 := hcc646 0 _ rfl
                             rw [Nat.add_zero, show ((Kd.slice 3 (Kd.int .i64))).sz = 1 from rfl, Nat.mul_one] at hv646_0
                             replace hv646_0 := Option.some.inj (hv646_0.symm.trans hx646_0)
                             rw [hv646_0] at ge646_0
                             have HL646_0 := Aside0.mk (show Kd.R (Kd.int .i64) 3 _ _ _ _ (rd_L1 t614 x16_5) from ge646_0)
                             clear hv646_0 ge646_0
                             clear hcc646 hce646
                             have HR646_0 := Aside0.mk hi646_0
                             have HC646_0 := Aside0.mk hl646_0
                             clear hi646_0 hl646_0
                             replace p646 := eq_true p646
                             replace q646 := eq_true q646
                             have p647 : 0 ≤ (0 : Int) := (by omega)
                             have q647 : 0 < ((rd_L1 t614 x16_5).length : Int) := of_decide_eq_true (by first | (with_reducible assumption) | assumption)
                             obtain ⟨ad647, e647, hx647_0⟩ := Kd.at_int (by repeat (first | (with_reducible exact HR646_0.out) | (with_reducible refine Kd.C_alloc ?_ _) | (with_reducible refine Kd.C_drewN ?_ _) | (with_reducible refine Kd.C_drew ?_) | exact HR646_0.out)) 0 p647 q647
                             cases e647
                             have qi647 : (0 < (rd_L1 t614 x16_5).length) = True := eq_true (by omega)
                             (try rw [show ((0 : Int)).toNat = 0 from rfl] at hx647_0)
                             (try rw [Addr.add_zero'] at hx647_0)
                             replace p647 := eq_true p647
                             replace q647 := eq_true q647
                             have p648 : 0 ≤ (x16_5 : Int) := of_decide_eq_true (by first | (with_reducible assumption) | assumption)
                             have q648 : x16_5 < (t614.length : Int) := of_decide_eq_true (by first | (with_reducible assumption) | assumption)
                             obtain ⟨ad648, A648_0, c648_0, e648, hx648_0, hl648_0, hi648_0⟩ := at_L1 (Kd.S_reads' HO_8.out).2.2 x16_5 p648 q648
                             obtain rfl : ad643 = ad648 := (by injection e648)
                             obtain ⟨ce648, hce648, hMe648, hcc648⟩ := Kd.S_get HO_8.out [] x16_5 p648 (by first | exact q648 | exact of_decide_eq_true (by first | (with_reducible assumption) | assumption) | (have e_ := (Kd.S_reads' HO_8.out).1; omega))
                             obtain ⟨ve648_0, rfl, ge648_0⟩ := hMe648
                             have hv648_0 := hcc648 0 _ rfl
                             rw [Nat.add_zero, show ((Kd.slice 3 (Kd.int .i64))).sz = 1 from rfl, Nat.mul_one] at hv648_0
                             replace hv648_0 := Option.some.inj (hv648_0.symm.trans hx648_0)
                             rw [hv648_0] at ge648_0
                             have HL648_0 := Aside0.mk (show Kd.R (Kd.int .i64) 3 _ _ _ _ (rd_L1 t614 x16_5) from ge648_0)
                             clear hv648_0 ge648_0
                             clear hcc648 hce648
                             have HR648_0 := Aside0.mk hi648_0
                             have HC648_0 := Aside0.mk hl648_0
                             clear hi648_0 hl648_0
                             replace p648 := eq_true p648
                             replace q648 := eq_true q648
                             have ea_ := Option.some.inj (hx646_0.symm.trans hx648_0)
                             injection ea_ with ea_ en_ ec_
                             subst ea_
                             subst ec_
                             clear en_
                             go_wp2
                             repeat (go_quiet (fail); try go_wp2)
                             go_roundg k6
                             case measure => have := HJ2.out; have := HJ14.out; have := HK3.out; have := HK4.out; have := HK5.out; have := HK6.out; omega
                             case rel => exact ⟨(wrap64 (x16_5 + 1)), (by first | rfl | (simp; done) | (simp [*]; done)), H', ⟨by have := HJ2.out; have := HJ14.out; have := HK3.out; have := HK4.out; have := HK5.out; have := HK6.out; omega⟩, ⟨by (with_reducible repeat (first | apply Kd.R_alloc | apply Kd.R_drewN | apply Kd.R_drew)); exact HO_5.out⟩, ⟨by (with_reducible repeat (first | apply Kd.S_alloc | apply Kd.S_drewN | apply Kd.S_drew)); exact HO_8.out⟩, ⟨by (with_reducible repeat (first | apply kdn | apply kdr | apply kal)); exact BK605.out⟩, ⟨by repeat (first | (with_reducible first | exact HB.out | apply lal | apply ldn | apply ldr | refine below_set ?_ GE605.out) | exact HB.out)⟩⟩
                            ·rw [if_neg c104] at H
                             exact absurd H (by simp)
                           ·rw [if_neg c103] at H
                            have c103b0 : (x18_6 == (rd (rd_L1 t614 x16_5) 0)) = false := beq_eq_false_iff_ne.mpr c103
                            have c103b1 : (x18_6 != (rd (rd_L1 t614 x16_5) 0)) = true := bne_iff_ne.mpr c103
                            by_cases c105 : 0 ≤ x18_6
                            ·rw [if_pos c105] at H
                             have c105b0 : decide (0 ≤ x18_6) = true := decide_eq_true c105
                             clear c105
                             by_cases c106 : x18_6 < (t609.length : Int)
                             ·rw [if_pos c106] at H
                              have c106b0 : decide (x18_6 < (t609.length : Int)) = true := decide_eq_true c106
                              clear c106
                              have H' := Aside0.mk H
                              clear H
                              have p646 : 0 ≤ (x16_5 : Int) := of_decide_eq_true (by first | (with_reducible assumption) | assumption)
                              have q646 : x16_5 < (t614.length : Int) := of_decide_eq_true (by first | (with_reducible assumption) | assumption)
                              obtain ⟨ad646, A646_0, c646_0, e646, hx646_0, hl646_0, hi646_0⟩ := at_L1 (Kd.S_reads' HO_8.out).2.2 x16_5 p646 q646
                              obtain rfl : ad643 = ad646 := (by injection e646)
                              obtain ⟨ce646, hce646, hMe646, hcc646⟩ := Kd.S_get HO_8.out [] x16_5 p646 (by first | exact q646 | exact of_decide_eq_true (by first | (with_reducible assumption) | assumption) | (have e_ := (Kd.S_reads' HO_8.out).1; omega))
                              obtain ⟨ve646_0, rfl, ge646_0⟩ := hMe646
                              have hv646_0 := hcc646 0 _ rfl
                              rw [Nat.add_zero, show ((Kd.slice 3 (Kd.int .i64))).sz = 1 from rfl, Nat.mul_one] at hv646_0
                              replace hv646_0 := Option.some.inj (hv646_0.symm.trans hx646_0)
                              rw [hv646_0] at ge646_0
                              have HL646_0 := Aside0.mk (show Kd.R (Kd.int .i64) 3 _ _ _ _ (rd_L1 t614 x16_5) from ge646_0)
                              clear hv646_0 ge646_0
                              clear hcc646 hce646
                              have HR646_0 := Aside0.mk hi646_0
                              have HC646_0 := Aside0.mk hl646_0
                              clear hi646_0 hl646_0
                              replace p646 := eq_true p646
                              replace q646 := eq_true q646
                              have p647 : 0 ≤ (0 : Int) := (by omega)
                              have q647 : 0 < ((rd_L1 t614 x16_5).length : Int) := of_decide_eq_true (by first | (with_reducible assumption) | assumption)
                              obtain ⟨ad647, e647, hx647_0⟩ := Kd.at_int (by repeat (first | (with_reducible exact HR646_0.out) | (with_reducible refine Kd.C_alloc ?_ _) | (with_reducible refine Kd.C_drewN ?_ _) | (with_reducible refine Kd.C_drew ?_) | exact HR646_0.out)) 0 p647 q647
                              cases e647
                              have qi647 : (0 < (rd_L1 t614 x16_5).length) = True := eq_true (by omega)
                              (try rw [show ((0 : Int)).toNat = 0 from rfl] at hx647_0)
                              (try rw [Addr.add_zero'] at hx647_0)
                              replace p647 := eq_true p647
                              replace q647 := eq_true q647
                              have p649 : 0 ≤ (x18_6 : Int) := of_decide_eq_true (by first | (with_reducible assumption) | assumption)
                              have q649 : x18_6 < (t609.length : Int) := of_decide_eq_true (by first | (with_reducible assumption) | assumption)
                              obtain ⟨ad649, e649, hx649_0⟩ := Kd.at_int (Kd.R_reads' HO_5.out).2.2 x18_6 p649 q649
                              obtain rfl : ad645 = ad649 := (by injection e649)
                              replace p649 := eq_true p649
                              replace q649 := eq_true q649
                              go_wp2
                              repeat (go_quiet (fail); try go_wp2)
                              go_roundg k6
                              case measure => have := HJ2.out; have := HJ14.out; have := HK3.out; have := HK4.out; have := HK5.out; have := HK6.out; omega
                              case rel => exact ⟨(wrap64 (x17_6 + 1)), (rd t609 x18_6), (by first | rfl | (simp; done) | (simp [*]; done)), (by first | rfl | (simp; done) | (simp [*]; done)), H', ⟨by have := HJ2.out; have := HJ14.out; have := HK3.out; have := HK4.out; have := HK5.out; have := HK6.out; omega⟩, ⟨by (with_reducible repeat (first | apply Kd.R_alloc | apply Kd.R_drewN | apply Kd.R_drew)); exact HO_5.out⟩, ⟨by (with_reducible repeat (first | apply Kd.S_alloc | apply Kd.S_drewN | apply Kd.S_drew)); exact HO_8.out⟩, ⟨by (with_reducible repeat (first | apply kdn | apply kdr | apply kal)); exact BK605.out⟩, ⟨by repeat (first | (with_reducible exact HR643_0.out) | (with_reducible refine Kd.C_alloc ?_ _) | (with_reducible refine Kd.C_drewN ?_ _) | (with_reducible refine Kd.C_drew ?_) | exact HR643_0.out)⟩, ⟨by repeat (first | (with_reducible first | exact HB.out | apply lal | apply ldn | apply ldr | refine below_set ?_ GE605.out) | exact HB.out)⟩⟩
                             ·rw [if_neg c106] at H
                              exact absurd H (by simp)
                            ·rw [if_neg c105] at H
                             exact absurd H (by simp)
                          ·rw [if_neg c102] at H
                           exact absurd H (by simp)
                         ·rw [if_neg c101] at H
                          exact absurd H (by simp)
                        ·rw [if_neg c100] at H
                         exact absurd H (by simp)
                     ·rw [if_neg c98] at H
                      exact absurd H (by simp)
                    ·rw [if_neg c97] at H
                     exact absurd H (by simp)
                   ·rw [if_neg c96] at H
                    exact absurd H (by simp)
                  ·rw [if_neg c95] at H
                   exact absurd H (by simp)
                 ·rw [if_neg c94] at H
                  have c94b0 : decide (x16_5 < (t614.length : Int)) = false := decide_eq_false c94
                  clear c94
                  by_cases c107 : x11_3 = (l0.length : Int)
                  ·rw [if_pos c107] at H
                   have c107b0 : (x11_3 == (l0.length : Int)) = true := beq_iff_eq.mpr c107
                   have c107b1 : (x11_3 != (l0.length : Int)) = false := bne_eq_false_iff_eq.mpr c107
                   clear c107
                   replace H := Option.bind_eq_some_iff.mp H
                   obtain ⟨t642, A1080, H⟩ := H
                   replace H : (some t642) = some r := H
                   have A108 := Aside0.mk A1080
                   clear A1080
                   obtain rfl := Option.some.inj H
                   go_wp2_with (first | (go_at_call 16; (with_reducible refine (trishawlaw06_alive.calls k5  t642 _ A108.out).mono ?_); rintro e w109 ⟨rfl, hb⟩; have n0_ := Aside0.mk (Kd.R_below (by (with_reducible repeat (first | apply Kd.R_alloc | apply Kd.R_drewN | apply Kd.R_drew)); exact HO_5.out) hb); have n1_ := Aside0.mk (Kd.S_below (by (with_reducible repeat (first | apply Kd.S_alloc | apply Kd.S_drewN | apply Kd.S_drew)); exact HO_8.out) hb); have n2_ := Aside0.mk (blk_below (g := gb605) (o := .cells #[.int .i64 a1_0, .int .i64 a1_1] 24 (0, 0)) (by (with_reducible repeat (first | apply kdn | apply kdr | apply kal)); exact BK605.out) hb); have n3_ := Aside0.mk (below_step (by repeat (first | (with_reducible first | exact HB.out | apply lal | apply ldn | apply ldr | refine below_set ?_ GE605.out) | exact HB.out)) hb); clear HO_5; clear HO_8; clear BK605; clear HB; have HO_5 := n0_; have HO_8 := n1_; have BK605 := n2_; have HB := n3_; clear n0_ n1_ n2_ n3_; (try clear hb); (try clear hb2); (try clear hk); (try clear hi)))
                   repeat (go_quiet (first | (go_at_call 16; (with_reducible refine (trishawlaw06_alive.calls k5  t642 _ A108.out).mono ?_); rintro e w109 ⟨rfl, hb⟩; have n0_ := Aside0.mk (Kd.R_below (by (with_reducible repeat (first | apply Kd.R_alloc | apply Kd.R_drewN | apply Kd.R_drew)); exact HO_5.out) hb); have n1_ := Aside0.mk (Kd.S_below (by (with_reducible repeat (first | apply Kd.S_alloc | apply Kd.S_drewN | apply Kd.S_drew)); exact HO_8.out) hb); have n2_ := Aside0.mk (blk_below (g := gb605) (o := .cells #[.int .i64 a1_0, .int .i64 a1_1] 24 (0, 0)) (by (with_reducible repeat (first | apply kdn | apply kdr | apply kal)); exact BK605.out) hb); have n3_ := Aside0.mk (below_step (by repeat (first | (with_reducible first | exact HB.out | apply lal | apply ldn | apply ldr | refine below_set ?_ GE605.out) | exact HB.out)) hb); clear HO_5; clear HO_8; clear BK605; clear HB; have HO_5 := n0_; have HO_8 := n1_; have BK605 := n2_; have HB := n3_; clear n0_ n1_ n2_ n3_; (try clear hb); (try clear hb2); (try clear hk); (try clear hi))); try go_wp2_with (first | (go_at_call 16; (with_reducible refine (trishawlaw06_alive.calls k5  t642 _ A108.out).mono ?_); rintro e w109 ⟨rfl, hb⟩; have n0_ := Aside0.mk (Kd.R_below (by (with_reducible repeat (first | apply Kd.R_alloc | apply Kd.R_drewN | apply Kd.R_drew)); exact HO_5.out) hb); have n1_ := Aside0.mk (Kd.S_below (by (with_reducible repeat (first | apply Kd.S_alloc | apply Kd.S_drewN | apply Kd.S_drew)); exact HO_8.out) hb); have n2_ := Aside0.mk (blk_below (g := gb605) (o := .cells #[.int .i64 a1_0, .int .i64 a1_1] 24 (0, 0)) (by (with_reducible repeat (first | apply kdn | apply kdr | apply kal)); exact BK605.out) hb); have n3_ := Aside0.mk (below_step (by repeat (first | (with_reducible first | exact HB.out | apply lal | apply ldn | apply ldr | refine below_set ?_ GE605.out) | exact HB.out)) hb); clear HO_5; clear HO_8; clear BK605; clear HB; have HO_5 := n0_; have HO_8 := n1_; have BK605 := n2_; have HB := n3_; clear n0_ n1_ n2_ n3_; (try clear hb); (try clear hb2); (try clear hk); (try clear hi))))
                   go_ret
                   exact ⟨by first | rfl | (simp [errW_none, errW_some] <;> rfl) | (simp [*, errW_none, errW_some] <;> rfl), by repeat (first | (with_reducible first | exact HB.out | apply lal | apply ldn | apply ldr | refine below_set ?_ GE605.out) | exact HB.out)⟩
                  ·rw [if_neg c107] at H
                   exact absurd H (by simp)
        ·rw [if_neg c26] at H
         exact absurd H (by simp)
       ·rw [if_neg c25] at H
        exact absurd H (by simp)
end Go.Proofs.Ytlmlneneakpohaa.OAll
