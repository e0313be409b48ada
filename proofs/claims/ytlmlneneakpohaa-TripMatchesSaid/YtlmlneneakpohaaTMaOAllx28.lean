/- A part of the proof of 'tripMatches_holds', for every input, without a condition. -/
import Derived.Test.YtlmlneneakpohaaTMaOAllx0
import Derived.Test.YtlmlneneakpohaaTMaOAllx3
import Derived.Test.YtlmlneneakpohaaTMaOAllx5
import Derived.Test.YtlmlneneakpohaaTMaOAllx9
import Derived.Test.YtlmlneneakpohaaTMaOAllx19
import Derived.Test.YtlmlneneakpohaaTMaOAllx20
import Derived.Test.YtlmlneneakpohaaTMaOAllx24
namespace Go.Proofs.Ytlmlneneakpohaa.OAll
open Go.RowKit Go.Proofs.YtlmlneneakpohaaW.PrintWords Go.Proofs.YtlmlneneakpohaaW.PrintLast Go.Proofs.YtlmlneneakpohaaW.PrintMore
attribute [local go_sem] max2_int min2_int max_two min_two max_three min_three max_four min_four
set_option linter.unusedVariables false
set_option linter.unusedSimpArgs false
mutual
def trishawlaw06_TripMatches.j0 : Nat → List (S36) → Bool → Option (Bool)
 | 0, _, _ => none
 | k + 1, x0, x47 => if x47 = true then (none) else ((trishawref06_Rings.f k x0).bind fun bt579 => (trishawlaw06_TripMatches.l0 k x0 bt579.2 bt579.1 0))
def trishawlaw06_TripMatches.l0 : Nat → List (S36) → Int → List (List Int) → Int → Option (Bool)
 | 0, _, _, _, _ => none
 | k + 1, x0, x10, x11, x12 => if x12 < 2 then ((trip_Rings.f k x0).bind fun bt584 => (if (bt584.1.length : Int) = (x11.length : Int) then (trishawlaw06_TripMatches.j2 k x0 x10 x11 x12 bt584.1 (bt584.2 != x10)) else (none))) else ((trishawlaw06_alive.f k).bind fun t583 => (some t583))
def trishawlaw06_TripMatches.j2 : Nat → List (S36) → Int → List (List Int) → Int → List (List Int) → Bool → Option (Bool)
 | 0, _, _, _, _, _, _ => none
 | k + 1, x0, x10, x11, x12, x13, x71 => if x71 = true then (none) else (trishawlaw06_TripMatches.l1 k x0 x10 x11 x12 x13 0)
def trishawlaw06_TripMatches.l1 : Nat → List (S36) → Int → List (List Int) → Int → List (List Int) → Int → Option (Bool)
 | 0, _, _, _, _, _, _ => none
 | k + 1, x0, x10, x11, x12, x13, x15 => if x15 < (x13.length : Int) then (if 0 ≤ x15 then (if x15 < (x11.length : Int) then ((trishawlaw06_same.f k (rd_L1 x13 x15) (rd_L1 x11 x15)).bind fun t590 => (if t590 = true then (if 0 < ((rd_L1 x13 x15).length : Int) then (trishawlaw06_TripMatches.l1 k x0 x10 x11 x12 (x13.set (x15 : Int).toNat ((rd_L1 x13 x15).set (0 : Int).toNat (-4))) (wrap64 (x15 + 1))) else (none)) else (none))) else (none)) else (none)) else (trishawlaw06_TripMatches.l0 k x0 x10 x11 (wrap64 (x12 + 1)))
end
def trishawlaw06_TripMatches.f (k : Nat) (l0 : List (S36)) (a1_0 : Int) (a1_1 : Int) : Option (Bool) := (trishawlaw06_few.f l0 ([] : List Int)).bind fun t566 => (if t566 = true then ((trip_Matching.f k l0 a1_0 a1_1).bind fun bt568 => ((trishawref06_Matching.f k l0 a1_0 a1_1).bind fun bt573 => ((trishawlaw06_same.f k bt568.1 bt573.1).bind fun t578 => (if t578 = true then (if bt568.2.1 = bt573.2.1 then (trishawlaw06_TripMatches.j0 k l0 (bt568.2.2 != bt573.2.2)) else (none)) else (none))))) else ((trishawlaw06_alive.f k).bind fun t567 => (some t567)))
set_option maxHeartbeats 8000000 in
set_option maxRecDepth 100000 in
theorem trishawlaw06_TripMatches.calls (k : Nat) (A0 : Option Addr) (c0 : Nat) (l0 : List (S36)) (a1_0 : Int) (a1_1 : Int) (r : Bool) (w : World) (hr0 : Kd.C k36 w A0 l0.length l0) (hc0 : l0.length ≤ c0) (h : trishawlaw06_TripMatches.f k l0 a1_0 a1_1 = some r) :
  Calls Try.prog 9 #[.slice A0 l0.length c0, .agg #[.int .i64 a1_0, .int .i64 a1_1]] w fun e w' => e = .returned (.bool r) ∧ Below w.heap.size w w' := by
 have hu24 := Try.underlying24
 have HR0 := Aside0.mk hr0
 have HC0 := Aside0.mk hc0
 clear hr0 hc0
 have HB := Aside0.mk (Below.refl w.heap.size w)
 have H : ((trishawlaw06_few.f l0 ([] : List Int)).bind fun t566 => (if t566 = true then ((trip_Matching.f k l0 a1_0 a1_1).bind fun bt568 => ((trishawref06_Matching.f k l0 a1_0 a1_1).bind fun bt573 => ((trishawlaw06_same.f k bt568.1 bt573.1).bind fun t578 => (if t578 = true then (if bt568.2.1 = bt573.2.1 then (trishawlaw06_TripMatches.j0 k l0 (bt568.2.2 != bt573.2.2)) else (none)) else (none))))) else ((trishawlaw06_alive.f k).bind fun t567 => (some t567)))) = some r := h
 clear h
 replace H := Option.bind_eq_some_iff.mp H
 obtain ⟨t566, A30, H⟩ := H
 replace H : (if t566 = true then ((trip_Matching.f k l0 a1_0 a1_1).bind fun bt568 => ((trishawref06_Matching.f k l0 a1_0 a1_1).bind fun bt573 => ((trishawlaw06_same.f k bt568.1 bt573.1).bind fun t578 => (if t578 = true then (if bt568.2.1 = bt573.2.1 then (trishawlaw06_TripMatches.j0 k l0 (bt568.2.2 != bt573.2.2)) else (none)) else (none))))) else ((trishawlaw06_alive.f k).bind fun t567 => (some t567))) = some r := H
 have A3 := Aside0.mk A30
 clear A30
 by_cases c4 : t566 = true
 ·subst c4
  have H1 : ((trip_Matching.f k l0 a1_0 a1_1).bind fun bt568 => ((trishawref06_Matching.f k l0 a1_0 a1_1).bind fun bt573 => ((trishawlaw06_same.f k bt568.1 bt573.1).bind fun t578 => (if t578 = true then (if bt568.2.1 = bt573.2.1 then (trishawlaw06_TripMatches.j0 k l0 (bt568.2.2 != bt573.2.2)) else (none)) else (none))))) = some r := by rw [if_pos rfl] at H; exact H
  clear H
  have H := H1
  clear H1
  replace H := Option.bind_eq_some_iff.mp H
  obtain ⟨⟨t568, t571, t572⟩, A50, H⟩ := H
  replace H : ((trishawref06_Matching.f k l0 a1_0 a1_1).bind fun bt573 => ((trishawlaw06_same.f k t568 bt573.1).bind fun t578 => (if t578 = true then (if t571 = bt573.2.1 then (trishawlaw06_TripMatches.j0 k l0 (t572 != bt573.2.2)) else (none)) else (none)))) = some r := H
  have A5 := Aside0.mk A50
  clear A50
  replace H := Option.bind_eq_some_iff.mp H
  obtain ⟨⟨t573, t576, t577⟩, A60, H⟩ := H
  replace H : ((trishawlaw06_same.f k t568 t573).bind fun t578 => (if t578 = true then (if t571 = t576 then (trishawlaw06_TripMatches.j0 k l0 (t572 != t577)) else (none)) else (none))) = some r := H
  have A6 := Aside0.mk A60
  clear A60
  have HC7 := Aside0.mk H
  clear H
  go_enter Try.func9, Try.ntmps9
  go_upto_region 5 with (first | ((with_reducible refine gate_dst (N := 3) rfl ?_); refine box_event ?hg (N := 3) ?hd (cs := #[.int .i64 a1_0, .int .i64 a1_1]) (t := 24) ?hr ?_; (case hd => rfl); (case hg => rfl); (case hr => first | (go_simp; done) | (go_simp; rfl)); intro gb565 hg w8 hbox hb; have n0_ := Aside0.mk (below_step (by repeat (first | (with_reducible first | exact HB.out | apply lal | apply ldn | apply ldr) | exact HB.out)) hb); have n1_ := Aside0.mk (hbox); have n2_ := Aside0.mk ((by rw [hg]; exact (below_size (by repeat (first | (with_reducible first | exact HB.out | apply lal | apply ldn | apply ldr) | exact HB.out))) : w.heap.size ≤ gb565)); have n3_ := Aside0.mk ((by rw [hg]; exact (below_size (by repeat (first | (with_reducible first | exact HB.out | apply lal | apply ldn | apply ldr) | exact HB.out))) : w.heap.size ≤ gb565)); clear HB; have HB := n0_; have BK565 := n1_; have GW565 := n2_; have GE565 := n3_; clear n0_ n1_ n2_ n3_; clear hb hbox hg) | (go_at_call 15; (refine (trishawlaw06_few.calls _ _ l0 _ _ ([] : List Int) true _ ?side1 ?side2 ?side3 ?side4 A3.out).mono ?_); (case side1 => repeat (first | exact (Kd.C_below HR0.out HB.out) | (with_reducible refine Kd.C_alloc ?_ _) | (with_reducible refine Kd.C_drewN ?_ _) | (with_reducible refine Kd.C_drew ?_))); (case side2 => exact HC0.out); (case side3 => exact Kd.C_nil _ _); (case side4 => exact Nat.le_refl _); rintro e w' ⟨rfl, ⟨nd, rfl⟩⟩; (try first | exact ⟨rfl, _, World.drewN_drewN _ _ _⟩ | exact ⟨rfl, _, Eq.trans (World.drewN_drewN _ _ _) (congrArg (World.drewN _) (Nat.add_assoc _ _ _))⟩); have hcz9_0 : w8.cell? ⟨gb565, 0, none⟩ = some (.int .i64 a1_0) := (blk_cell BK565.out 0).trans rfl; have hcz9_1 : w8.cell? ⟨gb565, 1, none⟩ = some (.int .i64 a1_1) := (blk_cell BK565.out 1).trans rfl; have hfz9_0 := blk_frozen BK565.out 0; have hfz9_1 := blk_frozen BK565.out 1) | (go_at_call 30; (with_reducible refine (trip_Matching.calls k _ _ l0 a1_0 a1_1 t568 t571 t572 _ ?side1 ?side2 A5.out).mono ?_); (case side1 => repeat (first | exact (Kd.C_below HR0.out (by repeat (first | (with_reducible first | exact HB.out | apply lal | apply ldn | apply ldr | refine below_set ?_ GE565.out) | exact HB.out))) | (with_reducible refine Kd.C_alloc ?_ _) | (with_reducible refine Kd.C_drewN ?_ _) | (with_reducible refine Kd.C_drew ?_))); (case side2 => exact HC0.out); rintro e w10 ⟨v569, rfl, ho0, hb⟩; have n0_ := Aside0.mk (Kd.R_lower ho0 (below_size (by repeat (first | (with_reducible first | exact HB.out | apply lal | apply ldn | apply ldr | refine below_set ?_ GE565.out) | exact HB.out)))); have n1_ := Aside0.mk (blk_below (g := gb565) (o := .cells #[.int .i64 a1_0, .int .i64 a1_1] 24 (0, 0)) (by (with_reducible repeat (first | apply kdn | apply kdr | apply kal)); exact BK565.out) hb); have n2_ := Aside0.mk (below_step (by repeat (first | (with_reducible first | exact HB.out | apply lal | apply ldn | apply ldr | refine below_set ?_ GE565.out) | exact HB.out)) hb); clear BK565; clear HB; have HO570 := n0_; have BK565 := n1_; have HB := n2_; clear n0_ n1_ n2_; (try clear hb); (try clear hb2); (try clear hk); (try clear hi); (try clear ho0); have hcz11_0 : w10.cell? ⟨gb565, 0, none⟩ = some (.int .i64 a1_0) := (blk_cell BK565.out 0).trans rfl; have hcz11_1 : w10.cell? ⟨gb565, 1, none⟩ = some (.int .i64 a1_1) := (blk_cell BK565.out 1).trans rfl; have hfz11_0 := blk_frozen BK565.out 0; have hfz11_1 := blk_frozen BK565.out 1) | (go_at_call 31; (with_reducible refine (trishawref06_Matching.calls k _ _ l0 a1_0 a1_1 t573 t576 t577 _ ?side1 ?side2 A6.out).mono ?_); (case side1 => repeat (first | exact (Kd.C_below HR0.out HB.out) | (with_reducible refine Kd.C_alloc ?_ _) | (with_reducible refine Kd.C_drewN ?_ _) | (with_reducible refine Kd.C_drew ?_))); (case side2 => exact HC0.out); rintro e w12 ⟨v574, rfl, ho0, hb⟩; have n0_ := Aside0.mk (Kd.R_elder' (by (with_reducible repeat (first | apply Kd.R_alloc | apply Kd.R_drewN | apply Kd.R_drew)); exact HO570.out) (Kd.R_base ho0) hb); have n1_ := Aside0.mk (Kd.R_lower (Kd.R_new' ho0 (Kd.R_lt (by (with_reducible repeat (first | apply Kd.R_alloc | apply Kd.R_drewN | apply Kd.R_drew)); exact HO570.out))) (below_size (by repeat (first | (with_reducible first | exact HB.out | apply lal | apply ldn | apply ldr | refine below_set ?_ GE565.out) | exact HB.out)))); have n2_ := Aside0.mk (blk_below (g := gb565) (o := .cells #[.int .i64 a1_0, .int .i64 a1_1] 24 (0, 0)) (by (with_reducible repeat (first | apply kdn | apply kdr | apply kal)); exact BK565.out) hb); have n3_ := Aside0.mk (below_step (by repeat (first | (with_reducible first | exact HB.out | apply lal | apply ldn | apply ldr | refine below_set ?_ GE565.out) | exact HB.out)) hb); clear HO570; clear BK565; clear HB; have HO570 := n0_; have HO575 := n1_; have BK565 := n2_; have HB := n3_; clear n0_ n1_ n2_ n3_; (try clear hb); (try clear hb2); (try clear hk); (try clear hi); (try clear ho0)))
  repeat (go_quiet (first | ((with_reducible refine gate_dst (N := 3) rfl ?_); refine box_event ?hg (N := 3) ?hd (cs := #[.int .i64 a1_0, .int .i64 a1_1]) (t := 24) ?hr ?_; (case hd => rfl); (case hg => rfl); (case hr => first | (go_simp; done) | (go_simp; rfl)); intro gb565 hg w8 hbox hb; have n0_ := Aside0.mk (below_step (by repeat (first | (with_reducible first | exact HB.out | apply lal | apply ldn | apply ldr) | exact HB.out)) hb); have n1_ := Aside0.mk (hbox); have n2_ := Aside0.mk ((by rw [hg]; exact (below_size (by repeat (first | (with_reducible first | exact HB.out | apply lal | apply ldn | apply ldr) | exact HB.out))) : w.heap.size ≤ gb565)); have n3_ := Aside0.mk ((by rw [hg]; exact (below_size (by repeat (first | (with_reducible first | exact HB.out | apply lal | apply ldn | apply ldr) | exact HB.out))) : w.heap.size ≤ gb565)); clear HB; have HB := n0_; have BK565 := n1_; have GW565 := n2_; have GE565 := n3_; clear n0_ n1_ n2_ n3_; clear hb hbox hg) | (go_at_call 15; (refine (trishawlaw06_few.calls _ _ l0 _ _ ([] : List Int) true _ ?side1 ?side2 ?side3 ?side4 A3.out).mono ?_); (case side1 => repeat (first | exact (Kd.C_below HR0.out HB.out) | (with_reducible refine Kd.C_alloc ?_ _) | (with_reducible refine Kd.C_drewN ?_ _) | (with_reducible refine Kd.C_drew ?_))); (case side2 => exact HC0.out); (case side3 => exact Kd.C_nil _ _); (case side4 => exact Nat.le_refl _); rintro e w' ⟨rfl, ⟨nd, rfl⟩⟩; (try first | exact ⟨rfl, _, World.drewN_drewN _ _ _⟩ | exact ⟨rfl, _, Eq.trans (World.drewN_drewN _ _ _) (congrArg (World.drewN _) (Nat.add_assoc _ _ _))⟩); have hcz9_0 : w8.cell? ⟨gb565, 0, none⟩ = some (.int .i64 a1_0) := (blk_cell BK565.out 0).trans rfl; have hcz9_1 : w8.cell? ⟨gb565, 1, none⟩ = some (.int .i64 a1_1) := (blk_cell BK565.out 1).trans rfl; have hfz9_0 := blk_frozen BK565.out 0; have hfz9_1 := blk_frozen BK565.out 1) | (go_at_call 30; (with_reducible refine (trip_Matching.calls k _ _ l0 a1_0 a1_1 t568 t571 t572 _ ?side1 ?side2 A5.out).mono ?_); (case side1 => repeat (first | exact (Kd.C_below HR0.out (by repeat (first | (with_reducible first | exact HB.out | apply lal | apply ldn | apply ldr | refine below_set ?_ GE565.out) | exact HB.out))) | (with_reducible refine Kd.C_alloc ?_ _) | (with_reducible refine Kd.C_drewN ?_ _) | (with_reducible refine Kd.C_drew ?_))); (case side2 => exact HC0.out); rintro e w10 ⟨v569, rfl, ho0, hb⟩; have n0_ := Aside0.mk (Kd.R_lower ho0 (below_size (by repeat (first | (with_reducible first | exact HB.out | apply lal | apply ldn | apply ldr | refine below_set ?_ GE565.out) | exact HB.out)))); have n1_ := Aside0.mk (blk_below (g := gb565) (o := .cells #[.int .i64 a1_0, .int .i64 a1_1] 24 (0, 0)) (by (with_reducible repeat (first | apply kdn | apply kdr | apply kal)); exact BK565.out) hb); have n2_ := Aside0.mk (below_step (by repeat (first | (with_reducible first | exact HB.out | apply lal | apply ldn | apply ldr | refine below_set ?_ GE565.out) | exact HB.out)) hb); clear BK565; clear HB; have HO570 := n0_; have BK565 := n1_; have HB := n2_; clear n0_ n1_ n2_; (try clear hb); (try clear hb2); (try clear hk); (try clear hi); (try clear ho0); have hcz11_0 : w10.cell? ⟨gb565, 0, none⟩ = some (.int .i64 a1_0) := (blk_cell BK565.out 0).trans rfl; have hcz11_1 : w10.cell? ⟨gb565, 1, none⟩ = some (.int .i64 a1_1) := (blk_cell BK565.out 1).trans rfl; have hfz11_0 := blk_frozen BK565.out 0; have hfz11_1 := blk_frozen BK565.out 1) | (go_at_call 31; (with_reducible refine (trishawref06_Matching.calls k _ _ l0 a1_0 a1_1 t573 t576 t577 _ ?side1 ?side2 A6.out).mono ?_); (case side1 => repeat (first | exact (Kd.C_below HR0.out HB.out) | (with_reducible refine Kd.C_alloc ?_ _) | (with_reducible refine Kd.C_drewN ?_ _) | (with_reducible refine Kd.C_drew ?_))); (case side2 => exact HC0.out); rintro e w12 ⟨v574, rfl, ho0, hb⟩; have n0_ := Aside0.mk (Kd.R_elder' (by (with_reducible repeat (first | apply Kd.R_alloc | apply Kd.R_drewN | apply Kd.R_drew)); exact HO570.out) (Kd.R_base ho0) hb); have n1_ := Aside0.mk (Kd.R_lower (Kd.R_new' ho0 (Kd.R_lt (by (with_reducible repeat (first | apply Kd.R_alloc | apply Kd.R_drewN | apply Kd.R_drew)); exact HO570.out))) (below_size (by repeat (first | (with_reducible first | exact HB.out | apply lal | apply ldn | apply ldr | refine below_set ?_ GE565.out) | exact HB.out)))); have n2_ := Aside0.mk (blk_below (g := gb565) (o := .cells #[.int .i64 a1_0, .int .i64 a1_1] 24 (0, 0)) (by (with_reducible repeat (first | apply kdn | apply kdr | apply kal)); exact BK565.out) hb); have n3_ := Aside0.mk (below_step (by repeat (first | (with_reducible first | exact HB.out | apply lal | apply ldn | apply ldr | refine below_set ?_ GE565.out) | exact HB.out)) hb); clear HO570; clear BK565; clear HB; have HO570 := n0_; have HO575 := n1_; have BK565 := n2_; have HB := n3_; clear n0_ n1_ n2_ n3_; (try clear hb); (try clear hb2); (try clear hk); (try clear hi); (try clear ho0))); go_upto_region 5 with (first | ((with_reducible refine gate_dst (N := 3) rfl ?_); refine box_event ?hg (N := 3) ?hd (cs := #[.int .i64 a1_0, .int .i64 a1_1]) (t := 24) ?hr ?_; (case hd => rfl); (case hg => rfl); (case hr => first | (go_simp; done) | (go_simp; rfl)); intro gb565 hg w8 hbox hb; have n0_ := Aside0.mk (below_step (by repeat (first | (with_reducible first | exact HB.out | apply lal | apply ldn | apply ldr) | exact HB.out)) hb); have n1_ := Aside0.mk (hbox); have n2_ := Aside0.mk ((by rw [hg]; exact (below_size (by repeat (first | (with_reducible first | exact HB.out | apply lal | apply ldn | apply ldr) | exact HB.out))) : w.heap.size ≤ gb565)); have n3_ := Aside0.mk ((by rw [hg]; exact (below_size (by repeat (first | (with_reducible first | exact HB.out | apply lal | apply ldn | apply ldr) | exact HB.out))) : w.heap.size ≤ gb565)); clear HB; have HB := n0_; have BK565 := n1_; have GW565 := n2_; have GE565 := n3_; clear n0_ n1_ n2_ n3_; clear hb hbox hg) | (go_at_call 15; (refine (trishawlaw06_few.calls _ _ l0 _ _ ([] : List Int) true _ ?side1 ?side2 ?side3 ?side4 A3.out).mono ?_); (case side1 => repeat (first | exact (Kd.C_below HR0.out HB.out) | (with_reducible refine Kd.C_alloc ?_ _) | (with_reducible refine Kd.C_drewN ?_ _) | (with_reducible refine Kd.C_drew ?_))); (case side2 => exact HC0.out); (case side3 => exact Kd.C_nil _ _); (case side4 => exact Nat.le_refl _); rintro e w' ⟨rfl, ⟨nd, rfl⟩⟩; (try first | exact ⟨rfl, _, World.drewN_drewN _ _ _⟩ | exact ⟨rfl, _, Eq.trans (World.drewN_drewN _ _ _) (congrArg (World.drewN _) (Nat.add_assoc _ _ _))⟩); have hcz9_0 : w8.cell? ⟨gb565, 0, none⟩ = some (.int .i64 a1_0) := (blk_cell BK565.out 0).trans rfl; have hcz9_1 : w8.cell? ⟨gb565, 1, none⟩ = some (.int .i64 a1_1) := (blk_cell BK565.out 1).trans rfl; have hfz9_0 := blk_frozen BK565.out 0; have hfz9_1 := blk_frozen BK565.out 1) | (go_at_call 30; (with_reducible refine (trip_Matching.calls k _ _ l0 a1_0 a1_1 t568 t571 t572 _ ?side1 ?side2 A5.out).mono ?_); (case side1 => repeat (first | exact (Kd.C_below HR0.out (by repeat (first | (with_reducible first | exact HB.out | apply lal | apply ldn | apply ldr | refine below_set ?_ GE565.out) | exact HB.out))) | (with_reducible refine Kd.C_alloc ?_ _) | (with_reducible refine Kd.C_drewN ?_ _) | (with_reducible refine Kd.C_drew ?_))); (case side2 => exact HC0.out); rintro e w10 ⟨v569, rfl, ho0, hb⟩; have n0_ := Aside0.mk (Kd.R_lower ho0 (below_size (by repeat (first | (with_reducible first | exact HB.out | apply lal | apply ldn | apply ldr | refine below_set ?_ GE565.out) | exact HB.out)))); have n1_ := Aside0.mk (blk_below (g := gb565) (o := .cells #[.int .i64 a1_0, .int .i64 a1_1] 24 (0, 0)) (by (with_reducible repeat (first | apply kdn | apply kdr | apply kal)); exact BK565.out) hb); have n2_ := Aside0.mk (below_step (by repeat (first | (with_reducible first | exact HB.out | apply lal | apply ldn | apply ldr | refine below_set ?_ GE565.out) | exact HB.out)) hb); clear BK565; clear HB; have HO570 := n0_; have BK565 := n1_; have HB := n2_; clear n0_ n1_ n2_; (try clear hb); (try clear hb2); (try clear hk); (try clear hi); (try clear ho0); have hcz11_0 : w10.cell? ⟨gb565, 0, none⟩ = some (.int .i64 a1_0) := (blk_cell BK565.out 0).trans rfl; have hcz11_1 : w10.cell? ⟨gb565, 1, none⟩ = some (.int .i64 a1_1) := (blk_cell BK565.out 1).trans rfl; have hfz11_0 := blk_frozen BK565.out 0; have hfz11_1 := blk_frozen BK565.out 1) | (go_at_call 31; (with_reducible refine (trishawref06_Matching.calls k _ _ l0 a1_0 a1_1 t573 t576 t577 _ ?side1 ?side2 A6.out).mono ?_); (case side1 => repeat (first | exact (Kd.C_below HR0.out HB.out) | (with_reducible refine Kd.C_alloc ?_ _) | (with_reducible refine Kd.C_drewN ?_ _) | (with_reducible refine Kd.C_drew ?_))); (case side2 => exact HC0.out); rintro e w12 ⟨v574, rfl, ho0, hb⟩; have n0_ := Aside0.mk (Kd.R_elder' (by (with_reducible repeat (first | apply Kd.R_alloc | apply Kd.R_drewN | apply Kd.R_drew)); exact HO570.out) (Kd.R_base ho0) hb); have n1_ := Aside0.mk (Kd.R_lower (Kd.R_new' ho0 (Kd.R_lt (by (with_reducible repeat (first | apply Kd.R_alloc | apply Kd.R_drewN | apply Kd.R_drew)); exact HO570.out))) (below_size (by repeat (first | (with_reducible first | exact HB.out | apply lal | apply ldn | apply ldr | refine below_set ?_ GE565.out) | exact HB.out)))); have n2_ := Aside0.mk (blk_below (g := gb565) (o := .cells #[.int .i64 a1_0, .int .i64 a1_1] 24 (0, 0)) (by (with_reducible repeat (first | apply kdn | apply kdr | apply kal)); exact BK565.out) hb); have n3_ := Aside0.mk (below_step (by repeat (first | (with_reducible first | exact HB.out | apply lal | apply ldn | apply ldr | refine below_set ?_ GE565.out) | exact HB.out)) hb); clear HO570; clear BK565; clear HB; have HO570 := n0_; have HO575 := n1_; have BK565 := n2_; have HB := n3_; clear n0_ n1_ n2_ n3_; (try clear hb); (try clear hb2); (try clear hk); (try clear hi); (try clear ho0))))
  (try simp only [Act.put, sia, sc0, scs])
  go_cut [47] (fun v47 wc => ∃ (kq : Nat) (x47_6 : Bool), v47 = .bool x47_6 ∧ Aside0 (trishawlaw06_TripMatches.j0 kq l0 x47_6 = some r) ∧ Aside0 (kq ≤ k) ∧ Aside0 (wc.heap[gb565]? = some (.cells #[.int .i64 a1_0, .int .i64 a1_1] 24 (0, 0))) ∧ Aside0 (Below w.heap.size w wc))
  case first =>
   have H := HC7.out
   clear HC7
   replace H := Option.bind_eq_some_iff.mp H
   obtain ⟨t578, A130, H⟩ := H
   replace H : (if t578 = true then (if t571 = t576 then (trishawlaw06_TripMatches.j0 k l0 (t572 != t577)) else (none)) else (none)) = some r := H
   have A13 := Aside0.mk A130
   clear A130
   by_cases c14 : t578 = true
   ·subst c14
    have H1 : (if t571 = t576 then (trishawlaw06_TripMatches.j0 k l0 (t572 != t577)) else (none)) = some r := by rw [if_pos rfl] at H; exact H
    clear H
    have H := H1
    clear H1
    by_cases c15 : t571 = t576
    ·rw [if_pos c15] at H
     have c15b0 : (t571 == t576) = true := beq_iff_eq.mpr c15
     have c15b1 : (t571 != t576) = false := bne_eq_false_iff_eq.mpr c15
     clear c15
     (first | rw [c15b0] | (simp only [i64_w, i32_w]; rw [c15b0]) | skip)
     have H' := Aside0.mk H
     clear H
     obtain ⟨Ao16, co16, eo16⟩ := Kd.R_slice HO570.out
     subst eo16
     obtain ⟨Ao17, co17, eo17⟩ := Kd.R_slice HO575.out
     subst eo17
     go_wp2_with (first | (go_at_call 19; (with_reducible refine (trishawlaw06_same.calls k _ _ t568 _ _ t573 true _ ?side1 ?side2 ?side3 ?side4 A13.out).mono ?_); (case side1 => repeat (first | exact (Kd.R_reads' HO570.out).2.2 | (with_reducible refine Kd.C_alloc ?_ _) | (with_reducible refine Kd.C_drewN ?_ _) | (with_reducible refine Kd.C_drew ?_))); (case side2 => exact (Kd.R_reads' HO570.out).2.1); (case side3 => repeat (first | exact (Kd.R_reads' HO575.out).2.2 | (with_reducible refine Kd.C_alloc ?_ _) | (with_reducible refine Kd.C_drewN ?_ _) | (with_reducible refine Kd.C_drew ?_))); (case side4 => exact (Kd.R_reads' HO575.out).2.1); rintro e w' ⟨rfl, ⟨nd, rfl⟩⟩; (try first | exact ⟨rfl, _, World.drewN_drewN _ _ _⟩ | exact ⟨rfl, _, Eq.trans (World.drewN_drewN _ _ _) (congrArg (World.drewN _) (Nat.add_assoc _ _ _))⟩)))
     repeat (go_quiet (first | (go_at_call 19; (with_reducible refine (trishawlaw06_same.calls k _ _ t568 _ _ t573 true _ ?side1 ?side2 ?side3 ?side4 A13.out).mono ?_); (case side1 => repeat (first | exact (Kd.R_reads' HO570.out).2.2 | (with_reducible refine Kd.C_alloc ?_ _) | (with_reducible refine Kd.C_drewN ?_ _) | (with_reducible refine Kd.C_drew ?_))); (case side2 => exact (Kd.R_reads' HO570.out).2.1); (case side3 => repeat (first | exact (Kd.R_reads' HO575.out).2.2 | (with_reducible refine Kd.C_alloc ?_ _) | (with_reducible refine Kd.C_drewN ?_ _) | (with_reducible refine Kd.C_drew ?_))); (case side4 => exact (Kd.R_reads' HO575.out).2.1); rintro e w' ⟨rfl, ⟨nd, rfl⟩⟩; (try first | exact ⟨rfl, _, World.drewN_drewN _ _ _⟩ | exact ⟨rfl, _, Eq.trans (World.drewN_drewN _ _ _) (congrArg (World.drewN _) (Nat.add_assoc _ _ _))⟩))); try go_wp2_with (first | (go_at_call 19; (with_reducible refine (trishawlaw06_same.calls k _ _ t568 _ _ t573 true _ ?side1 ?side2 ?side3 ?side4 A13.out).mono ?_); (case side1 => repeat (first | exact (Kd.R_reads' HO570.out).2.2 | (with_reducible refine Kd.C_alloc ?_ _) | (with_reducible refine Kd.C_drewN ?_ _) | (with_reducible refine Kd.C_drew ?_))); (case side2 => exact (Kd.R_reads' HO570.out).2.1); (case side3 => repeat (first | exact (Kd.R_reads' HO575.out).2.2 | (with_reducible refine Kd.C_alloc ?_ _) | (with_reducible refine Kd.C_drewN ?_ _) | (with_reducible refine Kd.C_drew ?_))); (case side4 => exact (Kd.R_reads' HO575.out).2.1); rintro e w' ⟨rfl, ⟨nd, rfl⟩⟩; (try first | exact ⟨rfl, _, World.drewN_drewN _ _ _⟩ | exact ⟨rfl, _, Eq.trans (World.drewN_drewN _ _ _) (congrArg (World.drewN _) (Nat.add_assoc _ _ _))⟩))))
     go_meet
     case rel => exact ⟨_, ((t572 != t577)), (by first | rfl | (simp; done) | (simp [*]; done)), H', ⟨by first | omega | exact Nat.le_refl _⟩, ⟨by (with_reducible repeat (first | apply kdn | apply kdr | apply kal)); exact BK565.out⟩, ⟨by repeat (first | (with_reducible first | exact HB.out | apply lal | apply ldn | apply ldr | refine below_set ?_ GE565.out) | exact HB.out)⟩⟩
    ·rw [if_neg c15] at H
     exact absurd H (by simp)
   ·replace c14 := Bool.eq_false_iff.mpr c14
    subst c14
    have H1 : (none) = some r := by rw [if_neg (show ¬ (false = true) by decide)] at H; exact H
    clear H
    have H := H1
    clear H1
    exact absurd H (by simp)
  case rest =>
   clear HC7
   try clear c1
   try clear p2
   try clear c4
   try clear c9
   try clear c14
   try clear c15
   try clear c15b0
   try clear c15b1
   try clear hcz11_0
   try clear hcz11_1
   try clear hcz9_0
   try clear hcz9_1
   try clear hfz11_0
   try clear hfz11_1
   try clear hfz9_0
   try clear hfz9_1
   obtain ⟨kq, x47_6, rfl, HA, HJ6, BK565, HB⟩ := hcut
   cases kq with
   | zero => exact absurd HA.out (by simp [trishawlaw06_TripMatches.j0])
   | succ kj6 =>
    have H := HA.out
    clear HA
    simp only [trishawlaw06_TripMatches.j0] at H
    by_cases c18 : x47_6 = true
    ·subst c18
     have H1 : (none) = some r := by rw [if_pos rfl] at H; exact H
     clear H
     have H := H1
     clear H1
     exact absurd H (by simp)
    ·replace c18 := Bool.eq_false_iff.mpr c18
     subst c18
     have H1 : ((trishawref06_Rings.f kj6 l0).bind fun bt579 => (trishawlaw06_TripMatches.l0 kj6 l0 bt579.2 bt579.1 0)) = some r := by rw [if_neg (show ¬ (false = true) by decide)] at H; exact H
     clear H
     have H := H1
     clear H1
     replace H := Option.bind_eq_some_iff.mp H
     obtain ⟨⟨t579, t580⟩, A190, H⟩ := H
     replace H : (trishawlaw06_TripMatches.l0 kj6 l0 t580 t579 0) = some r := H
     have A19 := Aside0.mk A190
     clear A190
     have H' := Aside0.mk H
     clear H
     go_wp2_with (first | (go_at_call 32; (with_reducible refine (trishawref06_Rings.calls kj6 _ _ l0 t579 t580 _ ?side1 ?side2 A19.out).mono ?_); (case side1 => repeat (first | exact (Kd.C_below HR0.out HB.out) | (with_reducible refine Kd.C_alloc ?_ _) | (with_reducible refine Kd.C_drewN ?_ _) | (with_reducible refine Kd.C_drew ?_))); (case side2 => exact HC0.out); rintro e w20 ⟨v581, rfl, ho0, hb⟩; have n0_ := Aside0.mk (Kd.S_lower ho0 (below_size (by repeat (first | (with_reducible first | exact HB.out | apply lal | apply ldn | apply ldr | refine below_set ?_ GE565.out) | exact HB.out)))); have n1_ := Aside0.mk (blk_below (g := gb565) (o := .cells #[.int .i64 a1_0, .int .i64 a1_1] 24 (0, 0)) (by (with_reducible repeat (first | apply kdn | apply kdr | apply kal)); exact BK565.out) hb); have n2_ := Aside0.mk (below_step (by repeat (first | (with_reducible first | exact HB.out | apply lal | apply ldn | apply ldr | refine below_set ?_ GE565.out) | exact HB.out)) hb); clear BK565; clear HB; have HO582 := n0_; have BK565 := n1_; have HB := n2_; clear n0_ n1_ n2_; (try clear hb); (try clear hb2); (try clear hk); (try clear hi); (try clear ho0)))
     repeat (go_quiet (first | (go_at_call 32; (with_reducible refine (trishawref06_Rings.calls kj6 _ _ l0 t579 t580 _ ?side1 ?side2 A19.out).mono ?_); (case side1 => repeat (first | exact (Kd.C_below HR0.out HB.out) | (with_reducible refine Kd.C_alloc ?_ _) | (with_reducible refine Kd.C_drewN ?_ _) | (with_reducible refine Kd.C_drew ?_))); (case side2 => exact HC0.out); rintro e w20 ⟨v581, rfl, ho0, hb⟩; have n0_ := Aside0.mk (Kd.S_lower ho0 (below_size (by repeat (first | (with_reducible first | exact HB.out | apply lal | apply ldn | apply ldr | refine below_set ?_ GE565.out) | exact HB.out)))); have n1_ := Aside0.mk (blk_below (g := gb565) (o := .cells #[.int .i64 a1_0, .int .i64 a1_1] 24 (0, 0)) (by (with_reducible repeat (first | apply kdn | apply kdr | apply kal)); exact BK565.out) hb); have n2_ := Aside0.mk (below_step (by repeat (first | (with_reducible first | exact HB.out | apply lal | apply ldn | apply ldr | refine below_set ?_ GE565.out) | exact HB.out)) hb); clear BK565; clear HB; have HO582 := n0_; have BK565 := n1_; have HB := n2_; clear n0_ n1_ n2_; (try clear hb); (try clear hb2); (try clear hk); (try clear hi); (try clear ho0))); try go_wp2_with (first | (go_at_call 32; (with_reducible refine (trishawref06_Rings.calls kj6 _ _ l0 t579 t580 _ ?side1 ?side2 A19.out).mono ?_); (case side1 => repeat (first | exact (Kd.C_below HR0.out HB.out) | (with_reducible refine Kd.C_alloc ?_ _) | (with_reducible refine Kd.C_drewN ?_ _) | (with_reducible refine Kd.C_drew ?_))); (case side2 => exact HC0.out); rintro e w20 ⟨v581, rfl, ho0, hb⟩; have n0_ := Aside0.mk (Kd.S_lower ho0 (below_size (by repeat (first | (with_reducible first | exact HB.out | apply lal | apply ldn | apply ldr | refine below_set ?_ GE565.out) | exact HB.out)))); have n1_ := Aside0.mk (blk_below (g := gb565) (o := .cells #[.int .i64 a1_0, .int .i64 a1_1] 24 (0, 0)) (by (with_reducible repeat (first | apply kdn | apply kdr | apply kal)); exact BK565.out) hb); have n2_ := Aside0.mk (below_step (by repeat (first | (with_reducible first | exact HB.out | apply lal | apply ldn | apply ldr | refine below_set ?_ GE565.out) | exact HB.out)) hb); clear BK565; clear HB; have HO582 := n0_; have BK565 := n1_; have HB := n2_; clear n0_ n1_ n2_; (try clear hb); (try clear hb2); (try clear hk); (try clear hi); (try clear ho0))))
     go_loopg [12] kj6 (fun kq v12 w' => ∃ (x11_2 : List (List Int)) (x12_2 : Int), v12 = .int .i64 x12_2 ∧ Aside0 (trishawlaw06_TripMatches.l0 kq l0 t580 x11_2 x12_2 = some r) ∧ Aside0 (kq ≤ kj6) ∧ Aside0 (Kd.S (Kd.slice 3 (Kd.int .i64)) 27 w' w.heap.size (fun _ => True) v581 x11_2) ∧ Aside0 (w'.heap[gb565]? = some (.cells #[.int .i64 a1_0, .int .i64 a1_1] 24 (0, 0))) ∧ Aside0 (Below w.heap.size w w'))
     case atStart => exact ⟨(t579), (0), (by first | rfl | (simp; done) | (simp [*]; done)), H', ⟨Nat.le_refl _⟩, ⟨by (with_reducible repeat (first | apply Kd.S_alloc | apply Kd.S_drewN | apply Kd.S_drew)); exact HO582.out⟩, ⟨by (with_reducible repeat (first | apply kdn | apply kdr | apply kal)); exact BK565.out⟩, ⟨by repeat (first | (with_reducible first | exact HB.out | apply lal | apply ldn | apply ldr | refine below_set ?_ GE565.out) | exact HB.out)⟩⟩
     case round =>
      clear H'
      try clear c1
      try clear p2
      try clear c4
      try clear c9
      try clear c14
      try clear c15
      try clear c15b0
      try clear c15b1
      try clear c18
      try clear hcz11_0
      try clear hcz11_1
      try clear hcz9_0
      try clear hcz9_1
      try clear hfz11_0
      try clear hfz11_1
      try clear hfz9_0
      try clear hfz9_1
      try clear p2
      obtain ⟨x11_2, x12_2, rfl, HA, HK2, HO_11, BK565, HB⟩ := hrel
      cases gk with
      | zero => exact absurd HA.out (by simp [trishawlaw06_TripMatches.l0])
      | succ k2 =>
       have H := HA.out
       clear HA
       simp only [trishawlaw06_TripMatches.l0] at H
       by_cases c21 : x12_2 < 2
       ·rw [if_pos c21] at H
        have c21b0 : decide (x12_2 < 2) = true := decide_eq_true c21
        clear c21
        replace H := Option.bind_eq_some_iff.mp H
        obtain ⟨⟨t584, t585⟩, A220, H⟩ := H
        replace H : (if (t584.length : Int) = (x11_2.length : Int) then (trishawlaw06_TripMatches.j2 k2 l0 t580 x11_2 x12_2 t584 (t585 != t580)) else (none)) = some r := H
        have A22 := Aside0.mk A220
        clear A220
        have HC23 := Aside0.mk H
        clear H
        go_upto_region 12 with (first | (go_at_call 33; (with_reducible refine (trip_Rings.calls k2 _ _ l0 t584 t585 _ ?side1 ?side2 A22.out).mono ?_); (case side1 => repeat (first | exact (Kd.C_below HR0.out HB.out) | (with_reducible refine Kd.C_alloc ?_ _) | (with_reducible refine Kd.C_drewN ?_ _) | (with_reducible refine Kd.C_drew ?_))); (case side2 => exact HC0.out); rintro e w24 ⟨v586, rfl, ho0, hb⟩; have n0_ := Aside0.mk (Kd.S_elder' (Kd.S_bound (by (with_reducible repeat (first | apply Kd.S_alloc | apply Kd.S_drewN | apply Kd.S_drew)); exact HO_11.out)) (Kd.S_base ho0) hb); have n1_ := Aside0.mk (Kd.S_lower (Kd.S_new' (Kd.S_bound ho0) (Kd.S_lt (by (with_reducible repeat (first | apply Kd.S_alloc | apply Kd.S_drewN | apply Kd.S_drew)); exact HO_11.out))) (below_size (by repeat (first | (with_reducible first | exact HB.out | apply lal | apply ldn | apply ldr | refine below_set ?_ GE565.out) | exact HB.out)))); have n2_ := Aside0.mk (blk_below (g := gb565) (o := .cells #[.int .i64 a1_0, .int .i64 a1_1] 24 (0, 0)) (by (with_reducible repeat (first | apply kdn | apply kdr | apply kal)); exact BK565.out) hb); have n3_ := Aside0.mk (below_step (by repeat (first | (with_reducible first | exact HB.out | apply lal | apply ldn | apply ldr | refine below_set ?_ GE565.out) | exact HB.out)) hb); clear HO_11; clear BK565; clear HB; have HO_11 := n0_; have HO587 := n1_; have BK565 := n2_; have HB := n3_; clear n0_ n1_ n2_ n3_; (try clear hb); (try clear hb2); (try clear hk); (try clear hi); (try clear ho0)))
        repeat (go_quiet (first | (go_at_call 33; (with_reducible refine (trip_Rings.calls k2 _ _ l0 t584 t585 _ ?side1 ?side2 A22.out).mono ?_); (case side1 => repeat (first | exact (Kd.C_below HR0.out HB.out) | (with_reducible refine Kd.C_alloc ?_ _) | (with_reducible refine Kd.C_drewN ?_ _) | (with_reducible refine Kd.C_drew ?_))); (case side2 => exact HC0.out); rintro e w24 ⟨v586, rfl, ho0, hb⟩; have n0_ := Aside0.mk (Kd.S_elder' (Kd.S_bound (by (with_reducible repeat (first | apply Kd.S_alloc | apply Kd.S_drewN | apply Kd.S_drew)); exact HO_11.out)) (Kd.S_base ho0) hb); have n1_ := Aside0.mk (Kd.S_lower (Kd.S_new' (Kd.S_bound ho0) (Kd.S_lt (by (with_reducible repeat (first | apply Kd.S_alloc | apply Kd.S_drewN | apply Kd.S_drew)); exact HO_11.out))) (below_size (by repeat (first | (with_reducible first | exact HB.out | apply lal | apply ldn | apply ldr | refine below_set ?_ GE565.out) | exact HB.out)))); have n2_ := Aside0.mk (blk_below (g := gb565) (o := .cells #[.int .i64 a1_0, .int .i64 a1_1] 24 (0, 0)) (by (with_reducible repeat (first | apply kdn | apply kdr | apply kal)); exact BK565.out) hb); have n3_ := Aside0.mk (below_step (by repeat (first | (with_reducible first | exact HB.out | apply lal | apply ldn | apply ldr | refine below_set ?_ GE565.out) | exact HB.out)) hb); clear HO_11; clear BK565; clear HB; have HO_11 := n0_; have HO587 := n1_; have BK565 := n2_; have HB := n3_; clear n0_ n1_ n2_ n3_; (try clear hb); (try clear hb2); (try clear hk); (try clear hi); (try clear ho0))); go_upto_region 12 with (first | (go_at_call 33; (with_reducible refine (trip_Rings.calls k2 _ _ l0 t584 t585 _ ?side1 ?side2 A22.out).mono ?_); (case side1 => repeat (first | exact (Kd.C_below HR0.out HB.out) | (with_reducible refine Kd.C_alloc ?_ _) | (with_reducible refine Kd.C_drewN ?_ _) | (with_reducible refine Kd.C_drew ?_))); (case side2 => exact HC0.out); rintro e w24 ⟨v586, rfl, ho0, hb⟩; have n0_ := Aside0.mk (Kd.S_elder' (Kd.S_bound (by (with_reducible repeat (first | apply Kd.S_alloc | apply Kd.S_drewN | apply Kd.S_drew)); exact HO_11.out)) (Kd.S_base ho0) hb); have n1_ := Aside0.mk (Kd.S_lower (Kd.S_new' (Kd.S_bound ho0) (Kd.S_lt (by (with_reducible repeat (first | apply Kd.S_alloc | apply Kd.S_drewN | apply Kd.S_drew)); exact HO_11.out))) (below_size (by repeat (first | (with_reducible first | exact HB.out | apply lal | apply ldn | apply ldr | refine below_set ?_ GE565.out) | exact HB.out)))); have n2_ := Aside0.mk (blk_below (g := gb565) (o := .cells #[.int .i64 a1_0, .int .i64 a1_1] 24 (0, 0)) (by (with_reducible repeat (first | apply kdn | apply kdr | apply kal)); exact BK565.out) hb); have n3_ := Aside0.mk (below_step (by repeat (first | (with_reducible first | exact HB.out | apply lal | apply ldn | apply ldr | refine below_set ?_ GE565.out) | exact HB.out)) hb); clear HO_11; clear BK565; clear HB; have HO_11 := n0_; have HO587 := n1_; have BK565 := n2_; have HB := n3_; clear n0_ n1_ n2_ n3_; (try clear hb); (try clear hb2); (try clear hk); (try clear hi); (try clear ho0))))
        (try simp only [Act.put, sia, sc0, scs])
        go_cut [71] (fun v71 wc => ∃ (kq : Nat) (x71_22 : Bool) (B_ : Nat), v71 = .bool x71_22 ∧ Aside0 (trishawlaw06_TripMatches.j2 kq l0 t580 x11_2 x12_2 t584 x71_22 = some r) ∧ Aside0 (kq ≤ k2) ∧ Aside0 (Kd.S (Kd.slice 3 (Kd.int .i64)) 27 wc w.heap.size (fun k_ => some k_ ≠ (v586 : Value).ownBlock ∧ k_ < B_) v581 x11_2) ∧ Aside0 (Kd.S (Kd.slice 3 (Kd.int .i64)) 27 wc w.heap.size (fun k_ => some k_ ≠ (v581 : Value).ownBlock ∧ B_ ≤ k_) v586 t584) ∧ Aside0 (wc.heap[gb565]? = some (.cells #[.int .i64 a1_0, .int .i64 a1_1] 24 (0, 0))) ∧ Aside0 (Below w.heap.size w wc))
        case first =>
         have H := HC23.out
         clear HC23
         by_cases c25 : (t584.length : Int) = (x11_2.length : Int)
         ·rw [if_pos c25] at H
          have c25b0 : ((t584.length : Int) == (x11_2.length : Int)) = true := beq_iff_eq.mpr c25
          have c25b1 : ((t584.length : Int) != (x11_2.length : Int)) = false := bne_eq_false_iff_eq.mpr c25
          have c25b2 : (t584.length == x11_2.length) = true := by first | simpa using c25 | (simp at c25 ⊢; omega)
          clear c25
          (first | rw [c25b0] | (simp only [i64_w, i32_w]; rw [c25b0]) | skip)
          have H' := Aside0.mk H
          clear H
          obtain ⟨Ao26, co26, eo26⟩ := Kd.S_slice HO587.out
          subst eo26
          obtain ⟨Ao27, co27, eo27⟩ := Kd.S_slice HO_11.out
          subst eo27
          go_wp2
          repeat (go_quiet (fail); try go_wp2)
          go_meet
          case rel => exact ⟨_, ((t585 != t580)), wr.heap.size, (by first | rfl | (simp; done) | (simp [*]; done)), H', ⟨by have := HJ6.out; have := HK2.out; first | omega | exact Nat.le_refl _⟩, ⟨by (with_reducible repeat (first | apply Kd.S_alloc | apply Kd.S_drewN | apply Kd.S_drew)); exact Kd.S_mono HO_11.out (fun _ hk => ⟨hk.2, hk.1.2.2.1⟩)⟩, ⟨by (with_reducible repeat (first | apply Kd.S_alloc | apply Kd.S_drewN | apply Kd.S_drew)); exact Kd.S_mono HO587.out (fun _ hk => ⟨hk.2, hk.1.2.1⟩)⟩, ⟨by (with_reducible repeat (first | apply kdn | apply kdr | apply kal)); exact BK565.out⟩, ⟨by repeat (first | (with_reducible first | exact HB.out | apply lal | apply ldn | apply ldr | refine below_set ?_ GE565.out) | exact HB.out)⟩⟩
         ·rw [if_neg c25] at H
          exact absurd H (by simp)
        case rest =>
         clear HC23
         try clear c1
         try clear c2
         try clear p2
         try clear c4
         try clear c9
         try clear c14
         try clear c15
         try clear c15b0
         try clear c15b1
         try clear c18
         try clear c21
         try clear c21b0
         try clear c25
         try clear c25b0
         try clear c25b1
         try clear c25b2
         try clear hcz11_0
         try clear hcz11_1
         try clear hcz9_0
         try clear hcz9_1
         try clear hfz11_0
         try clear hfz11_1
         try clear hfz9_0
         try clear hfz9_1
         try clear p2
         obtain ⟨kq, x71_22, B_, rfl, HA, HJ22, HO_11, HO_13, BK565, HB⟩ := hcut
         cases kq with
         | zero => exact absurd HA.out (by simp [trishawlaw06_TripMatches.j2])
         | succ kj22 =>
          have H := HA.out
          clear HA
          simp only [trishawlaw06_TripMatches.j2] at H
          by_cases c28 : x71_22 = true
          ·subst c28
           have H1 : (none) = some r := by rw [if_pos rfl] at H; exact H
           clear H
           have H := H1
           clear H1
           exact absurd H (by simp)
          ·replace c28 := Bool.eq_false_iff.mpr c28
           subst c28
           have H1 : (trishawlaw06_TripMatches.l1 kj22 l0 t580 x11_2 x12_2 t584 0) = some r := by rw [if_neg (show ¬ (false = true) by decide)] at H; exact H
           clear H
           have H := H1
           clear H1
           have H' := Aside0.mk H
           clear H
           go_wp2
           repeat (go_quiet (fail); try go_wp2)
           go_loopg [15] kj22 (fun kq v15 w' => ∃ (x13_4 : List (List Int)) (x15_4 : Int), v15 = .int .i64 x15_4 ∧ Aside0 (trishawlaw06_TripMatches.l1 kq l0 t580 x11_2 x12_2 x13_4 x15_4 = some r) ∧ Aside0 (kq ≤ kj22) ∧ Aside0 (Kd.S (Kd.slice 3 (Kd.int .i64)) 27 w' w.heap.size (fun k_ => some k_ ≠ (v586 : Value).ownBlock ∧ k_ < B_) v581 x11_2) ∧ Aside0 (Kd.S (Kd.slice 3 (Kd.int .i64)) 27 w' w.heap.size (fun k_ => some k_ ≠ (v581 : Value).ownBlock ∧ B_ ≤ k_) v586 x13_4) ∧ Aside0 (w'.heap[gb565]? = some (.cells #[.int .i64 a1_0, .int .i64 a1_1] 24 (0, 0))) ∧ Aside0 (Below w.heap.size w w'))
           case atStart => exact ⟨(t584), (0), (by first | rfl | (simp; done) | (simp [*]; done)), H', ⟨Nat.le_refl _⟩, ⟨by (with_reducible repeat (first | apply Kd.S_alloc | apply Kd.S_drewN | apply Kd.S_drew)); exact HO_11.out⟩, ⟨by (with_reducible repeat (first | apply Kd.S_alloc | apply Kd.S_drewN | apply Kd.S_drew)); exact HO_13.out⟩, ⟨by (with_reducible repeat (first | apply kdn | apply kdr | apply kal)); exact BK565.out⟩, ⟨by repeat (first | (with_reducible first | exact HB.out | apply lal | apply ldn | apply ldr | refine below_set ?_ GE565.out) | exact HB.out)⟩⟩
           case round =>
            clear H'
            try clear c1
            try clear c2
            try clear p2
            try clear c4
            try clear c9
            try clear c14
            try clear c15
            try clear c15b0
            try clear c15b1
            try clear c18
            try clear c21
            try clear c21b0
            try clear c25
            try clear c25b0
            try clear c25b1
            try clear c25b2
            try clear c28
            try clear hcz11_0
            try clear hcz11_1
            try clear hcz9_0
            try clear hcz9_1
            try clear hfz11_0
            try clear hfz11_1
            try clear hfz9_0
            try clear hfz9_1
            try clear p2
            obtain ⟨x13_4, x15_4, rfl, HA, HK4, HO_11, HO_13, BK565, HB⟩ := hrel
            cases gk with
            | zero => exact absurd HA.out (by simp [trishawlaw06_TripMatches.l1])
            | succ k4 =>
             have H := HA.out
             clear HA
             simp only [trishawlaw06_TripMatches.l1] at H
             by_cases c29 : x15_4 < (x13_4.length : Int)
             ·rw [if_pos c29] at H
              have c29b0 : decide (x15_4 < (x13_4.length : Int)) = true := decide_eq_true c29
              clear c29
              by_cases c30 : 0 ≤ x15_4
              ·rw [if_pos c30] at H
               have c30b0 : decide (0 ≤ x15_4) = true := decide_eq_true c30
               clear c30
               by_cases c31 : x15_4 < (x11_2.length : Int)
               ·rw [if_pos c31] at H
                have c31b0 : decide (x15_4 < (x11_2.length : Int)) = true := decide_eq_true c31
                clear c31
                replace H := Option.bind_eq_some_iff.mp H
                obtain ⟨t590, A320, H⟩ := H
                replace H : (if t590 = true then (if 0 < ((rd_L1 x13_4 x15_4).length : Int) then (trishawlaw06_TripMatches.l1 k4 l0 t580 x11_2 x12_2 (x13_4.set (x15_4 : Int).toNat ((rd_L1 x13_4 x15_4).set (0 : Int).toNat (-4))) (wrap64 (x15_4 + 1))) else (none)) else (none)) = some r := H
                have A32 := Aside0.mk A320
                clear A320
                by_cases c33 : t590 = true
                ·subst c33
                 have H1 : (if 0 < ((rd_L1 x13_4 x15_4).length : Int) then (trishawlaw06_TripMatches.l1 k4 l0 t580 x11_2 x12_2 (x13_4.set (x15_4 : Int).toNat ((rd_L1 x13_4 x15_4).set (0 : Int).toNat (-4))) (wrap64 (x15_4 + 1))) else (none)) = some r := by rw [if_pos rfl] at H; exact H
                 clear H
                 have H := H1
                 clear H1
                 by_cases c34 : 0 < ((rd_L1 x13_4 x15_4).length : Int)
                 ·rw [if_pos c34] at H
                  have c34b0 : decide (0 < ((rd_L1 x13_4 x15_4).length : Int)) = true := decide_eq_true c34
                  have c34b1 : decide (0 < (rd_L1 x13_4 x15_4).length) = true := decide_eq_true (by omega)
                  clear c34
                  obtain ⟨y592, hy592⟩ : ∃ y_ : List Int, y_ = ((rd_L1 x13_4 x15_4).set (0 : Int).toNat (-4)) := ⟨_, rfl⟩
                  replace H : (trishawlaw06_TripMatches.l1 k4 l0 t580 x11_2 x12_2 (x13_4.set (x15_4 : Int).toNat y592) (wrap64 (x15_4 + 1))) = some r := by first | (rw [hy592]; with_reducible exact H) | (have H2_ := (Option.bind_some _ _).symm.trans H; rw [hy592]; with_reducible exact H2_) | (have H2_ := (Option.bind_some _ _).symm.trans H; with_reducible exact H2_) | with_reducible exact H | (rw [hy592]; exact H) | exact H
                  have Ny592 := Aside0.mk hy592
                  clear hy592
                  obtain ⟨y594, hy594⟩ : ∃ y_ : List (List Int), y_ = (x13_4.set (x15_4 : Int).toNat y592) := ⟨_, rfl⟩
                  replace H : (trishawlaw06_TripMatches.l1 k4 l0 t580 x11_2 x12_2 y594 (wrap64 (x15_4 + 1))) = some r := by first | (rw [hy594]; with_reducible exact H) | (have H2_ := (Option.bind_some _ _).symm.trans H; rw [hy594]; with_reducible exact H2_) | (have H2_ := (Option.bind_some _ _).symm.trans H; with_reducible exact H2_) | with_reducible exact H | (rw [hy594]; exact H) | exact H
                  have Ny594 := Aside0.mk hy594
                  clear hy594
                  have H' := Aside0.mk H
                  clear H
                  obtain ⟨Ao36, co36, eo36⟩ := Kd.S_slice HO_13.out
                  subst eo36
                  have p588 : 0 ≤ (x15_4 : Int) := of_decide_eq_true (by first | (with_reducible assumption) | assumption)
                  have q588 : x15_4 < (x13_4.length : Int) := of_decide_eq_true (by first | (with_reducible assumption) | assumption)
                  obtain ⟨ad588, A588_0, c588_0, e588, hx588_0, hl588_0, hi588_0⟩ := at_L1 (Kd.S_reads' HO_13.out).2.2 x15_4 p588 q588
                  cases e588
                  obtain ⟨ce588, hce588, hMe588, hcc588⟩ := Kd.S_get HO_13.out [] x15_4 p588 (by first | exact q588 | exact of_decide_eq_true (by first | (with_reducible assumption) | assumption) | (have e_ := (Kd.S_reads' HO_13.out).1; omega))
                  obtain ⟨ve588_0, rfl, ge588_0⟩ := hMe588
                  have hv588_0 := hcc588 0 _ rfl
                  rw [Nat.add_zero, show ((Kd.slice 3 (Kd.int .i64))).sz = 1 from rfl, Nat.mul_one] at hv588_0
                  replace hv588_0 := Option.some.inj (hv588_0.symm.trans hx588_0)
                  rw [hv588_0] at ge588_0
                  have HL588_0 := Aside0.mk (show Kd.R (Kd.int .i64) 3 _ _ _ _ (rd_L1 x13_4 x15_4) from ge588_0)
                  clear hv588_0 ge588_0
                  have HX588_0 := Aside0.mk hx588_0
                  clear hcc588 hce588
                  have HR588_0 := Aside0.mk hi588_0
                  have HC588_0 := Aside0.mk hl588_0
                  clear hi588_0 hl588_0
                  replace p588 := eq_true p588
                  replace q588 := eq_true q588
                  obtain ⟨Ao37, co37, eo37⟩ := Kd.S_slice HO_11.out
                  subst eo37
                  have p589 : 0 ≤ (x15_4 : Int) := of_decide_eq_true (by first | (with_reducible assumption) | assumption)
                  have q589 : x15_4 < (x11_2.length : Int) := of_decide_eq_true (by first | (with_reducible assumption) | assumption)
                  obtain ⟨ad589, A589_0, c589_0, e589, hx589_0, hl589_0, hi589_0⟩ := at_L1 (Kd.S_reads' HO_11.out).2.2 x15_4 p589 q589
                  cases e589
                  obtain ⟨ce589, hce589, hMe589, hcc589⟩ := Kd.S_get HO_11.out [] x15_4 p589 (by first | exact q589 | exact of_decide_eq_true (by first | (with_reducible assumption) | assumption) | (have e_ := (Kd.S_reads' HO_11.out).1; omega))
                  obtain ⟨ve589_0, rfl, ge589_0⟩ := hMe589
                  have hv589_0 := hcc589 0 _ rfl
                  rw [Nat.add_zero, show ((Kd.slice 3 (Kd.int .i64))).sz = 1 from rfl, Nat.mul_one] at hv589_0
                  replace hv589_0 := Option.some.inj (hv589_0.symm.trans hx589_0)
                  rw [hv589_0] at ge589_0
                  have HL589_0 := Aside0.mk (show Kd.R (Kd.int .i64) 3 _ _ _ _ (rd_L1 x11_2 x15_4) from ge589_0)
                  clear hv589_0 ge589_0
                  have HX589_0 := Aside0.mk hx589_0
                  clear hcc589 hce589
                  have HR589_0 := Aside0.mk hi589_0
                  have HC589_0 := Aside0.mk hl589_0
                  clear hi589_0 hl589_0
                  replace p589 := eq_true p589
                  replace q589 := eq_true q589
                  go_wp2_with (first | (go_at_call 19; (with_reducible refine (trishawlaw06_same.calls k4 _ _ (rd_L1 x13_4 x15_4) _ _ (rd_L1 x11_2 x15_4) true _ ?side1 ?side2 ?side3 ?side4 A32.out).mono ?_); (case side1 => repeat (first | exact (by repeat (first | (with_reducible exact HR588_0.out) | (with_reducible refine Kd.C_alloc ?_ _) | (with_reducible refine Kd.C_drewN ?_ _) | (with_reducible refine Kd.C_drew ?_) | exact HR588_0.out)) | (with_reducible refine Kd.C_alloc ?_ _) | (with_reducible refine Kd.C_drewN ?_ _) | (with_reducible refine Kd.C_drew ?_))); (case side2 => exact HC588_0.out); (case side3 => repeat (first | exact (by repeat (first | (with_reducible exact HR589_0.out) | (with_reducible refine Kd.C_alloc ?_ _) | (with_reducible refine Kd.C_drewN ?_ _) | (with_reducible refine Kd.C_drew ?_) | exact HR589_0.out)) | (with_reducible refine Kd.C_alloc ?_ _) | (with_reducible refine Kd.C_drewN ?_ _) | (with_reducible refine Kd.C_drew ?_))); (case side4 => exact HC589_0.out); rintro e w' ⟨rfl, ⟨nd, rfl⟩⟩; (try first | exact ⟨rfl, _, World.drewN_drewN _ _ _⟩ | exact ⟨rfl, _, Eq.trans (World.drewN_drewN _ _ _) (congrArg (World.drewN _) (Nat.add_assoc _ _ _))⟩); have p591 : 0 ≤ (x15_4 : Int) := of_decide_eq_true (by first | (with_reducible assumption) | assumption); have q591 : x15_4 < (x13_4.length : Int) := of_decide_eq_true (by first | (with_reducible assumption) | assumption); obtain ⟨ad591, A591_0, c591_0, e591, hx591_0, hl591_0, hi591_0⟩ := at_L1 (Kd.S_reads' HO_13.out).2.2 x15_4 p591 q591; obtain rfl : ad588 = ad591 := (by injection e591); obtain ⟨ce591, hce591, hMe591, hcc591⟩ := Kd.S_get HO_13.out [] x15_4 p591 (by first | exact q591 | exact of_decide_eq_true (by first | (with_reducible assumption) | assumption) | (have e_ := (Kd.S_reads' HO_13.out).1; omega)); obtain ⟨ve591_0, rfl, ge591_0⟩ := hMe591; have hv591_0 := hcc591 0 _ rfl; rw [Nat.add_zero, show ((Kd.slice 3 (Kd.int .i64))).sz = 1 from rfl, Nat.mul_one] at hv591_0; replace hv591_0 := Option.some.inj (hv591_0.symm.trans hx591_0); rw [hv591_0] at ge591_0; have HL591_0 := Aside0.mk (show Kd.R (Kd.int .i64) 3 _ _ _ _ (rd_L1 x13_4 x15_4) from ge591_0); clear hv591_0 ge591_0; have HX591_0 := Aside0.mk hx591_0; clear hcc591 hce591; have HR591_0 := Aside0.mk hi591_0; have HC591_0 := Aside0.mk hl591_0; clear hi591_0 hl591_0; replace p591 := eq_true p591; replace q591 := eq_true q591; have ea_ := Option.some.inj (hx588_0.symm.trans hx591_0); injection ea_ with ea_ en_ ec_; subst ea_; subst ec_; clear en_; have p35 : 0 ≤ (0 : Int) := (by omega); have q35 : (0 : Int) < (((rd_L1 x13_4 x15_4).length : Int) : Int) := of_decide_eq_true (by first | (with_reducible assumption) | assumption); have qi35 : (0 < (rd_L1 x13_4 x15_4).length) = True := eq_true (by omega); obtain ⟨go35, co35, eo35, gb35, gl35, cl35, HG35⟩ := Kd.R_form HL591_0.out (by omega); (first | cases eo35 | (injection eo35 with ea_ en_ ec_; (first | subst ea_ | (injection ea_ with ea_; subst ea_)); subst ec_; clear en_)); have GB35 := Aside0.mk gb35; have GG35 := Aside0.mk HG35; clear gb35 gl35 HG35; obtain ⟨hx35_0, hf35_0⟩ := Kd.R_celln 0 HL591_0.out (0 : Int) p35 q35; (try rw [show ((0 : Int)).toNat = 0 from rfl] at hx35_0); (try simp only [Nat.reduceMul, Nat.zero_mul, Nat.zero_add, Nat.reduceAdd] at hx35_0); (try rw [show ((0 : Int)).toNat = 0 from rfl] at hf35_0); (try simp only [Nat.reduceMul, Nat.zero_mul, Nat.zero_add, Nat.reduceAdd] at hf35_0); replace p35 := eq_true p35; replace q35 := eq_true q35; have hq38 : (x15_4 : Int) < (x13_4.length : Int) := (by have h_ : (x15_4 : Int) < ((x13_4.length : Int) : Int) := of_decide_eq_true (by first | (with_reducible assumption) | assumption); first | exact h_ | (have e_ := (Kd.S_reads' HO_13.out).1; omega) | simpa only [List.length_set, List.length_set] using h_); obtain ⟨oki38, ce38, hcl38, hM38, hcc38, hok38, hbk38⟩ := Kd.S_borrow HO_13.out [] (x15_4 : Int) (of_decide_eq_true (by first | (with_reducible assumption) | assumption)) hq38; obtain ⟨ve38_0, rfl, ge38_0⟩ := hM38; have hv38 := hcc38 0 _ rfl; rw [Nat.add_zero, show ((Kd.slice 3 (Kd.int .i64))).sz = 1 from rfl, Nat.mul_one] at hv38; replace hv38 := Option.some.inj (hv38.symm.trans HX591_0.out); subst hv38; clear hcc38 hcl38; replace ge38_0 := (show Kd.R (Kd.int .i64) 3 _ _ _ _ (rd_L1 x13_4 x15_4) from ge38_0); have HP38 := Kd.R_putg ge38_0 (0 : Int) (-4)) | ((with_reducible refine gate_store (t := 3) (p := 92) rfl ?_); obtain ⟨oki38, ce38, hcl38, hM38, hcc38, hok38, hbk38⟩ := Kd.S_borrow (Kd.S_drewN HO_13.out nq) [] (x15_4 : Int) (of_decide_eq_true (by first | (with_reducible assumption) | assumption)) hq38; obtain ⟨ve38_0, rfl, ge38_0⟩ := hM38; have hv38 := hcc38 0 _ rfl; rw [Nat.add_zero, show ((Kd.slice 3 (Kd.int .i64))).sz = 1 from rfl, Nat.mul_one] at hv38; replace hv38 := Option.some.inj (hv38.symm.trans HX591_0.out); subst hv38; clear hcc38 hcl38; replace ge38_0 := (show Kd.R (Kd.int .i64) 3 _ _ _ _ (rd_L1 x13_4 x15_4) from ge38_0); have HP38 := Kd.R_putg ge38_0 (0 : Int) (-4); refine store_event (t := 3) (p := 92) (v := ?vo_w39) (w1 := ((wr.drewN nq).setCell ⟨go35, 0, none⟩ (.int .i64 (-4)))) ?hg ?ho ?hn ?hr ?_; (case ho => rfl); (case hg => rfl); (case hn => rfl); (case hr => first | (go_simp; done) | (go_simp; rfl)); intro w39 hw; have hg : (wr.drewN nq).grownBy w39 (some go35) := (by rw [hw]; exact HP38.2); have hz_ : Kd.R (Kd.int .i64) 3 w39 w.heap.size oki38 (.slice (some ⟨go35, 0, none⟩) (rd_L1 x13_4 x15_4).length c588_0) y592 := (by rw [hw, Ny592.out]; exact HP38.1); have hp_ : Kd.S (Kd.slice 3 (Kd.int .i64)) 27 w39 w.heap.size (fun k_ => some k_ ≠ (.slice (some ad589) x11_2.length co37 : Value).ownBlock ∧ B_ ≤ k_) (.slice (some ad588) x13_4.length co36) y594 := (by rw [Ny594.out]; exact hbk38 hg (fun k_ e_ => by injection e_ with e_; subst e_; exact ge38_0.1 _ rfl) (Kd.M_row hz_)); have hB_ : B_ ≤ go35 := (hok38 go35 (ge38_0.1 go35 rfl)).1.2; have hm_ := Kd.R_mono hz_ hok38; clear HP38 hbk38; have n0_ := Aside0.mk (Kd.S_grown (by (with_reducible repeat (first | apply Kd.S_alloc | apply Kd.S_drewN | apply Kd.S_drew)); exact HO_11.out) hg (fun k_ hk_ e_ => by injection e_ with e_; have := hk_.2; omega)); have n1_ := Aside0.mk (hp_); have n2_ := Aside0.mk (blk_grown (g := gb565) (o := .cells #[.int .i64 a1_0, .int .i64 a1_1] 24 (0, 0)) (by (with_reducible repeat (first | apply kdn | apply kdr | apply kal)); exact BK565.out) hg (Kd.R_ne HL591_0.out BK565.out (by decide))); have n3_ := Aside0.mk ((by rw [hw]; exact below_set (pw_below_drewN HB.out nq) GB35.out : Below w.heap.size w w39)); have n4_ := Aside0.mk (hm_); have n5_ := Aside0.mk ((Kd.R_reads' hm_).2.1); clear HO_11; clear HO_13; clear BK565; clear HB; clear HL588_0; clear HL589_0; clear HL591_0; have HO_11 := n0_; have HO_13 := n1_; have BK565 := n2_; have HB := n3_; have HL595 := n4_; have HC593 := n5_; clear n0_ n1_ n2_ n3_ n4_ n5_; clear hg hw hp_ hz_ hm_ hok38))
                  repeat (go_quiet (first | (go_at_call 19; (with_reducible refine (trishawlaw06_same.calls k4 _ _ (rd_L1 x13_4 x15_4) _ _ (rd_L1 x11_2 x15_4) true _ ?side1 ?side2 ?side3 ?side4 A32.out).mono ?_); (case side1 => repeat (first | exact (by repeat (first | (with_reducible exact HR588_0.out) | (with_reducible refine Kd.C_alloc ?_ _) | (with_reducible refine Kd.C_drewN ?_ _) | (with_reducible refine Kd.C_drew ?_) | exact HR588_0.out)) | (with_reducible refine Kd.C_alloc ?_ _) | (with_reducible refine Kd.C_drewN ?_ _) | (with_reducible refine Kd.C_drew ?_))); (case side2 => exact HC588_0.out); (case side3 => repeat (first | exact (by repeat (first | (with_reducible exact HR589_0.out) | (with_reducible refine Kd.C_alloc ?_ _) | (with_reducible refine Kd.C_drewN ?_ _) | (with_reducible refine Kd.C_drew ?_) | exact HR589_0.out)) | (with_reducible refine Kd.C_alloc ?_ _) | (with_reducible refine Kd.C_drewN ?_ _) | (with_reducible refine Kd.C_drew ?_))); (case side4 => exact HC589_0.out); rintro e w' ⟨rfl, ⟨nd, rfl⟩⟩; (try first | exact ⟨rfl, _, World.drewN_drewN _ _ _⟩ | exact ⟨rfl, _, Eq.trans (World.drewN_drewN _ _ _) (congrArg (World.drewN _) (Nat.add_assoc _ _ _))⟩); have p591 : 0 ≤ (x15_4 : Int) := of_decide_eq_true (by first | (with_reducible assumption) | assumption); have q591 : x15_4 < (x13_4.length : Int) := of_decide_eq_true (by first | (with_reducible assumption) | assumption); obtain ⟨ad591, A591_0, c591_0, e591, hx591_0, hl591_0, hi591_0⟩ := at_L1 (Kd.S_reads' HO_13.out).2.2 x15_4 p591 q591; obtain rfl : ad588 = ad591 := (by injection e591); obtain ⟨ce591, hce591, hMe591, hcc591⟩ := Kd.S_get HO_13.out [] x15_4 p591 (by first | exact q591 | exact of_decide_eq_true (by first | (with_reducible assumption) | assumption) | (have e_ := (Kd.S_reads' HO_13.out).1; omega)); obtain ⟨ve591_0, rfl, ge591_0⟩ := hMe591; have hv591_0 := hcc591 0 _ rfl; rw [Nat.add_zero, show ((Kd.slice 3 (Kd.int .i64))).sz = 1 from rfl, Nat.mul_one] at hv591_0; replace hv591_0 := Option.some.inj (hv591_0.symm.trans hx591_0); rw [hv591_0] at ge591_0; have HL591_0 := Aside0.mk (show Kd.R (Kd.int .i64) 3 _ _ _ _ (rd_L1 x13_4 x15_4) from ge591_0); clear hv591_0 ge591_0; have HX591_0 := Aside0.mk hx591_0; clear hcc591 hce591; have HR591_0 := Aside0.mk hi591_0; have HC591_0 := Aside0.mk hl591_0; clear hi591_0 hl591_0; replace p591 := eq_true p591; replace q591 := eq_true q591; have ea_ := Option.some.inj (hx588_0.symm.trans hx591_0); injection ea_ with ea_ en_ ec_; subst ea_; subst ec_; clear en_; have p35 : 0 ≤ (0 : Int) := (by omega); have q35 : (0 : Int) < (((rd_L1 x13_4 x15_4).length : Int) : Int) := of_decide_eq_true (by first | (with_reducible assumption) | assumption); have qi35 : (0 < (rd_L1 x13_4 x15_4).length) = True := eq_true (by omega); obtain ⟨go35, co35, eo35, gb35, gl35, cl35, HG35⟩ := Kd.R_form HL591_0.out (by omega); (first | cases eo35 | (injection eo35 with ea_ en_ ec_; (first | subst ea_ | (injection ea_ with ea_; subst ea_)); subst ec_; clear en_)); have GB35 := Aside0.mk gb35; have GG35 := Aside0.mk HG35; clear gb35 gl35 HG35; obtain ⟨hx35_0, hf35_0⟩ := Kd.R_celln 0 HL591_0.out (0 : Int) p35 q35; (try rw [show ((0 : Int)).toNat = 0 from rfl] at hx35_0); (try simp only [Nat.reduceMul, Nat.zero_mul, Nat.zero_add, Nat.reduceAdd] at hx35_0); (try rw [show ((0 : Int)).toNat = 0 from rfl] at hf35_0); (try simp only [Nat.reduceMul, Nat.zero_mul, Nat.zero_add, Nat.reduceAdd] at hf35_0); replace p35 := eq_true p35; replace q35 := eq_true q35; have hq38 : (x15_4 : Int) < (x13_4.length : Int) := (by have h_ : (x15_4 : Int) < ((x13_4.length : Int) : Int) := of_decide_eq_true (by first | (with_reducible assumption) | assumption); first | exact h_ | (have e_ := (Kd.S_reads' HO_13.out).1; omega) | simpa only [List.length_set, List.length_set] using h_); obtain ⟨oki38, ce38, hcl38, hM38, hcc38, hok38, hbk38⟩ := Kd.S_borrow HO_13.out [] (x15_4 : Int) (of_decide_eq_true (by first | (with_reducible assumption) | assumption)) hq38; obtain ⟨ve38_0, rfl, ge38_0⟩ := hM38; have hv38 := hcc38 0 _ rfl; rw [Nat.add_zero, show ((Kd.slice 3 (Kd.int .i64))).sz = 1 from rfl, Nat.mul_one] at hv38; replace hv38 := Option.some.inj (hv38.symm.trans HX591_0.out); subst hv38; clear hcc38 hcl38; replace ge38_0 := (show Kd.R (Kd.int .i64) 3 _ _ _ _ (rd_L1 x13_4 x15_4) from ge38_0); have HP38 := Kd.R_putg ge38_0 (0 : Int) (-4)) | ((with_reducible refine gate_store (t := 3) (p := 92) rfl ?_); obtain ⟨oki38, ce38, hcl38, hM38, hcc38, hok38, hbk38⟩ := Kd.S_borrow (Kd.S_drewN HO_13.out nq) [] (x15_4 : Int) (of_decide_eq_true (by first | (with_reducible assumption) | assumption)) hq38; obtain ⟨ve38_0, rfl, ge38_0⟩ := hM38; have hv38 := hcc38 0 _ rfl; rw [Nat.add_zero, show ((Kd.slice 3 (Kd.int .i64))).sz = 1 from rfl, Nat.mul_one] at hv38; replace hv38 := Option.some.inj (hv38.symm.trans HX591_0.out); subst hv38; clear hcc38 hcl38; replace ge38_0 := (show Kd.R (Kd.int .i64) 3 _ _ _ _ (rd_L1 x13_4 x15_4) from ge38_0); have HP38 := Kd.R_putg ge38_0 (0 : Int) (-4); refine store_event (t := 3) (p := 92) (v := ?vo_w39) (w1 := ((wr.drewN nq).setCell ⟨go35, 0, none⟩ (.int .i64 (-4)))) ?hg ?ho ?hn ?hr ?_; (case ho => rfl); (case hg => rfl); (case hn => rfl); (case hr => first | (go_simp; done) | (go_simp; rfl)); intro w39 hw; have hg : (wr.drewN nq).grownBy w39 (some go35) := (by rw [hw]; exact HP38.2); have hz_ : Kd.R (Kd.int .i64) 3 w39 w.heap.size oki38 (.slice (some ⟨go35, 0, none⟩) (rd_L1 x13_4 x15_4).length c588_0) y592 := (by rw [hw, Ny592.out]; exact HP38.1); have hp_ : Kd.S (Kd.slice 3 (Kd.int .i64)) 27 w39 w.heap.size (fun k_ => some k_ ≠ (.slice (some ad589) x11_2.length co37 : Value).ownBlock ∧ B_ ≤ k_) (.slice (some ad588) x13_4.length co36) y594 := (by rw [Ny594.out]; exact hbk38 hg (fun k_ e_ => by injection e_ with e_; subst e_; exact ge38_0.1 _ rfl) (Kd.M_row hz_)); have hB_ : B_ ≤ go35 := (hok38 go35 (ge38_0.1 go35 rfl)).1.2; have hm_ := Kd.R_mono hz_ hok38; clear HP38 hbk38; have n0_ := Aside0.mk (Kd.S_grown (by (with_reducible repeat (first | apply Kd.S_alloc | apply Kd.S_drewN | apply Kd.S_drew)); exact HO_11.out) hg (fun k_ hk_ e_ => by injection e_ with e_; have := hk_.2; omega)); have n1_ := Aside0.mk (hp_); have n2_ := Aside0.mk (blk_grown (g := gb565) (o := .cells #[.int .i64 a1_0, .int .i64 a1_1] 24 (0, 0)) (by (with_reducible repeat (first | apply kdn | apply kdr | apply kal)); exact BK565.out) hg (Kd.R_ne HL591_0.out BK565.out (by decide))); have n3_ := Aside0.mk ((by rw [hw]; exact below_set (pw_below_drewN HB.out nq) GB35.out : Below w.heap.size w w39)); have n4_ := Aside0.mk (hm_); have n5_ := Aside0.mk ((Kd.R_reads' hm_).2.1); clear HO_11; clear HO_13; clear BK565; clear HB; clear HL588_0; clear HL589_0; clear HL591_0; have HO_11 := n0_; have HO_13 := n1_; have BK565 := n2_; have HB := n3_; have HL595 := n4_; have HC593 := n5_; clear n0_ n1_ n2_ n3_ n4_ n5_; clear hg hw hp_ hz_ hm_ hok38)); try go_wp2_with (first | (go_at_call 19; (with_reducible refine (trishawlaw06_same.calls k4 _ _ (rd_L1 x13_4 x15_4) _ _ (rd_L1 x11_2 x15_4) true _ ?side1 ?side2 ?side3 ?side4 A32.out).mono ?_); (case side1 => repeat (first | exact (by repeat (first | (with_reducible exact HR588_0.out) | (with_reducible refine Kd.C_alloc ?_ _) | (with_reducible refine Kd.C_drewN ?_ _) | (with_reducible refine Kd.C_drew ?_) | exact HR588_0.out)) | (with_reducible refine Kd.C_alloc ?_ _) | (with_reducible refine Kd.C_drewN ?_ _) | (with_reducible refine Kd.C_drew ?_))); (case side2 => exact HC588_0.out); (case side3 => repeat (first | exact (by repeat (first | (with_reducible exact HR589_0.out) | (with_reducible refine Kd.C_alloc ?_ _) | (with_reducible refine Kd.C_drewN ?_ _) | (with_reducible refine Kd.C_drew ?_) | exact HR589_0.out)) | (with_reducible refine Kd.C_alloc ?_ _) | (with_reducible refine Kd.C_drewN ?_ _) | (with_reducible refine Kd.C_drew ?_))); (case side4 => exact HC589_0.out); rintro e w' ⟨rfl, ⟨nd, rfl⟩⟩; (try first | exact ⟨rfl, _, World.drewN_drewN _ _ _⟩ | exact ⟨rfl, _, Eq.trans (World.drewN_drewN _ _ _) (congrArg (World.drewN _) (Nat.add_assoc _ _ _))⟩); have p591 : 0 ≤ (x15_4 : Int) := of_decide_eq_true (by first | (with_reducible assumption) | assumption); have q591 : x15_4 < (x13_4.length : Int) := of_decide_eq_true (by first | (with_reducible assumption) | assumption); obtain ⟨ad591, A591_0, c591_0, e591, hx591_0, hl591_0, hi591_0⟩ := at_L1 (Kd.S_reads' HO_13.out).2.2 x15_4 p591 q591; obtain rfl : ad588 = ad591 := (by injection e591); obtain ⟨ce591, hce591, hMe591, hcc591⟩ := Kd.S_get HO_13.out [] x15_4 p591 (by first | exact q591 | exact of_decide_eq_true (by first | (with_reducible assumption) | assumption) | (have e_ := (Kd.S_reads' HO_13.out).1; omega)); obtain ⟨ve591_0, rfl, ge591_0⟩ := hMe591; have hv591_0 := hcc591 0 _ rfl; rw [Nat.add_zero, show ((Kd.slice 3 (Kd.int .i64))).sz = 1 from rfl, Nat.mul_one] at hv591_0; replace hv591_0 := Option.some.inj (hv591_0.symm.trans hx591_0); rw [hv591_0] at ge591_0; have HL591_0 := Aside0.mk (show Kd.R (Kd.int .i64) 3 _ _ _ _ (rd_L1 x13_4 x15_4) from ge591_0); clear hv591_0 ge591_0; have HX591_0 := Aside0.mk hx591_0; clear hcc591 hce591; have HR591_0 := Aside0.mk hi591_0; have HC591_0 := Aside0.mk hl591_0; clear hi591_0 hl591_0; replace p591 := eq_true p591; replace q591 := eq_true q591; have ea_ := Option.some.inj (hx588_0.symm.trans hx591_0); injection ea_ with ea_ en_ ec_; subst ea_; subst ec_; clear en_; have p35 : 0 ≤ (0 : Int) := (by omega); have q35 : (0 : Int) < (((rd_L1 x13_4 x15_4).length : Int) : Int) := of_decide_eq_true (by first | (with_reducible assumption) | assumption); have qi35 : (0 < (rd_L1 x13_4 x15_4).length) = True := eq_true (by omega); obtain ⟨go35, co35, eo35, gb35, gl35, cl35, HG35⟩ := Kd.R_form HL591_0.out (by omega); (first | cases eo35 | (injection eo35 with ea_ en_ ec_; (first | subst ea_ | (injection ea_ with ea_; subst ea_)); subst ec_; clear en_)); have GB35 := Aside0.mk gb35; have GG35 := Aside0.mk HG35; clear gb35 gl35 HG35; obtain ⟨hx35_0, hf35_0⟩ := Kd.R_celln 0 HL591_0.out (0 : Int) p35 q35; (try rw [show ((0 : Int)).toNat = 0 from rfl] at hx35_0); (try simp only [Nat.reduceMul, Nat.zero_mul, Nat.zero_add, Nat.reduceAdd] at hx35_0); (try rw [show ((0 : Int)).toNat = 0 from rfl] at hf35_0); (try simp only [Nat.reduceMul, Nat.zero_mul, Nat.zero_add, Nat.reduceAdd] at hf35_0); replace p35 := eq_true p35; replace q35 := eq_true q35; have hq38 : (x15_4 : Int) < (x13_4.length : Int) := (by have h_ : (x15_4 : Int) < ((x13_4.length : Int) : Int) := of_decide_eq_true (by first | (with_reducible assumption) | assumption); first | exact h_ | (have e_ := (Kd.S_reads' HO_13.out).1; omega) | simpa only [List.length_set, List.length_set] using h_); obtain ⟨oki38, ce38, hcl38, hM38, hcc38, hok38, hbk38⟩ := Kd.S_borrow HO_13.out [] (x15_4 : Int) (of_decide_eq_true (by first | (with_reducible assumption) | assumption)) hq38; obtain ⟨ve38_0, rfl, ge38_0⟩ := hM38; have hv38 := hcc38 0 _ rfl; rw [Nat.add_zero, show ((Kd.slice 3 (Kd.int .i64))).sz = 1 from rfl, Nat.mul_one] at hv38; replace hv38 := Option.some.inj (hv38.symm.trans HX591_0.out); subst hv38; clear hcc38 hcl38; replace ge38_0 := (show Kd.R (Kd.int .i64) 3 _ _ _ _ (rd_L1 x13_4 x15_4) from ge38_0); have HP38 := Kd.R_putg ge38_0 (0 : Int) (-4)) | ((with_reducible refine gate_store (t := 3) (p := 92) rfl ?_); obtain ⟨oki38, ce38, hcl38, hM38, hcc38, hok38, hbk38⟩ := Kd.S_borrow (Kd.S_drewN HO_13.out nq) [] (x15_4 : Int) (of_decide_eq_true (by first | (with_reducible assumption) | assumption)) hq38; obtain ⟨ve38_0, rfl, ge38_0⟩ := hM38; have hv38 := hcc38 0 _ rfl; rw [Nat.add_zero, show ((Kd.slice 3 (Kd.int .i64))).sz = 1 from rfl, Nat.mul_one] at hv38; replace hv38 := Option.some.inj (hv38.symm.trans HX591_0.out); subst hv38; clear hcc38 hcl38; replace ge38_0 := (show Kd.R (Kd.int .i64) 3 _ _ _ _ (rd_L1 x13_4 x15_4) from ge38_0); have HP38 := Kd.R_putg ge38_0 (0 : Int) (-4); refine store_event (t := 3) (p := 92) (v := ?vo_w39) (w1 := ((wr.drewN nq).setCell ⟨go35, 0, none⟩ (.int .i64 (-4)))) ?hg ?ho ?hn ?hr ?_; (case ho => rfl); (case hg => rfl); (case hn => rfl); (case hr => first | (go_simp; done) | (go_simp; rfl)); intro w39 hw; have hg : (wr.drewN nq).grownBy w39 (some go35) := (by rw [hw]; exact HP38.2); have hz_ : Kd.R (Kd.int .i64) 3 w39 w.heap.size oki38 (.slice (some ⟨go35, 0, none⟩) (rd_L1 x13_4 x15_4).length c588_0) y592 := (by rw [hw, Ny592.out]; exact HP38.1); have hp_ : Kd.S (Kd.slice 3 (Kd.int .i64)) 27 w39 w.heap.size (fun k_ => some k_ ≠ (.slice (some ad589) x11_2.length co37 : Value).ownBlock ∧ B_ ≤ k_) (.slice (some ad588) x13_4.length co36) y594 := (by rw [Ny594.out]; exact hbk38 hg (fun k_ e_ => by injection e_ with e_; subst e_; exact ge38_0.1 _ rfl) (Kd.M_row hz_)); have hB_ : B_ ≤ go35 := (hok38 go35 (ge38_0.1 go35 rfl)).1.2; have hm_ := Kd.R_mono hz_ hok38; clear HP38 hbk38; have n0_ := Aside0.mk (Kd.S_grown (by (with_reducible repeat (first | apply Kd.S_alloc | apply Kd.S_drewN | apply Kd.S_drew)); exact HO_11.out) hg (fun k_ hk_ e_ => by injection e_ with e_; have := hk_.2; omega)); have n1_ := Aside0.mk (hp_); have n2_ := Aside0.mk (blk_grown (g := gb565) (o := .cells #[.int .i64 a1_0, .int .i64 a1_1] 24 (0, 0)) (by (with_reducible repeat (first | apply kdn | apply kdr | apply kal)); exact BK565.out) hg (Kd.R_ne HL591_0.out BK565.out (by decide))); have n3_ := Aside0.mk ((by rw [hw]; exact below_set (pw_below_drewN HB.out nq) GB35.out : Below w.heap.size w w39)); have n4_ := Aside0.mk (hm_); have n5_ := Aside0.mk ((Kd.R_reads' hm_).2.1); clear HO_11; clear HO_13; clear BK565; clear HB; clear HL588_0; clear HL589_0; clear HL591_0; have HO_11 := n0_; have HO_13 := n1_; have BK565 := n2_; have HB := n3_; have HL595 := n4_; have HC593 := n5_; clear n0_ n1_ n2_ n3_ n4_ n5_; clear hg hw hp_ hz_ hm_ hok38)))
                  go_roundg k4
                  case measure => have := HJ6.out; have := HK2.out; have := HJ22.out; have := HK4.out; omega
                  case rel => exact ⟨(y594), (wrap64 (x15_4 + 1)), (by first | rfl | (simp; done) | (simp [*]; done)), H', ⟨by have := HJ6.out; have := HK2.out; have := HJ22.out; have := HK4.out; omega⟩, ⟨by (with_reducible repeat (first | apply Kd.S_alloc | apply Kd.S_drewN | apply Kd.S_drew)); exact HO_11.out⟩, ⟨by (with_reducible repeat (first | apply Kd.S_alloc | apply Kd.S_drewN | apply Kd.S_drew)); exact HO_13.out⟩, ⟨by (with_reducible repeat (first | apply kdn | apply kdr | apply kal)); exact BK565.out⟩, ⟨by repeat (first | (with_reducible first | exact HB.out | apply lal | apply ldn | apply ldr | refine below_set ?_ GE565.out) | exact HB.out)⟩⟩
                 ·rw [if_neg c34] at H
                  exact absurd H (by simp)
                ·replace c33 := Bool.eq_false_iff.mpr c33
                 subst c33
                 have H1 : (none) = some r := by rw [if_neg (show ¬ (false = true) by decide)] at H; exact H
                 clear H
                 have H := H1
                 clear H1
                 exact absurd H (by simp)
               ·rw [if_neg c31] at H
                exact absurd H (by simp)
              ·rw [if_neg c30] at H
               exact absurd H (by simp)
             ·rw [if_neg c29] at H
              have c29b0 : decide (x15_4 < (x13_4.length : Int)) = false := decide_eq_false c29
              clear c29
              have H' := Aside0.mk H
              clear H
              obtain ⟨Ao40, co40, eo40⟩ := Kd.S_slice HO_13.out
              subst eo40
              go_wp2
              repeat (go_quiet (fail); try go_wp2)
              go_roundg k4
              case measure => have := HJ6.out; have := HK2.out; have := HJ22.out; have := HK4.out; omega
              case rel => exact ⟨(x11_2), (wrap64 (x12_2 + 1)), (by first | rfl | (simp; done) | (simp [*]; done)), H', ⟨by have := HJ6.out; have := HK2.out; have := HJ22.out; have := HK4.out; omega⟩, ⟨by (with_reducible repeat (first | apply Kd.S_alloc | apply Kd.S_drewN | apply Kd.S_drew)); exact Kd.S_mono HO_11.out (fun _ hk => trivial)⟩, ⟨by (with_reducible repeat (first | apply kdn | apply kdr | apply kal)); exact BK565.out⟩, ⟨by repeat (first | (with_reducible first | exact HB.out | apply lal | apply ldn | apply ldr | refine below_set ?_ GE565.out) | exact HB.out)⟩⟩
       ·rw [if_neg c21] at H
        have c21b0 : decide (x12_2 < 2) = false := decide_eq_false c21
        clear c21
        replace H := Option.bind_eq_some_iff.mp H
        obtain ⟨t583, A410, H⟩ := H
        replace H : (some t583) = some r := H
        have A41 := Aside0.mk A410
        clear A410
        obtain rfl := Option.some.inj H
        go_wp2_with (first | (go_at_call 16; (with_reducible refine (trishawlaw06_alive.calls k2  t583 _ A41.out).mono ?_); rintro e w42 ⟨rfl, hb⟩; have n0_ := Aside0.mk (Kd.S_below (by (with_reducible repeat (first | apply Kd.S_alloc | apply Kd.S_drewN | apply Kd.S_drew)); exact HO_11.out) hb); have n1_ := Aside0.mk (blk_below (g := gb565) (o := .cells #[.int .i64 a1_0, .int .i64 a1_1] 24 (0, 0)) (by (with_reducible repeat (first | apply kdn | apply kdr | apply kal)); exact BK565.out) hb); have n2_ := Aside0.mk (below_step (by repeat (first | (with_reducible first | exact HB.out | apply lal | apply ldn | apply ldr | refine below_set ?_ GE565.out) | exact HB.out)) hb); clear HO_11; clear BK565; clear HB; have HO_11 := n0_; have BK565 := n1_; have HB := n2_; clear n0_ n1_ n2_; (try clear hb); (try clear hb2); (try clear hk); (try clear hi)))
        repeat (go_quiet (first | (go_at_call 16; (with_reducible refine (trishawlaw06_alive.calls k2  t583 _ A41.out).mono ?_); rintro e w42 ⟨rfl, hb⟩; have n0_ := Aside0.mk (Kd.S_below (by (with_reducible repeat (first | apply Kd.S_alloc | apply Kd.S_drewN | apply Kd.S_drew)); exact HO_11.out) hb); have n1_ := Aside0.mk (blk_below (g := gb565) (o := .cells #[.int .i64 a1_0, .int .i64 a1_1] 24 (0, 0)) (by (with_reducible repeat (first | apply kdn | apply kdr | apply kal)); exact BK565.out) hb); have n2_ := Aside0.mk (below_step (by repeat (first | (with_reducible first | exact HB.out | apply lal | apply ldn | apply ldr | refine below_set ?_ GE565.out) | exact HB.out)) hb); clear HO_11; clear BK565; clear HB; have HO_11 := n0_; have BK565 := n1_; have HB := n2_; clear n0_ n1_ n2_; (try clear hb); (try clear hb2); (try clear hk); (try clear hi))); try go_wp2_with (first | (go_at_call 16; (with_reducible refine (trishawlaw06_alive.calls k2  t583 _ A41.out).mono ?_); rintro e w42 ⟨rfl, hb⟩; have n0_ := Aside0.mk (Kd.S_below (by (with_reducible repeat (first | apply Kd.S_alloc | apply Kd.S_drewN | apply Kd.S_drew)); exact HO_11.out) hb); have n1_ := Aside0.mk (blk_below (g := gb565) (o := .cells #[.int .i64 a1_0, .int .i64 a1_1] 24 (0, 0)) (by (with_reducible repeat (first | apply kdn | apply kdr | apply kal)); exact BK565.out) hb); have n2_ := Aside0.mk (below_step (by repeat (first | (with_reducible first | exact HB.out | apply lal | apply ldn | apply ldr | refine below_set ?_ GE565.out) | exact HB.out)) hb); clear HO_11; clear BK565; clear HB; have HO_11 := n0_; have BK565 := n1_; have HB := n2_; clear n0_ n1_ n2_; (try clear hb); (try clear hb2); (try clear hk); (try clear hi))))
        go_ret
        exact ⟨by first | rfl | (simp [errW_none, errW_some] <;> rfl) | (simp [*, errW_none, errW_some] <;> rfl), by repeat (first | (with_reducible first | exact HB.out | apply lal | apply ldn | apply ldr | refine below_set ?_ GE565.out) | exact HB.out)⟩
 ·replace c4 := Bool.eq_false_iff.mpr c4
  subst c4
  have H1 : ((trishawlaw06_alive.f k).bind fun t567 => (some t567)) = some r := by rw [if_neg (show ¬ (false = true) by decide)] at H; exact H
  clear H
  have H := H1
  clear H1
  replace H := Option.bind_eq_some_iff.mp H
  obtain ⟨t567, A430, H⟩ := H
  replace H : (some t567) = some r := H
  have A43 := Aside0.mk A430
  clear A430
  obtain rfl := Option.some.inj H
  go_enter Try.func9, Try.ntmps9
  go_wp2_with (first | ((with_reducible refine gate_dst (N := 3) rfl ?_); refine box_event ?hg (N := 3) ?hd (cs := #[.int .i64 a1_0, .int .i64 a1_1]) (t := 24) ?hr ?_; (case hd => rfl); (case hg => rfl); (case hr => first | (go_simp; done) | (go_simp; rfl)); intro gb565 hg w44 hbox hb; have n0_ := Aside0.mk (below_step (by repeat (first | (with_reducible first | exact HB.out | apply lal | apply ldn | apply ldr) | exact HB.out)) hb); have n1_ := Aside0.mk (hbox); have n2_ := Aside0.mk ((by rw [hg]; exact (below_size (by repeat (first | (with_reducible first | exact HB.out | apply lal | apply ldn | apply ldr) | exact HB.out))) : w.heap.size ≤ gb565)); have n3_ := Aside0.mk ((by rw [hg]; exact (below_size (by repeat (first | (with_reducible first | exact HB.out | apply lal | apply ldn | apply ldr) | exact HB.out))) : w.heap.size ≤ gb565)); clear HB; have HB := n0_; have BK565 := n1_; have GW565 := n2_; have GE565 := n3_; clear n0_ n1_ n2_ n3_; clear hb hbox hg) | (go_at_call 15; (refine (trishawlaw06_few.calls _ _ l0 _ _ ([] : List Int) false _ ?side1 ?side2 ?side3 ?side4 A3.out).mono ?_); (case side1 => repeat (first | exact (Kd.C_below HR0.out HB.out) | (with_reducible refine Kd.C_alloc ?_ _) | (with_reducible refine Kd.C_drewN ?_ _) | (with_reducible refine Kd.C_drew ?_))); (case side2 => exact HC0.out); (case side3 => exact Kd.C_nil _ _); (case side4 => exact Nat.le_refl _); rintro e w' ⟨rfl, ⟨nd, rfl⟩⟩; (try first | exact ⟨rfl, _, World.drewN_drewN _ _ _⟩ | exact ⟨rfl, _, Eq.trans (World.drewN_drewN _ _ _) (congrArg (World.drewN _) (Nat.add_assoc _ _ _))⟩)) | (go_at_call 16; (with_reducible refine (trishawlaw06_alive.calls k  t567 _ A43.out).mono ?_); rintro e w45 ⟨rfl, hb⟩; have n0_ := Aside0.mk (blk_below (g := gb565) (o := .cells #[.int .i64 a1_0, .int .i64 a1_1] 24 (0, 0)) (by (with_reducible repeat (first | apply kdn | apply kdr | apply kal)); exact BK565.out) hb); have n1_ := Aside0.mk (below_step (by repeat (first | (with_reducible first | exact HB.out | apply lal | apply ldn | apply ldr | refine below_set ?_ GE565.out) | exact HB.out)) hb); clear BK565; clear HB; have BK565 := n0_; have HB := n1_; clear n0_ n1_; (try clear hb); (try clear hb2); (try clear hk); (try clear hi)))
  repeat (go_quiet (first | ((with_reducible refine gate_dst (N := 3) rfl ?_); refine box_event ?hg (N := 3) ?hd (cs := #[.int .i64 a1_0, .int .i64 a1_1]) (t := 24) ?hr ?_; (case hd => rfl); (case hg => rfl); (case hr => first | (go_simp; done) | (go_simp; rfl)); intro gb565 hg w44 hbox hb; have n0_ := Aside0.mk (below_step (by repeat (first | (with_reducible first | exact HB.out | apply lal | apply ldn | apply ldr) | exact HB.out)) hb); have n1_ := Aside0.mk (hbox); have n2_ := Aside0.mk ((by rw [hg]; exact (below_size (by repeat (first | (with_reducible first | exact HB.out | apply lal | apply ldn | apply ldr) | exact HB.out))) : w.heap.size ≤ gb565)); have n3_ := Aside0.mk ((by rw [hg]; exact (below_size (by repeat (first | (with_reducible first | exact HB.out | apply lal | apply ldn | apply ldr) | exact HB.out))) : w.heap.size ≤ gb565)); clear HB; have HB := n0_; have BK565 := n1_; have GW565 := n2_; have GE565 := n3_; clear n0_ n1_ n2_ n3_; clear hb hbox hg) | (go_at_call 15; (refine (trishawlaw06_few.calls _ _ l0 _ _ ([] : List Int) false _ ?side1 ?side2 ?side3 ?side4 A3.out).mono ?_); (case side1 => repeat (first | exact (Kd.C_below HR0.out HB.out) | (with_reducible refine Kd.C_alloc ?_ _) | (with_reducible refine Kd.C_drewN ?_ _) | (with_reducible refine Kd.C_drew ?_))); (case side2 => exact HC0.out); (case side3 => exact Kd.C_nil _ _); (case side4 => exact Nat.le_refl _); rintro e w' ⟨rfl, ⟨nd, rfl⟩⟩; (try first | exact ⟨rfl, _, World.drewN_drewN _ _ _⟩ | exact ⟨rfl, _, Eq.trans (World.drewN_drewN _ _ _) (congrArg (World.drewN _) (Nat.add_assoc _ _ _))⟩)) | (go_at_call 16; (with_reducible refine (trishawlaw06_alive.calls k  t567 _ A43.out).mono ?_); rintro e w45 ⟨rfl, hb⟩; have n0_ := Aside0.mk (blk_below (g := gb565) (o := .cells #[.int .i64 a1_0, .int .i64 a1_1] 24 (0, 0)) (by (with_reducible repeat (first | apply kdn | apply kdr | apply kal)); exact BK565.out) hb); have n1_ := Aside0.mk (below_step (by repeat (first | (with_reducible first | exact HB.out | apply lal | apply ldn | apply ldr | refine below_set ?_ GE565.out) | exact HB.out)) hb); clear BK565; clear HB; have BK565 := n0_; have HB := n1_; clear n0_ n1_; (try clear hb); (try clear hb2); (try clear hk); (try clear hi))); try go_wp2_with (first | ((with_reducible refine gate_dst (N := 3) rfl ?_); refine box_event ?hg (N := 3) ?hd (cs := #[.int .i64 a1_0, .int .i64 a1_1]) (t := 24) ?hr ?_; (case hd => rfl); (case hg => rfl); (case hr => first | (go_simp; done) | (go_simp; rfl)); intro gb565 hg w44 hbox hb; have n0_ := Aside0.mk (below_step (by repeat (first | (with_reducible first | exact HB.out | apply lal | apply ldn | apply ldr) | exact HB.out)) hb); have n1_ := Aside0.mk (hbox); have n2_ := Aside0.mk ((by rw [hg]; exact (below_size (by repeat (first | (with_reducible first | exact HB.out | apply lal | apply ldn | apply ldr) | exact HB.out))) : w.heap.size ≤ gb565)); have n3_ := Aside0.mk ((by rw [hg]; exact (below_size (by repeat (first | (with_reducible first | exact HB.out | apply lal | apply ldn | apply ldr) | exact HB.out))) : w.heap.size ≤ gb565)); clear HB; have HB := n0_; have BK565 := n1_; have GW565 := n2_; have GE565 := n3_; clear n0_ n1_ n2_ n3_; clear hb hbox hg) | (go_at_call 15; (refine (trishawlaw06_few.calls _ _ l0 _ _ ([] : List Int) false _ ?side1 ?side2 ?side3 ?side4 A3.out).mono ?_); (case side1 => repeat (first | exact (Kd.C_below HR0.out HB.out) | (with_reducible refine Kd.C_alloc ?_ _) | (with_reducible refine Kd.C_drewN ?_ _) | (with_reducible refine Kd.C_drew ?_))); (case side2 => exact HC0.out); (case side3 => exact Kd.C_nil _ _); (case side4 => exact Nat.le_refl _); rintro e w' ⟨rfl, ⟨nd, rfl⟩⟩; (try first | exact ⟨rfl, _, World.drewN_drewN _ _ _⟩ | exact ⟨rfl, _, Eq.trans (World.drewN_drewN _ _ _) (congrArg (World.drewN _) (Nat.add_assoc _ _ _))⟩)) | (go_at_call 16; (with_reducible refine (trishawlaw06_alive.calls k  t567 _ A43.out).mono ?_); rintro e w45 ⟨rfl, hb⟩; have n0_ := Aside0.mk (blk_below (g := gb565) (o := .cells #[.int .i64 a1_0, .int .i64 a1_1] 24 (0, 0)) (by (with_reducible repeat (first | apply kdn | apply kdr | apply kal)); exact BK565.out) hb); have n1_ := Aside0.mk (below_step (by repeat (first | (with_reducible first | exact HB.out | apply lal | apply ldn | apply ldr | refine below_set ?_ GE565.out) | exact HB.out)) hb); clear BK565; clear HB; have BK565 := n0_; have HB := n1_; clear n0_ n1_; (try clear hb); (try clear hb2); (try clear hk); (try clear hi))))
  go_ret
  exact ⟨by first | rfl | (simp [errW_none, errW_some] <;> rfl) | (simp [*, errW_none, errW_some] <;> rfl), by repeat (first | (with_reducible first | exact HB.out | apply lal | apply ldn | apply ldr | refine below_set ?_ GE565.out) | exact HB.out)⟩
end Go.Proofs.Ytlmlneneakpohaa.OAll
