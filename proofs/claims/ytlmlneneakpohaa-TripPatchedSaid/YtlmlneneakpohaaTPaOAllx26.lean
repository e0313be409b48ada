/- A part of the proof of 'tripPatched_holds', for every input, without a condition. -/
import Derived.Test.YtlmlneneakpohaaTPaOAllx0
import Derived.Test.YtlmlneneakpohaaTPaOAllx3
import Derived.Test.YtlmlneneakpohaaTPaOAllx5
import Derived.Test.YtlmlneneakpohaaTPaOAllx8
import Derived.Test.YtlmlneneakpohaaTPaOAllx9
import Derived.Test.YtlmlneneakpohaaTPaOAllx14
import Derived.Test.YtlmlneneakpohaaTPaOAllx16
import Derived.Test.YtlmlneneakpohaaTPaOAllx2
import Derived.Test.YtlmlneneakpohaaTPaOAllx15
import Derived.Test.YtlmlneneakpohaaTPaOAllx24
namespace Go.Proofs.Ytlmlneneakpohaa.OAll
open Go.RowKit Go.Proofs.YtlmlneneakpohaaW.PrintWords Go.Proofs.YtlmlneneakpohaaW.PrintLast Go.Proofs.YtlmlneneakpohaaW.PrintMore
attribute [local go_sem] max2_int min2_int max_two min_two max_three min_three max_four min_four
set_option linter.unusedVariables false
set_option linter.unusedSimpArgs false
mutual
def trishawlaw06_TripPatched.j0 : Nat → List (S36) → Int → Bool → Int → Int → Option (Bool)
 | 0, _, _, _, _, _ => none
 | k + 1, x0, x2, x33, x690000, x690001 => if x33 = true then ((trishawlaw06_alive.f k).bind fun t692 => (some t692)) else ((trip_Patches.f k x0 x690000 x690001).bind fun bt693 => ((trip_Gaps.f k x0 x690000 x690001).bind fun bt698 => ((trip_Rings.f k x0).bind fun bt702 => ((trip_Matching.f k x0 x690000 x690001).bind fun bt706 => ((trip_Least.f k x0 x690000 x690001).bind fun bt711 => (if bt693.2.2 = 0 then (if bt698.2 = 0 then (if bt702.2 = 0 then (if bt706.2.2 = 0 then (if bt711.2 = 0 then (if (bt693.1.length : Int) = (wrap64 ((bt702.1.length : Int) - 1)) then (if (bt698.1.length : Int) = (wrap64 ((x0.length : Int) - 1)) then (trishawlaw06_TripPatched.j1 k x0 x2 bt693.1 bt693.2.1 bt698.1 (bt711.1 != (wrap64 (bt706.2.1 + bt693.2.1)))) else (none)) else (none)) else (none)) else (none)) else (none)) else (none)) else (none)))))))
def trishawlaw06_TripPatched.j1 : Nat → List (S36) → Int → List Int → Int → List Int → Bool → Option (Bool)
 | 0, _, _, _, _, _, _ => none
 | k + 1, x0, x2, x7, x8, x10, x106 => if x106 = true then (none) else (trishawlaw06_TripPatched.l0 k x0 x2 x7 x8 x10 0 0 0)
def trishawlaw06_TripPatched.l0 : Nat → List (S36) → Int → List Int → Int → List Int → Int → Int → Int → Option (Bool)
 | 0, _, _, _, _, _, _, _, _ => none
 | k + 1, x0, x2, x7, x8, x10, x19, x20, x21 => if x21 < (x7.length : Int) then (if 0 ≤ x21 then (if (rd x7 x21) < 0 then (none) else (if (rd x7 x21) ≥ (x10.length : Int) then (none) else (if x21 > 0 then (if 0 ≤ (wrap64 (x21 - 1)) then (if (wrap64 (x21 - 1)) < (x7.length : Int) then (if (rd x7 x21) ≤ (rd x7 (wrap64 (x21 - 1))) then (none) else (if 0 ≤ (rd x7 x21) then (if (rd x7 x21) < (x10.length : Int) then (trishawlaw06_TripPatched.l0 k x0 x2 x7 x8 x10 (wrap64 (x19 + (rd x10 (rd x7 x21)))) (wrap64 (x20 + (shl .i64 1 (rd x7 x21)))) (wrap64 (x21 + 1))) else (none)) else (none))) else (none)) else (none)) else (if 0 ≤ (rd x7 x21) then (if (rd x7 x21) < (x10.length : Int) then (trishawlaw06_TripPatched.l0 k x0 x2 x7 x8 x10 (wrap64 (x19 + (rd x10 (rd x7 x21)))) (wrap64 (x20 + (shl .i64 1 (rd x7 x21)))) (wrap64 (x21 + 1))) else (none)) else (none))))) else (none)) else (if x19 = x8 then ((trishawref06_Joins.f k x0 x20).bind fun t723 => (trishawlaw06_TripPatched.j3 k x0 x2 x8 x10 (!t723))) else (none))
def trishawlaw06_TripPatched.j3 : Nat → List (S36) → Int → Int → List Int → Bool → Option (Bool)
 | 0, _, _, _, _, _ => none
 | k + 1, x0, x2, x8, x10, x167 => if x167 = true then (none) else (if (shl .i64 1 (x10.length : Int)) = 0 then (none) else ((trishawref06_Joins.f k x0 (Int.tmod (wrap64 (x2)) (shl .i64 1 (x10.length : Int)))).bind fun t724 => (if t724 = true then (trishawlaw06_TripPatched.l1 k x8 x10 (Int.tmod (wrap64 (x2)) (shl .i64 1 (x10.length : Int))) 0 0) else ((trishawlaw06_alive.f k).bind fun t725 => (some t725)))))
def trishawlaw06_TripPatched.l1 : Nat → Int → List Int → Int → Int → Int → Option (Bool)
 | 0, _, _, _, _, _ => none
 | k + 1, x8, x10, x22, x23, x24 => if x24 < (x10.length : Int) then (if 0 ≤ x24 then (if (rd x10 x24) < 0 then (none) else (trishawlaw06_TripPatched.l1 k x8 x10 x22 (wrap64 (x23 + (wrap64 ((rd x10 x24) * (Int.tmod (shr .i64 x22 x24) 2))))) (wrap64 (x24 + 1)))) else (none)) else (if x23 ≥ x8 then ((trishawlaw06_alive.f k).bind fun t728 => (some t728)) else (none))
end
def trishawlaw06_TripPatched.f (k : Nat) (l0 : List (S36)) (a1_0 : Int) (a1_1 : Int) (a2 : Int) : Option (Bool) := (trishawlaw06_few.f l0 ([] : List Int)).bind fun t690 => (if t690 = true then ((trishawref06_Day.f k l0 a1_0 a1_1).bind fun t691 => (trishawlaw06_TripPatched.j0 k l0 a2 (t691 != 0) a1_0 a1_1)) else (trishawlaw06_TripPatched.j0 k l0 a2 true a1_0 a1_1))
set_option maxHeartbeats 8000000 in
set_option maxRecDepth 100000 in
theorem trishawlaw06_TripPatched.calls (k : Nat) (A0 : Option Addr) (c0 : Nat) (l0 : List (S36)) (a1_0 : Int) (a1_1 : Int) (a2 : Int) (r : Bool) (w : World) (hr0 : Kd.C k36 w A0 l0.length l0) (hc0 : l0.length ≤ c0) (h : trishawlaw06_TripPatched.f k l0 a1_0 a1_1 a2 = some r) :
  Calls Try.prog 12 #[.slice A0 l0.length c0, .agg #[.int .i64 a1_0, .int .i64 a1_1], .int .u16 a2] w fun e w' => e = .returned (.bool r) ∧ Below w.heap.size w w' := by
 have hu24 := Try.underlying24
 have HR0 := Aside0.mk hr0
 have HC0 := Aside0.mk hc0
 clear hr0 hc0
 have HB := Aside0.mk (Below.refl w.heap.size w)
 have H : ((trishawlaw06_few.f l0 ([] : List Int)).bind fun t690 => (if t690 = true then ((trishawref06_Day.f k l0 a1_0 a1_1).bind fun t691 => (trishawlaw06_TripPatched.j0 k l0 a2 (t691 != 0) a1_0 a1_1)) else (trishawlaw06_TripPatched.j0 k l0 a2 true a1_0 a1_1))) = some r := h
 clear h
 have HC4 := Aside0.mk H
 clear H
 go_enter Try.func12, Try.ntmps12
 go_upto_region 1 with (first | ((with_reducible refine gate_dst (N := 4) rfl ?_); (try (refine gate_guard (by rfl) ?_; dsimp only)); refine box_event ?hg (N := 4) ?hd (cs := #[.int .i64 a1_0, .int .i64 a1_1]) (t := 24) ?hr ?_; (case hd => rfl); (case hg => rfl); (case hr => first | (go_simp; done) | (go_simp; rfl)); intro gb689 hg w5 hbox hb; have n0_ := Aside0.mk (below_step (by repeat (first | (with_reducible first | exact HB.out | apply lal | apply ldn | apply ldr) | exact HB.out)) hb); have n1_ := Aside0.mk (hbox); have n2_ := Aside0.mk ((by rw [hg]; exact (below_size (by repeat (first | (with_reducible first | exact HB.out | apply lal | apply ldn | apply ldr) | exact HB.out))) : w.heap.size ≤ gb689)); have n3_ := Aside0.mk ((by rw [hg]; exact (below_size (by repeat (first | (with_reducible first | exact HB.out | apply lal | apply ldn | apply ldr) | exact HB.out))) : w.heap.size ≤ gb689)); clear HB; have HB := n0_; have BK689 := n1_; have GW689 := n2_; have GE689 := n3_; clear n0_ n1_ n2_ n3_; clear hb hbox hg))
 repeat (go_quiet (first | ((with_reducible refine gate_dst (N := 4) rfl ?_); (try (refine gate_guard (by rfl) ?_; dsimp only)); refine box_event ?hg (N := 4) ?hd (cs := #[.int .i64 a1_0, .int .i64 a1_1]) (t := 24) ?hr ?_; (case hd => rfl); (case hg => rfl); (case hr => first | (go_simp; done) | (go_simp; rfl)); intro gb689 hg w5 hbox hb; have n0_ := Aside0.mk (below_step (by repeat (first | (with_reducible first | exact HB.out | apply lal | apply ldn | apply ldr) | exact HB.out)) hb); have n1_ := Aside0.mk (hbox); have n2_ := Aside0.mk ((by rw [hg]; exact (below_size (by repeat (first | (with_reducible first | exact HB.out | apply lal | apply ldn | apply ldr) | exact HB.out))) : w.heap.size ≤ gb689)); have n3_ := Aside0.mk ((by rw [hg]; exact (below_size (by repeat (first | (with_reducible first | exact HB.out | apply lal | apply ldn | apply ldr) | exact HB.out))) : w.heap.size ≤ gb689)); clear HB; have HB := n0_; have BK689 := n1_; have GW689 := n2_; have GE689 := n3_; clear n0_ n1_ n2_ n3_; clear hb hbox hg)); go_upto_region 1 with (first | ((with_reducible refine gate_dst (N := 4) rfl ?_); (try (refine gate_guard (by rfl) ?_; dsimp only)); refine box_event ?hg (N := 4) ?hd (cs := #[.int .i64 a1_0, .int .i64 a1_1]) (t := 24) ?hr ?_; (case hd => rfl); (case hg => rfl); (case hr => first | (go_simp; done) | (go_simp; rfl)); intro gb689 hg w5 hbox hb; have n0_ := Aside0.mk (below_step (by repeat (first | (with_reducible first | exact HB.out | apply lal | apply ldn | apply ldr) | exact HB.out)) hb); have n1_ := Aside0.mk (hbox); have n2_ := Aside0.mk ((by rw [hg]; exact (below_size (by repeat (first | (with_reducible first | exact HB.out | apply lal | apply ldn | apply ldr) | exact HB.out))) : w.heap.size ≤ gb689)); have n3_ := Aside0.mk ((by rw [hg]; exact (below_size (by repeat (first | (with_reducible first | exact HB.out | apply lal | apply ldn | apply ldr) | exact HB.out))) : w.heap.size ≤ gb689)); clear HB; have HB := n0_; have BK689 := n1_; have GW689 := n2_; have GE689 := n3_; clear n0_ n1_ n2_ n3_; clear hb hbox hg)))
 (try simp only [Act.put, sia, sc0, scs])
 go_cut [33] (fun v33 wc => ∃ (kq : Nat) (x33_3 : Bool), v33 = .bool x33_3 ∧ Aside0 (trishawlaw06_TripPatched.j0 kq l0 a2 x33_3 a1_0 a1_1 = some r) ∧ Aside0 (kq ≤ k) ∧ Aside0 (wc.heap[gb689]? = some (.cells #[.int .i64 a1_0, .int .i64 a1_1] 24 (0, 0))) ∧ Aside0 (Below w.heap.size w wc))
 case first =>
  have H := HC4.out
  clear HC4
  replace H := Option.bind_eq_some_iff.mp H
  obtain ⟨t690, A60, H⟩ := H
  replace H : (if t690 = true then ((trishawref06_Day.f k l0 a1_0 a1_1).bind fun t691 => (trishawlaw06_TripPatched.j0 k l0 a2 (t691 != 0) a1_0 a1_1)) else (trishawlaw06_TripPatched.j0 k l0 a2 true a1_0 a1_1)) = some r := H
  have A6 := Aside0.mk A60
  clear A60
  by_cases c7 : t690 = true
  ·subst c7
   have H1 : ((trishawref06_Day.f k l0 a1_0 a1_1).bind fun t691 => (trishawlaw06_TripPatched.j0 k l0 a2 (t691 != 0) a1_0 a1_1)) = some r := by rw [if_pos rfl] at H; exact H
   clear H
   have H := H1
   clear H1
   replace H := Option.bind_eq_some_iff.mp H
   obtain ⟨t691, A80, H⟩ := H
   replace H : (trishawlaw06_TripPatched.j0 k l0 a2 (t691 != 0) a1_0 a1_1) = some r := H
   have A8 := Aside0.mk A80
   clear A80
   have H' := Aside0.mk H
   clear H
   go_wp2_with (first | (go_at_call 15; (refine (trishawlaw06_few.calls _ _ l0 _ _ ([] : List Int) true _ ?side1 ?side2 ?side3 ?side4 A6.out).mono ?_); (case side1 => repeat (first | exact (Kd.C_below HR0.out HB.out) | (with_reducible refine Kd.C_alloc ?_ _) | (with_reducible refine Kd.C_drewN ?_ _) | (with_reducible refine Kd.C_drew ?_))); (case side2 => exact HC0.out); (case side3 => exact Kd.C_nil _ _); (case side4 => exact Nat.le_refl _); rintro e w' ⟨rfl, ⟨nd, rfl⟩⟩; (try first | exact ⟨rfl, _, World.drewN_drewN _ _ _⟩ | exact ⟨rfl, _, Eq.trans (World.drewN_drewN _ _ _) (congrArg (World.drewN _) (Nat.add_assoc _ _ _))⟩); have hcz9_0 : w5.cell? ⟨gb689, 0, none⟩ = some (.int .i64 a1_0) := (blk_cell BK689.out 0).trans rfl; have hcz9_1 : w5.cell? ⟨gb689, 1, none⟩ = some (.int .i64 a1_1) := (blk_cell BK689.out 1).trans rfl; have hfz9_0 := blk_frozen BK689.out 0; have hfz9_1 := blk_frozen BK689.out 1) | (go_at_call 20; (with_reducible refine (trishawref06_Day.calls k _ _ l0 a1_0 a1_1 t691 _ ?side1 ?side2 A8.out).mono ?_); (case side1 => repeat (first | exact (Kd.C_below HR0.out (by repeat (first | (with_reducible first | exact HB.out | apply lal | apply ldn | apply ldr | refine below_set ?_ GE689.out) | exact HB.out))) | (with_reducible refine Kd.C_alloc ?_ _) | (with_reducible refine Kd.C_drewN ?_ _) | (with_reducible refine Kd.C_drew ?_))); (case side2 => exact HC0.out); rintro e w10 ⟨rfl, hb⟩; have n0_ := Aside0.mk (blk_below (g := gb689) (o := .cells #[.int .i64 a1_0, .int .i64 a1_1] 24 (0, 0)) (by (with_reducible repeat (first | apply kdn | apply kdr | apply kal)); exact BK689.out) hb); have n1_ := Aside0.mk (below_step (by repeat (first | (with_reducible first | exact HB.out | apply lal | apply ldn | apply ldr | refine below_set ?_ GE689.out) | exact HB.out)) hb); clear BK689; clear HB; have BK689 := n0_; have HB := n1_; clear n0_ n1_; (try clear hb); (try clear hb2); (try clear hk); (try clear hi)))
   repeat (go_quiet (first | (go_at_call 15; (refine (trishawlaw06_few.calls _ _ l0 _ _ ([] : List Int) true _ ?side1 ?side2 ?side3 ?side4 A6.out).mono ?_); (case side1 => repeat (first | exact (Kd.C_below HR0.out HB.out) | (with_reducible refine Kd.C_alloc ?_ _) | (with_reducible refine Kd.C_drewN ?_ _) | (with_reducible refine Kd.C_drew ?_))); (case side2 => exact HC0.out); (case side3 => exact Kd.C_nil _ _); (case side4 => exact Nat.le_refl _); rintro e w' ⟨rfl, ⟨nd, rfl⟩⟩; (try first | exact ⟨rfl, _, World.drewN_drewN _ _ _⟩ | exact ⟨rfl, _, Eq.trans (World.drewN_drewN _ _ _) (congrArg (World.drewN _) (Nat.add_assoc _ _ _))⟩); have hcz9_0 : w5.cell? ⟨gb689, 0, none⟩ = some (.int .i64 a1_0) := (blk_cell BK689.out 0).trans rfl; have hcz9_1 : w5.cell? ⟨gb689, 1, none⟩ = some (.int .i64 a1_1) := (blk_cell BK689.out 1).trans rfl; have hfz9_0 := blk_frozen BK689.out 0; have hfz9_1 := blk_frozen BK689.out 1) | (go_at_call 20; (with_reducible refine (trishawref06_Day.calls k _ _ l0 a1_0 a1_1 t691 _ ?side1 ?side2 A8.out).mono ?_); (case side1 => repeat (first | exact (Kd.C_below HR0.out (by repeat (first | (with_reducible first | exact HB.out | apply lal | apply ldn | apply ldr | refine below_set ?_ GE689.out) | exact HB.out))) | (with_reducible refine Kd.C_alloc ?_ _) | (with_reducible refine Kd.C_drewN ?_ _) | (with_reducible refine Kd.C_drew ?_))); (case side2 => exact HC0.out); rintro e w10 ⟨rfl, hb⟩; have n0_ := Aside0.mk (blk_below (g := gb689) (o := .cells #[.int .i64 a1_0, .int .i64 a1_1] 24 (0, 0)) (by (with_reducible repeat (first | apply kdn | apply kdr | apply kal)); exact BK689.out) hb); have n1_ := Aside0.mk (below_step (by repeat (first | (with_reducible first | exact HB.out | apply lal | apply ldn | apply ldr | refine below_set ?_ GE689.out) | exact HB.out)) hb); clear BK689; clear HB; have BK689 := n0_; have HB := n1_; clear n0_ n1_; (try clear hb); (try clear hb2); (try clear hk); (try clear hi))); try go_wp2_with (first | (go_at_call 15; (refine (trishawlaw06_few.calls _ _ l0 _ _ ([] : List Int) true _ ?side1 ?side2 ?side3 ?side4 A6.out).mono ?_); (case side1 => repeat (first | exact (Kd.C_below HR0.out HB.out) | (with_reducible refine Kd.C_alloc ?_ _) | (with_reducible refine Kd.C_drewN ?_ _) | (with_reducible refine Kd.C_drew ?_))); (case side2 => exact HC0.out); (case side3 => exact Kd.C_nil _ _); (case side4 => exact Nat.le_refl _); rintro e w' ⟨rfl, ⟨nd, rfl⟩⟩; (try first | exact ⟨rfl, _, World.drewN_drewN _ _ _⟩ | exact ⟨rfl, _, Eq.trans (World.drewN_drewN _ _ _) (congrArg (World.drewN _) (Nat.add_assoc _ _ _))⟩); have hcz9_0 : w5.cell? ⟨gb689, 0, none⟩ = some (.int .i64 a1_0) := (blk_cell BK689.out 0).trans rfl; have hcz9_1 : w5.cell? ⟨gb689, 1, none⟩ = some (.int .i64 a1_1) := (blk_cell BK689.out 1).trans rfl; have hfz9_0 := blk_frozen BK689.out 0; have hfz9_1 := blk_frozen BK689.out 1) | (go_at_call 20; (with_reducible refine (trishawref06_Day.calls k _ _ l0 a1_0 a1_1 t691 _ ?side1 ?side2 A8.out).mono ?_); (case side1 => repeat (first | exact (Kd.C_below HR0.out (by repeat (first | (with_reducible first | exact HB.out | apply lal | apply ldn | apply ldr | refine below_set ?_ GE689.out) | exact HB.out))) | (with_reducible refine Kd.C_alloc ?_ _) | (with_reducible refine Kd.C_drewN ?_ _) | (with_reducible refine Kd.C_drew ?_))); (case side2 => exact HC0.out); rintro e w10 ⟨rfl, hb⟩; have n0_ := Aside0.mk (blk_below (g := gb689) (o := .cells #[.int .i64 a1_0, .int .i64 a1_1] 24 (0, 0)) (by (with_reducible repeat (first | apply kdn | apply kdr | apply kal)); exact BK689.out) hb); have n1_ := Aside0.mk (below_step (by repeat (first | (with_reducible first | exact HB.out | apply lal | apply ldn | apply ldr | refine below_set ?_ GE689.out) | exact HB.out)) hb); clear BK689; clear HB; have BK689 := n0_; have HB := n1_; clear n0_ n1_; (try clear hb); (try clear hb2); (try clear hk); (try clear hi))))
   go_meet
   case rel => exact ⟨_, ((t691 != 0)), (by first | rfl | (simp; done) | (simp [*]; done)), H', ⟨by first | omega | exact Nat.le_refl _⟩, ⟨by (with_reducible repeat (first | apply kdn | apply kdr | apply kal)); exact BK689.out⟩, ⟨by repeat (first | (with_reducible first | exact HB.out | apply lal | apply ldn | apply ldr | refine below_set ?_ GE689.out) | exact HB.out)⟩⟩
  ·replace c7 := Bool.eq_false_iff.mpr c7
   subst c7
   have H1 : (trishawlaw06_TripPatched.j0 k l0 a2 true a1_0 a1_1) = some r := by rw [if_neg (show ¬ (false = true) by decide)] at H; exact H
   clear H
   have H := H1
   clear H1
   have H' := Aside0.mk H
   clear H
   go_wp2_with (first | (go_at_call 15; (refine (trishawlaw06_few.calls _ _ l0 _ _ ([] : List Int) false _ ?side1 ?side2 ?side3 ?side4 A6.out).mono ?_); (case side1 => repeat (first | exact (Kd.C_below HR0.out HB.out) | (with_reducible refine Kd.C_alloc ?_ _) | (with_reducible refine Kd.C_drewN ?_ _) | (with_reducible refine Kd.C_drew ?_))); (case side2 => exact HC0.out); (case side3 => exact Kd.C_nil _ _); (case side4 => exact Nat.le_refl _); rintro e w' ⟨rfl, ⟨nd, rfl⟩⟩; (try first | exact ⟨rfl, _, World.drewN_drewN _ _ _⟩ | exact ⟨rfl, _, Eq.trans (World.drewN_drewN _ _ _) (congrArg (World.drewN _) (Nat.add_assoc _ _ _))⟩)))
   repeat (go_quiet (first | (go_at_call 15; (refine (trishawlaw06_few.calls _ _ l0 _ _ ([] : List Int) false _ ?side1 ?side2 ?side3 ?side4 A6.out).mono ?_); (case side1 => repeat (first | exact (Kd.C_below HR0.out HB.out) | (with_reducible refine Kd.C_alloc ?_ _) | (with_reducible refine Kd.C_drewN ?_ _) | (with_reducible refine Kd.C_drew ?_))); (case side2 => exact HC0.out); (case side3 => exact Kd.C_nil _ _); (case side4 => exact Nat.le_refl _); rintro e w' ⟨rfl, ⟨nd, rfl⟩⟩; (try first | exact ⟨rfl, _, World.drewN_drewN _ _ _⟩ | exact ⟨rfl, _, Eq.trans (World.drewN_drewN _ _ _) (congrArg (World.drewN _) (Nat.add_assoc _ _ _))⟩))); try go_wp2_with (first | (go_at_call 15; (refine (trishawlaw06_few.calls _ _ l0 _ _ ([] : List Int) false _ ?side1 ?side2 ?side3 ?side4 A6.out).mono ?_); (case side1 => repeat (first | exact (Kd.C_below HR0.out HB.out) | (with_reducible refine Kd.C_alloc ?_ _) | (with_reducible refine Kd.C_drewN ?_ _) | (with_reducible refine Kd.C_drew ?_))); (case side2 => exact HC0.out); (case side3 => exact Kd.C_nil _ _); (case side4 => exact Nat.le_refl _); rintro e w' ⟨rfl, ⟨nd, rfl⟩⟩; (try first | exact ⟨rfl, _, World.drewN_drewN _ _ _⟩ | exact ⟨rfl, _, Eq.trans (World.drewN_drewN _ _ _) (congrArg (World.drewN _) (Nat.add_assoc _ _ _))⟩))))
   go_meet
   case rel => exact ⟨_, (true), (by first | rfl | (simp; done) | (simp [*]; done)), H', ⟨by first | omega | exact Nat.le_refl _⟩, ⟨by (with_reducible repeat (first | apply kdn | apply kdr | apply kal)); exact BK689.out⟩, ⟨by repeat (first | (with_reducible first | exact HB.out | apply lal | apply ldn | apply ldr | refine below_set ?_ GE689.out) | exact HB.out)⟩⟩
 case rest =>
  clear HC4
  try clear c1
  try clear p2
  try clear c7
  try clear hcz9_0
  try clear hcz9_1
  try clear hfz9_0
  try clear hfz9_1
  obtain ⟨kq, x33_3, rfl, HA, HJ3, BK689, HB⟩ := hcut
  cases kq with
  | zero => exact absurd HA.out (by simp [trishawlaw06_TripPatched.j0])
  | succ kj3 =>
   have H := HA.out
   clear HA
   simp only [trishawlaw06_TripPatched.j0] at H
   by_cases c11 : x33_3 = true
   ·subst c11
    have H1 : ((trishawlaw06_alive.f kj3).bind fun t692 => (some t692)) = some r := by rw [if_pos rfl] at H; exact H
    clear H
    have H := H1
    clear H1
    replace H := Option.bind_eq_some_iff.mp H
    obtain ⟨t692, A120, H⟩ := H
    replace H : (some t692) = some r := H
    have A12 := Aside0.mk A120
    clear A120
    obtain rfl := Option.some.inj H
    go_wp2_with (first | (go_at_call 16; (with_reducible refine (trishawlaw06_alive.calls kj3  t692 _ A12.out).mono ?_); rintro e w13 ⟨rfl, hb⟩; have n0_ := Aside0.mk (blk_below (g := gb689) (o := .cells #[.int .i64 a1_0, .int .i64 a1_1] 24 (0, 0)) (by (with_reducible repeat (first | apply kdn | apply kdr | apply kal)); exact BK689.out) hb); have n1_ := Aside0.mk (below_step (by repeat (first | (with_reducible first | exact HB.out | apply lal | apply ldn | apply ldr | refine below_set ?_ GE689.out) | exact HB.out)) hb); clear BK689; clear HB; have BK689 := n0_; have HB := n1_; clear n0_ n1_; (try clear hb); (try clear hb2); (try clear hk); (try clear hi)))
    repeat (go_quiet (first | (go_at_call 16; (with_reducible refine (trishawlaw06_alive.calls kj3  t692 _ A12.out).mono ?_); rintro e w13 ⟨rfl, hb⟩; have n0_ := Aside0.mk (blk_below (g := gb689) (o := .cells #[.int .i64 a1_0, .int .i64 a1_1] 24 (0, 0)) (by (with_reducible repeat (first | apply kdn | apply kdr | apply kal)); exact BK689.out) hb); have n1_ := Aside0.mk (below_step (by repeat (first | (with_reducible first | exact HB.out | apply lal | apply ldn | apply ldr | refine below_set ?_ GE689.out) | exact HB.out)) hb); clear BK689; clear HB; have BK689 := n0_; have HB := n1_; clear n0_ n1_; (try clear hb); (try clear hb2); (try clear hk); (try clear hi))); try go_wp2_with (first | (go_at_call 16; (with_reducible refine (trishawlaw06_alive.calls kj3  t692 _ A12.out).mono ?_); rintro e w13 ⟨rfl, hb⟩; have n0_ := Aside0.mk (blk_below (g := gb689) (o := .cells #[.int .i64 a1_0, .int .i64 a1_1] 24 (0, 0)) (by (with_reducible repeat (first | apply kdn | apply kdr | apply kal)); exact BK689.out) hb); have n1_ := Aside0.mk (below_step (by repeat (first | (with_reducible first | exact HB.out | apply lal | apply ldn | apply ldr | refine below_set ?_ GE689.out) | exact HB.out)) hb); clear BK689; clear HB; have BK689 := n0_; have HB := n1_; clear n0_ n1_; (try clear hb); (try clear hb2); (try clear hk); (try clear hi))))
    go_ret
    exact ⟨by first | rfl | (simp [errW_none, errW_some] <;> rfl) | (simp [*, errW_none, errW_some] <;> rfl), by repeat (first | (with_reducible first | exact HB.out | apply lal | apply ldn | apply ldr | refine below_set ?_ GE689.out) | exact HB.out)⟩
   ·replace c11 := Bool.eq_false_iff.mpr c11
    subst c11
    have H1 : ((trip_Patches.f kj3 l0 a1_0 a1_1).bind fun bt693 => ((trip_Gaps.f kj3 l0 a1_0 a1_1).bind fun bt698 => ((trip_Rings.f kj3 l0).bind fun bt702 => ((trip_Matching.f kj3 l0 a1_0 a1_1).bind fun bt706 => ((trip_Least.f kj3 l0 a1_0 a1_1).bind fun bt711 => (if bt693.2.2 = 0 then (if bt698.2 = 0 then (if bt702.2 = 0 then (if bt706.2.2 = 0 then (if bt711.2 = 0 then (if (bt693.1.length : Int) = (wrap64 ((bt702.1.length : Int) - 1)) then (if (bt698.1.length : Int) = (wrap64 ((l0.length : Int) - 1)) then (trishawlaw06_TripPatched.j1 kj3 l0 a2 bt693.1 bt693.2.1 bt698.1 (bt711.1 != (wrap64 (bt706.2.1 + bt693.2.1)))) else (none)) else (none)) else (none)) else (none)) else (none)) else (none)) else (none))))))) = some r := by rw [if_neg (show ¬ (false = true) by decide)] at H; exact H
    clear H
    have H := H1
    clear H1
    replace H := Option.bind_eq_some_iff.mp H
    obtain ⟨⟨t693, t696, t697⟩, A140, H⟩ := H
    replace H : ((trip_Gaps.f kj3 l0 a1_0 a1_1).bind fun bt698 => ((trip_Rings.f kj3 l0).bind fun bt702 => ((trip_Matching.f kj3 l0 a1_0 a1_1).bind fun bt706 => ((trip_Least.f kj3 l0 a1_0 a1_1).bind fun bt711 => (if t697 = 0 then (if bt698.2 = 0 then (if bt702.2 = 0 then (if bt706.2.2 = 0 then (if bt711.2 = 0 then (if (t693.length : Int) = (wrap64 ((bt702.1.length : Int) - 1)) then (if (bt698.1.length : Int) = (wrap64 ((l0.length : Int) - 1)) then (trishawlaw06_TripPatched.j1 kj3 l0 a2 t693 t696 bt698.1 (bt711.1 != (wrap64 (bt706.2.1 + t696)))) else (none)) else (none)) else (none)) else (none)) else (none)) else (none)) else (none)))))) = some r := H
    have A14 := Aside0.mk A140
    clear A140
    replace H := Option.bind_eq_some_iff.mp H
    obtain ⟨⟨t698, t701⟩, A150, H⟩ := H
    replace H : ((trip_Rings.f kj3 l0).bind fun bt702 => ((trip_Matching.f kj3 l0 a1_0 a1_1).bind fun bt706 => ((trip_Least.f kj3 l0 a1_0 a1_1).bind fun bt711 => (if t697 = 0 then (if t701 = 0 then (if bt702.2 = 0 then (if bt706.2.2 = 0 then (if bt711.2 = 0 then (if (t693.length : Int) = (wrap64 ((bt702.1.length : Int) - 1)) then (if (t698.length : Int) = (wrap64 ((l0.length : Int) - 1)) then (trishawlaw06_TripPatched.j1 kj3 l0 a2 t693 t696 t698 (bt711.1 != (wrap64 (bt706.2.1 + t696)))) else (none)) else (none)) else (none)) else (none)) else (none)) else (none)) else (none))))) = some r := H
    have A15 := Aside0.mk A150
    clear A150
    replace H := Option.bind_eq_some_iff.mp H
    obtain ⟨⟨t702, t703⟩, A160, H⟩ := H
    replace H : ((trip_Matching.f kj3 l0 a1_0 a1_1).bind fun bt706 => ((trip_Least.f kj3 l0 a1_0 a1_1).bind fun bt711 => (if t697 = 0 then (if t701 = 0 then (if t703 = 0 then (if bt706.2.2 = 0 then (if bt711.2 = 0 then (if (t693.length : Int) = (wrap64 ((t702.length : Int) - 1)) then (if (t698.length : Int) = (wrap64 ((l0.length : Int) - 1)) then (trishawlaw06_TripPatched.j1 kj3 l0 a2 t693 t696 t698 (bt711.1 != (wrap64 (bt706.2.1 + t696)))) else (none)) else (none)) else (none)) else (none)) else (none)) else (none)) else (none)))) = some r := H
    have A16 := Aside0.mk A160
    clear A160
    replace H := Option.bind_eq_some_iff.mp H
    obtain ⟨⟨t706, t709, t710⟩, A170, H⟩ := H
    replace H : ((trip_Least.f kj3 l0 a1_0 a1_1).bind fun bt711 => (if t697 = 0 then (if t701 = 0 then (if t703 = 0 then (if t710 = 0 then (if bt711.2 = 0 then (if (t693.length : Int) = (wrap64 ((t702.length : Int) - 1)) then (if (t698.length : Int) = (wrap64 ((l0.length : Int) - 1)) then (trishawlaw06_TripPatched.j1 kj3 l0 a2 t693 t696 t698 (bt711.1 != (wrap64 (t709 + t696)))) else (none)) else (none)) else (none)) else (none)) else (none)) else (none)) else (none))) = some r := H
    have A17 := Aside0.mk A170
    clear A170
    replace H := Option.bind_eq_some_iff.mp H
    obtain ⟨⟨t711, t712⟩, A180, H⟩ := H
    replace H : (if t697 = 0 then (if t701 = 0 then (if t703 = 0 then (if t710 = 0 then (if t712 = 0 then (if (t693.length : Int) = (wrap64 ((t702.length : Int) - 1)) then (if (t698.length : Int) = (wrap64 ((l0.length : Int) - 1)) then (trishawlaw06_TripPatched.j1 kj3 l0 a2 t693 t696 t698 (t711 != (wrap64 (t709 + t696)))) else (none)) else (none)) else (none)) else (none)) else (none)) else (none)) else (none)) = some r := H
    have A18 := Aside0.mk A180
    clear A180
    have HC19 := Aside0.mk H
    clear H
    have hcz20_0 : wc.cell? ⟨gb689, 0, none⟩ = some (.int .i64 a1_0) := (blk_cell BK689.out 0).trans rfl
    have hcz20_1 : wc.cell? ⟨gb689, 1, none⟩ = some (.int .i64 a1_1) := (blk_cell BK689.out 1).trans rfl
    have hfz20_0 := blk_frozen BK689.out 0
    have hfz20_1 := blk_frozen BK689.out 1
    go_upto_region 8 with (first | (go_at_call 25; (with_reducible refine (trip_Patches.calls kj3 _ _ l0 a1_0 a1_1 t693 t696 t697 _ ?side1 ?side2 A14.out).mono ?_); (case side1 => repeat (first | exact (Kd.C_below HR0.out HB.out) | (with_reducible refine Kd.C_alloc ?_ _) | (with_reducible refine Kd.C_drewN ?_ _) | (with_reducible refine Kd.C_drew ?_))); (case side2 => exact HC0.out); rintro e w21 ⟨v694, rfl, ho0, hb⟩; have n0_ := Aside0.mk (Kd.R_lower ho0 (below_size (by repeat (first | (with_reducible first | exact HB.out | apply lal | apply ldn | apply ldr | refine below_set ?_ GE689.out) | exact HB.out)))); have n1_ := Aside0.mk (blk_below (g := gb689) (o := .cells #[.int .i64 a1_0, .int .i64 a1_1] 24 (0, 0)) (by (with_reducible repeat (first | apply kdn | apply kdr | apply kal)); exact BK689.out) hb); have n2_ := Aside0.mk (below_step (by repeat (first | (with_reducible first | exact HB.out | apply lal | apply ldn | apply ldr | refine below_set ?_ GE689.out) | exact HB.out)) hb); clear BK689; clear HB; have HO695 := n0_; have BK689 := n1_; have HB := n2_; clear n0_ n1_ n2_; (try clear hb); (try clear hb2); (try clear hk); (try clear hi); (try clear ho0); have hcz22_0 : w21.cell? ⟨gb689, 0, none⟩ = some (.int .i64 a1_0) := (blk_cell BK689.out 0).trans rfl; have hcz22_1 : w21.cell? ⟨gb689, 1, none⟩ = some (.int .i64 a1_1) := (blk_cell BK689.out 1).trans rfl; have hfz22_0 := blk_frozen BK689.out 0; have hfz22_1 := blk_frozen BK689.out 1) | (go_at_call 23; (with_reducible refine (trip_Gaps.calls kj3 _ _ l0 a1_0 a1_1 t698 t701 _ ?side1 ?side2 A15.out).mono ?_); (case side1 => repeat (first | exact (Kd.C_below HR0.out HB.out) | (with_reducible refine Kd.C_alloc ?_ _) | (with_reducible refine Kd.C_drewN ?_ _) | (with_reducible refine Kd.C_drew ?_))); (case side2 => exact HC0.out); rintro e w23 ⟨v699, rfl, ho0, hb⟩; have n0_ := Aside0.mk (Kd.R_elder' (by (with_reducible repeat (first | apply Kd.R_alloc | apply Kd.R_drewN | apply Kd.R_drew)); exact HO695.out) (Kd.R_base ho0) hb); have n1_ := Aside0.mk (Kd.R_lower (Kd.R_new' ho0 (Kd.R_lt (by (with_reducible repeat (first | apply Kd.R_alloc | apply Kd.R_drewN | apply Kd.R_drew)); exact HO695.out))) (below_size (by repeat (first | (with_reducible first | exact HB.out | apply lal | apply ldn | apply ldr | refine below_set ?_ GE689.out) | exact HB.out)))); have n2_ := Aside0.mk (blk_below (g := gb689) (o := .cells #[.int .i64 a1_0, .int .i64 a1_1] 24 (0, 0)) (by (with_reducible repeat (first | apply kdn | apply kdr | apply kal)); exact BK689.out) hb); have n3_ := Aside0.mk (below_step (by repeat (first | (with_reducible first | exact HB.out | apply lal | apply ldn | apply ldr | refine below_set ?_ GE689.out) | exact HB.out)) hb); clear HO695; clear BK689; clear HB; have HO695 := n0_; have HO700 := n1_; have BK689 := n2_; have HB := n3_; clear n0_ n1_ n2_ n3_; (try clear hb); (try clear hb2); (try clear hk); (try clear hi); (try clear ho0)) | (go_at_call 33; (with_reducible refine (trip_Rings.calls kj3 _ _ l0 t702 t703 _ ?side1 ?side2 A16.out).mono ?_); (case side1 => repeat (first | exact (Kd.C_below HR0.out HB.out) | (with_reducible refine Kd.C_alloc ?_ _) | (with_reducible refine Kd.C_drewN ?_ _) | (with_reducible refine Kd.C_drew ?_))); (case side2 => exact HC0.out); rintro e w24 ⟨v704, rfl, ho0, hb⟩; have n0_ := Aside0.mk (Kd.R_below (by (with_reducible repeat (first | apply Kd.R_alloc | apply Kd.R_drewN | apply Kd.R_drew)); exact HO695.out) hb); have n1_ := Aside0.mk (Kd.R_below (by (with_reducible repeat (first | apply Kd.R_alloc | apply Kd.R_drewN | apply Kd.R_drew)); exact HO700.out) hb); have n2_ := Aside0.mk (Kd.S_lower (Kd.S_new' (Kd.S_new' ho0 (Kd.R_lt (by (with_reducible repeat (first | apply Kd.R_alloc | apply Kd.R_drewN | apply Kd.R_drew)); exact HO695.out))) (Kd.R_lt (by (with_reducible repeat (first | apply Kd.R_alloc | apply Kd.R_drewN | apply Kd.R_drew)); exact HO700.out))) (below_size (by repeat (first | (with_reducible first | exact HB.out | apply lal | apply ldn | apply ldr | refine below_set ?_ GE689.out) | exact HB.out)))); have n3_ := Aside0.mk (blk_below (g := gb689) (o := .cells #[.int .i64 a1_0, .int .i64 a1_1] 24 (0, 0)) (by (with_reducible repeat (first | apply kdn | apply kdr | apply kal)); exact BK689.out) hb); have n4_ := Aside0.mk (below_step (by repeat (first | (with_reducible first | exact HB.out | apply lal | apply ldn | apply ldr | refine below_set ?_ GE689.out) | exact HB.out)) hb); clear HO695; clear HO700; clear BK689; clear HB; have HO695 := n0_; have HO700 := n1_; have HO705 := n2_; have BK689 := n3_; have HB := n4_; clear n0_ n1_ n2_ n3_ n4_; (try clear hb); (try clear hb2); (try clear hk); (try clear hi); (try clear ho0); have hcz25_0 : w24.cell? ⟨gb689, 0, none⟩ = some (.int .i64 a1_0) := (blk_cell BK689.out 0).trans rfl; have hcz25_1 : w24.cell? ⟨gb689, 1, none⟩ = some (.int .i64 a1_1) := (blk_cell BK689.out 1).trans rfl; have hfz25_0 := blk_frozen BK689.out 0; have hfz25_1 := blk_frozen BK689.out 1) | (go_at_call 30; (with_reducible refine (trip_Matching.calls kj3 _ _ l0 a1_0 a1_1 t706 t709 t710 _ ?side1 ?side2 A17.out).mono ?_); (case side1 => repeat (first | exact (Kd.C_below HR0.out HB.out) | (with_reducible refine Kd.C_alloc ?_ _) | (with_reducible refine Kd.C_drewN ?_ _) | (with_reducible refine Kd.C_drew ?_))); (case side2 => exact HC0.out); rintro e w26 ⟨v707, rfl, ho0, hb⟩; have n0_ := Aside0.mk (Kd.R_elder' (by (with_reducible repeat (first | apply Kd.R_alloc | apply Kd.R_drewN | apply Kd.R_drew)); exact HO695.out) (Kd.R_base ho0) hb); have n1_ := Aside0.mk (Kd.R_elder' (by (with_reducible repeat (first | apply Kd.R_alloc | apply Kd.R_drewN | apply Kd.R_drew)); exact HO700.out) (Kd.R_base ho0) hb); have n2_ := Aside0.mk (Kd.S_elder' (by (with_reducible repeat (first | apply Kd.S_alloc | apply Kd.S_drewN | apply Kd.S_drew)); exact HO705.out) (Kd.R_base ho0) hb); have n3_ := Aside0.mk (Kd.R_lower (Kd.R_new' (Kd.R_new' ho0 (Kd.R_lt (by (with_reducible repeat (first | apply Kd.R_alloc | apply Kd.R_drewN | apply Kd.R_drew)); exact HO695.out))) (Kd.R_lt (by (with_reducible repeat (first | apply Kd.R_alloc | apply Kd.R_drewN | apply Kd.R_drew)); exact HO700.out))) (below_size (by repeat (first | (with_reducible first | exact HB.out | apply lal | apply ldn | apply ldr | refine below_set ?_ GE689.out) | exact HB.out)))); have n4_ := Aside0.mk (blk_below (g := gb689) (o := .cells #[.int .i64 a1_0, .int .i64 a1_1] 24 (0, 0)) (by (with_reducible repeat (first | apply kdn | apply kdr | apply kal)); exact BK689.out) hb); have n5_ := Aside0.mk (below_step (by repeat (first | (with_reducible first | exact HB.out | apply lal | apply ldn | apply ldr | refine below_set ?_ GE689.out) | exact HB.out)) hb); clear HO695; clear HO700; clear HO705; clear BK689; clear HB; have HO695 := n0_; have HO700 := n1_; have HO705 := n2_; have HO708 := n3_; have BK689 := n4_; have HB := n5_; clear n0_ n1_ n2_ n3_ n4_ n5_; (try clear hb); (try clear hb2); (try clear hk); (try clear hi); (try clear ho0); have hcz27_0 : w26.cell? ⟨gb689, 0, none⟩ = some (.int .i64 a1_0) := (blk_cell BK689.out 0).trans rfl; have hcz27_1 : w26.cell? ⟨gb689, 1, none⟩ = some (.int .i64 a1_1) := (blk_cell BK689.out 1).trans rfl; have hfz27_0 := blk_frozen BK689.out 0; have hfz27_1 := blk_frozen BK689.out 1) | (go_at_call 21; (with_reducible refine (trip_Least.calls kj3 _ _ l0 a1_0 a1_1 t711 t712 _ ?side1 ?side2 A18.out).mono ?_); (case side1 => repeat (first | exact (Kd.C_below HR0.out HB.out) | (with_reducible refine Kd.C_alloc ?_ _) | (with_reducible refine Kd.C_drewN ?_ _) | (with_reducible refine Kd.C_drew ?_))); (case side2 => exact HC0.out); rintro e w28 ⟨rfl, hb⟩; have n0_ := Aside0.mk (Kd.R_below (by (with_reducible repeat (first | apply Kd.R_alloc | apply Kd.R_drewN | apply Kd.R_drew)); exact HO695.out) hb); have n1_ := Aside0.mk (Kd.R_below (by (with_reducible repeat (first | apply Kd.R_alloc | apply Kd.R_drewN | apply Kd.R_drew)); exact HO700.out) hb); have n2_ := Aside0.mk (Kd.S_below (by (with_reducible repeat (first | apply Kd.S_alloc | apply Kd.S_drewN | apply Kd.S_drew)); exact HO705.out) hb); have n3_ := Aside0.mk (Kd.R_below (by (with_reducible repeat (first | apply Kd.R_alloc | apply Kd.R_drewN | apply Kd.R_drew)); exact HO708.out) hb); have n4_ := Aside0.mk (blk_below (g := gb689) (o := .cells #[.int .i64 a1_0, .int .i64 a1_1] 24 (0, 0)) (by (with_reducible repeat (first | apply kdn | apply kdr | apply kal)); exact BK689.out) hb); have n5_ := Aside0.mk (below_step (by repeat (first | (with_reducible first | exact HB.out | apply lal | apply ldn | apply ldr | refine below_set ?_ GE689.out) | exact HB.out)) hb); clear HO695; clear HO700; clear HO705; clear HO708; clear BK689; clear HB; have HO695 := n0_; have HO700 := n1_; have HO705 := n2_; have HO708 := n3_; have BK689 := n4_; have HB := n5_; clear n0_ n1_ n2_ n3_ n4_ n5_; (try clear hb); (try clear hb2); (try clear hk); (try clear hi)))
    repeat (go_quiet (first | (go_at_call 25; (with_reducible refine (trip_Patches.calls kj3 _ _ l0 a1_0 a1_1 t693 t696 t697 _ ?side1 ?side2 A14.out).mono ?_); (case side1 => repeat (first | exact (Kd.C_below HR0.out HB.out) | (with_reducible refine Kd.C_alloc ?_ _) | (with_reducible refine Kd.C_drewN ?_ _) | (with_reducible refine Kd.C_drew ?_))); (case side2 => exact HC0.out); rintro e w21 ⟨v694, rfl, ho0, hb⟩; have n0_ := Aside0.mk (Kd.R_lower ho0 (below_size (by repeat (first | (with_reducible first | exact HB.out | apply lal | apply ldn | apply ldr | refine below_set ?_ GE689.out) | exact HB.out)))); have n1_ := Aside0.mk (blk_below (g := gb689) (o := .cells #[.int .i64 a1_0, .int .i64 a1_1] 24 (0, 0)) (by (with_reducible repeat (first | apply kdn | apply kdr | apply kal)); exact BK689.out) hb); have n2_ := Aside0.mk (below_step (by repeat (first | (with_reducible first | exact HB.out | apply lal | apply ldn | apply ldr | refine below_set ?_ GE689.out) | exact HB.out)) hb); clear BK689; clear HB; have HO695 := n0_; have BK689 := n1_; have HB := n2_; clear n0_ n1_ n2_; (try clear hb); (try clear hb2); (try clear hk); (try clear hi); (try clear ho0); have hcz22_0 : w21.cell? ⟨gb689, 0, none⟩ = some (.int .i64 a1_0) := (blk_cell BK689.out 0).trans rfl; have hcz22_1 : w21.cell? ⟨gb689, 1, none⟩ = some (.int .i64 a1_1) := (blk_cell BK689.out 1).trans rfl; have hfz22_0 := blk_frozen BK689.out 0; have hfz22_1 := blk_frozen BK689.out 1) | (go_at_call 23; (with_reducible refine (trip_Gaps.calls kj3 _ _ l0 a1_0 a1_1 t698 t701 _ ?side1 ?side2 A15.out).mono ?_); (case side1 => repeat (first | exact (Kd.C_below HR0.out HB.out) | (with_reducible refine Kd.C_alloc ?_ _) | (with_reducible refine Kd.C_drewN ?_ _) | (with_reducible refine Kd.C_drew ?_))); (case side2 => exact HC0.out); rintro e w23 ⟨v699, rfl, ho0, hb⟩; have n0_ := Aside0.mk (Kd.R_elder' (by (with_reducible repeat (first | apply Kd.R_alloc | apply Kd.R_drewN | apply Kd.R_drew)); exact HO695.out) (Kd.R_base ho0) hb); have n1_ := Aside0.mk (Kd.R_lower (Kd.R_new' ho0 (Kd.R_lt (by (with_reducible repeat (first | apply Kd.R_alloc | apply Kd.R_drewN | apply Kd.R_drew)); exact HO695.out))) (below_size (by repeat (first | (with_reducible first | exact HB.out | apply lal | apply ldn | apply ldr | refine below_set ?_ GE689.out) | exact HB.out)))); have n2_ := Aside0.mk (blk_below (g := gb689) (o := .cells #[.int .i64 a1_0, .int .i64 a1_1] 24 (0, 0)) (by (with_reducible repeat (first | apply kdn | apply kdr | apply kal)); exact BK689.out) hb); have n3_ := Aside0.mk (below_step (by repeat (first | (with_reducible first | exact HB.out | apply lal | apply ldn | apply ldr | refine below_set ?_ GE689.out) | exact HB.out)) hb); clear HO695; clear BK689; clear HB; have HO695 := n0_; have HO700 := n1_; have BK689 := n2_; have HB := n3_; clear n0_ n1_ n2_ n3_; (try clear hb); (try clear hb2); (try clear hk); (try clear hi); (try clear ho0)) | (go_at_call 33; (with_reducible refine (trip_Rings.calls kj3 _ _ l0 t702 t703 _ ?side1 ?side2 A16.out).mono ?_); (case side1 => repeat (first | exact (Kd.C_below HR0.out HB.out) | (with_reducible refine Kd.C_alloc ?_ _) | (with_reducible refine Kd.C_drewN ?_ _) | (with_reducible refine Kd.C_drew ?_))); (case side2 => exact HC0.out); rintro e w24 ⟨v704, rfl, ho0, hb⟩; have n0_ := Aside0.mk (Kd.R_below (by (with_reducible repeat (first | apply Kd.R_alloc | apply Kd.R_drewN | apply Kd.R_drew)); exact HO695.out) hb); have n1_ := Aside0.mk (Kd.R_below (by (with_reducible repeat (first | apply Kd.R_alloc | apply Kd.R_drewN | apply Kd.R_drew)); exact HO700.out) hb); have n2_ := Aside0.mk (Kd.S_lower (Kd.S_new' (Kd.S_new' ho0 (Kd.R_lt (by (with_reducible repeat (first | apply Kd.R_alloc | apply Kd.R_drewN | apply Kd.R_drew)); exact HO695.out))) (Kd.R_lt (by (with_reducible repeat (first | apply Kd.R_alloc | apply Kd.R_drewN | apply Kd.R_drew)); exact HO700.out))) (below_size (by repeat (first | (with_reducible first | exact HB.out | apply lal | apply ldn | apply ldr | refine below_set ?_ GE689.out) | exact HB.out)))); have n3_ := Aside0.mk (blk_below (g := gb689) (o := .cells #[.int .i64 a1_0, .int .i64 a1_1] 24 (0, 0)) (by (with_reducible repeat (first | apply kdn | apply kdr | apply kal)); exact BK689.out) hb); have n4_ := Aside0.mk (below_step (by repeat (first | (with_reducible first | exact HB.out | apply lal | apply ldn | apply ldr | refine below_set ?_ GE689.out) | exact HB.out)) hb); clear HO695; clear HO700; clear BK689; clear HB; have HO695 := n0_; have HO700 := n1_; have HO705 := n2_; have BK689 := n3_; have HB := n4_; clear n0_ n1_ n2_ n3_ n4_; (try clear hb); (try clear hb2); (try clear hk); (try clear hi); (try clear ho0); have hcz25_0 : w24.cell? ⟨gb689, 0, none⟩ = some (.int .i64 a1_0) := (blk_cell BK689.out 0).trans rfl; have hcz25_1 : w24.cell? ⟨gb689, 1, none⟩ = some (.int .i64 a1_1) := (blk_cell BK689.out 1).trans rfl; have hfz25_0 := blk_frozen BK689.out 0; have hfz25_1 := blk_frozen BK689.out 1) | (go_at_call 30; (with_reducible refine (trip_Matching.calls kj3 _ _ l0 a1_0 a1_1 t706 t709 t710 _ ?side1 ?side2 A17.out).mono ?_); (case side1 => repeat (first | exact (Kd.C_below HR0.out HB.out) | (with_reducible refine Kd.C_alloc ?_ _) | (with_reducible refine Kd.C_drewN ?_ _) | (with_reducible refine Kd.C_drew ?_))); (case side2 => exact HC0.out); rintro e w26 ⟨v707, rfl, ho0, hb⟩; have n0_ := Aside0.mk (Kd.R_elder' (by (with_reducible repeat (first | apply Kd.R_alloc | apply Kd.R_drewN | apply Kd.R_drew)); exact HO695.out) (Kd.R_base ho0) hb); have n1_ := Aside0.mk (Kd.R_elder' (by (with_reducible repeat (first | apply Kd.R_alloc | apply Kd.R_drewN | apply Kd.R_drew)); exact HO700.out) (Kd.R_base ho0) hb); have n2_ := Aside0.mk (Kd.S_elder' (by (with_reducible repeat (first | apply Kd.S_alloc | apply Kd.S_drewN | apply Kd.S_drew)); exact HO705.out) (Kd.R_base ho0) hb); have n3_ := Aside0.mk (Kd.R_lower (Kd.R_new' (Kd.R_new' ho0 (Kd.R_lt (by (with_reducible repeat (first | apply Kd.R_alloc | apply Kd.R_drewN | apply Kd.R_drew)); exact HO695.out))) (Kd.R_lt (by (with_reducible repeat (first | apply Kd.R_alloc | apply Kd.R_drewN | apply Kd.R_drew)); exact HO700.out))) (below_size (by repeat (first | (with_reducible first | exact HB.out | apply lal | apply ldn | apply ldr | refine below_set ?_ GE689.out) | exact HB.out)))); have n4_ := Aside0.mk (blk_below (g := gb689) (o := .cells #[.int .i64 a1_0, .int .i64 a1_1] 24 (0, 0)) (by (with_reducible repeat (first | apply kdn | apply kdr | apply kal)); exact BK689.out) hb); have n5_ := Aside0.mk (below_step (by repeat (first | (with_reducible first | exact HB.out | apply lal | apply ldn | apply ldr | refine below_set ?_ GE689.out) | exact HB.out)) hb); clear HO695; clear HO700; clear HO705; clear BK689; clear HB; have HO695 := n0_; have HO700 := n1_; have HO705 := n2_; have HO708 := n3_; have BK689 := n4_; have HB := n5_; clear n0_ n1_ n2_ n3_ n4_ n5_; (try clear hb); (try clear hb2); (try clear hk); (try clear hi); (try clear ho0); have hcz27_0 : w26.cell? ⟨gb689, 0, none⟩ = some (.int .i64 a1_0) := (blk_cell BK689.out 0).trans rfl; have hcz27_1 : w26.cell? ⟨gb689, 1, none⟩ = some (.int .i64 a1_1) := (blk_cell BK689.out 1).trans rfl; have hfz27_0 := blk_frozen BK689.out 0; have hfz27_1 := blk_frozen BK689.out 1) | (go_at_call 21; (with_reducible refine (trip_Least.calls kj3 _ _ l0 a1_0 a1_1 t711 t712 _ ?side1 ?side2 A18.out).mono ?_); (case side1 => repeat (first | exact (Kd.C_below HR0.out HB.out) | (with_reducible refine Kd.C_alloc ?_ _) | (with_reducible refine Kd.C_drewN ?_ _) | (with_reducible refine Kd.C_drew ?_))); (case side2 => exact HC0.out); rintro e w28 ⟨rfl, hb⟩; have n0_ := Aside0.mk (Kd.R_below (by (with_reducible repeat (first | apply Kd.R_alloc | apply Kd.R_drewN | apply Kd.R_drew)); exact HO695.out) hb); have n1_ := Aside0.mk (Kd.R_below (by (with_reducible repeat (first | apply Kd.R_alloc | apply Kd.R_drewN | apply Kd.R_drew)); exact HO700.out) hb); have n2_ := Aside0.mk (Kd.S_below (by (with_reducible repeat (first | apply Kd.S_alloc | apply Kd.S_drewN | apply Kd.S_drew)); exact HO705.out) hb); have n3_ := Aside0.mk (Kd.R_below (by (with_reducible repeat (first | apply Kd.R_alloc | apply Kd.R_drewN | apply Kd.R_drew)); exact HO708.out) hb); have n4_ := Aside0.mk (blk_below (g := gb689) (o := .cells #[.int .i64 a1_0, .int .i64 a1_1] 24 (0, 0)) (by (with_reducible repeat (first | apply kdn | apply kdr | apply kal)); exact BK689.out) hb); have n5_ := Aside0.mk (below_step (by repeat (first | (with_reducible first | exact HB.out | apply lal | apply ldn | apply ldr | refine below_set ?_ GE689.out) | exact HB.out)) hb); clear HO695; clear HO700; clear HO705; clear HO708; clear BK689; clear HB; have HO695 := n0_; have HO700 := n1_; have HO705 := n2_; have HO708 := n3_; have BK689 := n4_; have HB := n5_; clear n0_ n1_ n2_ n3_ n4_ n5_; (try clear hb); (try clear hb2); (try clear hk); (try clear hi))); go_upto_region 8 with (first | (go_at_call 25; (with_reducible refine (trip_Patches.calls kj3 _ _ l0 a1_0 a1_1 t693 t696 t697 _ ?side1 ?side2 A14.out).mono ?_); (case side1 => repeat (first | exact (Kd.C_below HR0.out HB.out) | (with_reducible refine Kd.C_alloc ?_ _) | (with_reducible refine Kd.C_drewN ?_ _) | (with_reducible refine Kd.C_drew ?_))); (case side2 => exact HC0.out); rintro e w21 ⟨v694, rfl, ho0, hb⟩; have n0_ := Aside0.mk (Kd.R_lower ho0 (below_size (by repeat (first | (with_reducible first | exact HB.out | apply lal | apply ldn | apply ldr | refine below_set ?_ GE689.out) | exact HB.out)))); have n1_ := Aside0.mk (blk_below (g := gb689) (o := .cells #[.int .i64 a1_0, .int .i64 a1_1] 24 (0, 0)) (by (with_reducible repeat (first | apply kdn | apply kdr | apply kal)); exact BK689.out) hb); have n2_ := Aside0.mk (below_step (by repeat (first | (with_reducible first | exact HB.out | apply lal | apply ldn | apply ldr | refine below_set ?_ GE689.out) | exact HB.out)) hb); clear BK689; clear HB; have HO695 := n0_; have BK689 := n1_; have HB := n2_; clear n0_ n1_ n2_; (try clear hb); (try clear hb2); (try clear hk); (try clear hi); (try clear ho0); have hcz22_0 : w21.cell? ⟨gb689, 0, none⟩ = some (.int .i64 a1_0) := (blk_cell BK689.out 0).trans rfl; have hcz22_1 : w21.cell? ⟨gb689, 1, none⟩ = some (.int .i64 a1_1) := (blk_cell BK689.out 1).trans rfl; have hfz22_0 := blk_frozen BK689.out 0; have hfz22_1 := blk_frozen BK689.out 1) | (go_at_call 23; (with_reducible refine (trip_Gaps.calls kj3 _ _ l0 a1_0 a1_1 t698 t701 _ ?side1 ?side2 A15.out).mono ?_); (case side1 => repeat (first | exact (Kd.C_below HR0.out HB.out) | (with_reducible refine Kd.C_alloc ?_ _) | (with_reducible refine Kd.C_drewN ?_ _) | (with_reducible refine Kd.C_drew ?_))); (case side2 => exact HC0.out); rintro e w23 ⟨v699, rfl, ho0, hb⟩; have n0_ := Aside0.mk (Kd.R_elder' (by (with_reducible repeat (first | apply Kd.R_alloc | apply Kd.R_drewN | apply Kd.R_drew)); exact HO695.out) (Kd.R_base ho0) hb); have n1_ := Aside0.mk (Kd.R_lower (Kd.R_new' ho0 (Kd.R_lt (by (with_reducible repeat (first | apply Kd.R_alloc | apply Kd.R_drewN | apply Kd.R_drew)); exact HO695.out))) (below_size (by repeat (first | (with_reducible first | exact HB.out | apply lal | apply ldn | apply ldr | refine below_set ?_ GE689.out) | exact HB.out)))); have n2_ := Aside0.mk (blk_below (g := gb689) (o := .cells #[.int .i64 a1_0, .int .i64 a1_1] 24 (0, 0)) (by (with_reducible repeat (first | apply kdn | apply kdr | apply kal)); exact BK689.out) hb); have n3_ := Aside0.mk (below_step (by repeat (first | (with_reducible first | exact HB.out | apply lal | apply ldn | apply ldr | refine below_set ?_ GE689.out) | exact HB.out)) hb); clear HO695; clear BK689; clear HB; have HO695 := n0_; have HO700 := n1_; have BK689 := n2_; have HB := n3_; clear n0_ n1_ n2_ n3_; (try clear hb); (try clear hb2); (try clear hk); (try clear hi); (try clear ho0)) | (go_at_call 33; (with_reducible refine (trip_Rings.calls kj3 _ _ l0 t702 t703 _ ?side1 ?side2 A16.out).mono ?_); (case side1 => repeat (first | exact (Kd.C_below HR0.out HB.out) | (with_reducible refine Kd.C_alloc ?_ _) | (with_reducible refine Kd.C_drewN ?_ _) | (with_reducible refine Kd.C_drew ?_))); (case side2 => exact HC0.out); rintro e w24 ⟨v704, rfl, ho0, hb⟩; have n0_ := Aside0.mk (Kd.R_below (by (with_reducible repeat (first | apply Kd.R_alloc | apply Kd.R_drewN | apply Kd.R_drew)); exact HO695.out) hb); have n1_ := Aside0.mk (Kd.R_below (by (with_reducible repeat (first | apply Kd.R_alloc | apply Kd.R_drewN | apply Kd.R_drew)); exact HO700.out) hb); have n2_ := Aside0.mk (Kd.S_lower (Kd.S_new' (Kd.S_new' ho0 (Kd.R_lt (by (with_reducible repeat (first | apply Kd.R_alloc | apply Kd.R_drewN | apply Kd.R_drew)); exact HO695.out))) (Kd.R_lt (by (with_reducible repeat (first | apply Kd.R_alloc | apply Kd.R_drewN | apply Kd.R_drew)); exact HO700.out))) (below_size (by repeat (first | (with_reducible first | exact HB.out | apply lal | apply ldn | apply ldr | refine below_set ?_ GE689.out) | exact HB.out)))); have n3_ := Aside0.mk (blk_below (g := gb689) (o := .cells #[.int .i64 a1_0, .int .i64 a1_1] 24 (0, 0)) (by (with_reducible repeat (first | apply kdn | apply kdr | apply kal)); exact BK689.out) hb); have n4_ := Aside0.mk (below_step (by repeat (first | (with_reducible first | exact HB.out | apply lal | apply ldn | apply ldr | refine below_set ?_ GE689.out) | exact HB.out)) hb); clear HO695; clear HO700; clear BK689; clear HB; have HO695 := n0_; have HO700 := n1_; have HO705 := n2_; have BK689 := n3_; have HB := n4_; clear n0_ n1_ n2_ n3_ n4_; (try clear hb); (try clear hb2); (try clear hk); (try clear hi); (try clear ho0); have hcz25_0 : w24.cell? ⟨gb689, 0, none⟩ = some (.int .i64 a1_0) := (blk_cell BK689.out 0).trans rfl; have hcz25_1 : w24.cell? ⟨gb689, 1, none⟩ = some (.int .i64 a1_1) := (blk_cell BK689.out 1).trans rfl; have hfz25_0 := blk_frozen BK689.out 0; have hfz25_1 := blk_frozen BK689.out 1) | (go_at_call 30; (with_reducible refine (trip_Matching.calls kj3 _ _ l0 a1_0 a1_1 t706 t709 t710 _ ?side1 ?side2 A17.out).mono ?_); (case side1 => repeat (first | exact (Kd.C_below HR0.out HB.out) | (with_reducible refine Kd.C_alloc ?_ _) | (with_reducible refine Kd.C_drewN ?_ _) | (with_reducible refine Kd.C_drew ?_))); (case side2 => exact HC0.out); rintro e w26 ⟨v707, rfl, ho0, hb⟩; have n0_ := Aside0.mk (Kd.R_elder' (by (with_reducible repeat (first | apply Kd.R_alloc | apply Kd.R_drewN | apply Kd.R_drew)); exact HO695.out) (Kd.R_base ho0) hb); have n1_ := Aside0.mk (Kd.R_elder' (by (with_reducible repeat (first | apply Kd.R_alloc | apply Kd.R_drewN | apply Kd.R_drew)); exact HO700.out) (Kd.R_base ho0) hb); have n2_ := Aside0.mk (Kd.S_elder' (by (with_reducible repeat (first | apply Kd.S_alloc | apply Kd.S_drewN | apply Kd.S_drew)); exact HO705.out) (Kd.R_base ho0) hb); have n3_ := Aside0.mk (Kd.R_lower (Kd.R_new' (Kd.R_new' ho0 (Kd.R_lt (by (with_reducible repeat (first | apply Kd.R_alloc | apply Kd.R_drewN | apply Kd.R_drew)); exact HO695.out))) (Kd.R_lt (by (with_reducible repeat (first | apply Kd.R_alloc | apply Kd.R_drewN | apply Kd.R_drew)); exact HO700.out))) (below_size (by repeat (first | (with_reducible first | exact HB.out | apply lal | apply ldn | apply ldr | refine below_set ?_ GE689.out) | exact HB.out)))); have n4_ := Aside0.mk (blk_below (g := gb689) (o := .cells #[.int .i64 a1_0, .int .i64 a1_1] 24 (0, 0)) (by (with_reducible repeat (first | apply kdn | apply kdr | apply kal)); exact BK689.out) hb); have n5_ := Aside0.mk (below_step (by repeat (first | (with_reducible first | exact HB.out | apply lal | apply ldn | apply ldr | refine below_set ?_ GE689.out) | exact HB.out)) hb); clear HO695; clear HO700; clear HO705; clear BK689; clear HB; have HO695 := n0_; have HO700 := n1_; have HO705 := n2_; have HO708 := n3_; have BK689 := n4_; have HB := n5_; clear n0_ n1_ n2_ n3_ n4_ n5_; (try clear hb); (try clear hb2); (try clear hk); (try clear hi); (try clear ho0); have hcz27_0 : w26.cell? ⟨gb689, 0, none⟩ = some (.int .i64 a1_0) := (blk_cell BK689.out 0).trans rfl; have hcz27_1 : w26.cell? ⟨gb689, 1, none⟩ = some (.int .i64 a1_1) := (blk_cell BK689.out 1).trans rfl; have hfz27_0 := blk_frozen BK689.out 0; have hfz27_1 := blk_frozen BK689.out 1) | (go_at_call 21; (with_reducible refine (trip_Least.calls kj3 _ _ l0 a1_0 a1_1 t711 t712 _ ?side1 ?side2 A18.out).mono ?_); (case side1 => repeat (first | exact (Kd.C_below HR0.out HB.out) | (with_reducible refine Kd.C_alloc ?_ _) | (with_reducible refine Kd.C_drewN ?_ _) | (with_reducible refine Kd.C_drew ?_))); (case side2 => exact HC0.out); rintro e w28 ⟨rfl, hb⟩; have n0_ := Aside0.mk (Kd.R_below (by (with_reducible repeat (first | apply Kd.R_alloc | apply Kd.R_drewN | apply Kd.R_drew)); exact HO695.out) hb); have n1_ := Aside0.mk (Kd.R_below (by (with_reducible repeat (first | apply Kd.R_alloc | apply Kd.R_drewN | apply Kd.R_drew)); exact HO700.out) hb); have n2_ := Aside0.mk (Kd.S_below (by (with_reducible repeat (first | apply Kd.S_alloc | apply Kd.S_drewN | apply Kd.S_drew)); exact HO705.out) hb); have n3_ := Aside0.mk (Kd.R_below (by (with_reducible repeat (first | apply Kd.R_alloc | apply Kd.R_drewN | apply Kd.R_drew)); exact HO708.out) hb); have n4_ := Aside0.mk (blk_below (g := gb689) (o := .cells #[.int .i64 a1_0, .int .i64 a1_1] 24 (0, 0)) (by (with_reducible repeat (first | apply kdn | apply kdr | apply kal)); exact BK689.out) hb); have n5_ := Aside0.mk (below_step (by repeat (first | (with_reducible first | exact HB.out | apply lal | apply ldn | apply ldr | refine below_set ?_ GE689.out) | exact HB.out)) hb); clear HO695; clear HO700; clear HO705; clear HO708; clear BK689; clear HB; have HO695 := n0_; have HO700 := n1_; have HO705 := n2_; have HO708 := n3_; have BK689 := n4_; have HB := n5_; clear n0_ n1_ n2_ n3_ n4_ n5_; (try clear hb); (try clear hb2); (try clear hk); (try clear hi))))
    (try simp only [Act.put, sia, sc0, scs])
    go_cut [106] (fun v106 wc => ∃ (kq : Nat) (x106_18 : Bool), v106 = .bool x106_18 ∧ Aside0 (trishawlaw06_TripPatched.j1 kq l0 a2 t693 t696 t698 x106_18 = some r) ∧ Aside0 (kq ≤ kj3) ∧ Aside0 (Kd.R (Kd.int .i64) 3 wc w.heap.size (fun k_ => some k_ ≠ (v699 : Value).ownBlock) v694 t693) ∧ Aside0 (Kd.R (Kd.int .i64) 3 wc w.heap.size (fun k_ => some k_ ≠ (v694 : Value).ownBlock) v699 t698) ∧ Aside0 (wc.heap[gb689]? = some (.cells #[.int .i64 a1_0, .int .i64 a1_1] 24 (0, 0))) ∧ Aside0 (Below w.heap.size w wc))
    case first =>
     have H := HC19.out
     clear HC19
     by_cases c29 : t697 = 0
     ·rw [if_pos c29] at H
      have c29b0 : (t697 == 0) = true := beq_iff_eq.mpr c29
      have c29b1 : (t697 != 0) = false := bne_eq_false_iff_eq.mpr c29
      clear c29
      (first | rw [c29b0] | (simp only [i64_w, i32_w]; rw [c29b0]) | skip)
      by_cases c30 : t701 = 0
      ·rw [if_pos c30] at H
       have c30b0 : (t701 == 0) = true := beq_iff_eq.mpr c30
       have c30b1 : (t701 != 0) = false := bne_eq_false_iff_eq.mpr c30
       clear c30
       by_cases c31 : t703 = 0
       ·rw [if_pos c31] at H
        have c31b0 : (t703 == 0) = true := beq_iff_eq.mpr c31
        have c31b1 : (t703 != 0) = false := bne_eq_false_iff_eq.mpr c31
        clear c31
        by_cases c32 : t710 = 0
        ·rw [if_pos c32] at H
         have c32b0 : (t710 == 0) = true := beq_iff_eq.mpr c32
         have c32b1 : (t710 != 0) = false := bne_eq_false_iff_eq.mpr c32
         clear c32
         by_cases c33 : t712 = 0
         ·rw [if_pos c33] at H
          have c33b0 : (t712 == 0) = true := beq_iff_eq.mpr c33
          have c33b1 : (t712 != 0) = false := bne_eq_false_iff_eq.mpr c33
          clear c33
          by_cases c34 : (t693.length : Int) = (wrap64 ((t702.length : Int) - 1))
          ·rw [if_pos c34] at H
           have c34b0 : ((t693.length : Int) == (wrap64 ((t702.length : Int) - 1))) = true := beq_iff_eq.mpr c34
           have c34b1 : ((t693.length : Int) != (wrap64 ((t702.length : Int) - 1))) = false := bne_eq_false_iff_eq.mpr c34
           clear c34
           by_cases c35 : (t698.length : Int) = (wrap64 ((l0.length : Int) - 1))
           ·rw [if_pos c35] at H
            have c35b0 : ((t698.length : Int) == (wrap64 ((l0.length : Int) - 1))) = true := beq_iff_eq.mpr c35
            have c35b1 : ((t698.length : Int) != (wrap64 ((l0.length : Int) - 1))) = false := bne_eq_false_iff_eq.mpr c35
            clear c35
            have H' := Aside0.mk H
            clear H
            obtain ⟨Ao36, co36, eo36⟩ := Kd.R_slice HO695.out
            subst eo36
            obtain ⟨Ao37, co37, eo37⟩ := Kd.S_slice HO705.out
            subst eo37
            obtain ⟨Ao38, co38, eo38⟩ := Kd.R_slice HO700.out
            subst eo38
            go_wp2
            repeat (go_quiet (fail); try go_wp2)
            go_meet
            case rel => exact ⟨_, ((t711 != (wrap64 (t709 + t696)))), (by first | rfl | (simp; done) | (simp [*]; done)), H', ⟨by have := HJ3.out; first | omega | exact Nat.le_refl _⟩, ⟨by (with_reducible repeat (first | apply Kd.R_alloc | apply Kd.R_drewN | apply Kd.R_drew)); exact Kd.R_mono HO695.out (fun _ hk => hk.1.2)⟩, ⟨by (with_reducible repeat (first | apply Kd.R_alloc | apply Kd.R_drewN | apply Kd.R_drew)); exact Kd.R_mono HO700.out (fun _ hk => hk.1.2)⟩, ⟨by (with_reducible repeat (first | apply kdn | apply kdr | apply kal)); exact BK689.out⟩, ⟨by repeat (first | (with_reducible first | exact HB.out | apply lal | apply ldn | apply ldr | refine below_set ?_ GE689.out) | exact HB.out)⟩⟩
           ·rw [if_neg c35] at H
            exact absurd H (by simp)
          ·rw [if_neg c34] at H
           exact absurd H (by simp)
         ·rw [if_neg c33] at H
          exact absurd H (by simp)
        ·rw [if_neg c32] at H
         exact absurd H (by simp)
       ·rw [if_neg c31] at H
        exact absurd H (by simp)
      ·rw [if_neg c30] at H
       exact absurd H (by simp)
     ·rw [if_neg c29] at H
      exact absurd H (by simp)
    case rest =>
     clear HC19
     try clear c1
     try clear c2
     try clear p2
     try clear c3
     try clear p6
     try clear c7
     try clear c11
     try clear c12
     try clear c29
     try clear c29b0
     try clear c29b1
     try clear c30
     try clear c30b0
     try clear c30b1
     try clear c31
     try clear c31b0
     try clear c31b1
     try clear c32
     try clear c32b0
     try clear c32b1
     try clear c33
     try clear c33b0
     try clear c33b1
     try clear c34
     try clear c34b0
     try clear c34b1
     try clear c35
     try clear c35b0
     try clear c35b1
     try clear hcz20_0
     try clear hcz20_1
     try clear hcz22_0
     try clear hcz22_1
     try clear hcz25_0
     try clear hcz25_1
     try clear hcz27_0
     try clear hcz27_1
     try clear hcz9_0
     try clear hcz9_1
     try clear hfz20_0
     try clear hfz20_1
     try clear hfz22_0
     try clear hfz22_1
     try clear hfz25_0
     try clear hfz25_1
     try clear hfz27_0
     try clear hfz27_1
     try clear hfz9_0
     try clear hfz9_1
     try clear p2
     obtain ⟨kq, x106_18, rfl, HA, HJ18, HO_7, HO_10, BK689, HB⟩ := hcut
     cases kq with
     | zero => exact absurd HA.out (by simp [trishawlaw06_TripPatched.j1])
     | succ kj18 =>
      have H := HA.out
      clear HA
      simp only [trishawlaw06_TripPatched.j1] at H
      by_cases c39 : x106_18 = true
      ·subst c39
       have H1 : (none) = some r := by rw [if_pos rfl] at H; exact H
       clear H
       have H := H1
       clear H1
       exact absurd H (by simp)
      ·replace c39 := Bool.eq_false_iff.mpr c39
       subst c39
       have H1 : (trishawlaw06_TripPatched.l0 kj18 l0 a2 t693 t696 t698 0 0 0) = some r := by rw [if_neg (show ¬ (false = true) by decide)] at H; exact H
       clear H
       have H := H1
       clear H1
       have H' := Aside0.mk H
       clear H
       go_wp2
       repeat (go_quiet (fail); try go_wp2)
       go_loopg [19, 20, 21] kj18 (fun kq v19 v20 v21 w' => ∃ (x19_3 : Int) (x20_3 : Int) (x21_3 : Int), v19 = .int .i64 x19_3 ∧ v20 = .int .i64 x20_3 ∧ v21 = .int .i64 x21_3 ∧ Aside0 (trishawlaw06_TripPatched.l0 kq l0 a2 t693 t696 t698 x19_3 x20_3 x21_3 = some r) ∧ Aside0 (kq ≤ kj18) ∧ Aside0 (Kd.R (Kd.int .i64) 3 w' w.heap.size (fun k_ => some k_ ≠ (v699 : Value).ownBlock) v694 t693) ∧ Aside0 (Kd.R (Kd.int .i64) 3 w' w.heap.size (fun k_ => some k_ ≠ (v694 : Value).ownBlock) v699 t698) ∧ Aside0 (w'.heap[gb689]? = some (.cells #[.int .i64 a1_0, .int .i64 a1_1] 24 (0, 0))) ∧ Aside0 (Below w.heap.size w w'))
       case atStart => exact ⟨(0), (0), (0), (by first | rfl | (simp; done) | (simp [*]; done)), (by first | rfl | (simp; done) | (simp [*]; done)), (by first | rfl | (simp; done) | (simp [*]; done)), H', ⟨Nat.le_refl _⟩, ⟨by (with_reducible repeat (first | apply Kd.R_alloc | apply Kd.R_drewN | apply Kd.R_drew)); exact HO_7.out⟩, ⟨by (with_reducible repeat (first | apply Kd.R_alloc | apply Kd.R_drewN | apply Kd.R_drew)); exact HO_10.out⟩, ⟨by (with_reducible repeat (first | apply kdn | apply kdr | apply kal)); exact BK689.out⟩, ⟨by repeat (first | (with_reducible first | exact HB.out | apply lal | apply ldn | apply ldr | refine below_set ?_ GE689.out) | exact HB.out)⟩⟩
       case round =>
        clear H'
        try clear c1
        try clear c2
        try clear p2
        try clear c3
        try clear p6
        try clear c7
        try clear c11
        try clear c12
        try clear c29
        try clear c29b0
        try clear c29b1
        try clear c30
        try clear c30b0
        try clear c30b1
        try clear c31
        try clear c31b0
        try clear c31b1
        try clear c32
        try clear c32b0
        try clear c32b1
        try clear c33
        try clear c33b0
        try clear c33b1
        try clear c34
        try clear c34b0
        try clear c34b1
        try clear c35
        try clear c35b0
        try clear c35b1
        try clear c39
        try clear hcz20_0
        try clear hcz20_1
        try clear hcz22_0
        try clear hcz22_1
        try clear hcz25_0
        try clear hcz25_1
        try clear hcz27_0
        try clear hcz27_1
        try clear hcz9_0
        try clear hcz9_1
        try clear hfz20_0
        try clear hfz20_1
        try clear hfz22_0
        try clear hfz22_1
        try clear hfz25_0
        try clear hfz25_1
        try clear hfz27_0
        try clear hfz27_1
        try clear hfz9_0
        try clear hfz9_1
        try clear p2
        try clear p6
        obtain ⟨x19_3, x20_3, x21_3, rfl, rfl, rfl, HA, HK3, HO_7, HO_10, BK689, HB⟩ := hrel
        cases gk with
        | zero => exact absurd HA.out (by simp [trishawlaw06_TripPatched.l0])
        | succ k3 =>
         have H := HA.out
         clear HA
         simp only [trishawlaw06_TripPatched.l0] at H
         by_cases c40 : x21_3 < (t693.length : Int)
         ·rw [if_pos c40] at H
          have c40b0 : decide (x21_3 < (t693.length : Int)) = true := decide_eq_true c40
          clear c40
          by_cases c41 : 0 ≤ x21_3
          ·rw [if_pos c41] at H
           have c41b0 : decide (0 ≤ x21_3) = true := decide_eq_true c41
           clear c41
           by_cases c42 : (rd t693 x21_3) < 0
           ·rw [if_pos c42] at H
            exact absurd H (by simp)
           ·rw [if_neg c42] at H
            have c42b0 : decide ((rd t693 x21_3) < 0) = false := decide_eq_false c42
            clear c42
            by_cases c43 : (rd t693 x21_3) ≥ (t698.length : Int)
            ·rw [if_pos c43] at H
             exact absurd H (by simp)
            ·rw [if_neg c43] at H
             have c43b0 : decide ((t698.length : Int) ≤ (rd t693 x21_3)) = false := decide_eq_false c43
             clear c43
             by_cases c44 : x21_3 > 0
             ·rw [if_pos c44] at H
              have c44b0 : decide (0 < x21_3) = true := decide_eq_true c44
              clear c44
              obtain ⟨ji45, hji45⟩ : ∃ j_ : Int, (wrap64 (x21_3 - 1)) = j_ := ⟨_, rfl⟩
              replace H : (if 0 ≤ (ji45) then (if (ji45) < (t693.length : Int) then (if (rd t693 x21_3) ≤ (rd t693 (ji45)) then (none) else (if 0 ≤ (rd t693 x21_3) then (if (rd t693 x21_3) < (t698.length : Int) then (trishawlaw06_TripPatched.l0 k3 l0 a2 t693 t696 t698 (wrap64 (x19_3 + (rd t698 (rd t693 x21_3)))) (wrap64 (x20_3 + (shl .i64 1 (rd t693 x21_3)))) (wrap64 (x21_3 + 1))) else (none)) else (none))) else (none)) else (none)) = some r := by first | (rw [hji45] at H; exact H) | (simp only [hji45] at H ⊢; exact H)
              have hji45w : (IntKind.i64.wrap (x21_3 - 1)) = ji45 := (i64_w _).trans hji45
              by_cases c46 : 0 ≤ (ji45)
              ·rw [if_pos c46] at H
               have c46b0 : decide (0 ≤ (ji45)) = true := decide_eq_true c46
               clear c46
               by_cases c47 : (ji45) < (t693.length : Int)
               ·rw [if_pos c47] at H
                have c47b0 : decide ((ji45) < (t693.length : Int)) = true := decide_eq_true c47
                clear c47
                by_cases c48 : (rd t693 x21_3) ≤ (rd t693 (ji45))
                ·rw [if_pos c48] at H
                 exact absurd H (by simp)
                ·rw [if_neg c48] at H
                 have c48b0 : decide ((rd t693 x21_3) ≤ (rd t693 (ji45))) = false := decide_eq_false c48
                 clear c48
                 by_cases c49 : 0 ≤ (rd t693 x21_3)
                 ·rw [if_pos c49] at H
                  have c49b0 : decide (0 ≤ (rd t693 x21_3)) = true := decide_eq_true c49
                  clear c49
                  by_cases c50 : (rd t693 x21_3) < (t698.length : Int)
                  ·rw [if_pos c50] at H
                   have c50b0 : decide ((rd t693 x21_3) < (t698.length : Int)) = true := decide_eq_true c50
                   clear c50
                   have c51b0 := eq_true (of_decide_eq_true (by first | (with_reducible assumption) | assumption) : 0 ≤ (rd t693 x21_3))
                   obtain ⟨ji52, hji52⟩ : ∃ j_ : Int, (shl .i64 1 (rd t693 x21_3)) = j_ := ⟨_, rfl⟩
                   replace H : (trishawlaw06_TripPatched.l0 k3 l0 a2 t693 t696 t698 (wrap64 (x19_3 + (rd t698 (rd t693 x21_3)))) (wrap64 (x20_3 + (ji52))) (wrap64 (x21_3 + 1))) = some r := by first | (rw [hji52] at H; exact H) | (simp only [hji52] at H ⊢; exact H)
                   have hji52_ : (IntKind.i64.wrap (1 * 2 ^ min (rd t693 x21_3).toNat 64)) = ji52 := hji52
                   have hji52z : (rd t693 x21_3) ≤ 64 → (IntKind.i64.wrap (1 * 2 ^ (rd t693 x21_3).toNat)) = ji52 := shl_small hji52
                   have hji52u : (IntKind.i64.wrap (2 ^ min (rd t693 x21_3).toNat 64)) = ji52 := by have h_ := hji52_; rw [Int.one_mul] at h_; exact h_
                   have hji52v : (rd t693 x21_3) ≤ 64 → (IntKind.i64.wrap (2 ^ (rd t693 x21_3).toNat)) = ji52 := fun hle_ => by have h_ := hji52z hle_; rw [Int.one_mul] at h_; exact h_
                   have hji52y : (wrap64 (1 * 2 ^ min (rd t693 x21_3).toNat 64)) = ji52 := (i64_w _).symm.trans hji52_
                   have hji52x : (rd t693 x21_3) ≤ 64 → (wrap64 (1 * 2 ^ (rd t693 x21_3).toNat)) = ji52 := fun h_ => (i64_w _).symm.trans (hji52z h_)
                   have H' := Aside0.mk H
                   clear H
                   obtain ⟨Ao53, co53, eo53⟩ := Kd.R_slice HO_7.out
                   subst eo53
                   have p713 : 0 ≤ (x21_3 : Int) := of_decide_eq_true (by first | (with_reducible assumption) | assumption)
                   have q713 : x21_3 < (t693.length : Int) := of_decide_eq_true (by first | (with_reducible assumption) | assumption)
                   obtain ⟨ad713, e713, hx713_0⟩ := Kd.at_int (Kd.R_reads' HO_7.out).2.2 x21_3 p713 q713
                   cases e713
                   replace p713 := eq_true p713
                   replace q713 := eq_true q713
                   have p714 : 0 ≤ (x21_3 : Int) := of_decide_eq_true (by first | (with_reducible assumption) | assumption)
                   have q714 : x21_3 < (t693.length : Int) := of_decide_eq_true (by first | (with_reducible assumption) | assumption)
                   obtain ⟨ad714, e714, hx714_0⟩ := Kd.at_int (Kd.R_reads' HO_7.out).2.2 x21_3 p714 q714
                   obtain rfl : ad713 = ad714 := (by injection e714)
                   replace p714 := eq_true p714
                   replace q714 := eq_true q714
                   obtain ⟨Ao54, co54, eo54⟩ := Kd.R_slice HO_10.out
                   subst eo54
                   have p715 : 0 ≤ (x21_3 : Int) := of_decide_eq_true (by first | (with_reducible assumption) | assumption)
                   have q715 : x21_3 < (t693.length : Int) := of_decide_eq_true (by first | (with_reducible assumption) | assumption)
                   obtain ⟨ad715, e715, hx715_0⟩ := Kd.at_int (Kd.R_reads' HO_7.out).2.2 x21_3 p715 q715
                   obtain rfl : ad713 = ad715 := (by injection e715)
                   replace p715 := eq_true p715
                   replace q715 := eq_true q715
                   have p716 : 0 ≤ ((ji45) : Int) := of_decide_eq_true (by first | (with_reducible assumption) | assumption)
                   have q716 : (ji45) < (t693.length : Int) := of_decide_eq_true (by first | (with_reducible assumption) | assumption)
                   obtain ⟨ad716, e716, hx716_0⟩ := Kd.at_int (Kd.R_reads' HO_7.out).2.2 (ji45) p716 q716
                   obtain rfl : ad713 = ad716 := (by injection e716)
                   replace p716 := eq_true p716
                   replace q716 := eq_true q716
                   have p717 : 0 ≤ (x21_3 : Int) := of_decide_eq_true (by first | (with_reducible assumption) | assumption)
                   have q717 : x21_3 < (t693.length : Int) := of_decide_eq_true (by first | (with_reducible assumption) | assumption)
                   obtain ⟨ad717, e717, hx717_0⟩ := Kd.at_int (Kd.R_reads' HO_7.out).2.2 x21_3 p717 q717
                   obtain rfl : ad713 = ad717 := (by injection e717)
                   replace p717 := eq_true p717
                   replace q717 := eq_true q717
                   have p718 : 0 ≤ ((rd t693 x21_3) : Int) := of_decide_eq_true (by first | (with_reducible assumption) | assumption)
                   have q718 : (rd t693 x21_3) < (t698.length : Int) := of_decide_eq_true (by first | (with_reducible assumption) | assumption)
                   obtain ⟨ad718, e718, hx718_0⟩ := Kd.at_int (Kd.R_reads' HO_10.out).2.2 (rd t693 x21_3) p718 q718
                   cases e718
                   replace p718 := eq_true p718
                   replace q718 := eq_true q718
                   have p719 : 0 ≤ (x21_3 : Int) := of_decide_eq_true (by first | (with_reducible assumption) | assumption)
                   have q719 : x21_3 < (t693.length : Int) := of_decide_eq_true (by first | (with_reducible assumption) | assumption)
                   obtain ⟨ad719, e719, hx719_0⟩ := Kd.at_int (Kd.R_reads' HO_7.out).2.2 x21_3 p719 q719
                   obtain rfl : ad713 = ad719 := (by injection e719)
                   replace p719 := eq_true p719
                   replace q719 := eq_true q719
                   go_wp2
                   repeat (go_quiet (fail); try go_wp2)
                   go_roundg k3
                   case measure => have := HJ3.out; have := HJ18.out; have := HK3.out; omega
                   case rel => exact ⟨(wrap64 (x19_3 + (rd t698 (rd t693 x21_3)))), (wrap64 (x20_3 + (ji52))), (wrap64 (x21_3 + 1)), (by first | rfl | (simp; done) | (simp [*]; done)), (by first | rfl | (simp; done) | (simp only [← hji52] <;> (first | rfl | simp)) | (simp [*]; done)), (by first | rfl | (simp; done) | (simp [*]; done)), H', ⟨by have := HJ3.out; have := HJ18.out; have := HK3.out; omega⟩, ⟨by (with_reducible repeat (first | apply Kd.R_alloc | apply Kd.R_drewN | apply Kd.R_drew)); exact HO_7.out⟩, ⟨by (with_reducible repeat (first | apply Kd.R_alloc | apply Kd.R_drewN | apply Kd.R_drew)); exact HO_10.out⟩, ⟨by (with_reducible repeat (first | apply kdn | apply kdr | apply kal)); exact BK689.out⟩, ⟨by repeat (first | (with_reducible first | exact HB.out | apply lal | apply ldn | apply ldr | refine below_set ?_ GE689.out) | exact HB.out)⟩⟩
                  ·rw [if_neg c50] at H
                   exact absurd H (by simp)
                 ·rw [if_neg c49] at H
                  exact absurd H (by simp)
               ·rw [if_neg c47] at H
                exact absurd H (by simp)
              ·rw [if_neg c46] at H
               exact absurd H (by simp)
             ·rw [if_neg c44] at H
              have c44b0 : decide (0 < x21_3) = false := decide_eq_false c44
              clear c44
              by_cases c55 : 0 ≤ (rd t693 x21_3)
              ·rw [if_pos c55] at H
               have c55b0 : decide (0 ≤ (rd t693 x21_3)) = true := decide_eq_true c55
               clear c55
               by_cases c56 : (rd t693 x21_3) < (t698.length : Int)
               ·rw [if_pos c56] at H
                have c56b0 : decide ((rd t693 x21_3) < (t698.length : Int)) = true := decide_eq_true c56
                clear c56
                have c57b0 := eq_true (of_decide_eq_true (by first | (with_reducible assumption) | assumption) : 0 ≤ (rd t693 x21_3))
                obtain ⟨ji58, hji58⟩ : ∃ j_ : Int, (shl .i64 1 (rd t693 x21_3)) = j_ := ⟨_, rfl⟩
                replace H : (trishawlaw06_TripPatched.l0 k3 l0 a2 t693 t696 t698 (wrap64 (x19_3 + (rd t698 (rd t693 x21_3)))) (wrap64 (x20_3 + (ji58))) (wrap64 (x21_3 + 1))) = some r := by first | (rw [hji58] at H; exact H) | (simp only [hji58] at H ⊢; exact H)
                have hji58_ : (IntKind.i64.wrap (1 * 2 ^ min (rd t693 x21_3).toNat 64)) = ji58 := hji58
                have hji58z : (rd t693 x21_3) ≤ 64 → (IntKind.i64.wrap (1 * 2 ^ (rd t693 x21_3).toNat)) = ji58 := shl_small hji58
                have hji58u : (IntKind.i64.wrap (2 ^ min (rd t693 x21_3).toNat 64)) = ji58 := by have h_ := hji58_; rw [Int.one_mul] at h_; exact h_
                have hji58v : (rd t693 x21_3) ≤ 64 → (IntKind.i64.wrap (2 ^ (rd t693 x21_3).toNat)) = ji58 := fun hle_ => by have h_ := hji58z hle_; rw [Int.one_mul] at h_; exact h_
                have hji58y : (wrap64 (1 * 2 ^ min (rd t693 x21_3).toNat 64)) = ji58 := (i64_w _).symm.trans hji58_
                have hji58x : (rd t693 x21_3) ≤ 64 → (wrap64 (1 * 2 ^ (rd t693 x21_3).toNat)) = ji58 := fun h_ => (i64_w _).symm.trans (hji58z h_)
                have H' := Aside0.mk H
                clear H
                obtain ⟨Ao59, co59, eo59⟩ := Kd.R_slice HO_7.out
                subst eo59
                have p713 : 0 ≤ (x21_3 : Int) := of_decide_eq_true (by first | (with_reducible assumption) | assumption)
                have q713 : x21_3 < (t693.length : Int) := of_decide_eq_true (by first | (with_reducible assumption) | assumption)
                obtain ⟨ad713, e713, hx713_0⟩ := Kd.at_int (Kd.R_reads' HO_7.out).2.2 x21_3 p713 q713
                cases e713
                replace p713 := eq_true p713
                replace q713 := eq_true q713
                have p714 : 0 ≤ (x21_3 : Int) := of_decide_eq_true (by first | (with_reducible assumption) | assumption)
                have q714 : x21_3 < (t693.length : Int) := of_decide_eq_true (by first | (with_reducible assumption) | assumption)
                obtain ⟨ad714, e714, hx714_0⟩ := Kd.at_int (Kd.R_reads' HO_7.out).2.2 x21_3 p714 q714
                obtain rfl : ad713 = ad714 := (by injection e714)
                replace p714 := eq_true p714
                replace q714 := eq_true q714
                obtain ⟨Ao60, co60, eo60⟩ := Kd.R_slice HO_10.out
                subst eo60
                have p720 : 0 ≤ (x21_3 : Int) := of_decide_eq_true (by first | (with_reducible assumption) | assumption)
                have q720 : x21_3 < (t693.length : Int) := of_decide_eq_true (by first | (with_reducible assumption) | assumption)
                obtain ⟨ad720, e720, hx720_0⟩ := Kd.at_int (Kd.R_reads' HO_7.out).2.2 x21_3 p720 q720
                obtain rfl : ad713 = ad720 := (by injection e720)
                replace p720 := eq_true p720
                replace q720 := eq_true q720
                have p721 : 0 ≤ ((rd t693 x21_3) : Int) := of_decide_eq_true (by first | (with_reducible assumption) | assumption)
                have q721 : (rd t693 x21_3) < (t698.length : Int) := of_decide_eq_true (by first | (with_reducible assumption) | assumption)
                obtain ⟨ad721, e721, hx721_0⟩ := Kd.at_int (Kd.R_reads' HO_10.out).2.2 (rd t693 x21_3) p721 q721
                cases e721
                replace p721 := eq_true p721
                replace q721 := eq_true q721
                have p722 : 0 ≤ (x21_3 : Int) := of_decide_eq_true (by first | (with_reducible assumption) | assumption)
                have q722 : x21_3 < (t693.length : Int) := of_decide_eq_true (by first | (with_reducible assumption) | assumption)
                obtain ⟨ad722, e722, hx722_0⟩ := Kd.at_int (Kd.R_reads' HO_7.out).2.2 x21_3 p722 q722
                obtain rfl : ad713 = ad722 := (by injection e722)
                replace p722 := eq_true p722
                replace q722 := eq_true q722
                go_wp2
                repeat (go_quiet (fail); try go_wp2)
                go_roundg k3
                case measure => have := HJ3.out; have := HJ18.out; have := HK3.out; omega
                case rel => exact ⟨(wrap64 (x19_3 + (rd t698 (rd t693 x21_3)))), (wrap64 (x20_3 + (ji58))), (wrap64 (x21_3 + 1)), (by first | rfl | (simp; done) | (simp [*]; done)), (by first | rfl | (simp; done) | (simp only [← hji58] <;> (first | rfl | simp)) | (simp [*]; done)), (by first | rfl | (simp; done) | (simp [*]; done)), H', ⟨by have := HJ3.out; have := HJ18.out; have := HK3.out; omega⟩, ⟨by (with_reducible repeat (first | apply Kd.R_alloc | apply Kd.R_drewN | apply Kd.R_drew)); exact HO_7.out⟩, ⟨by (with_reducible repeat (first | apply Kd.R_alloc | apply Kd.R_drewN | apply Kd.R_drew)); exact HO_10.out⟩, ⟨by (with_reducible repeat (first | apply kdn | apply kdr | apply kal)); exact BK689.out⟩, ⟨by repeat (first | (with_reducible first | exact HB.out | apply lal | apply ldn | apply ldr | refine below_set ?_ GE689.out) | exact HB.out)⟩⟩
               ·rw [if_neg c56] at H
                exact absurd H (by simp)
              ·rw [if_neg c55] at H
               exact absurd H (by simp)
          ·rw [if_neg c41] at H
           exact absurd H (by simp)
         ·rw [if_neg c40] at H
          have c40b0 : decide (x21_3 < (t693.length : Int)) = false := decide_eq_false c40
          clear c40
          have HC61 := Aside0.mk H
          clear H
          obtain ⟨Ao62, co62, eo62⟩ := Kd.R_slice HO_7.out
          subst eo62
          go_upto_region 18 with (fail)
          repeat (go_quiet (fail); go_upto_region 18 with (fail))
          go_cut [167] (fun v167 wc => ∃ (kq : Nat) (x167_60 : Bool), v167 = .bool x167_60 ∧ Aside0 (trishawlaw06_TripPatched.j3 kq l0 a2 t696 t698 x167_60 = some r) ∧ Aside0 (kq ≤ k3) ∧ Aside0 (Kd.R (Kd.int .i64) 3 wc w.heap.size (fun _ => True) v699 t698) ∧ Aside0 (wc.heap[gb689]? = some (.cells #[.int .i64 a1_0, .int .i64 a1_1] 24 (0, 0))) ∧ Aside0 (Below w.heap.size w wc))
          case first =>
           have H := HC61.out
           clear HC61
           by_cases c63 : x19_3 = t696
           ·rw [if_pos c63] at H
            have c63b0 : (x19_3 == t696) = true := beq_iff_eq.mpr c63
            have c63b1 : (x19_3 != t696) = false := bne_eq_false_iff_eq.mpr c63
            clear c63
            (first | rw [c63b0] | (simp only [i64_w, i32_w]; rw [c63b0]) | skip)
            replace H := Option.bind_eq_some_iff.mp H
            obtain ⟨t723, A640, H⟩ := H
            replace H : (trishawlaw06_TripPatched.j3 k3 l0 a2 t696 t698 (!t723)) = some r := H
            have A64 := Aside0.mk A640
            clear A640
            have H' := Aside0.mk H
            clear H
            go_wp2_with (first | (go_at_call 36; (with_reducible refine (trishawref06_Joins.calls k3 _ _ l0 x20_3 t723 _ ?side1 ?side2 A64.out).mono ?_); (case side1 => repeat (first | exact (Kd.C_below HR0.out HB.out) | (with_reducible refine Kd.C_alloc ?_ _) | (with_reducible refine Kd.C_drewN ?_ _) | (with_reducible refine Kd.C_drew ?_))); (case side2 => exact HC0.out); rintro e w65 ⟨rfl, hb⟩; have n0_ := Aside0.mk (Kd.R_below (by (with_reducible repeat (first | apply Kd.R_alloc | apply Kd.R_drewN | apply Kd.R_drew)); exact HO_7.out) hb); have n1_ := Aside0.mk (Kd.R_below (by (with_reducible repeat (first | apply Kd.R_alloc | apply Kd.R_drewN | apply Kd.R_drew)); exact HO_10.out) hb); have n2_ := Aside0.mk (blk_below (g := gb689) (o := .cells #[.int .i64 a1_0, .int .i64 a1_1] 24 (0, 0)) (by (with_reducible repeat (first | apply kdn | apply kdr | apply kal)); exact BK689.out) hb); have n3_ := Aside0.mk (below_step (by repeat (first | (with_reducible first | exact HB.out | apply lal | apply ldn | apply ldr | refine below_set ?_ GE689.out) | exact HB.out)) hb); clear HO_7; clear HO_10; clear BK689; clear HB; have HO_7 := n0_; have HO_10 := n1_; have BK689 := n2_; have HB := n3_; clear n0_ n1_ n2_ n3_; (try clear hb); (try clear hb2); (try clear hk); (try clear hi)))
            repeat (go_quiet (first | (go_at_call 36; (with_reducible refine (trishawref06_Joins.calls k3 _ _ l0 x20_3 t723 _ ?side1 ?side2 A64.out).mono ?_); (case side1 => repeat (first | exact (Kd.C_below HR0.out HB.out) | (with_reducible refine Kd.C_alloc ?_ _) | (with_reducible refine Kd.C_drewN ?_ _) | (with_reducible refine Kd.C_drew ?_))); (case side2 => exact HC0.out); rintro e w65 ⟨rfl, hb⟩; have n0_ := Aside0.mk (Kd.R_below (by (with_reducible repeat (first | apply Kd.R_alloc | apply Kd.R_drewN | apply Kd.R_drew)); exact HO_7.out) hb); have n1_ := Aside0.mk (Kd.R_below (by (with_reducible repeat (first | apply Kd.R_alloc | apply Kd.R_drewN | apply Kd.R_drew)); exact HO_10.out) hb); have n2_ := Aside0.mk (blk_below (g := gb689) (o := .cells #[.int .i64 a1_0, .int .i64 a1_1] 24 (0, 0)) (by (with_reducible repeat (first | apply kdn | apply kdr | apply kal)); exact BK689.out) hb); have n3_ := Aside0.mk (below_step (by repeat (first | (with_reducible first | exact HB.out | apply lal | apply ldn | apply ldr | refine below_set ?_ GE689.out) | exact HB.out)) hb); clear HO_7; clear HO_10; clear BK689; clear HB; have HO_7 := n0_; have HO_10 := n1_; have BK689 := n2_; have HB := n3_; clear n0_ n1_ n2_ n3_; (try clear hb); (try clear hb2); (try clear hk); (try clear hi))); try go_wp2_with (first | (go_at_call 36; (with_reducible refine (trishawref06_Joins.calls k3 _ _ l0 x20_3 t723 _ ?side1 ?side2 A64.out).mono ?_); (case side1 => repeat (first | exact (Kd.C_below HR0.out HB.out) | (with_reducible refine Kd.C_alloc ?_ _) | (with_reducible refine Kd.C_drewN ?_ _) | (with_reducible refine Kd.C_drew ?_))); (case side2 => exact HC0.out); rintro e w65 ⟨rfl, hb⟩; have n0_ := Aside0.mk (Kd.R_below (by (with_reducible repeat (first | apply Kd.R_alloc | apply Kd.R_drewN | apply Kd.R_drew)); exact HO_7.out) hb); have n1_ := Aside0.mk (Kd.R_below (by (with_reducible repeat (first | apply Kd.R_alloc | apply Kd.R_drewN | apply Kd.R_drew)); exact HO_10.out) hb); have n2_ := Aside0.mk (blk_below (g := gb689) (o := .cells #[.int .i64 a1_0, .int .i64 a1_1] 24 (0, 0)) (by (with_reducible repeat (first | apply kdn | apply kdr | apply kal)); exact BK689.out) hb); have n3_ := Aside0.mk (below_step (by repeat (first | (with_reducible first | exact HB.out | apply lal | apply ldn | apply ldr | refine below_set ?_ GE689.out) | exact HB.out)) hb); clear HO_7; clear HO_10; clear BK689; clear HB; have HO_7 := n0_; have HO_10 := n1_; have BK689 := n2_; have HB := n3_; clear n0_ n1_ n2_ n3_; (try clear hb); (try clear hb2); (try clear hk); (try clear hi))))
            go_meet
            case rel => exact ⟨_, (!t723), (by first | rfl | (simp; done) | (simp [*]; done)), H', ⟨by have := HJ3.out; have := HJ18.out; have := HK3.out; first | omega | exact Nat.le_refl _⟩, ⟨by (with_reducible repeat (first | apply Kd.R_alloc | apply Kd.R_drewN | apply Kd.R_drew)); exact Kd.R_mono HO_10.out (fun _ hk => trivial)⟩, ⟨by (with_reducible repeat (first | apply kdn | apply kdr | apply kal)); exact BK689.out⟩, ⟨by repeat (first | (with_reducible first | exact HB.out | apply lal | apply ldn | apply ldr | refine below_set ?_ GE689.out) | exact HB.out)⟩⟩
           ·rw [if_neg c63] at H
            exact absurd H (by simp)
          case rest =>
           clear HC61
           try clear c1
           try clear c2
           try clear p2
           try clear c3
           try clear c4
           try clear c5
           try clear c6
           try clear p6
           try clear c7
           try clear p7
           try clear q7
           try clear hx7
           try clear c11
           try clear c12
           try clear c29
           try clear c29b0
           try clear c29b1
           try clear c30
           try clear c30b0
           try clear c30b1
           try clear c31
           try clear c31b0
           try clear c31b1
           try clear c32
           try clear c32b0
           try clear c32b1
           try clear c33
           try clear c33b0
           try clear c33b1
           try clear c34
           try clear c34b0
           try clear c34b1
           try clear c35
           try clear c35b0
           try clear c35b1
           try clear c39
           try clear c40
           try clear c40b0
           try clear c41
           try clear c41b0
           try clear c42
           try clear c42b0
           try clear c43
           try clear c43b0
           try clear c44
           try clear c44b0
           try clear c46
           try clear c46b0
           try clear c47
           try clear c47b0
           try clear c48
           try clear c48b0
           try clear c49
           try clear c49b0
           try clear c50
           try clear c50b0
           try clear c51
           try clear c51b0
           try clear c55
           try clear c55b0
           try clear c56
           try clear c56b0
           try clear c57
           try clear c57b0
           try clear c63
           try clear c63b0
           try clear c63b1
           try clear p64
           try clear hcz20_0
           try clear hcz20_1
           try clear hcz22_0
           try clear hcz22_1
           try clear hcz25_0
           try clear hcz25_1
           try clear hcz27_0
           try clear hcz27_1
           try clear hcz9_0
           try clear hcz9_1
           try clear hfz20_0
           try clear hfz20_1
           try clear hfz22_0
           try clear hfz22_1
           try clear hfz25_0
           try clear hfz25_1
           try clear hfz27_0
           try clear hfz27_1
           try clear hfz9_0
           try clear hfz9_1
           try clear hx713_0
           try clear hx714_0
           try clear hx715_0
           try clear hx716_0
           try clear hx717_0
           try clear hx718_0
           try clear hx719_0
           try clear hx720_0
           try clear hx721_0
           try clear hx722_0
           try clear p2
           try clear p6
           try clear p713
           try clear p714
           try clear p715
           try clear p716
           try clear p717
           try clear p718
           try clear p719
           try clear p720
           try clear p721
           try clear p722
           try clear q713
           try clear q714
           try clear q715
           try clear q716
           try clear q717
           try clear q718
           try clear q719
           try clear q720
           try clear q721
           try clear q722
           obtain ⟨kq, x167_60, rfl, HA, HJ60, HO_10, BK689, HB⟩ := hcut
           cases kq with
           | zero => exact absurd HA.out (by simp [trishawlaw06_TripPatched.j3])
           | succ kj60 =>
            have H := HA.out
            clear HA
            simp only [trishawlaw06_TripPatched.j3] at H
            by_cases c66 : x167_60 = true
            ·subst c66
             have H1 : (none) = some r := by rw [if_pos rfl] at H; exact H
             clear H
             have H := H1
             clear H1
             exact absurd H (by simp)
            ·replace c66 := Bool.eq_false_iff.mpr c66
             subst c66
             have H1 : (if (shl .i64 1 (t698.length : Int)) = 0 then (none) else ((trishawref06_Joins.f kj60 l0 (Int.tmod (wrap64 (a2)) (shl .i64 1 (t698.length : Int)))).bind fun t724 => (if t724 = true then (trishawlaw06_TripPatched.l1 kj60 t696 t698 (Int.tmod (wrap64 (a2)) (shl .i64 1 (t698.length : Int))) 0 0) else ((trishawlaw06_alive.f kj60).bind fun t725 => (some t725))))) = some r := by rw [if_neg (show ¬ (false = true) by decide)] at H; exact H
             clear H
             have H := H1
             clear H1
             obtain ⟨ji67, hji67⟩ : ∃ j_ : Int, (shl .i64 1 (t698.length : Int)) = j_ := ⟨_, rfl⟩
             replace H : (if (ji67) = 0 then (none) else ((trishawref06_Joins.f kj60 l0 (Int.tmod (wrap64 (a2)) (ji67))).bind fun t724 => (if t724 = true then (trishawlaw06_TripPatched.l1 kj60 t696 t698 (Int.tmod (wrap64 (a2)) (ji67)) 0 0) else ((trishawlaw06_alive.f kj60).bind fun t725 => (some t725))))) = some r := by first | (rw [hji67] at H; exact H) | (simp only [hji67] at H ⊢; exact H)
             have hji67_ : (IntKind.i64.wrap (1 * 2 ^ min (t698.length : Int).toNat 64)) = ji67 := hji67
             have hji67z : (t698.length : Int) ≤ 64 → (IntKind.i64.wrap (1 * 2 ^ (t698.length : Int).toNat)) = ji67 := shl_small hji67
             have hji67p : (IntKind.i64.wrap (1 * 2 ^ min t698.length 64)) = ji67 := hji67_
             have hji67q : (t698.length : Int) ≤ 64 → (IntKind.i64.wrap (1 * 2 ^ t698.length)) = ji67 := hji67z
             have hji67r : (IntKind.i64.wrap (2 ^ min t698.length 64)) = ji67 := by have h_ := hji67p; rw [Int.one_mul] at h_; exact h_
             have hji67s : (t698.length : Int) ≤ 64 → (IntKind.i64.wrap (2 ^ t698.length)) = ji67 := fun hle_ => by have h_ := hji67q hle_; rw [Int.one_mul] at h_; exact h_
             have hji67u : (IntKind.i64.wrap (2 ^ min (t698.length : Int).toNat 64)) = ji67 := by have h_ := hji67_; rw [Int.one_mul] at h_; exact h_
             have hji67v : (t698.length : Int) ≤ 64 → (IntKind.i64.wrap (2 ^ (t698.length : Int).toNat)) = ji67 := fun hle_ => by have h_ := hji67z hle_; rw [Int.one_mul] at h_; exact h_
             have hji67y : (wrap64 (1 * 2 ^ min (t698.length : Int).toNat 64)) = ji67 := (i64_w _).symm.trans hji67_
             have hji67x : (t698.length : Int) ≤ 64 → (wrap64 (1 * 2 ^ (t698.length : Int).toNat)) = ji67 := fun h_ => (i64_w _).symm.trans (hji67z h_)
             by_cases c68 : (ji67) = 0
             ·rw [if_pos c68] at H
              exact absurd H (by simp)
             ·rw [if_neg c68] at H
              have c68b0 : ((ji67) == 0) = false := beq_eq_false_iff_ne.mpr c68
              have c68b1 : ((ji67) != 0) = true := bne_iff_ne.mpr c68
              replace H := Option.bind_eq_some_iff.mp H
              obtain ⟨t724, A690, H⟩ := H
              replace H : (if t724 = true then (trishawlaw06_TripPatched.l1 kj60 t696 t698 (Int.tmod (wrap64 (a2)) (ji67)) 0 0) else ((trishawlaw06_alive.f kj60).bind fun t725 => (some t725))) = some r := H
              have A69 := Aside0.mk A690
              clear A690
              by_cases c70 : t724 = true
              ·subst c70
               have H1 : (trishawlaw06_TripPatched.l1 kj60 t696 t698 (Int.tmod (wrap64 (a2)) (ji67)) 0 0) = some r := by rw [if_pos rfl] at H; exact H
               clear H
               have H := H1
               clear H1
               have H' := Aside0.mk H
               clear H
               obtain ⟨Ao71, co71, eo71⟩ := Kd.R_slice HO_10.out
               subst eo71
               go_wp2_with (first | (go_at_call 36; (with_reducible refine (trishawref06_Joins.calls kj60 _ _ l0 (Int.tmod (wrap64 (a2)) (ji67)) true _ ?side1 ?side2 A69.out).mono ?_); (case side1 => repeat (first | exact (Kd.C_below HR0.out HB.out) | (with_reducible refine Kd.C_alloc ?_ _) | (with_reducible refine Kd.C_drewN ?_ _) | (with_reducible refine Kd.C_drew ?_))); (case side2 => exact HC0.out); rintro e w72 ⟨rfl, hb⟩; have n0_ := Aside0.mk (Kd.R_below (by (with_reducible repeat (first | apply Kd.R_alloc | apply Kd.R_drewN | apply Kd.R_drew)); exact HO_10.out) hb); have n1_ := Aside0.mk (blk_below (g := gb689) (o := .cells #[.int .i64 a1_0, .int .i64 a1_1] 24 (0, 0)) (by (with_reducible repeat (first | apply kdn | apply kdr | apply kal)); exact BK689.out) hb); have n2_ := Aside0.mk (below_step (by repeat (first | (with_reducible first | exact HB.out | apply lal | apply ldn | apply ldr | refine below_set ?_ GE689.out) | exact HB.out)) hb); clear HO_10; clear BK689; clear HB; have HO_10 := n0_; have BK689 := n1_; have HB := n2_; clear n0_ n1_ n2_; (try clear hb); (try clear hb2); (try clear hk); (try clear hi)))
               repeat (go_quiet (first | (go_at_call 36; (with_reducible refine (trishawref06_Joins.calls kj60 _ _ l0 (Int.tmod (wrap64 (a2)) (ji67)) true _ ?side1 ?side2 A69.out).mono ?_); (case side1 => repeat (first | exact (Kd.C_below HR0.out HB.out) | (with_reducible refine Kd.C_alloc ?_ _) | (with_reducible refine Kd.C_drewN ?_ _) | (with_reducible refine Kd.C_drew ?_))); (case side2 => exact HC0.out); rintro e w72 ⟨rfl, hb⟩; have n0_ := Aside0.mk (Kd.R_below (by (with_reducible repeat (first | apply Kd.R_alloc | apply Kd.R_drewN | apply Kd.R_drew)); exact HO_10.out) hb); have n1_ := Aside0.mk (blk_below (g := gb689) (o := .cells #[.int .i64 a1_0, .int .i64 a1_1] 24 (0, 0)) (by (with_reducible repeat (first | apply kdn | apply kdr | apply kal)); exact BK689.out) hb); have n2_ := Aside0.mk (below_step (by repeat (first | (with_reducible first | exact HB.out | apply lal | apply ldn | apply ldr | refine below_set ?_ GE689.out) | exact HB.out)) hb); clear HO_10; clear BK689; clear HB; have HO_10 := n0_; have BK689 := n1_; have HB := n2_; clear n0_ n1_ n2_; (try clear hb); (try clear hb2); (try clear hk); (try clear hi))); try go_wp2_with (first | (go_at_call 36; (with_reducible refine (trishawref06_Joins.calls kj60 _ _ l0 (Int.tmod (wrap64 (a2)) (ji67)) true _ ?side1 ?side2 A69.out).mono ?_); (case side1 => repeat (first | exact (Kd.C_below HR0.out HB.out) | (with_reducible refine Kd.C_alloc ?_ _) | (with_reducible refine Kd.C_drewN ?_ _) | (with_reducible refine Kd.C_drew ?_))); (case side2 => exact HC0.out); rintro e w72 ⟨rfl, hb⟩; have n0_ := Aside0.mk (Kd.R_below (by (with_reducible repeat (first | apply Kd.R_alloc | apply Kd.R_drewN | apply Kd.R_drew)); exact HO_10.out) hb); have n1_ := Aside0.mk (blk_below (g := gb689) (o := .cells #[.int .i64 a1_0, .int .i64 a1_1] 24 (0, 0)) (by (with_reducible repeat (first | apply kdn | apply kdr | apply kal)); exact BK689.out) hb); have n2_ := Aside0.mk (below_step (by repeat (first | (with_reducible first | exact HB.out | apply lal | apply ldn | apply ldr | refine below_set ?_ GE689.out) | exact HB.out)) hb); clear HO_10; clear BK689; clear HB; have HO_10 := n0_; have BK689 := n1_; have HB := n2_; clear n0_ n1_ n2_; (try clear hb); (try clear hb2); (try clear hk); (try clear hi))))
               go_loopg [23, 24] kj60 (fun kq v23 v24 w' => ∃ (x23_5 : Int) (x24_5 : Int), v23 = .int .i64 x23_5 ∧ v24 = .int .i64 x24_5 ∧ Aside0 (trishawlaw06_TripPatched.l1 kq t696 t698 (Int.tmod (wrap64 (a2)) (ji67)) x23_5 x24_5 = some r) ∧ Aside0 (kq ≤ kj60) ∧ Aside0 (Kd.R (Kd.int .i64) 3 w' w.heap.size (fun _ => True) (.slice Ao71 t698.length co71) t698) ∧ Aside0 (w'.heap[gb689]? = some (.cells #[.int .i64 a1_0, .int .i64 a1_1] 24 (0, 0))) ∧ Aside0 (Below w.heap.size w w'))
               case atStart => exact ⟨(0), (0), (by first | rfl | (simp; done) | (simp [*]; done)), (by first | rfl | (simp; done) | (simp [*]; done)), H', ⟨Nat.le_refl _⟩, ⟨by (with_reducible repeat (first | apply Kd.R_alloc | apply Kd.R_drewN | apply Kd.R_drew)); exact HO_10.out⟩, ⟨by (with_reducible repeat (first | apply kdn | apply kdr | apply kal)); exact BK689.out⟩, ⟨by repeat (first | (with_reducible first | exact HB.out | apply lal | apply ldn | apply ldr | refine below_set ?_ GE689.out) | exact HB.out)⟩⟩
               case round =>
                clear H'
                try clear c1
                try clear c2
                try clear p2
                try clear c3
                try clear c4
                try clear c5
                try clear c6
                try clear p6
                try clear c7
                try clear p7
                try clear q7
                try clear hx7
                try clear c11
                try clear c12
                try clear c29
                try clear c29b0
                try clear c29b1
                try clear c30
                try clear c30b0
                try clear c30b1
                try clear c31
                try clear c31b0
                try clear c31b1
                try clear c32
                try clear c32b0
                try clear c32b1
                try clear c33
                try clear c33b0
                try clear c33b1
                try clear c34
                try clear c34b0
                try clear c34b1
                try clear c35
                try clear c35b0
                try clear c35b1
                try clear c39
                try clear c40
                try clear c40b0
                try clear c41
                try clear c41b0
                try clear c42
                try clear c42b0
                try clear c43
                try clear c43b0
                try clear c44
                try clear c44b0
                try clear c46
                try clear c46b0
                try clear c47
                try clear c47b0
                try clear c48
                try clear c48b0
                try clear c49
                try clear c49b0
                try clear c50
                try clear c50b0
                try clear c51
                try clear c51b0
                try clear c55
                try clear c55b0
                try clear c56
                try clear c56b0
                try clear c57
                try clear c57b0
                try clear c63
                try clear c63b0
                try clear c63b1
                try clear p64
                try clear c66
                try clear c68
                try clear c68b0
                try clear c68b1
                try clear c70
                try clear p71
                try clear q71
                try clear hx71
                try clear p72
                try clear q72
                try clear hx72
                try clear hcz20_0
                try clear hcz20_1
                try clear hcz22_0
                try clear hcz22_1
                try clear hcz25_0
                try clear hcz25_1
                try clear hcz27_0
                try clear hcz27_1
                try clear hcz9_0
                try clear hcz9_1
                try clear hfz20_0
                try clear hfz20_1
                try clear hfz22_0
                try clear hfz22_1
                try clear hfz25_0
                try clear hfz25_1
                try clear hfz27_0
                try clear hfz27_1
                try clear hfz9_0
                try clear hfz9_1
                try clear hx713_0
                try clear hx714_0
                try clear hx715_0
                try clear hx716_0
                try clear hx717_0
                try clear hx718_0
                try clear hx719_0
                try clear hx720_0
                try clear hx721_0
                try clear hx722_0
                try clear p2
                try clear p6
                try clear p64
                try clear p7
                try clear p713
                try clear p714
                try clear p715
                try clear p716
                try clear p717
                try clear p718
                try clear p719
                try clear p720
                try clear p721
                try clear p722
                try clear q7
                try clear q713
                try clear q714
                try clear q715
                try clear q716
                try clear q717
                try clear q718
                try clear q719
                try clear q720
                try clear q721
                try clear q722
                obtain ⟨x23_5, x24_5, rfl, rfl, HA, HK5, HO_10, BK689, HB⟩ := hrel
                cases gk with
                | zero => exact absurd HA.out (by simp [trishawlaw06_TripPatched.l1])
                | succ k5 =>
                 have H := HA.out
                 clear HA
                 simp only [trishawlaw06_TripPatched.l1] at H
                 by_cases c73 : x24_5 < (t698.length : Int)
                 ·rw [if_pos c73] at H
                  have c73b0 : decide (x24_5 < (t698.length : Int)) = true := decide_eq_true c73
                  clear c73
                  by_cases c74 : 0 ≤ x24_5
                  ·rw [if_pos c74] at H
                   have c74b0 : decide (0 ≤ x24_5) = true := decide_eq_true c74
                   clear c74
                   by_cases c75 : (rd t698 x24_5) < 0
                   ·rw [if_pos c75] at H
                    exact absurd H (by simp)
                   ·rw [if_neg c75] at H
                    have c75b0 : decide ((rd t698 x24_5) < 0) = false := decide_eq_false c75
                    clear c75
                    have c76b0 := eq_true (of_decide_eq_true (by first | (with_reducible assumption) | assumption) : 0 ≤ x24_5)
                    obtain ⟨ji77, hji77⟩ : ∃ j_ : Int, (shr .i64 (Int.tmod (wrap64 (a2)) (ji67)) x24_5) = j_ := ⟨_, rfl⟩
                    replace H : (trishawlaw06_TripPatched.l1 k5 t696 t698 (Int.tmod (wrap64 (a2)) (ji67)) (wrap64 (x23_5 + (wrap64 ((rd t698 x24_5) * (Int.tmod (ji77) 2))))) (wrap64 (x24_5 + 1))) = some r := by first | (rw [hji77] at H; exact H) | (simp only [hji77] at H ⊢; exact H)
                    have hji77_ : ((Int.tmod (wrap64 (a2)) (ji67)) / 2 ^ min x24_5.toNat 64) = ji77 := hji77
                    have hji77z : x24_5 ≤ 64 → ((Int.tmod (wrap64 (a2)) (ji67)) / 2 ^ x24_5.toNat) = ji77 := shr_small hji77
                    have H' := Aside0.mk H
                    clear H
                    have p726 : 0 ≤ (x24_5 : Int) := of_decide_eq_true (by first | (with_reducible assumption) | assumption)
                    have q726 : x24_5 < (t698.length : Int) := of_decide_eq_true (by first | (with_reducible assumption) | assumption)
                    obtain ⟨ad726, e726, hx726_0⟩ := Kd.at_int (Kd.R_reads' HO_10.out).2.2 x24_5 p726 q726
                    cases e726
                    replace p726 := eq_true p726
                    replace q726 := eq_true q726
                    have p727 : 0 ≤ (x24_5 : Int) := of_decide_eq_true (by first | (with_reducible assumption) | assumption)
                    have q727 : x24_5 < (t698.length : Int) := of_decide_eq_true (by first | (with_reducible assumption) | assumption)
                    obtain ⟨ad727, e727, hx727_0⟩ := Kd.at_int (Kd.R_reads' HO_10.out).2.2 x24_5 p727 q727
                    obtain rfl : ad726 = ad727 := (by injection e727)
                    replace p727 := eq_true p727
                    replace q727 := eq_true q727
                    go_wp2
                    repeat (go_quiet (fail); try go_wp2)
                    go_roundg k5
                    case measure => have := HJ3.out; have := HJ18.out; have := HK3.out; have := HJ60.out; have := HK5.out; omega
                    case rel => exact ⟨(wrap64 (x23_5 + (wrap64 ((rd t698 x24_5) * (Int.tmod (ji77) 2))))), (wrap64 (x24_5 + 1)), (by first | rfl | (simp; done) | (simp only [← hji77] <;> (first | rfl | simp)) | (simp [*]; done)), (by first | rfl | (simp; done) | (simp [*]; done)), H', ⟨by have := HJ3.out; have := HJ18.out; have := HK3.out; have := HJ60.out; have := HK5.out; omega⟩, ⟨by (with_reducible repeat (first | apply Kd.R_alloc | apply Kd.R_drewN | apply Kd.R_drew)); exact HO_10.out⟩, ⟨by (with_reducible repeat (first | apply kdn | apply kdr | apply kal)); exact BK689.out⟩, ⟨by repeat (first | (with_reducible first | exact HB.out | apply lal | apply ldn | apply ldr | refine below_set ?_ GE689.out) | exact HB.out)⟩⟩
                  ·rw [if_neg c74] at H
                   exact absurd H (by simp)
                 ·rw [if_neg c73] at H
                  have c73b0 : decide (x24_5 < (t698.length : Int)) = false := decide_eq_false c73
                  clear c73
                  by_cases c78 : x23_5 ≥ t696
                  ·rw [if_pos c78] at H
                   have c78b0 : decide (t696 ≤ x23_5) = true := decide_eq_true c78
                   clear c78
                   replace H := Option.bind_eq_some_iff.mp H
                   obtain ⟨t728, A790, H⟩ := H
                   replace H : (some t728) = some r := H
                   have A79 := Aside0.mk A790
                   clear A790
                   obtain rfl := Option.some.inj H
                   go_wp2_with (first | (go_at_call 16; (with_reducible refine (trishawlaw06_alive.calls k5  t728 _ A79.out).mono ?_); rintro e w80 ⟨rfl, hb⟩; have n0_ := Aside0.mk (Kd.R_below (by (with_reducible repeat (first | apply Kd.R_alloc | apply Kd.R_drewN | apply Kd.R_drew)); exact HO_10.out) hb); have n1_ := Aside0.mk (blk_below (g := gb689) (o := .cells #[.int .i64 a1_0, .int .i64 a1_1] 24 (0, 0)) (by (with_reducible repeat (first | apply kdn | apply kdr | apply kal)); exact BK689.out) hb); have n2_ := Aside0.mk (below_step (by repeat (first | (with_reducible first | exact HB.out | apply lal | apply ldn | apply ldr | refine below_set ?_ GE689.out) | exact HB.out)) hb); clear HO_10; clear BK689; clear HB; have HO_10 := n0_; have BK689 := n1_; have HB := n2_; clear n0_ n1_ n2_; (try clear hb); (try clear hb2); (try clear hk); (try clear hi)))
                   repeat (go_quiet (first | (go_at_call 16; (with_reducible refine (trishawlaw06_alive.calls k5  t728 _ A79.out).mono ?_); rintro e w80 ⟨rfl, hb⟩; have n0_ := Aside0.mk (Kd.R_below (by (with_reducible repeat (first | apply Kd.R_alloc | apply Kd.R_drewN | apply Kd.R_drew)); exact HO_10.out) hb); have n1_ := Aside0.mk (blk_below (g := gb689) (o := .cells #[.int .i64 a1_0, .int .i64 a1_1] 24 (0, 0)) (by (with_reducible repeat (first | apply kdn | apply kdr | apply kal)); exact BK689.out) hb); have n2_ := Aside0.mk (below_step (by repeat (first | (with_reducible first | exact HB.out | apply lal | apply ldn | apply ldr | refine below_set ?_ GE689.out) | exact HB.out)) hb); clear HO_10; clear BK689; clear HB; have HO_10 := n0_; have BK689 := n1_; have HB := n2_; clear n0_ n1_ n2_; (try clear hb); (try clear hb2); (try clear hk); (try clear hi))); try go_wp2_with (first | (go_at_call 16; (with_reducible refine (trishawlaw06_alive.calls k5  t728 _ A79.out).mono ?_); rintro e w80 ⟨rfl, hb⟩; have n0_ := Aside0.mk (Kd.R_below (by (with_reducible repeat (first | apply Kd.R_alloc | apply Kd.R_drewN | apply Kd.R_drew)); exact HO_10.out) hb); have n1_ := Aside0.mk (blk_below (g := gb689) (o := .cells #[.int .i64 a1_0, .int .i64 a1_1] 24 (0, 0)) (by (with_reducible repeat (first | apply kdn | apply kdr | apply kal)); exact BK689.out) hb); have n2_ := Aside0.mk (below_step (by repeat (first | (with_reducible first | exact HB.out | apply lal | apply ldn | apply ldr | refine below_set ?_ GE689.out) | exact HB.out)) hb); clear HO_10; clear BK689; clear HB; have HO_10 := n0_; have BK689 := n1_; have HB := n2_; clear n0_ n1_ n2_; (try clear hb); (try clear hb2); (try clear hk); (try clear hi))))
                   go_ret
                   exact ⟨by first | rfl | (simp [errW_none, errW_some] <;> rfl) | (simp only [← hji67]; first | rfl | (simp [errW_none, errW_some] <;> rfl)) | (simp [*, errW_none, errW_some] <;> rfl), by repeat (first | (with_reducible first | exact HB.out | apply lal | apply ldn | apply ldr | refine below_set ?_ GE689.out) | exact HB.out)⟩
                  ·rw [if_neg c78] at H
                   exact absurd H (by simp)
              ·replace c70 := Bool.eq_false_iff.mpr c70
               subst c70
               have H1 : ((trishawlaw06_alive.f kj60).bind fun t725 => (some t725)) = some r := by rw [if_neg (show ¬ (false = true) by decide)] at H; exact H
               clear H
               have H := H1
               clear H1
               replace H := Option.bind_eq_some_iff.mp H
               obtain ⟨t725, A810, H⟩ := H
               replace H : (some t725) = some r := H
               have A81 := Aside0.mk A810
               clear A810
               obtain rfl := Option.some.inj H
               obtain ⟨Ao82, co82, eo82⟩ := Kd.R_slice HO_10.out
               subst eo82
               go_wp2_with (first | (go_at_call 36; (with_reducible refine (trishawref06_Joins.calls kj60 _ _ l0 (Int.tmod (wrap64 (a2)) (ji67)) false _ ?side1 ?side2 A69.out).mono ?_); (case side1 => repeat (first | exact (Kd.C_below HR0.out HB.out) | (with_reducible refine Kd.C_alloc ?_ _) | (with_reducible refine Kd.C_drewN ?_ _) | (with_reducible refine Kd.C_drew ?_))); (case side2 => exact HC0.out); rintro e w83 ⟨rfl, hb⟩; have n0_ := Aside0.mk (Kd.R_below (by (with_reducible repeat (first | apply Kd.R_alloc | apply Kd.R_drewN | apply Kd.R_drew)); exact HO_10.out) hb); have n1_ := Aside0.mk (blk_below (g := gb689) (o := .cells #[.int .i64 a1_0, .int .i64 a1_1] 24 (0, 0)) (by (with_reducible repeat (first | apply kdn | apply kdr | apply kal)); exact BK689.out) hb); have n2_ := Aside0.mk (below_step (by repeat (first | (with_reducible first | exact HB.out | apply lal | apply ldn | apply ldr | refine below_set ?_ GE689.out) | exact HB.out)) hb); clear HO_10; clear BK689; clear HB; have HO_10 := n0_; have BK689 := n1_; have HB := n2_; clear n0_ n1_ n2_; (try clear hb); (try clear hb2); (try clear hk); (try clear hi)) | (go_at_call 16; (with_reducible refine (trishawlaw06_alive.calls kj60  t725 _ A81.out).mono ?_); rintro e w84 ⟨rfl, hb⟩; have n0_ := Aside0.mk (Kd.R_below (by (with_reducible repeat (first | apply Kd.R_alloc | apply Kd.R_drewN | apply Kd.R_drew)); exact HO_10.out) hb); have n1_ := Aside0.mk (blk_below (g := gb689) (o := .cells #[.int .i64 a1_0, .int .i64 a1_1] 24 (0, 0)) (by (with_reducible repeat (first | apply kdn | apply kdr | apply kal)); exact BK689.out) hb); have n2_ := Aside0.mk (below_step (by repeat (first | (with_reducible first | exact HB.out | apply lal | apply ldn | apply ldr | refine below_set ?_ GE689.out) | exact HB.out)) hb); clear HO_10; clear BK689; clear HB; have HO_10 := n0_; have BK689 := n1_; have HB := n2_; clear n0_ n1_ n2_; (try clear hb); (try clear hb2); (try clear hk); (try clear hi)))
               repeat (go_quiet (first | (go_at_call 36; (with_reducible refine (trishawref06_Joins.calls kj60 _ _ l0 (Int.tmod (wrap64 (a2)) (ji67)) false _ ?side1 ?side2 A69.out).mono ?_); (case side1 => repeat (first | exact (Kd.C_below HR0.out HB.out) | (with_reducible refine Kd.C_alloc ?_ _) | (with_reducible refine Kd.C_drewN ?_ _) | (with_reducible refine Kd.C_drew ?_))); (case side2 => exact HC0.out); rintro e w83 ⟨rfl, hb⟩; have n0_ := Aside0.mk (Kd.R_below (by (with_reducible repeat (first | apply Kd.R_alloc | apply Kd.R_drewN | apply Kd.R_drew)); exact HO_10.out) hb); have n1_ := Aside0.mk (blk_below (g := gb689) (o := .cells #[.int .i64 a1_0, .int .i64 a1_1] 24 (0, 0)) (by (with_reducible repeat (first | apply kdn | apply kdr | apply kal)); exact BK689.out) hb); have n2_ := Aside0.mk (below_step (by repeat (first | (with_reducible first | exact HB.out | apply lal | apply ldn | apply ldr | refine below_set ?_ GE689.out) | exact HB.out)) hb); clear HO_10; clear BK689; clear HB; have HO_10 := n0_; have BK689 := n1_; have HB := n2_; clear n0_ n1_ n2_; (try clear hb); (try clear hb2); (try clear hk); (try clear hi)) | (go_at_call 16; (with_reducible refine (trishawlaw06_alive.calls kj60  t725 _ A81.out).mono ?_); rintro e w84 ⟨rfl, hb⟩; have n0_ := Aside0.mk (Kd.R_below (by (with_reducible repeat (first | apply Kd.R_alloc | apply Kd.R_drewN | apply Kd.R_drew)); exact HO_10.out) hb); have n1_ := Aside0.mk (blk_below (g := gb689) (o := .cells #[.int .i64 a1_0, .int .i64 a1_1] 24 (0, 0)) (by (with_reducible repeat (first | apply kdn | apply kdr | apply kal)); exact BK689.out) hb); have n2_ := Aside0.mk (below_step (by repeat (first | (with_reducible first | exact HB.out | apply lal | apply ldn | apply ldr | refine below_set ?_ GE689.out) | exact HB.out)) hb); clear HO_10; clear BK689; clear HB; have HO_10 := n0_; have BK689 := n1_; have HB := n2_; clear n0_ n1_ n2_; (try clear hb); (try clear hb2); (try clear hk); (try clear hi))); try go_wp2_with (first | (go_at_call 36; (with_reducible refine (trishawref06_Joins.calls kj60 _ _ l0 (Int.tmod (wrap64 (a2)) (ji67)) false _ ?side1 ?side2 A69.out).mono ?_); (case side1 => repeat (first | exact (Kd.C_below HR0.out HB.out) | (with_reducible refine Kd.C_alloc ?_ _) | (with_reducible refine Kd.C_drewN ?_ _) | (with_reducible refine Kd.C_drew ?_))); (case side2 => exact HC0.out); rintro e w83 ⟨rfl, hb⟩; have n0_ := Aside0.mk (Kd.R_below (by (with_reducible repeat (first | apply Kd.R_alloc | apply Kd.R_drewN | apply Kd.R_drew)); exact HO_10.out) hb); have n1_ := Aside0.mk (blk_below (g := gb689) (o := .cells #[.int .i64 a1_0, .int .i64 a1_1] 24 (0, 0)) (by (with_reducible repeat (first | apply kdn | apply kdr | apply kal)); exact BK689.out) hb); have n2_ := Aside0.mk (below_step (by repeat (first | (with_reducible first | exact HB.out | apply lal | apply ldn | apply ldr | refine below_set ?_ GE689.out) | exact HB.out)) hb); clear HO_10; clear BK689; clear HB; have HO_10 := n0_; have BK689 := n1_; have HB := n2_; clear n0_ n1_ n2_; (try clear hb); (try clear hb2); (try clear hk); (try clear hi)) | (go_at_call 16; (with_reducible refine (trishawlaw06_alive.calls kj60  t725 _ A81.out).mono ?_); rintro e w84 ⟨rfl, hb⟩; have n0_ := Aside0.mk (Kd.R_below (by (with_reducible repeat (first | apply Kd.R_alloc | apply Kd.R_drewN | apply Kd.R_drew)); exact HO_10.out) hb); have n1_ := Aside0.mk (blk_below (g := gb689) (o := .cells #[.int .i64 a1_0, .int .i64 a1_1] 24 (0, 0)) (by (with_reducible repeat (first | apply kdn | apply kdr | apply kal)); exact BK689.out) hb); have n2_ := Aside0.mk (below_step (by repeat (first | (with_reducible first | exact HB.out | apply lal | apply ldn | apply ldr | refine below_set ?_ GE689.out) | exact HB.out)) hb); clear HO_10; clear BK689; clear HB; have HO_10 := n0_; have BK689 := n1_; have HB := n2_; clear n0_ n1_ n2_; (try clear hb); (try clear hb2); (try clear hk); (try clear hi))))
               go_ret
               exact ⟨by first | rfl | (simp [errW_none, errW_some] <;> rfl) | (simp only [← hji67]; first | rfl | (simp [errW_none, errW_some] <;> rfl)) | (simp [*, errW_none, errW_some] <;> rfl), by repeat (first | (with_reducible first | exact HB.out | apply lal | apply ldn | apply ldr | refine below_set ?_ GE689.out) | exact HB.out)⟩
end Go.Proofs.Ytlmlneneakpohaa.OAll
