/- A part of the proof of 'tripGilmore_holds', for every input, without a condition. -/
import Derived.Test.YtlmlneneakpohaaTGiOAllx0
import Derived.Test.YtlmlneneakpohaaTGiOAllx3
import Derived.Test.YtlmlneneakpohaaTGiOAllx4
import Derived.Test.YtlmlneneakpohaaTGiOAllx8
import Derived.Test.YtlmlneneakpohaaTGiOAllx9
import Derived.Test.YtlmlneneakpohaaTGiOAllx21
namespace Go.Proofs.Ytlmlneneakpohaa.OAll
open Go.RowKit Go.Proofs.YtlmlneneakpohaaW.PrintWords Go.Proofs.YtlmlneneakpohaaW.PrintLast Go.Proofs.YtlmlneneakpohaaW.PrintMore
attribute [local go_sem] max2_int min2_int max_two min_two max_three min_three max_four min_four
set_option linter.unusedVariables false
set_option linter.unusedSimpArgs false
mutual
def trishawlaw06_TripGilmore.j0 : Nat → List (S36) → List Int → Bool → Int → Int → Option (Bool)
 | 0, _, _, _, _, _ => none
 | k + 1, x0, x2, x26, x614000, x614001 => if x26 = true then ((trishawlaw06_alive.f k).bind fun t616 => (some t616)) else ((trip_Least.f k x0 x614000 x614001).bind fun bt617 => ((trip_Cost.f k x0 x614000 x614001 x2).bind fun bt619 => (if bt617.2 = 0 then (if bt619.2 = 0 then (trishawlaw06_TripGilmore.j1 k x0 x2 bt617.1 bt619.1 bt619.2 (decide (bt619.1 < bt617.1)) x614000 x614001) else (trishawlaw06_TripGilmore.j1 k x0 x2 bt617.1 bt619.1 bt619.2 false x614000 x614001)) else (none))))
def trishawlaw06_TripGilmore.j1 : Nat → List (S36) → List Int → Int → Int → Int → Bool → Int → Int → Option (Bool)
 | 0, _, _, _, _, _, _, _, _ => none
 | k + 1, x0, x2, x7, x9, x10, x51, x614000, x614001 => if x51 = true then (none) else ((trip_Tour.f k x0 x614000 x614001).bind fun bt621 => (if (x0.length : Int) > 7 then (if bt621.2.2 = 8 then (if (bt621.1.length : Int) = 0 then ((trishawlaw06_alive.f k).bind fun t626 => (some t626)) else (none)) else (none)) else ((trip_Cost.f k x0 x614000 x614001 bt621.1).bind fun bt627 => (if bt621.2.2 = 0 then (if bt627.2 = 0 then (if bt621.2.1 = x7 then (if bt627.1 = x7 then (if (bt621.1.length : Int) = (x0.length : Int) then (if 0 < (bt621.1.length : Int) then (if (rd bt621.1 0) = 0 then (if x10 = 0 then (trishawlaw06_TripGilmore.j2 k x2 x7 x9 x10 bt621.1 ((x2.length : Int) != (x0.length : Int))) else (trishawlaw06_TripGilmore.j2 k x2 x7 x9 x10 bt621.1 false)) else (none)) else (none)) else (none)) else (none)) else (none)) else (none)) else (none)))))
def trishawlaw06_TripGilmore.j2 : Nat → List Int → Int → Int → Int → List Int → Bool → Option (Bool)
 | 0, _, _, _, _, _, _ => none
 | k + 1, x2, x7, x9, x10, x11, x118 => if x118 = true then (none) else (if x10 = 0 then (if x9 = x7 then (if 0 < (x2.length : Int) then (trishawlaw06_TripGilmore.j3 k x2 x11 ((rd x2 0) != 0)) else (none)) else (trishawlaw06_TripGilmore.j3 k x2 x11 true)) else (trishawlaw06_TripGilmore.j3 k x2 x11 true))
def trishawlaw06_TripGilmore.j3 : Nat → List Int → List Int → Bool → Option (Bool)
 | 0, _, _, _ => none
 | k + 1, x2, x11, x131 => if x131 = true then ((trishawlaw06_alive.f k).bind fun t631 => (some t631)) else (trishawlaw06_TripGilmore.l0 k x2 x11 0)
def trishawlaw06_TripGilmore.l0 : Nat → List Int → List Int → Int → Option (Bool)
 | 0, _, _, _ => none
 | k + 1, x2, x11, x16 => if x16 < (x11.length : Int) then (if 0 ≤ x16 then (if x16 < (x2.length : Int) then (if (rd x11 x16) = (rd x2 x16) then (trishawlaw06_TripGilmore.l0 k x2 x11 (wrap64 (x16 + 1))) else (if (rd x11 x16) < (rd x2 x16) then ((trishawlaw06_alive.f k).bind fun t636 => (some t636)) else (none))) else (none)) else (none)) else ((trishawlaw06_alive.f k).bind fun t637 => (some t637))
end
def trishawlaw06_TripGilmore.f (k : Nat) (l0 : List (S36)) (a1_0 : Int) (a1_1 : Int) (l2 : List Int) : Option (Bool) := (trishawlaw06_few.f l0 l2).bind fun t614 => (if t614 = true then ((trishawref06_Day.f k l0 a1_0 a1_1).bind fun t615 => (trishawlaw06_TripGilmore.j0 k l0 l2 (t615 != 0) a1_0 a1_1)) else (trishawlaw06_TripGilmore.j0 k l0 l2 true a1_0 a1_1))
def trishawlaw06_TripGilmore.T18 : Bool × List (List Nat × List Nat) := (true, [([], []), ([], []), ([0, 1], [0, 1]), ([2], [2]), ([], []), ([], []), ([4, 5], [4, 5]), ([6], [6]), ([3, 7], [3, 7])])
def trishawlaw06_TripGilmore.B18 : List Nat := [0, 0, 3, 7, 0, 0, 48, 112, 255]
theorem trishawlaw06_TripGilmore.tab18 : rtab .any (opsOf Try.f11 18) = trishawlaw06_TripGilmore.T18 := by kernel_rfl
theorem trishawlaw06_TripGilmore.bits18 : waitsOk trishawlaw06_TripGilmore.T18.2 trishawlaw06_TripGilmore.B18 = true := by kernel_rfl
def trishawlaw06_TripGilmore.T19 : Bool × List (List Nat × List Nat) := (true, [([], []), ([], []), ([0, 1], [0, 1]), ([2], [2]), ([], []), ([], []), ([4, 5], [4, 5]), ([6], [6]), ([3, 7], [3, 7]), ([8], [8]), ([9, 9], [9]), ([9, 10], [9, 10]), ([11, 10, 0, 1, 2, 3, 4, 5, 6, 7, 8, 9, 10, 11], [11])])
def trishawlaw06_TripGilmore.B19 : List Nat := [0, 0, 3, 7, 0, 0, 48, 112, 255, 511, 1023, 2047, 4095]
theorem trishawlaw06_TripGilmore.tab19 : rtab .any (opsOf Try.f11 19) = trishawlaw06_TripGilmore.T19 := by kernel_rfl
theorem trishawlaw06_TripGilmore.bits19 : waitsOk trishawlaw06_TripGilmore.T19.2 trishawlaw06_TripGilmore.B19 = true := by kernel_rfl
set_option maxHeartbeats 8000000 in
set_option maxRecDepth 100000 in
theorem trishawlaw06_TripGilmore.calls (k : Nat) (A0 : Option Addr) (c0 : Nat) (l0 : List (S36)) (a1_0 : Int) (a1_1 : Int) (A2 : Option Addr) (c2 : Nat) (l2 : List Int) (r : Bool) (w : World) (hr0 : Kd.C k36 w A0 l0.length l0) (hc0 : l0.length ≤ c0) (hr2 : Kd.C (Kd.int .i64) w A2 l2.length l2) (hc2 : l2.length ≤ c2) (h : trishawlaw06_TripGilmore.f k l0 a1_0 a1_1 l2 = some r) :
  Calls Try.prog 11 #[.slice A0 l0.length c0, .agg #[.int .i64 a1_0, .int .i64 a1_1], .slice A2 l2.length c2] w fun e w' => e = .returned (.bool r) ∧ Below w.heap.size w w' := by
 have hu24 := Try.underlying24
 have HR0 := Aside0.mk hr0
 have HC0 := Aside0.mk hc0
 clear hr0 hc0
 have HR2 := Aside0.mk hr2
 have HC2 := Aside0.mk hc2
 clear hr2 hc2
 have HB := Aside0.mk (Below.refl w.heap.size w)
 have H : ((trishawlaw06_few.f l0 l2).bind fun t614 => (if t614 = true then ((trishawref06_Day.f k l0 a1_0 a1_1).bind fun t615 => (trishawlaw06_TripGilmore.j0 k l0 l2 (t615 != 0) a1_0 a1_1)) else (trishawlaw06_TripGilmore.j0 k l0 l2 true a1_0 a1_1))) = some r := h
 clear h
 have HC4 := Aside0.mk H
 clear H
 go_enter Try.func11, Try.ntmps11
 go_upto_region 1 with (first | ((with_reducible refine gate_dst (N := 4) rfl ?_); (try (refine gate_guard (by rfl) ?_; dsimp only)); refine box_event ?hg (N := 4) ?hd (cs := #[.int .i64 a1_0, .int .i64 a1_1]) (t := 24) ?hr ?_; (case hd => rfl); (case hg => rfl); (case hr => first | (go_simp; done) | (go_simp; rfl)); intro gb613 hg w5 hbox hb; have n0_ := Aside0.mk (below_step (by repeat (first | (with_reducible first | exact HB.out | apply lal | apply ldn | apply ldr) | exact HB.out)) hb); have n1_ := Aside0.mk (hbox); have n2_ := Aside0.mk ((by rw [hg]; exact (below_size (by repeat (first | (with_reducible first | exact HB.out | apply lal | apply ldn | apply ldr) | exact HB.out))) : w.heap.size ≤ gb613)); have n3_ := Aside0.mk ((by rw [hg]; exact (below_size (by repeat (first | (with_reducible first | exact HB.out | apply lal | apply ldn | apply ldr) | exact HB.out))) : w.heap.size ≤ gb613)); clear HB; have HB := n0_; have BK613 := n1_; have GW613 := n2_; have GE613 := n3_; clear n0_ n1_ n2_ n3_; clear hb hbox hg))
 (try simp only [Act.put, sia, sc0, scs])
 go_cut [26] (fun v26 wc => ∃ (kq : Nat) (x26_3 : Bool), v26 = .bool x26_3 ∧ Aside0 (trishawlaw06_TripGilmore.j0 kq l0 l2 x26_3 a1_0 a1_1 = some r) ∧ Aside0 (kq ≤ k) ∧ Aside0 (wc.heap[gb613]? = some (.cells #[.int .i64 a1_0, .int .i64 a1_1] 24 (0, 0))) ∧ Aside0 (Below w.heap.size w wc))
 case first =>
  have H := HC4.out
  clear HC4
  replace H := Option.bind_eq_some_iff.mp H
  obtain ⟨t614, A60, H⟩ := H
  replace H : (if t614 = true then ((trishawref06_Day.f k l0 a1_0 a1_1).bind fun t615 => (trishawlaw06_TripGilmore.j0 k l0 l2 (t615 != 0) a1_0 a1_1)) else (trishawlaw06_TripGilmore.j0 k l0 l2 true a1_0 a1_1)) = some r := H
  have A6 := Aside0.mk A60
  clear A60
  by_cases c7 : t614 = true
  ·subst c7
   have H1 : ((trishawref06_Day.f k l0 a1_0 a1_1).bind fun t615 => (trishawlaw06_TripGilmore.j0 k l0 l2 (t615 != 0) a1_0 a1_1)) = some r := by rw [if_pos rfl] at H; exact H
   clear H
   have H := H1
   clear H1
   replace H := Option.bind_eq_some_iff.mp H
   obtain ⟨t615, A80, H⟩ := H
   replace H : (trishawlaw06_TripGilmore.j0 k l0 l2 (t615 != 0) a1_0 a1_1) = some r := H
   have A8 := Aside0.mk A80
   clear A80
   have H' := Aside0.mk H
   clear H
   go_wp2_with (first | ((with_reducible refine gate_callee (f := 15) rfl ?_); refine goesL_ (some 19) rfl rfl Try.func15 (by kernel_rfl) rfl #[.slice A0 l0.length c0, .slice A2 l2.length c2] rfl (by (try simp only [List.map_toArray, List.map_cons, List.map_nil]); first | done | rfl | (simp only [List.length_drop, List.length_take]; rfl)) ?_; (with_reducible refine (trishawlaw06_few.calls _ _ l0 _ _ l2 true _ ?side1 ?side2 ?side3 ?side4 A6.out).mono ?_); (case side1 => repeat (first | exact (Kd.C_below HR0.out HB.out) | (with_reducible refine Kd.C_alloc ?_ _) | (with_reducible refine Kd.C_drewN ?_ _) | (with_reducible refine Kd.C_drew ?_))); (case side2 => exact HC0.out); (case side3 => repeat (first | exact (Kd.C_below HR2.out HB.out) | (with_reducible refine Kd.C_alloc ?_ _) | (with_reducible refine Kd.C_drewN ?_ _) | (with_reducible refine Kd.C_drew ?_))); (case side4 => exact HC2.out); rintro e w' ⟨rfl, ⟨nd, rfl⟩⟩; refine ⟨_, rfl, ?_⟩; have hcz9_0 : w5.cell? ⟨gb613, 0, none⟩ = some (.int .i64 a1_0) := (blk_cell BK613.out 0).trans rfl; have hcz9_1 : w5.cell? ⟨gb613, 1, none⟩ = some (.int .i64 a1_1) := (blk_cell BK613.out 1).trans rfl; have hfz9_0 := blk_frozen BK613.out 0; have hfz9_1 := blk_frozen BK613.out 1) | (go_at_call 20; (with_reducible refine (trishawref06_Day.calls k _ _ l0 a1_0 a1_1 t615 _ ?side1 ?side2 A8.out).mono ?_); (case side1 => repeat (first | exact (Kd.C_below HR0.out (by repeat (first | (with_reducible first | exact HB.out | apply lal | apply ldn | apply ldr | refine below_set ?_ GE613.out) | exact HB.out))) | (with_reducible refine Kd.C_alloc ?_ _) | (with_reducible refine Kd.C_drewN ?_ _) | (with_reducible refine Kd.C_drew ?_))); (case side2 => exact HC0.out); rintro e w10 ⟨rfl, hb⟩; have n0_ := Aside0.mk (blk_below (g := gb613) (o := .cells #[.int .i64 a1_0, .int .i64 a1_1] 24 (0, 0)) (by (with_reducible repeat (first | apply kdn | apply kdr | apply kal)); exact BK613.out) hb); have n1_ := Aside0.mk (below_step (by repeat (first | (with_reducible first | exact HB.out | apply lal | apply ldn | apply ldr | refine below_set ?_ GE613.out) | exact HB.out)) hb); clear BK613; clear HB; have BK613 := n0_; have HB := n1_; clear n0_ n1_; (try clear hb); (try clear hb2); (try clear hk); (try clear hi)))
   go_meet
   case rel => exact ⟨_, ((t615 != 0)), (by first | rfl | (simp; done) | (simp [*]; done)), H', ⟨by first | omega | exact Nat.le_refl _⟩, ⟨by (with_reducible repeat (first | apply kdn | apply kdr | apply kal)); exact BK613.out⟩, ⟨by repeat (first | (with_reducible first | exact HB.out | apply lal | apply ldn | apply ldr | refine below_set ?_ GE613.out) | exact HB.out)⟩⟩
  ·replace c7 := Bool.eq_false_iff.mpr c7
   subst c7
   have H1 : (trishawlaw06_TripGilmore.j0 k l0 l2 true a1_0 a1_1) = some r := by rw [if_neg (show ¬ (false = true) by decide)] at H; exact H
   clear H
   have H := H1
   clear H1
   have H' := Aside0.mk H
   clear H
   go_wp2_with (first | ((with_reducible refine gate_callee (f := 15) rfl ?_); refine goesL_ (some 19) rfl rfl Try.func15 (by kernel_rfl) rfl #[.slice A0 l0.length c0, .slice A2 l2.length c2] rfl (by (try simp only [List.map_toArray, List.map_cons, List.map_nil]); first | done | rfl | (simp only [List.length_drop, List.length_take]; rfl)) ?_; (with_reducible refine (trishawlaw06_few.calls _ _ l0 _ _ l2 false _ ?side1 ?side2 ?side3 ?side4 A6.out).mono ?_); (case side1 => repeat (first | exact (Kd.C_below HR0.out HB.out) | (with_reducible refine Kd.C_alloc ?_ _) | (with_reducible refine Kd.C_drewN ?_ _) | (with_reducible refine Kd.C_drew ?_))); (case side2 => exact HC0.out); (case side3 => repeat (first | exact (Kd.C_below HR2.out HB.out) | (with_reducible refine Kd.C_alloc ?_ _) | (with_reducible refine Kd.C_drewN ?_ _) | (with_reducible refine Kd.C_drew ?_))); (case side4 => exact HC2.out); rintro e w' ⟨rfl, ⟨nd, rfl⟩⟩; refine ⟨_, rfl, ?_⟩))
   go_meet
   case rel => exact ⟨_, (true), (by first | rfl | (simp; done) | (simp [*]; done)), H', ⟨by first | omega | exact Nat.le_refl _⟩, ⟨by (with_reducible repeat (first | apply kdn | apply kdr | apply kal)); exact BK613.out⟩, ⟨by repeat (first | (with_reducible first | exact HB.out | apply lal | apply ldn | apply ldr | refine below_set ?_ GE613.out) | exact HB.out)⟩⟩
 case rest =>
  clear HC4
  try clear c1
  try clear c2
  try clear p2
  try clear c7
  try clear hcz9_0
  try clear hcz9_1
  try clear hfz9_0
  try clear hfz9_1
  obtain ⟨kq, x26_3, rfl, HA, HJ3, BK613, HB⟩ := hcut
  cases kq with
  | zero => exact absurd HA.out (by simp [trishawlaw06_TripGilmore.j0])
  | succ kj3 =>
   have H := HA.out
   clear HA
   simp only [trishawlaw06_TripGilmore.j0] at H
   by_cases c11 : x26_3 = true
   ·subst c11
    have H1 : ((trishawlaw06_alive.f kj3).bind fun t616 => (some t616)) = some r := by rw [if_pos rfl] at H; exact H
    clear H
    have H := H1
    clear H1
    replace H := Option.bind_eq_some_iff.mp H
    obtain ⟨t616, A120, H⟩ := H
    replace H : (some t616) = some r := H
    have A12 := Aside0.mk A120
    clear A120
    obtain rfl := Option.some.inj H
    go_wp2_with (first | ((with_reducible refine gate_callee (f := 16) rfl ?_); refine goesL_ (some 27) rfl rfl Try.func16 (by kernel_rfl) rfl #[] rfl (by (try simp only [List.map_toArray, List.map_cons, List.map_nil]); first | done | rfl | (simp only [List.length_drop, List.length_take]; rfl)) ?_; (with_reducible refine (trishawlaw06_alive.calls kj3  t616 _ A12.out).mono ?_); rintro e w13 ⟨rfl, hb⟩; refine ⟨_, rfl, ?_⟩; have n0_ := Aside0.mk (blk_below (g := gb613) (o := .cells #[.int .i64 a1_0, .int .i64 a1_1] 24 (0, 0)) (by (with_reducible repeat (first | apply kdn | apply kdr | apply kal)); exact BK613.out) hb); have n1_ := Aside0.mk (below_step (by repeat (first | (with_reducible first | exact HB.out | apply lal | apply ldn | apply ldr | refine below_set ?_ GE613.out) | exact HB.out)) hb); clear BK613; clear HB; have BK613 := n0_; have HB := n1_; clear n0_ n1_; (try clear hb); (try clear hb2); (try clear hk); (try clear hi)))
    go_ret
    exact ⟨by first | rfl | (simp [errW_none, errW_some] <;> rfl) | (simp [*, errW_none, errW_some] <;> rfl), by repeat (first | (with_reducible first | exact HB.out | apply lal | apply ldn | apply ldr | refine below_set ?_ GE613.out) | exact HB.out)⟩
   ·replace c11 := Bool.eq_false_iff.mpr c11
    subst c11
    have H1 : ((trip_Least.f kj3 l0 a1_0 a1_1).bind fun bt617 => ((trip_Cost.f kj3 l0 a1_0 a1_1 l2).bind fun bt619 => (if bt617.2 = 0 then (if bt619.2 = 0 then (trishawlaw06_TripGilmore.j1 kj3 l0 l2 bt617.1 bt619.1 bt619.2 (decide (bt619.1 < bt617.1)) a1_0 a1_1) else (trishawlaw06_TripGilmore.j1 kj3 l0 l2 bt617.1 bt619.1 bt619.2 false a1_0 a1_1)) else (none)))) = some r := by rw [if_neg (show ¬ (false = true) by decide)] at H; exact H
    clear H
    have H := H1
    clear H1
    replace H := Option.bind_eq_some_iff.mp H
    obtain ⟨⟨t617, t618⟩, A140, H⟩ := H
    replace H : ((trip_Cost.f kj3 l0 a1_0 a1_1 l2).bind fun bt619 => (if t618 = 0 then (if bt619.2 = 0 then (trishawlaw06_TripGilmore.j1 kj3 l0 l2 t617 bt619.1 bt619.2 (decide (bt619.1 < t617)) a1_0 a1_1) else (trishawlaw06_TripGilmore.j1 kj3 l0 l2 t617 bt619.1 bt619.2 false a1_0 a1_1)) else (none))) = some r := H
    have A14 := Aside0.mk A140
    clear A140
    replace H := Option.bind_eq_some_iff.mp H
    obtain ⟨⟨t619, t620⟩, A150, H⟩ := H
    replace H : (if t618 = 0 then (if t620 = 0 then (trishawlaw06_TripGilmore.j1 kj3 l0 l2 t617 t619 t620 (decide (t619 < t617)) a1_0 a1_1) else (trishawlaw06_TripGilmore.j1 kj3 l0 l2 t617 t619 t620 false a1_0 a1_1)) else (none)) = some r := H
    have A15 := Aside0.mk A150
    clear A150
    have HC16 := Aside0.mk H
    clear H
    have hcz17_0 : wc.cell? ⟨gb613, 0, none⟩ = some (.int .i64 a1_0) := (blk_cell BK613.out 0).trans rfl
    have hcz17_1 : wc.cell? ⟨gb613, 1, none⟩ = some (.int .i64 a1_1) := (blk_cell BK613.out 1).trans rfl
    have hfz17_0 := blk_frozen BK613.out 0
    have hfz17_1 := blk_frozen BK613.out 1
    go_upto_region 5 with (first | ((with_reducible refine gate_callee (f := 21) rfl ?_); refine goesL_ (some 31) rfl rfl Try.func21 (by kernel_rfl) rfl #[.slice A0 l0.length c0, .agg #[.int .i64 a1_0, .int .i64 a1_1]] rfl (by (try simp only [List.map_toArray, List.map_cons, List.map_nil]); first | done | rfl | (simp only [List.length_drop, List.length_take]; rfl)) ?_; (with_reducible refine (trip_Least.calls kj3 _ _ l0 a1_0 a1_1 t617 t618 _ ?side1 ?side2 A14.out).mono ?_); (case side1 => repeat (first | exact (Kd.C_below HR0.out HB.out) | (with_reducible refine Kd.C_alloc ?_ _) | (with_reducible refine Kd.C_drewN ?_ _) | (with_reducible refine Kd.C_drew ?_))); (case side2 => exact HC0.out); rintro e w18 ⟨rfl, hb⟩; refine ⟨_, rfl, ?_⟩; have n0_ := Aside0.mk (blk_below (g := gb613) (o := .cells #[.int .i64 a1_0, .int .i64 a1_1] 24 (0, 0)) (by (with_reducible repeat (first | apply kdn | apply kdr | apply kal)); exact BK613.out) hb); have n1_ := Aside0.mk (below_step (by repeat (first | (with_reducible first | exact HB.out | apply lal | apply ldn | apply ldr | refine below_set ?_ GE613.out) | exact HB.out)) hb); clear BK613; clear HB; have BK613 := n0_; have HB := n1_; clear n0_ n1_; (try clear hb); (try clear hb2); (try clear hk); (try clear hi); have hcz19_0 : w18.cell? ⟨gb613, 0, none⟩ = some (.int .i64 a1_0) := (blk_cell BK613.out 0).trans rfl; have hcz19_1 : w18.cell? ⟨gb613, 1, none⟩ = some (.int .i64 a1_1) := (blk_cell BK613.out 1).trans rfl; have hfz19_0 := blk_frozen BK613.out 0; have hfz19_1 := blk_frozen BK613.out 1) | ((with_reducible refine gate_callee (f := 35) rfl ?_); refine goesL_ (some 38) rfl rfl Try.func35 (by kernel_rfl) rfl #[.slice A0 l0.length c0, .agg #[.int .i64 a1_0, .int .i64 a1_1], .slice A2 l2.length c2] rfl (by (try simp only [List.map_toArray, List.map_cons, List.map_nil]); first | done | rfl | (simp only [List.length_drop, List.length_take]; rfl)) ?_; (with_reducible refine (trip_Cost.calls kj3 _ _ l0 a1_0 a1_1 _ _ l2 t619 t620 _ ?side1 ?side2 ?side3 ?side4 A15.out).mono ?_); (case side1 => repeat (first | exact (Kd.C_below HR0.out HB.out) | (with_reducible refine Kd.C_alloc ?_ _) | (with_reducible refine Kd.C_drewN ?_ _) | (with_reducible refine Kd.C_drew ?_))); (case side2 => exact HC0.out); (case side3 => repeat (first | exact (Kd.C_below HR2.out HB.out) | (with_reducible refine Kd.C_alloc ?_ _) | (with_reducible refine Kd.C_drewN ?_ _) | (with_reducible refine Kd.C_drew ?_))); (case side4 => exact HC2.out); rintro e w20 ⟨rfl, hb⟩; refine ⟨_, rfl, ?_⟩; have n0_ := Aside0.mk (blk_below (g := gb613) (o := .cells #[.int .i64 a1_0, .int .i64 a1_1] 24 (0, 0)) (by (with_reducible repeat (first | apply kdn | apply kdr | apply kal)); exact BK613.out) hb); have n1_ := Aside0.mk (below_step (by repeat (first | (with_reducible first | exact HB.out | apply lal | apply ldn | apply ldr | refine below_set ?_ GE613.out) | exact HB.out)) hb); clear BK613; clear HB; have BK613 := n0_; have HB := n1_; clear n0_ n1_; (try clear hb); (try clear hb2); (try clear hk); (try clear hi)))
    (try simp only [Act.put, sia, sc0, scs])
    go_cut [51] (fun v51 wc => ∃ (kq : Nat) (x51_15 : Bool), v51 = .bool x51_15 ∧ Aside0 (trishawlaw06_TripGilmore.j1 kq l0 l2 t617 t619 t620 x51_15 a1_0 a1_1 = some r) ∧ Aside0 (kq ≤ kj3) ∧ Aside0 (wc.heap[gb613]? = some (.cells #[.int .i64 a1_0, .int .i64 a1_1] 24 (0, 0))) ∧ Aside0 (Below w.heap.size w wc))
    case first =>
     have H := HC16.out
     clear HC16
     by_cases c21 : t618 = 0
     ·rw [if_pos c21] at H
      have c21b0 : (t618 == 0) = true := beq_iff_eq.mpr c21
      have c21b1 : (t618 != 0) = false := bne_eq_false_iff_eq.mpr c21
      clear c21
      (first | rw [c21b0] | (simp only [i64_w, i32_w]; rw [c21b0]) | skip)
      by_cases c22 : t620 = 0
      ·rw [if_pos c22] at H
       have c22b0 : (t620 == 0) = true := beq_iff_eq.mpr c22
       have c22b1 : (t620 != 0) = false := bne_eq_false_iff_eq.mpr c22
       clear c22
       have H' := Aside0.mk H
       clear H
       go_wp2
       go_meet
       case rel => exact ⟨_, (decide (t619 < t617)), (by first | rfl | (simp; done) | (simp [*]; done)), H', ⟨by have := HJ3.out; first | omega | exact Nat.le_refl _⟩, ⟨by (with_reducible repeat (first | apply kdn | apply kdr | apply kal)); exact BK613.out⟩, ⟨by repeat (first | (with_reducible first | exact HB.out | apply lal | apply ldn | apply ldr | refine below_set ?_ GE613.out) | exact HB.out)⟩⟩
      ·rw [if_neg c22] at H
       have c22b0 : (t620 == 0) = false := beq_eq_false_iff_ne.mpr c22
       have c22b1 : (t620 != 0) = true := bne_iff_ne.mpr c22
       have H' := Aside0.mk H
       clear H
       go_wp2
       go_meet
       case rel => exact ⟨_, (false), (by first | rfl | (simp; done) | (simp [*]; done)), H', ⟨by have := HJ3.out; first | omega | exact Nat.le_refl _⟩, ⟨by (with_reducible repeat (first | apply kdn | apply kdr | apply kal)); exact BK613.out⟩, ⟨by repeat (first | (with_reducible first | exact HB.out | apply lal | apply ldn | apply ldr | refine below_set ?_ GE613.out) | exact HB.out)⟩⟩
     ·rw [if_neg c21] at H
      exact absurd H (by simp)
    case rest =>
     clear HC16
     try clear c1
     try clear c2
     try clear p2
     try clear c3
     try clear c7
     try clear c11
     try clear c15
     try clear c16
     try clear c21
     try clear c21b0
     try clear c21b1
     try clear c22
     try clear c22b0
     try clear c22b1
     try clear hcz17_0
     try clear hcz17_1
     try clear hcz19_0
     try clear hcz19_1
     try clear hcz9_0
     try clear hcz9_1
     try clear hfz17_0
     try clear hfz17_1
     try clear hfz19_0
     try clear hfz19_1
     try clear hfz9_0
     try clear hfz9_1
     try clear p2
     obtain ⟨kq, x51_15, rfl, HA, HJ15, BK613, HB⟩ := hcut
     cases kq with
     | zero => exact absurd HA.out (by simp [trishawlaw06_TripGilmore.j1])
     | succ kj15 =>
      have H := HA.out
      clear HA
      simp only [trishawlaw06_TripGilmore.j1] at H
      by_cases c23 : x51_15 = true
      ·subst c23
       have H1 : (none) = some r := by rw [if_pos rfl] at H; exact H
       clear H
       have H := H1
       clear H1
       exact absurd H (by simp)
      ·replace c23 := Bool.eq_false_iff.mpr c23
       subst c23
       have H1 : ((trip_Tour.f kj15 l0 a1_0 a1_1).bind fun bt621 => (if (l0.length : Int) > 7 then (if bt621.2.2 = 8 then (if (bt621.1.length : Int) = 0 then ((trishawlaw06_alive.f kj15).bind fun t626 => (some t626)) else (none)) else (none)) else ((trip_Cost.f kj15 l0 a1_0 a1_1 bt621.1).bind fun bt627 => (if bt621.2.2 = 0 then (if bt627.2 = 0 then (if bt621.2.1 = t617 then (if bt627.1 = t617 then (if (bt621.1.length : Int) = (l0.length : Int) then (if 0 < (bt621.1.length : Int) then (if (rd bt621.1 0) = 0 then (if t620 = 0 then (trishawlaw06_TripGilmore.j2 kj15 l2 t617 t619 t620 bt621.1 ((l2.length : Int) != (l0.length : Int))) else (trishawlaw06_TripGilmore.j2 kj15 l2 t617 t619 t620 bt621.1 false)) else (none)) else (none)) else (none)) else (none)) else (none)) else (none)) else (none))))) = some r := by rw [if_neg (show ¬ (false = true) by decide)] at H; exact H
       clear H
       have H := H1
       clear H1
       replace H := Option.bind_eq_some_iff.mp H
       obtain ⟨⟨t621, t624, t625⟩, A240, H⟩ := H
       replace H : (if (l0.length : Int) > 7 then (if t625 = 8 then (if (t621.length : Int) = 0 then ((trishawlaw06_alive.f kj15).bind fun t626 => (some t626)) else (none)) else (none)) else ((trip_Cost.f kj15 l0 a1_0 a1_1 t621).bind fun bt627 => (if t625 = 0 then (if bt627.2 = 0 then (if t624 = t617 then (if bt627.1 = t617 then (if (t621.length : Int) = (l0.length : Int) then (if 0 < (t621.length : Int) then (if (rd t621 0) = 0 then (if t620 = 0 then (trishawlaw06_TripGilmore.j2 kj15 l2 t617 t619 t620 t621 ((l2.length : Int) != (l0.length : Int))) else (trishawlaw06_TripGilmore.j2 kj15 l2 t617 t619 t620 t621 false)) else (none)) else (none)) else (none)) else (none)) else (none)) else (none)) else (none)))) = some r := H
       have A24 := Aside0.mk A240
       clear A240
       by_cases c25 : (l0.length : Int) > 7
       ·rw [if_pos c25] at H
        have c25b0 : decide (7 < (l0.length : Int)) = true := decide_eq_true c25
        have c25b1 : decide (7 < l0.length) = true := decide_eq_true (by omega)
        clear c25
        by_cases c26 : t625 = 8
        ·rw [if_pos c26] at H
         have c26b0 : (t625 == 8) = true := beq_iff_eq.mpr c26
         have c26b1 : (t625 != 8) = false := bne_eq_false_iff_eq.mpr c26
         clear c26
         by_cases c27 : (t621.length : Int) = 0
         ·rw [if_pos c27] at H
          have c27b0 : ((t621.length : Int) == 0) = true := beq_iff_eq.mpr c27
          have c27b1 : ((t621.length : Int) != 0) = false := bne_eq_false_iff_eq.mpr c27
          clear c27
          replace H := Option.bind_eq_some_iff.mp H
          obtain ⟨t626, A280, H⟩ := H
          replace H : (some t626) = some r := H
          have A28 := Aside0.mk A280
          clear A280
          obtain rfl := Option.some.inj H
          have hcz29_0 : wc.cell? ⟨gb613, 0, none⟩ = some (.int .i64 a1_0) := (blk_cell BK613.out 0).trans rfl
          have hcz29_1 : wc.cell? ⟨gb613, 1, none⟩ = some (.int .i64 a1_1) := (blk_cell BK613.out 1).trans rfl
          have hfz29_0 := blk_frozen BK613.out 0
          have hfz29_1 := blk_frozen BK613.out 1
          go_wp2_with (first | ((with_reducible refine gate_callee (f := 17) rfl ?_); refine goesL_ (some 55) rfl rfl Try.func17 (by kernel_rfl) rfl #[.slice A0 l0.length c0, .agg #[.int .i64 a1_0, .int .i64 a1_1]] rfl (by (try simp only [List.map_toArray, List.map_cons, List.map_nil]); first | done | rfl | (simp only [List.length_drop, List.length_take]; rfl)) ?_; (with_reducible refine (trip_Tour.calls kj15 _ _ l0 a1_0 a1_1 t621 t624 t625 _ ?side1 ?side2 A24.out).mono ?_); (case side1 => repeat (first | exact (Kd.C_below HR0.out HB.out) | (with_reducible refine Kd.C_alloc ?_ _) | (with_reducible refine Kd.C_drewN ?_ _) | (with_reducible refine Kd.C_drew ?_))); (case side2 => exact HC0.out); rintro e w30 ⟨v622, rfl, ho0, hb⟩; refine ⟨_, rfl, ?_⟩; have n0_ := Aside0.mk (Kd.R_lower ho0 (below_size (by repeat (first | (with_reducible first | exact HB.out | apply lal | apply ldn | apply ldr | refine below_set ?_ GE613.out) | exact HB.out)))); have n1_ := Aside0.mk (blk_below (g := gb613) (o := .cells #[.int .i64 a1_0, .int .i64 a1_1] 24 (0, 0)) (by (with_reducible repeat (first | apply kdn | apply kdr | apply kal)); exact BK613.out) hb); have n2_ := Aside0.mk (below_step (by repeat (first | (with_reducible first | exact HB.out | apply lal | apply ldn | apply ldr | refine below_set ?_ GE613.out) | exact HB.out)) hb); clear BK613; clear HB; have HO623 := n0_; have BK613 := n1_; have HB := n2_; clear n0_ n1_ n2_; (try clear hb); (try clear hb2); (try clear hk); (try clear hi); (try clear ho0); obtain ⟨Ao31, co31, eo31⟩ := Kd.R_slice HO623.out; subst eo31) | (go_at_call 16; (with_reducible refine (trishawlaw06_alive.calls kj15  t626 _ A28.out).mono ?_); rintro e w32 ⟨rfl, hb⟩; have n0_ := Aside0.mk (Kd.R_below (by (with_reducible repeat (first | apply Kd.R_alloc | apply Kd.R_drewN | apply Kd.R_drew)); exact HO623.out) hb); have n1_ := Aside0.mk (blk_below (g := gb613) (o := .cells #[.int .i64 a1_0, .int .i64 a1_1] 24 (0, 0)) (by (with_reducible repeat (first | apply kdn | apply kdr | apply kal)); exact BK613.out) hb); have n2_ := Aside0.mk (below_step (by repeat (first | (with_reducible first | exact HB.out | apply lal | apply ldn | apply ldr | refine below_set ?_ GE613.out) | exact HB.out)) hb); clear HO623; clear BK613; clear HB; have HO623 := n0_; have BK613 := n1_; have HB := n2_; clear n0_ n1_ n2_; (try clear hb); (try clear hb2); (try clear hk); (try clear hi)))
          go_ret
          exact ⟨by first | rfl | (simp [errW_none, errW_some] <;> rfl) | (simp [*, errW_none, errW_some] <;> rfl), by repeat (first | (with_reducible first | exact HB.out | apply lal | apply ldn | apply ldr | refine below_set ?_ GE613.out) | exact HB.out)⟩
         ·rw [if_neg c27] at H
          exact absurd H (by simp)
        ·rw [if_neg c26] at H
         exact absurd H (by simp)
       ·rw [if_neg c25] at H
        have c25b0 : decide (7 < (l0.length : Int)) = false := decide_eq_false c25
        have c25b1 : decide (7 < l0.length) = false := decide_eq_false (by omega)
        clear c25
        replace H := Option.bind_eq_some_iff.mp H
        obtain ⟨⟨t627, t628⟩, A330, H⟩ := H
        replace H : (if t625 = 0 then (if t628 = 0 then (if t624 = t617 then (if t627 = t617 then (if (t621.length : Int) = (l0.length : Int) then (if 0 < (t621.length : Int) then (if (rd t621 0) = 0 then (if t620 = 0 then (trishawlaw06_TripGilmore.j2 kj15 l2 t617 t619 t620 t621 ((l2.length : Int) != (l0.length : Int))) else (trishawlaw06_TripGilmore.j2 kj15 l2 t617 t619 t620 t621 false)) else (none)) else (none)) else (none)) else (none)) else (none)) else (none)) else (none)) = some r := H
        have A33 := Aside0.mk A330
        clear A330
        have HC34 := Aside0.mk H
        clear H
        have hcz35_0 : wc.cell? ⟨gb613, 0, none⟩ = some (.int .i64 a1_0) := (blk_cell BK613.out 0).trans rfl
        have hcz35_1 : wc.cell? ⟨gb613, 1, none⟩ = some (.int .i64 a1_1) := (blk_cell BK613.out 1).trans rfl
        have hfz35_0 := blk_frozen BK613.out 0
        have hfz35_1 := blk_frozen BK613.out 1
        go_upto_region 11 with (first | ((with_reducible refine gate_callee (f := 17) rfl ?_); refine goesL_ (some 55) rfl rfl Try.func17 (by kernel_rfl) rfl #[.slice A0 l0.length c0, .agg #[.int .i64 a1_0, .int .i64 a1_1]] rfl (by (try simp only [List.map_toArray, List.map_cons, List.map_nil]); first | done | rfl | (simp only [List.length_drop, List.length_take]; rfl)) ?_; (with_reducible refine (trip_Tour.calls kj15 _ _ l0 a1_0 a1_1 t621 t624 t625 _ ?side1 ?side2 A24.out).mono ?_); (case side1 => repeat (first | exact (Kd.C_below HR0.out HB.out) | (with_reducible refine Kd.C_alloc ?_ _) | (with_reducible refine Kd.C_drewN ?_ _) | (with_reducible refine Kd.C_drew ?_))); (case side2 => exact HC0.out); rintro e w36 ⟨v622, rfl, ho0, hb⟩; refine ⟨_, rfl, ?_⟩; have n0_ := Aside0.mk (Kd.R_lower ho0 (below_size (by repeat (first | (with_reducible first | exact HB.out | apply lal | apply ldn | apply ldr | refine below_set ?_ GE613.out) | exact HB.out)))); have n1_ := Aside0.mk (blk_below (g := gb613) (o := .cells #[.int .i64 a1_0, .int .i64 a1_1] 24 (0, 0)) (by (with_reducible repeat (first | apply kdn | apply kdr | apply kal)); exact BK613.out) hb); have n2_ := Aside0.mk (below_step (by repeat (first | (with_reducible first | exact HB.out | apply lal | apply ldn | apply ldr | refine below_set ?_ GE613.out) | exact HB.out)) hb); clear BK613; clear HB; have HO623 := n0_; have BK613 := n1_; have HB := n2_; clear n0_ n1_ n2_; (try clear hb); (try clear hb2); (try clear hk); (try clear hi); (try clear ho0); have hcz37_0 : w36.cell? ⟨gb613, 0, none⟩ = some (.int .i64 a1_0) := (blk_cell BK613.out 0).trans rfl; have hcz37_1 : w36.cell? ⟨gb613, 1, none⟩ = some (.int .i64 a1_1) := (blk_cell BK613.out 1).trans rfl; have hfz37_0 := blk_frozen BK613.out 0; have hfz37_1 := blk_frozen BK613.out 1; obtain ⟨Ao38, co38, eo38⟩ := Kd.R_slice HO623.out; subst eo38) | ((with_reducible refine gate_callee (f := 35) rfl ?_); refine goesL_ (some 76) rfl rfl Try.func35 (by kernel_rfl) rfl #[.slice A0 l0.length c0, .agg #[.int .i64 a1_0, .int .i64 a1_1], .slice Ao38 t621.length co38] rfl (by (try simp only [List.map_toArray, List.map_cons, List.map_nil]); first | done | rfl | (simp only [List.length_drop, List.length_take]; rfl)) ?_; (with_reducible refine (trip_Cost.calls kj15 _ _ l0 a1_0 a1_1 _ _ t621 t627 t628 _ ?side1 ?side2 ?side3 ?side4 A33.out).mono ?_); (case side1 => repeat (first | exact (Kd.C_below HR0.out HB.out) | (with_reducible refine Kd.C_alloc ?_ _) | (with_reducible refine Kd.C_drewN ?_ _) | (with_reducible refine Kd.C_drew ?_))); (case side2 => exact HC0.out); (case side3 => repeat (first | exact (Kd.R_reads' HO623.out).2.2 | (with_reducible refine Kd.C_alloc ?_ _) | (with_reducible refine Kd.C_drewN ?_ _) | (with_reducible refine Kd.C_drew ?_))); (case side4 => exact (Kd.R_reads' HO623.out).2.1); rintro e w39 ⟨rfl, hb⟩; refine ⟨_, rfl, ?_⟩; have n0_ := Aside0.mk (Kd.R_below (by (with_reducible repeat (first | apply Kd.R_alloc | apply Kd.R_drewN | apply Kd.R_drew)); exact HO623.out) hb); have n1_ := Aside0.mk (blk_below (g := gb613) (o := .cells #[.int .i64 a1_0, .int .i64 a1_1] 24 (0, 0)) (by (with_reducible repeat (first | apply kdn | apply kdr | apply kal)); exact BK613.out) hb); have n2_ := Aside0.mk (below_step (by repeat (first | (with_reducible first | exact HB.out | apply lal | apply ldn | apply ldr | refine below_set ?_ GE613.out) | exact HB.out)) hb); clear HO623; clear BK613; clear HB; have HO623 := n0_; have BK613 := n1_; have HB := n2_; clear n0_ n1_ n2_; (try clear hb); (try clear hb2); (try clear hk); (try clear hi)))
        (try simp only [Act.put, sia, sc0, scs])
        go_cut [118] (fun v118 wc => ∃ (kq : Nat) (x118_33 : Bool), v118 = .bool x118_33 ∧ Aside0 (trishawlaw06_TripGilmore.j2 kq l2 t617 t619 t620 t621 x118_33 = some r) ∧ Aside0 (kq ≤ kj15) ∧ Aside0 (Kd.R (Kd.int .i64) 3 wc w.heap.size (fun _ => True) (.slice Ao38 t621.length co38) t621) ∧ Aside0 (wc.heap[gb613]? = some (.cells #[.int .i64 a1_0, .int .i64 a1_1] 24 (0, 0))) ∧ Aside0 (Below w.heap.size w wc))
        case first =>
         have H := HC34.out
         clear HC34
         by_cases c40 : t625 = 0
         ·rw [if_pos c40] at H
          have c40b0 : (t625 == 0) = true := beq_iff_eq.mpr c40
          have c40b1 : (t625 != 0) = false := bne_eq_false_iff_eq.mpr c40
          clear c40
          (first | rw [c40b0] | (simp only [i64_w, i32_w]; rw [c40b0]) | skip)
          by_cases c41 : t628 = 0
          ·rw [if_pos c41] at H
           have c41b0 : (t628 == 0) = true := beq_iff_eq.mpr c41
           have c41b1 : (t628 != 0) = false := bne_eq_false_iff_eq.mpr c41
           clear c41
           by_cases c42 : t624 = t617
           ·rw [if_pos c42] at H
            have c42b0 : (t624 == t617) = true := beq_iff_eq.mpr c42
            have c42b1 : (t624 != t617) = false := bne_eq_false_iff_eq.mpr c42
            clear c42
            by_cases c43 : t627 = t617
            ·rw [if_pos c43] at H
             have c43b0 : (t627 == t617) = true := beq_iff_eq.mpr c43
             have c43b1 : (t627 != t617) = false := bne_eq_false_iff_eq.mpr c43
             clear c43
             by_cases c44 : (t621.length : Int) = (l0.length : Int)
             ·rw [if_pos c44] at H
              have c44b0 : ((t621.length : Int) == (l0.length : Int)) = true := beq_iff_eq.mpr c44
              have c44b1 : ((t621.length : Int) != (l0.length : Int)) = false := bne_eq_false_iff_eq.mpr c44
              have c44b2 : (t621.length == l0.length) = true := by first | simpa using c44 | (simp at c44 ⊢; omega)
              clear c44
              by_cases c45 : 0 < (t621.length : Int)
              ·rw [if_pos c45] at H
               have c45b0 : decide (0 < (t621.length : Int)) = true := decide_eq_true c45
               have c45b1 : decide (0 < t621.length) = true := decide_eq_true (by omega)
               clear c45
               by_cases c46 : (rd t621 0) = 0
               ·rw [if_pos c46] at H
                have c46b0 : ((rd t621 0) == 0) = true := beq_iff_eq.mpr c46
                have c46b1 : ((rd t621 0) != 0) = false := bne_eq_false_iff_eq.mpr c46
                clear c46
                by_cases c47 : t620 = 0
                ·rw [if_pos c47] at H
                 have c47b0 : (t620 == 0) = true := beq_iff_eq.mpr c47
                 have c47b1 : (t620 != 0) = false := bne_eq_false_iff_eq.mpr c47
                 clear c47
                 have H' := Aside0.mk H
                 clear H
                 have p629 : 0 ≤ (0 : Int) := (by omega)
                 have q629 : 0 < (t621.length : Int) := of_decide_eq_true (by first | (with_reducible assumption) | assumption)
                 obtain ⟨ad629, e629, hx629_0⟩ := Kd.at_int (Kd.R_reads' HO623.out).2.2 0 p629 q629
                 cases e629
                 have qi629 : (0 < t621.length) = True := eq_true (by omega)
                 (try rw [show ((0 : Int)).toNat = 0 from rfl] at hx629_0)
                 (try rw [Addr.add_zero'] at hx629_0)
                 replace p629 := eq_true p629
                 replace q629 := eq_true q629
                 go_wp2
                 go_meet
                 case rel => exact ⟨_, (((l2.length : Int) != (l0.length : Int))), (by first | rfl | (simp; done) | (simp [*]; done)), H', ⟨by have := HJ3.out; have := HJ15.out; first | omega | exact Nat.le_refl _⟩, ⟨by (with_reducible repeat (first | apply Kd.R_alloc | apply Kd.R_drewN | apply Kd.R_drew)); exact HO623.out⟩, ⟨by (with_reducible repeat (first | apply kdn | apply kdr | apply kal)); exact BK613.out⟩, ⟨by repeat (first | (with_reducible first | exact HB.out | apply lal | apply ldn | apply ldr | refine below_set ?_ GE613.out) | exact HB.out)⟩⟩
                ·rw [if_neg c47] at H
                 have c47b0 : (t620 == 0) = false := beq_eq_false_iff_ne.mpr c47
                 have c47b1 : (t620 != 0) = true := bne_iff_ne.mpr c47
                 have H' := Aside0.mk H
                 clear H
                 have p629 : 0 ≤ (0 : Int) := (by omega)
                 have q629 : 0 < (t621.length : Int) := of_decide_eq_true (by first | (with_reducible assumption) | assumption)
                 obtain ⟨ad629, e629, hx629_0⟩ := Kd.at_int (Kd.R_reads' HO623.out).2.2 0 p629 q629
                 cases e629
                 have qi629 : (0 < t621.length) = True := eq_true (by omega)
                 (try rw [show ((0 : Int)).toNat = 0 from rfl] at hx629_0)
                 (try rw [Addr.add_zero'] at hx629_0)
                 replace p629 := eq_true p629
                 replace q629 := eq_true q629
                 go_wp2
                 go_meet
                 case rel => exact ⟨_, (false), (by first | rfl | (simp; done) | (simp [*]; done)), H', ⟨by have := HJ3.out; have := HJ15.out; first | omega | exact Nat.le_refl _⟩, ⟨by (with_reducible repeat (first | apply Kd.R_alloc | apply Kd.R_drewN | apply Kd.R_drew)); exact HO623.out⟩, ⟨by (with_reducible repeat (first | apply kdn | apply kdr | apply kal)); exact BK613.out⟩, ⟨by repeat (first | (with_reducible first | exact HB.out | apply lal | apply ldn | apply ldr | refine below_set ?_ GE613.out) | exact HB.out)⟩⟩
               ·rw [if_neg c46] at H
                exact absurd H (by simp)
              ·rw [if_neg c45] at H
               exact absurd H (by simp)
             ·rw [if_neg c44] at H
              exact absurd H (by simp)
            ·rw [if_neg c43] at H
             exact absurd H (by simp)
           ·rw [if_neg c42] at H
            exact absurd H (by simp)
          ·rw [if_neg c41] at H
           exact absurd H (by simp)
         ·rw [if_neg c40] at H
          exact absurd H (by simp)
        case rest =>
         clear HC34
         try clear c1
         try clear c2
         try clear p2
         try clear c3
         try clear c4
         try clear p6
         try clear q6
         try clear hx6
         try clear qi6
         try clear c7
         try clear c11
         try clear c15
         try clear c16
         try clear c17
         try clear c21
         try clear c21b0
         try clear c21b1
         try clear c22
         try clear c22b0
         try clear c22b1
         try clear c23
         try clear c25
         try clear c25b0
         try clear c25b1
         try clear c26
         try clear c26b0
         try clear c26b1
         try clear c27
         try clear c27b0
         try clear c27b1
         try clear c35
         try clear c40
         try clear c40b0
         try clear c40b1
         try clear c41
         try clear c41b0
         try clear c41b1
         try clear c42
         try clear c42b0
         try clear c42b1
         try clear c43
         try clear c43b0
         try clear c43b1
         try clear c44
         try clear c44b0
         try clear c44b1
         try clear c44b2
         try clear c45
         try clear c45b0
         try clear c45b1
         try clear c46
         try clear c46b0
         try clear c46b1
         try clear c47
         try clear c47b0
         try clear c47b1
         try clear hcz17_0
         try clear hcz17_1
         try clear hcz19_0
         try clear hcz19_1
         try clear hcz29_0
         try clear hcz29_1
         try clear hcz35_0
         try clear hcz35_1
         try clear hcz37_0
         try clear hcz37_1
         try clear hcz9_0
         try clear hcz9_1
         try clear hfz17_0
         try clear hfz17_1
         try clear hfz19_0
         try clear hfz19_1
         try clear hfz29_0
         try clear hfz29_1
         try clear hfz35_0
         try clear hfz35_1
         try clear hfz37_0
         try clear hfz37_1
         try clear hfz9_0
         try clear hfz9_1
         try clear hx629_0
         try clear p2
         try clear p629
         try clear q629
         obtain ⟨kq, x118_33, rfl, HA, HJ33, HO_11, BK613, HB⟩ := hcut
         cases kq with
         | zero => exact absurd HA.out (by simp [trishawlaw06_TripGilmore.j2])
         | succ kj33 =>
          have H := HA.out
          clear HA
          simp only [trishawlaw06_TripGilmore.j2] at H
          by_cases c48 : x118_33 = true
          ·subst c48
           have H1 : (none) = some r := by rw [if_pos rfl] at H; exact H
           clear H
           have H := H1
           clear H1
           exact absurd H (by simp)
          ·replace c48 := Bool.eq_false_iff.mpr c48
           subst c48
           have H1 : (if t620 = 0 then (if t619 = t617 then (if 0 < (l2.length : Int) then (trishawlaw06_TripGilmore.j3 kj33 l2 t621 ((rd l2 0) != 0)) else (none)) else (trishawlaw06_TripGilmore.j3 kj33 l2 t621 true)) else (trishawlaw06_TripGilmore.j3 kj33 l2 t621 true)) = some r := by rw [if_neg (show ¬ (false = true) by decide)] at H; exact H
           clear H
           have H := H1
           clear H1
           have HC49 := Aside0.mk H
           clear H
           go_upto_region 13 with (fail)
           go_cut [131] (fun v131 wc => ∃ (kq : Nat) (x131_48 : Bool), v131 = .bool x131_48 ∧ Aside0 (trishawlaw06_TripGilmore.j3 kq l2 t621 x131_48 = some r) ∧ Aside0 (kq ≤ kj33) ∧ Aside0 (Kd.R (Kd.int .i64) 3 wc w.heap.size (fun _ => True) (.slice Ao38 t621.length co38) t621) ∧ Aside0 (wc.heap[gb613]? = some (.cells #[.int .i64 a1_0, .int .i64 a1_1] 24 (0, 0))) ∧ Aside0 (Below w.heap.size w wc))
           case first =>
            have H := HC49.out
            clear HC49
            by_cases c50 : t620 = 0
            ·rw [if_pos c50] at H
             have c50b0 : (t620 == 0) = true := beq_iff_eq.mpr c50
             have c50b1 : (t620 != 0) = false := bne_eq_false_iff_eq.mpr c50
             clear c50
             (first | rw [c50b0] | (simp only [i64_w, i32_w]; rw [c50b0]) | skip)
             by_cases c51 : t619 = t617
             ·rw [if_pos c51] at H
              have c51b0 : (t619 == t617) = true := beq_iff_eq.mpr c51
              have c51b1 : (t619 != t617) = false := bne_eq_false_iff_eq.mpr c51
              clear c51
              by_cases c52 : 0 < (l2.length : Int)
              ·rw [if_pos c52] at H
               have c52b0 : decide (0 < (l2.length : Int)) = true := decide_eq_true c52
               have c52b1 : decide (0 < l2.length) = true := decide_eq_true (by omega)
               clear c52
               have H' := Aside0.mk H
               clear H
               have p630 : 0 ≤ (0 : Int) := (by omega)
               have q630 : 0 < (l2.length : Int) := of_decide_eq_true (by first | (with_reducible assumption) | assumption)
               obtain ⟨ad630, e630, hx630_0⟩ := Kd.at_int HR2.out 0 p630 q630
               cases e630
               have qi630 : (0 < l2.length) = True := eq_true (by omega)
               (try rw [show ((0 : Int)).toNat = 0 from rfl] at hx630_0)
               (try rw [Addr.add_zero'] at hx630_0)
               replace hx630_0 := (HB.out.cell (World.block_lt_of_cell? w _ hx630_0)).trans hx630_0
               replace p630 := eq_true p630
               replace q630 := eq_true q630
               go_wp2
               go_meet
               case rel => exact ⟨_, (((rd l2 0) != 0)), (by first | rfl | (simp; done) | (simp [*]; done)), H', ⟨by have := HJ3.out; have := HJ15.out; have := HJ33.out; first | omega | exact Nat.le_refl _⟩, ⟨by (with_reducible repeat (first | apply Kd.R_alloc | apply Kd.R_drewN | apply Kd.R_drew)); exact HO_11.out⟩, ⟨by (with_reducible repeat (first | apply kdn | apply kdr | apply kal)); exact BK613.out⟩, ⟨by repeat (first | (with_reducible first | exact HB.out | apply lal | apply ldn | apply ldr | refine below_set ?_ GE613.out) | exact HB.out)⟩⟩
              ·rw [if_neg c52] at H
               exact absurd H (by simp)
             ·rw [if_neg c51] at H
              have c51b0 : (t619 == t617) = false := beq_eq_false_iff_ne.mpr c51
              have c51b1 : (t619 != t617) = true := bne_iff_ne.mpr c51
              have H' := Aside0.mk H
              clear H
              go_wp2
              go_meet
              case rel => exact ⟨_, (true), (by first | rfl | (simp; done) | (simp [*]; done)), H', ⟨by have := HJ3.out; have := HJ15.out; have := HJ33.out; first | omega | exact Nat.le_refl _⟩, ⟨by (with_reducible repeat (first | apply Kd.R_alloc | apply Kd.R_drewN | apply Kd.R_drew)); exact HO_11.out⟩, ⟨by (with_reducible repeat (first | apply kdn | apply kdr | apply kal)); exact BK613.out⟩, ⟨by repeat (first | (with_reducible first | exact HB.out | apply lal | apply ldn | apply ldr | refine below_set ?_ GE613.out) | exact HB.out)⟩⟩
            ·rw [if_neg c50] at H
             have c50b0 : (t620 == 0) = false := beq_eq_false_iff_ne.mpr c50
             have c50b1 : (t620 != 0) = true := bne_iff_ne.mpr c50
             (first | rw [c50b0] | (simp only [i64_w, i32_w]; rw [c50b0]) | skip)
             have H' := Aside0.mk H
             clear H
             go_wp2
             go_meet
             case rel => exact ⟨_, (true), (by first | rfl | (simp; done) | (simp [*]; done)), H', ⟨by have := HJ3.out; have := HJ15.out; have := HJ33.out; first | omega | exact Nat.le_refl _⟩, ⟨by (with_reducible repeat (first | apply Kd.R_alloc | apply Kd.R_drewN | apply Kd.R_drew)); exact HO_11.out⟩, ⟨by (with_reducible repeat (first | apply kdn | apply kdr | apply kal)); exact BK613.out⟩, ⟨by repeat (first | (with_reducible first | exact HB.out | apply lal | apply ldn | apply ldr | refine below_set ?_ GE613.out) | exact HB.out)⟩⟩
           case rest =>
            clear HC49
            try clear c1
            try clear c2
            try clear p2
            try clear c3
            try clear c4
            try clear c5
            try clear p6
            try clear q6
            try clear hx6
            try clear qi6
            try clear c7
            try clear c11
            try clear c15
            try clear c16
            try clear c17
            try clear c21
            try clear c21b0
            try clear c21b1
            try clear c22
            try clear c22b0
            try clear c22b1
            try clear c23
            try clear c25
            try clear c25b0
            try clear c25b1
            try clear c26
            try clear c26b0
            try clear c26b1
            try clear c27
            try clear c27b0
            try clear c27b1
            try clear c35
            try clear c40
            try clear c40b0
            try clear c40b1
            try clear c41
            try clear c41b0
            try clear c41b1
            try clear c42
            try clear c42b0
            try clear c42b1
            try clear c43
            try clear c43b0
            try clear c43b1
            try clear c44
            try clear c44b0
            try clear c44b1
            try clear c44b2
            try clear c45
            try clear c45b0
            try clear c45b1
            try clear c46
            try clear c46b0
            try clear c46b1
            try clear c47
            try clear c47b0
            try clear c47b1
            try clear c48
            try clear c50
            try clear c50b0
            try clear c50b1
            try clear c51
            try clear c51b0
            try clear c51b1
            try clear c52
            try clear c52b0
            try clear c52b1
            try clear hcz17_0
            try clear hcz17_1
            try clear hcz19_0
            try clear hcz19_1
            try clear hcz29_0
            try clear hcz29_1
            try clear hcz35_0
            try clear hcz35_1
            try clear hcz37_0
            try clear hcz37_1
            try clear hcz9_0
            try clear hcz9_1
            try clear hfz17_0
            try clear hfz17_1
            try clear hfz19_0
            try clear hfz19_1
            try clear hfz29_0
            try clear hfz29_1
            try clear hfz35_0
            try clear hfz35_1
            try clear hfz37_0
            try clear hfz37_1
            try clear hfz9_0
            try clear hfz9_1
            try clear hx629_0
            try clear hx630_0
            try clear p2
            try clear p6
            try clear p629
            try clear p630
            try clear q6
            try clear q629
            try clear q630
            obtain ⟨kq, x131_48, rfl, HA, HJ48, HO_11, BK613, HB⟩ := hcut
            cases kq with
            | zero => exact absurd HA.out (by simp [trishawlaw06_TripGilmore.j3])
            | succ kj48 =>
             have H := HA.out
             clear HA
             simp only [trishawlaw06_TripGilmore.j3] at H
             by_cases c53 : x131_48 = true
             ·subst c53
              have H1 : ((trishawlaw06_alive.f kj48).bind fun t631 => (some t631)) = some r := by rw [if_pos rfl] at H; exact H
              clear H
              have H := H1
              clear H1
              replace H := Option.bind_eq_some_iff.mp H
              obtain ⟨t631, A540, H⟩ := H
              replace H : (some t631) = some r := H
              have A54 := Aside0.mk A540
              clear A540
              obtain rfl := Option.some.inj H
              go_wp2_with (first | ((with_reducible refine gate_callee (f := 16) rfl ?_); refine goesL_ (some 132) rfl rfl Try.func16 (by kernel_rfl) rfl #[] rfl (by (try simp only [List.map_toArray, List.map_cons, List.map_nil]); first | done | rfl | (simp only [List.length_drop, List.length_take]; rfl)) ?_; (with_reducible refine (trishawlaw06_alive.calls kj48  t631 _ A54.out).mono ?_); rintro e w55 ⟨rfl, hb⟩; refine ⟨_, rfl, ?_⟩; have n0_ := Aside0.mk (Kd.R_below (by (with_reducible repeat (first | apply Kd.R_alloc | apply Kd.R_drewN | apply Kd.R_drew)); exact HO_11.out) hb); have n1_ := Aside0.mk (blk_below (g := gb613) (o := .cells #[.int .i64 a1_0, .int .i64 a1_1] 24 (0, 0)) (by (with_reducible repeat (first | apply kdn | apply kdr | apply kal)); exact BK613.out) hb); have n2_ := Aside0.mk (below_step (by repeat (first | (with_reducible first | exact HB.out | apply lal | apply ldn | apply ldr | refine below_set ?_ GE613.out) | exact HB.out)) hb); clear HO_11; clear BK613; clear HB; have HO_11 := n0_; have BK613 := n1_; have HB := n2_; clear n0_ n1_ n2_; (try clear hb); (try clear hb2); (try clear hk); (try clear hi)))
              go_ret
              exact ⟨by first | rfl | (simp [errW_none, errW_some] <;> rfl) | (simp [*, errW_none, errW_some] <;> rfl), by repeat (first | (with_reducible first | exact HB.out | apply lal | apply ldn | apply ldr | refine below_set ?_ GE613.out) | exact HB.out)⟩
             ·replace c53 := Bool.eq_false_iff.mpr c53
              subst c53
              have H1 : (trishawlaw06_TripGilmore.l0 kj48 l2 t621 0) = some r := by rw [if_neg (show ¬ (false = true) by decide)] at H; exact H
              clear H
              have H := H1
              clear H1
              have H' := Aside0.mk H
              clear H
              go_wp2
              go_loopg [16] kj48 (fun kq v16 w' => ∃ (x16_5 : Int), v16 = .int .i64 x16_5 ∧ Aside0 (trishawlaw06_TripGilmore.l0 kq l2 t621 x16_5 = some r) ∧ Aside0 (kq ≤ kj48) ∧ Aside0 (Kd.R (Kd.int .i64) 3 w' w.heap.size (fun _ => True) (.slice Ao38 t621.length co38) t621) ∧ Aside0 (w'.heap[gb613]? = some (.cells #[.int .i64 a1_0, .int .i64 a1_1] 24 (0, 0))) ∧ Aside0 (Below w.heap.size w w'))
              case atStart => exact ⟨(0), (by first | rfl | (simp; done) | (simp [*]; done)), H', ⟨Nat.le_refl _⟩, ⟨by (with_reducible repeat (first | apply Kd.R_alloc | apply Kd.R_drewN | apply Kd.R_drew)); exact HO_11.out⟩, ⟨by (with_reducible repeat (first | apply kdn | apply kdr | apply kal)); exact BK613.out⟩, ⟨by repeat (first | (with_reducible first | exact HB.out | apply lal | apply ldn | apply ldr | refine below_set ?_ GE613.out) | exact HB.out)⟩⟩
              case round =>
               clear H'
               try clear c1
               try clear c2
               try clear p2
               try clear c3
               try clear c4
               try clear c5
               try clear p6
               try clear q6
               try clear hx6
               try clear qi6
               try clear c7
               try clear c11
               try clear c15
               try clear c16
               try clear c17
               try clear c21
               try clear c21b0
               try clear c21b1
               try clear c22
               try clear c22b0
               try clear c22b1
               try clear c23
               try clear c25
               try clear c25b0
               try clear c25b1
               try clear c26
               try clear c26b0
               try clear c26b1
               try clear c27
               try clear c27b0
               try clear c27b1
               try clear c35
               try clear c40
               try clear c40b0
               try clear c40b1
               try clear c41
               try clear c41b0
               try clear c41b1
               try clear c42
               try clear c42b0
               try clear c42b1
               try clear c43
               try clear c43b0
               try clear c43b1
               try clear c44
               try clear c44b0
               try clear c44b1
               try clear c44b2
               try clear c45
               try clear c45b0
               try clear c45b1
               try clear c46
               try clear c46b0
               try clear c46b1
               try clear c47
               try clear c47b0
               try clear c47b1
               try clear c48
               try clear c50
               try clear c50b0
               try clear c50b1
               try clear c51
               try clear c51b0
               try clear c51b1
               try clear c52
               try clear c52b0
               try clear c52b1
               try clear c53
               try clear hcz17_0
               try clear hcz17_1
               try clear hcz19_0
               try clear hcz19_1
               try clear hcz29_0
               try clear hcz29_1
               try clear hcz35_0
               try clear hcz35_1
               try clear hcz37_0
               try clear hcz37_1
               try clear hcz9_0
               try clear hcz9_1
               try clear hfz17_0
               try clear hfz17_1
               try clear hfz19_0
               try clear hfz19_1
               try clear hfz29_0
               try clear hfz29_1
               try clear hfz35_0
               try clear hfz35_1
               try clear hfz37_0
               try clear hfz37_1
               try clear hfz9_0
               try clear hfz9_1
               try clear hx629_0
               try clear hx630_0
               try clear p2
               try clear p6
               try clear p629
               try clear p630
               try clear q6
               try clear q629
               try clear q630
               obtain ⟨x16_5, rfl, HA, HK5, HO_11, BK613, HB⟩ := hrel
               cases gk with
               | zero => exact absurd HA.out (by simp [trishawlaw06_TripGilmore.l0])
               | succ k5 =>
                have H := HA.out
                clear HA
                simp only [trishawlaw06_TripGilmore.l0] at H
                by_cases c56 : x16_5 < (t621.length : Int)
                ·rw [if_pos c56] at H
                 have c56b0 : decide (x16_5 < (t621.length : Int)) = true := decide_eq_true c56
                 clear c56
                 by_cases c57 : 0 ≤ x16_5
                 ·rw [if_pos c57] at H
                  have c57b0 : decide (0 ≤ x16_5) = true := decide_eq_true c57
                  clear c57
                  by_cases c58 : x16_5 < (l2.length : Int)
                  ·rw [if_pos c58] at H
                   have c58b0 : decide (x16_5 < (l2.length : Int)) = true := decide_eq_true c58
                   clear c58
                   by_cases c59 : (rd t621 x16_5) = (rd l2 x16_5)
                   ·rw [if_pos c59] at H
                    have c59b0 : ((rd t621 x16_5) == (rd l2 x16_5)) = true := beq_iff_eq.mpr c59
                    have c59b1 : ((rd t621 x16_5) != (rd l2 x16_5)) = false := bne_eq_false_iff_eq.mpr c59
                    clear c59
                    have H' := Aside0.mk H
                    clear H
                    try go_wp2
                    have n0_ := Aside0.mk (Kd.R_drew HO_11.out)
                    have n1_ := Aside0.mk (blk_drew BK613.out)
                    have n2_ := Aside0.mk (below_drew1 HB.out)
                    clear HO_11
                    clear BK613
                    clear HB
                    have HO_11 := n0_
                    have BK613 := n1_
                    have HB := n2_
                    clear n0_ n1_ n2_
                    have p632 : 0 ≤ (x16_5 : Int) := of_decide_eq_true (by first | (with_reducible assumption) | assumption)
                    have q632 : x16_5 < (t621.length : Int) := of_decide_eq_true (by first | (with_reducible assumption) | assumption)
                    obtain ⟨ad632, e632, hx632_0⟩ := Kd.at_int (Kd.R_reads' HO_11.out).2.2 x16_5 p632 q632
                    cases e632
                    replace p632 := eq_true p632
                    replace q632 := eq_true q632
                    have p633 : 0 ≤ (x16_5 : Int) := of_decide_eq_true (by first | (with_reducible assumption) | assumption)
                    have q633 : x16_5 < (l2.length : Int) := of_decide_eq_true (by first | (with_reducible assumption) | assumption)
                    obtain ⟨ad633, e633, hx633_0⟩ := Kd.at_int HR2.out x16_5 p633 q633
                    have hw633_0 := hx633_0
                    cases e633
                    replace hx633_0 := (HB.out.cell (World.block_lt_of_cell? w _ hx633_0)).trans hx633_0
                    replace p633 := eq_true p633
                    replace q633 := eq_true q633
                    refine start_ (n := 9) (S := fun w' => w'.cell? (ad632.add (x16_5).toNat) = some (.int .i64 (rd t621 x16_5)) ∧ w'.cell? (ad633.add (x16_5).toNat) = some (.int .i64 (rd l2 x16_5))) (ds := []) #[false, false, false, false, false, false, false, false, false] (by kernel_rfl) rfl rfl ⟨hx632_0, ((HB.out.cell (World.block_lt_of_cell? w _ hw633_0)).trans hw633_0)⟩ (fun hHeld => ?_); refine with_tabW trishawlaw06_TripGilmore.tab18 trishawlaw06_TripGilmore.bits18 (fun HT_ HW_ => ?_)
                    generalize wr.drew = w60 at HO_11 BK613 HB hx632_0 hx633_0 hHeld ⊢
                    refine pure_ (i := 0) (N := some 139) (v := ?_) (a' := ?_) #[true, false, false, false, false, false, false, false, false] rfl rfl (any_of HT_.out (by kernel_rfl)) (fun _ _ _ h => h) (Or.inl ⟨by rfl, ?_⟩) ?_ ?_
                    rotate_left
                    ·intro w'
                     go_simp
                     with_reducible rfl
                    rotate_left
                    ·simp only [Act.put, sia, sc0, scs, i64_w, i32_w]
                     rfl
                    refine pure_ (i := 1) (N := some 140) (v := ?_) (a' := ?_) #[true, true, false, false, false, false, false, false, false] rfl rfl (any_of HT_.out (by kernel_rfl)) (fun _ _ _ h => h) (Or.inl ⟨by rfl, ?_⟩) ?_ ?_
                    rotate_left
                    ·intro w'
                     go_simp
                     with_reducible rfl
                    rotate_left
                    ·simp only [Act.put, sia, sc0, scs, i64_w, i32_w]
                     rfl
                    refine pure_ (i := 2) (N := some 141) (v := ?_) (a' := ?_) #[true, true, true, false, false, false, false, false, false] rfl rfl (any_of HT_.out (by kernel_rfl)) (fun _ _ _ h => h) (Or.inl ⟨by rfl, ?_⟩) ?_ ?_
                    rotate_left
                    ·intro w'
                     go_simp
                     with_reducible rfl
                    rotate_left
                    ·simp only [Act.put, sia, sc0, scs, i64_w, i32_w]
                     rfl
                    refine pure_ (i := 4) (N := some 143) (v := ?_) (a' := ?_) #[true, true, true, false, true, false, false, false, false] rfl rfl (any_of HT_.out (by kernel_rfl)) (fun _ _ _ h => h) (Or.inl ⟨by rfl, ?_⟩) ?_ ?_
                    rotate_left
                    ·intro w'
                     go_simp
                     with_reducible rfl
                    rotate_left
                    ·simp only [Act.put, sia, sc0, scs, i64_w, i32_w]
                     rfl
                    refine pure_ (i := 5) (N := some 144) (v := ?_) (a' := ?_) #[true, true, true, false, true, true, false, false, false] rfl rfl (any_of HT_.out (by kernel_rfl)) (fun _ _ _ h => h) (Or.inl ⟨by rfl, ?_⟩) ?_ ?_
                    rotate_left
                    ·intro w'
                     go_simp
                     with_reducible rfl
                    rotate_left
                    ·simp only [Act.put, sia, sc0, scs, i64_w, i32_w]
                     rfl
                    refine pure_ (i := 6) (N := some 145) (v := ?_) (a' := ?_) #[true, true, true, false, true, true, true, false, false] rfl rfl (any_of HT_.out (by kernel_rfl)) (fun _ _ _ h => h) (Or.inl ⟨by rfl, ?_⟩) ?_ ?_
                    rotate_left
                    ·intro w'
                     go_simp
                     with_reducible rfl
                    rotate_left
                    ·simp only [Act.put, sia, sc0, scs, i64_w, i32_w]
                     rfl
                    refine take_ (i := 3) (N := some 142) (v := ?_) (a' := ?_) #[true, true, true, true, true, true, true, false, false] rfl rfl (take_ofW HT_.out HW_.out (by kernel_rfl)) (fun _ _ _ h => h) (Or.inl ⟨by rfl, ?_⟩) hHeld ?_ ?_
                    rotate_left
                    ·rintro w' ⟨s0, s1⟩
                     go_simp
                     with_reducible rfl
                    rotate_left
                    ·simp only [Act.put, sia, sc0, scs, i64_w, i32_w]
                     rfl
                    refine take_ (i := 7) (N := some 146) (v := ?_) (a' := ?_) #[true, true, true, true, true, true, true, true, false] rfl rfl (take_ofW HT_.out HW_.out (by kernel_rfl)) (fun _ _ _ h => h) (Or.inl ⟨by rfl, ?_⟩) hHeld ?_ ?_
                    rotate_left
                    ·rintro w' ⟨s0, s1⟩
                     go_simp
                     with_reducible rfl
                    rotate_left
                    ·simp only [Act.put, sia, sc0, scs, i64_w, i32_w]
                     rfl
                    refine pure_ (i := 8) (N := some 147) (v := ?_) (a' := ?_) #[true, true, true, true, true, true, true, true, true] rfl rfl (any_of HT_.out (by kernel_rfl)) (fun _ _ _ h => h) (Or.inl ⟨by rfl, ?_⟩) ?_ ?_
                    rotate_left
                    ·intro w'
                     go_simp
                     with_reducible rfl
                    rotate_left
                    ·simp only [Act.put, sia, sc0, scs, i64_w, i32_w]
                     rfl
                    refine done_ (done_of HT_.out (by kernel_rfl)) ?_
                    try go_wp2
                    go_roundg k5
                    case measure => have := HJ3.out; have := HJ15.out; have := HJ33.out; have := HJ48.out; have := HK5.out; omega
                    case rel => exact ⟨(wrap64 (x16_5 + 1)), (by first | rfl | (simp; done) | (simp [*]; done)), H', ⟨by have := HJ3.out; have := HJ15.out; have := HJ33.out; have := HJ48.out; have := HK5.out; omega⟩, ⟨by (with_reducible repeat (first | apply Kd.R_alloc | apply Kd.R_drewN | apply Kd.R_drew)); exact HO_11.out⟩, ⟨by (with_reducible repeat (first | apply kdn | apply kdr | apply kal)); exact BK613.out⟩, ⟨by repeat (first | (with_reducible first | exact HB.out | apply lal | apply ldn | apply ldr | refine below_set ?_ GE613.out) | exact HB.out)⟩⟩
                   ·rw [if_neg c59] at H
                    have c59b0 : ((rd t621 x16_5) == (rd l2 x16_5)) = false := beq_eq_false_iff_ne.mpr c59
                    have c59b1 : ((rd t621 x16_5) != (rd l2 x16_5)) = true := bne_iff_ne.mpr c59
                    by_cases c61 : (rd t621 x16_5) < (rd l2 x16_5)
                    ·rw [if_pos c61] at H
                     have c61b0 : decide ((rd t621 x16_5) < (rd l2 x16_5)) = true := decide_eq_true c61
                     clear c61
                     replace H := Option.bind_eq_some_iff.mp H
                     obtain ⟨t636, A620, H⟩ := H
                     replace H : (some t636) = some r := H
                     have A62 := Aside0.mk A620
                     clear A620
                     obtain rfl := Option.some.inj H
                     try go_wp2
                     have n0_ := Aside0.mk (Kd.R_drew HO_11.out)
                     have n1_ := Aside0.mk (blk_drew BK613.out)
                     have n2_ := Aside0.mk (below_drew1 HB.out)
                     clear HO_11
                     clear BK613
                     clear HB
                     have HO_11 := n0_
                     have BK613 := n1_
                     have HB := n2_
                     clear n0_ n1_ n2_
                     have p632 : 0 ≤ (x16_5 : Int) := of_decide_eq_true (by first | (with_reducible assumption) | assumption)
                     have q632 : x16_5 < (t621.length : Int) := of_decide_eq_true (by first | (with_reducible assumption) | assumption)
                     obtain ⟨ad632, e632, hx632_0⟩ := Kd.at_int (Kd.R_reads' HO_11.out).2.2 x16_5 p632 q632
                     cases e632
                     replace p632 := eq_true p632
                     replace q632 := eq_true q632
                     have p633 : 0 ≤ (x16_5 : Int) := of_decide_eq_true (by first | (with_reducible assumption) | assumption)
                     have q633 : x16_5 < (l2.length : Int) := of_decide_eq_true (by first | (with_reducible assumption) | assumption)
                     obtain ⟨ad633, e633, hx633_0⟩ := Kd.at_int HR2.out x16_5 p633 q633
                     have hw633_0 := hx633_0
                     cases e633
                     replace hx633_0 := (HB.out.cell (World.block_lt_of_cell? w _ hx633_0)).trans hx633_0
                     replace p633 := eq_true p633
                     replace q633 := eq_true q633
                     refine start_ (n := 9) (S := fun w' => w'.cell? (ad632.add (x16_5).toNat) = some (.int .i64 (rd t621 x16_5)) ∧ w'.cell? (ad633.add (x16_5).toNat) = some (.int .i64 (rd l2 x16_5))) (ds := []) #[false, false, false, false, false, false, false, false, false] (by kernel_rfl) rfl rfl ⟨hx632_0, ((HB.out.cell (World.block_lt_of_cell? w _ hw633_0)).trans hw633_0)⟩ (fun hHeld => ?_); refine with_tabW trishawlaw06_TripGilmore.tab18 trishawlaw06_TripGilmore.bits18 (fun HT_ HW_ => ?_)
                     generalize wr.drew = w63 at HO_11 BK613 HB hx632_0 hx633_0 hHeld ⊢
                     refine pure_ (i := 0) (N := some 139) (v := ?_) (a' := ?_) #[true, false, false, false, false, false, false, false, false] rfl rfl (any_of HT_.out (by kernel_rfl)) (fun _ _ _ h => h) (Or.inl ⟨by rfl, ?_⟩) ?_ ?_
                     rotate_left
                     ·intro w'
                      go_simp
                      with_reducible rfl
                     rotate_left
                     ·simp only [Act.put, sia, sc0, scs, i64_w, i32_w]
                      rfl
                     refine pure_ (i := 1) (N := some 140) (v := ?_) (a' := ?_) #[true, true, false, false, false, false, false, false, false] rfl rfl (any_of HT_.out (by kernel_rfl)) (fun _ _ _ h => h) (Or.inl ⟨by rfl, ?_⟩) ?_ ?_
                     rotate_left
                     ·intro w'
                      go_simp
                      with_reducible rfl
                     rotate_left
                     ·simp only [Act.put, sia, sc0, scs, i64_w, i32_w]
                      rfl
                     refine pure_ (i := 2) (N := some 141) (v := ?_) (a' := ?_) #[true, true, true, false, false, false, false, false, false] rfl rfl (any_of HT_.out (by kernel_rfl)) (fun _ _ _ h => h) (Or.inl ⟨by rfl, ?_⟩) ?_ ?_
                     rotate_left
                     ·intro w'
                      go_simp
                      with_reducible rfl
                     rotate_left
                     ·simp only [Act.put, sia, sc0, scs, i64_w, i32_w]
                      rfl
                     refine pure_ (i := 4) (N := some 143) (v := ?_) (a' := ?_) #[true, true, true, false, true, false, false, false, false] rfl rfl (any_of HT_.out (by kernel_rfl)) (fun _ _ _ h => h) (Or.inl ⟨by rfl, ?_⟩) ?_ ?_
                     rotate_left
                     ·intro w'
                      go_simp
                      with_reducible rfl
                     rotate_left
                     ·simp only [Act.put, sia, sc0, scs, i64_w, i32_w]
                      rfl
                     refine pure_ (i := 5) (N := some 144) (v := ?_) (a' := ?_) #[true, true, true, false, true, true, false, false, false] rfl rfl (any_of HT_.out (by kernel_rfl)) (fun _ _ _ h => h) (Or.inl ⟨by rfl, ?_⟩) ?_ ?_
                     rotate_left
                     ·intro w'
                      go_simp
                      with_reducible rfl
                     rotate_left
                     ·simp only [Act.put, sia, sc0, scs, i64_w, i32_w]
                      rfl
                     refine pure_ (i := 6) (N := some 145) (v := ?_) (a' := ?_) #[true, true, true, false, true, true, true, false, false] rfl rfl (any_of HT_.out (by kernel_rfl)) (fun _ _ _ h => h) (Or.inl ⟨by rfl, ?_⟩) ?_ ?_
                     rotate_left
                     ·intro w'
                      go_simp
                      with_reducible rfl
                     rotate_left
                     ·simp only [Act.put, sia, sc0, scs, i64_w, i32_w]
                      rfl
                     refine take_ (i := 3) (N := some 142) (v := ?_) (a' := ?_) #[true, true, true, true, true, true, true, false, false] rfl rfl (take_ofW HT_.out HW_.out (by kernel_rfl)) (fun _ _ _ h => h) (Or.inl ⟨by rfl, ?_⟩) hHeld ?_ ?_
                     rotate_left
                     ·rintro w' ⟨s0, s1⟩
                      go_simp
                      with_reducible rfl
                     rotate_left
                     ·simp only [Act.put, sia, sc0, scs, i64_w, i32_w]
                      rfl
                     refine take_ (i := 7) (N := some 146) (v := ?_) (a' := ?_) #[true, true, true, true, true, true, true, true, false] rfl rfl (take_ofW HT_.out HW_.out (by kernel_rfl)) (fun _ _ _ h => h) (Or.inl ⟨by rfl, ?_⟩) hHeld ?_ ?_
                     rotate_left
                     ·rintro w' ⟨s0, s1⟩
                      go_simp
                      with_reducible rfl
                     rotate_left
                     ·simp only [Act.put, sia, sc0, scs, i64_w, i32_w]
                      rfl
                     refine pure_ (i := 8) (N := some 147) (v := ?_) (a' := ?_) #[true, true, true, true, true, true, true, true, true] rfl rfl (any_of HT_.out (by kernel_rfl)) (fun _ _ _ h => h) (Or.inl ⟨by rfl, ?_⟩) ?_ ?_
                     rotate_left
                     ·intro w'
                      go_simp
                      with_reducible rfl
                     rotate_left
                     ·simp only [Act.put, sia, sc0, scs, i64_w, i32_w]
                      rfl
                     refine done_ (done_of HT_.out (by kernel_rfl)) ?_
                     try go_wp2
                     have n0_ := Aside0.mk (Kd.R_drew HO_11.out)
                     have n1_ := Aside0.mk (blk_drew BK613.out)
                     have n2_ := Aside0.mk (below_drew1 HB.out)
                     clear HO_11
                     clear BK613
                     clear HB
                     have HO_11 := n0_
                     have BK613 := n1_
                     have HB := n2_
                     clear n0_ n1_ n2_
                     have p634 : 0 ≤ (x16_5 : Int) := of_decide_eq_true (by first | (with_reducible assumption) | assumption)
                     have q634 : x16_5 < (t621.length : Int) := of_decide_eq_true (by first | (with_reducible assumption) | assumption)
                     obtain ⟨ad634, e634, hx634_0⟩ := Kd.at_int (Kd.R_reads' HO_11.out).2.2 x16_5 p634 q634
                     obtain rfl : ad632 = ad634 := (by injection e634)
                     replace p634 := eq_true p634
                     replace q634 := eq_true q634
                     have p635 : 0 ≤ (x16_5 : Int) := of_decide_eq_true (by first | (with_reducible assumption) | assumption)
                     have q635 : x16_5 < (l2.length : Int) := of_decide_eq_true (by first | (with_reducible assumption) | assumption)
                     obtain ⟨ad635, e635, hx635_0⟩ := Kd.at_int HR2.out x16_5 p635 q635
                     have hw635_0 := hx635_0
                     obtain rfl : ad633 = ad635 := (by injection e635)
                     replace hx635_0 := (HB.out.cell (World.block_lt_of_cell? w _ hx635_0)).trans hx635_0
                     replace p635 := eq_true p635
                     replace q635 := eq_true q635
                     refine start_ (n := 13) (S := fun w' => w'.cell? (ad632.add (x16_5).toNat) = some (.int .i64 (rd t621 x16_5)) ∧ w'.cell? (ad633.add (x16_5).toNat) = some (.int .i64 (rd l2 x16_5))) (ds := []) #[false, false, false, false, false, false, false, false, false, false, false, false, false] (by kernel_rfl) rfl rfl ⟨hx634_0, ((HB.out.cell (World.block_lt_of_cell? w _ hw635_0)).trans hw635_0)⟩ (fun hHeld => ?_); refine with_tabW trishawlaw06_TripGilmore.tab19 trishawlaw06_TripGilmore.bits19 (fun HT_ HW_ => ?_)
                     generalize w63.drew = w64 at HO_11 BK613 HB hx634_0 hx635_0 hHeld ⊢
                     refine pure_ (i := 0) (N := some 148) (v := ?_) (a' := ?_) #[true, false, false, false, false, false, false, false, false, false, false, false, false] rfl rfl (any_of HT_.out (by kernel_rfl)) (fun _ _ _ h => h) (Or.inl ⟨by rfl, ?_⟩) ?_ ?_
                     rotate_left
                     ·intro w'
                      go_simp
                      with_reducible rfl
                     rotate_left
                     ·simp only [Act.put, sia, sc0, scs, i64_w, i32_w]
                      rfl
                     refine pure_ (i := 1) (N := some 149) (v := ?_) (a' := ?_) #[true, true, false, false, false, false, false, false, false, false, false, false, false] rfl rfl (any_of HT_.out (by kernel_rfl)) (fun _ _ _ h => h) (Or.inl ⟨by rfl, ?_⟩) ?_ ?_
                     rotate_left
                     ·intro w'
                      go_simp
                      with_reducible rfl
                     rotate_left
                     ·simp only [Act.put, sia, sc0, scs, i64_w, i32_w]
                      rfl
                     refine pure_ (i := 2) (N := some 150) (v := ?_) (a' := ?_) #[true, true, true, false, false, false, false, false, false, false, false, false, false] rfl rfl (any_of HT_.out (by kernel_rfl)) (fun _ _ _ h => h) (Or.inl ⟨by rfl, ?_⟩) ?_ ?_
                     rotate_left
                     ·intro w'
                      go_simp
                      with_reducible rfl
                     rotate_left
                     ·simp only [Act.put, sia, sc0, scs, i64_w, i32_w]
                      rfl
                     refine pure_ (i := 4) (N := some 152) (v := ?_) (a' := ?_) #[true, true, true, false, true, false, false, false, false, false, false, false, false] rfl rfl (any_of HT_.out (by kernel_rfl)) (fun _ _ _ h => h) (Or.inl ⟨by rfl, ?_⟩) ?_ ?_
                     rotate_left
                     ·intro w'
                      go_simp
                      with_reducible rfl
                     rotate_left
                     ·simp only [Act.put, sia, sc0, scs, i64_w, i32_w]
                      rfl
                     refine pure_ (i := 5) (N := some 153) (v := ?_) (a' := ?_) #[true, true, true, false, true, true, false, false, false, false, false, false, false] rfl rfl (any_of HT_.out (by kernel_rfl)) (fun _ _ _ h => h) (Or.inl ⟨by rfl, ?_⟩) ?_ ?_
                     rotate_left
                     ·intro w'
                      go_simp
                      with_reducible rfl
                     rotate_left
                     ·simp only [Act.put, sia, sc0, scs, i64_w, i32_w]
                      rfl
                     refine pure_ (i := 6) (N := some 154) (v := ?_) (a' := ?_) #[true, true, true, false, true, true, true, false, false, false, false, false, false] rfl rfl (any_of HT_.out (by kernel_rfl)) (fun _ _ _ h => h) (Or.inl ⟨by rfl, ?_⟩) ?_ ?_
                     rotate_left
                     ·intro w'
                      go_simp
                      with_reducible rfl
                     rotate_left
                     ·simp only [Act.put, sia, sc0, scs, i64_w, i32_w]
                      rfl
                     refine take_ (i := 3) (N := some 151) (v := ?_) (a' := ?_) #[true, true, true, true, true, true, true, false, false, false, false, false, false] rfl rfl (take_ofW HT_.out HW_.out (by kernel_rfl)) (fun _ _ _ h => h) (Or.inl ⟨by rfl, ?_⟩) hHeld ?_ ?_
                     rotate_left
                     ·rintro w' ⟨s0, s1⟩
                      go_simp
                      with_reducible rfl
                     rotate_left
                     ·simp only [Act.put, sia, sc0, scs, i64_w, i32_w]
                      rfl
                     refine take_ (i := 7) (N := some 155) (v := ?_) (a' := ?_) #[true, true, true, true, true, true, true, true, false, false, false, false, false] rfl rfl (take_ofW HT_.out HW_.out (by kernel_rfl)) (fun _ _ _ h => h) (Or.inl ⟨by rfl, ?_⟩) hHeld ?_ ?_
                     rotate_left
                     ·rintro w' ⟨s0, s1⟩
                      go_simp
                      with_reducible rfl
                     rotate_left
                     ·simp only [Act.put, sia, sc0, scs, i64_w, i32_w]
                      rfl
                     refine pure_ (i := 8) (N := some 156) (v := ?_) (a' := ?_) #[true, true, true, true, true, true, true, true, true, false, false, false, false] rfl rfl (any_of HT_.out (by kernel_rfl)) (fun _ _ _ h => h) (Or.inl ⟨by rfl, ?_⟩) ?_ ?_
                     rotate_left
                     ·intro w'
                      go_simp
                      with_reducible rfl
                     rotate_left
                     ·simp only [Act.put, sia, sc0, scs, i64_w, i32_w]
                      rfl
                     refine pure_ (i := 9) (N := some 157) (v := ?_) (a' := ?_) #[true, true, true, true, true, true, true, true, true, true, false, false, false] rfl rfl (any_of HT_.out (by kernel_rfl)) (fun _ _ _ h => h) (Or.inl ⟨by rfl, ?_⟩) ?_ ?_
                     rotate_left
                     ·intro w'
                      go_simp
                      with_reducible rfl
                     rotate_left
                     ·simp only [Act.put, sia, sc0, scs, i64_w, i32_w]
                      rfl
                     refine one_ (i := 10) (N := some 158) #[true, true, true, true, true, true, true, true, true, true, true, false, false] rfl rfl (one_of HT_.out (by kernel_rfl)) (by decide) (fun K hK => ?_)
                     refine goes_ Try.func16 (by kernel_rfl) rfl #[] (by rfl) rfl rfl (by (try simp only [List.map_toArray, List.map_cons, List.map_nil]); first | done | rfl | (simp only [List.length_drop, List.length_take]; rfl)) ?_
                     with_reducible refine (trishawlaw06_alive.calls k5  t636 _ A62.out).mono ?_
                     rintro e w65 ⟨rfl, hb⟩
                     have HS0_ := (hb.cell (World.block_lt_of_cell? _ _ (hHeld.1))).trans (hHeld.1)
                     refine ⟨_, rfl, ?_⟩
                     have n0_ := Aside0.mk (Kd.R_below (by (with_reducible repeat (first | apply Kd.R_alloc | apply Kd.R_drewN | apply Kd.R_drew)); exact HO_11.out) hb)
                     have n1_ := Aside0.mk (blk_below (g := gb613) (o := .cells #[.int .i64 a1_0, .int .i64 a1_1] 24 (0, 0)) (by (with_reducible repeat (first | apply kdn | apply kdr | apply kal)); exact BK613.out) hb)
                     have n2_ := Aside0.mk (below_step (by repeat (first | (with_reducible first | exact HB.out | apply lal | apply ldn | apply ldr | refine below_set ?_ GE613.out) | exact HB.out)) hb)
                     clear HO_11
                     clear BK613
                     clear HB
                     have HO_11 := n0_
                     have BK613 := n1_
                     have HB := n2_
                     clear n0_ n1_ n2_
                     (try clear hb)
                     (try clear hb2)
                     (try clear hk)
                     (try clear hi)
                     refine hK.out _ _ ⟨HS0_, ((HB.out.cell (World.block_lt_of_cell? w _ hw635_0)).trans hw635_0)⟩ (fun hHeld => ?_)
                     clear hK K
                     refine norm_ (a' := ?_) ?_ ?_
                     rotate_left
                     ·show Act.put _ (some 158) _ = _
                      simp only [Act.put, sia, sc0, scs, i64_w, i32_w]
                      rfl
                     refine pure_ (i := 11) (N := some 159) (v := ?_) (a' := ?_) #[true, true, true, true, true, true, true, true, true, true, true, true, false] rfl rfl (any_of HT_.out (by kernel_rfl)) (fun _ _ _ h => h) (Or.inl ⟨by rfl, ?_⟩) ?_ ?_
                     rotate_left
                     ·intro w'
                      go_simp
                      with_reducible rfl
                     rotate_left
                     ·simp only [Act.put, sia, sc0, scs, i64_w, i32_w]
                      rfl
                     refine pure_ (i := 12) (N := some 6) (v := ?_) (a' := ?_) #[true, true, true, true, true, true, true, true, true, true, true, true, true] rfl rfl (any_of HT_.out (by kernel_rfl)) (fun _ _ _ h => h) (Or.inl ⟨by rfl, ?_⟩) ?_ ?_
                     rotate_left
                     ·intro w'
                      go_simp
                      with_reducible rfl
                     rotate_left
                     ·simp only [Act.put, sia, sc0, scs, i64_w, i32_w]
                      rfl
                     refine done_ (done_of HT_.out (by kernel_rfl)) ?_
                     try go_wp2
                     go_ret
                     exact ⟨by first | rfl | (simp [errW_none, errW_some] <;> rfl) | (simp [*, errW_none, errW_some] <;> rfl), by repeat (first | (with_reducible first | exact HB.out | apply lal | apply ldn | apply ldr | refine below_set ?_ GE613.out) | exact HB.out)⟩
                    ·rw [if_neg c61] at H
                     have c61b0 : decide ((rd t621 x16_5) < (rd l2 x16_5)) = false := decide_eq_false c61
                     clear c61
                     exact absurd H (by simp)
                  ·rw [if_neg c58] at H
                   exact absurd H (by simp)
                 ·rw [if_neg c57] at H
                  exact absurd H (by simp)
                ·rw [if_neg c56] at H
                 have c56b0 : decide (x16_5 < (t621.length : Int)) = false := decide_eq_false c56
                 clear c56
                 replace H := Option.bind_eq_some_iff.mp H
                 obtain ⟨t637, A660, H⟩ := H
                 replace H : (some t637) = some r := H
                 have A66 := Aside0.mk A660
                 clear A660
                 obtain rfl := Option.some.inj H
                 go_wp2_with (first | ((with_reducible refine gate_callee (f := 16) rfl ?_); refine goesL_ (some 160) rfl rfl Try.func16 (by kernel_rfl) rfl #[] rfl (by (try simp only [List.map_toArray, List.map_cons, List.map_nil]); first | done | rfl | (simp only [List.length_drop, List.length_take]; rfl)) ?_; (with_reducible refine (trishawlaw06_alive.calls k5  t637 _ A66.out).mono ?_); rintro e w67 ⟨rfl, hb⟩; refine ⟨_, rfl, ?_⟩; have n0_ := Aside0.mk (Kd.R_below (by (with_reducible repeat (first | apply Kd.R_alloc | apply Kd.R_drewN | apply Kd.R_drew)); exact HO_11.out) hb); have n1_ := Aside0.mk (blk_below (g := gb613) (o := .cells #[.int .i64 a1_0, .int .i64 a1_1] 24 (0, 0)) (by (with_reducible repeat (first | apply kdn | apply kdr | apply kal)); exact BK613.out) hb); have n2_ := Aside0.mk (below_step (by repeat (first | (with_reducible first | exact HB.out | apply lal | apply ldn | apply ldr | refine below_set ?_ GE613.out) | exact HB.out)) hb); clear HO_11; clear BK613; clear HB; have HO_11 := n0_; have BK613 := n1_; have HB := n2_; clear n0_ n1_ n2_; (try clear hb); (try clear hb2); (try clear hk); (try clear hi)))
                 go_ret
                 exact ⟨by first | rfl | (simp [errW_none, errW_some] <;> rfl) | (simp [*, errW_none, errW_some] <;> rfl), by repeat (first | (with_reducible first | exact HB.out | apply lal | apply ldn | apply ldr | refine below_set ?_ GE613.out) | exact HB.out)⟩
end Go.Proofs.Ytlmlneneakpohaa.OAll
