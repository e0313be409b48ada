/- A part of the proof of 'tripMatched_holds', for every input, without a condition. -/
import Derived.Test.YtlmlneneakpohaaTMdOAllx0
import Derived.Test.YtlmlneneakpohaaTMdOAllx3
import Derived.Test.YtlmlneneakpohaaTMdOAllx5
import Derived.Test.YtlmlneneakpohaaTMdOAllx8
import Derived.Test.YtlmlneneakpohaaTMdOAllx9
import Derived.Test.YtlmlneneakpohaaTMdOAllx20
import Derived.Test.YtlmlneneakpohaaTMdOAllx23
import Derived.Test.YtlmlneneakpohaaTMdOAllx24
namespace Go.Proofs.Ytlmlneneakpohaa.OAll
open Go.RowKit Go.Proofs.YtlmlneneakpohaaW.PrintWords Go.Proofs.YtlmlneneakpohaaW.PrintLast Go.Proofs.YtlmlneneakpohaaW.PrintMore
attribute [local go_sem] max2_int min2_int max_two min_two max_three min_three max_four min_four
set_option linter.unusedVariables false
set_option linter.unusedSimpArgs false
mutual
def trishawlaw06_TripMatched.j0 : Nat → List (S36) → List Int → Bool → Int → Int → Option (Bool)
 | 0, _, _, _, _, _ => none
 | k + 1, x0, x2, x31, x739000, x739001 => if x31 = true then ((trishawlaw06_alive.f k).bind fun t741 => (some t741)) else ((trip_Matching.f k x0 x739000 x739001).bind fun bt742 => ((trip_Rings.f k x0).bind fun bt747 => ((trip_Least.f k x0 x739000 x739001).bind fun bt751 => (if bt742.2.2 = 0 then (if bt747.2 = 0 then (if bt751.2 = 0 then ((trishawref06_IsOrder.f k (x0.length : Int) bt742.1).bind fun t753 => (if t753 = true then (if bt751.1 < bt742.2.1 then (none) else (if (bt747.1.length : Int) < 1 then (none) else (if (bt747.1.length : Int) = 1 then (trishawlaw06_TripMatched.j1 k x0 x2 bt742.1 bt742.2.1 (bt751.1 != bt742.2.1) x739000 x739001) else (trishawlaw06_TripMatched.j1 k x0 x2 bt742.1 bt742.2.1 false x739000 x739001)))) else (none))) else (none)) else (none)) else (none)))))
def trishawlaw06_TripMatched.j1 : Nat → List (S36) → List Int → List Int → Int → Bool → Int → Int → Option (Bool)
 | 0, _, _, _, _, _, _, _ => none
 | k + 1, x0, x2, x7, x8, x87, x739000, x739001 => if x87 = true then (none) else (trishawlaw06_TripMatched.l0 k x0 x2 x7 x8 0 0 0 x739000 x739001)
def trishawlaw06_TripMatched.l0 : Nat → List (S36) → List Int → List Int → Int → Int → Int → Int → Int → Int → Option (Bool)
 | 0, _, _, _, _, _, _, _, _, _ => none
 | k + 1, x0, x2, x7, x8, x14, x15, x16, x739000, x739001 => if x16 < (x0.length : Int) then (if 0 ≤ x16 then (if x16 < (x7.length : Int) then ((trip_Empty.f x0 x739000 x739001 x16 (rd x7 x16)).bind fun bt755 => (if bt755.2 = 0 then (trishawlaw06_TripMatched.l0 k x0 x2 x7 x8 (wrap64 (x14 + bt755.1)) x15 (wrap64 (x16 + 1)) x739000 x739001) else (none))) else (none)) else (none)) else (if x14 = x8 then ((trishawref06_IsOrder.f k (x0.length : Int) x2).bind fun t757 => (if t757 = true then (trishawlaw06_TripMatched.l1 k x0 x2 x8 x15 0 x739000 x739001) else ((trishawlaw06_alive.f k).bind fun t758 => (some t758)))) else (none))
def trishawlaw06_TripMatched.l1 : Nat → List (S36) → List Int → Int → Int → Int → Int → Int → Option (Bool)
 | 0, _, _, _, _, _, _, _ => none
 | k + 1, x0, x2, x8, x15, x19, x739000, x739001 => if x19 < (x0.length : Int) then (if 0 ≤ x19 then (if x19 < (x2.length : Int) then ((trip_Empty.f x0 x739000 x739001 x19 (rd x2 x19)).bind fun bt760 => (if bt760.2 = 0 then (trishawlaw06_TripMatched.l1 k x0 x2 x8 (wrap64 (x15 + bt760.1)) (wrap64 (x19 + 1)) x739000 x739001) else (none))) else (none)) else (none)) else (if x15 ≥ x8 then ((trishawlaw06_alive.f k).bind fun t762 => (some t762)) else (none))
end
def trishawlaw06_TripMatched.f (k : Nat) (l0 : List (S36)) (a1_0 : Int) (a1_1 : Int) (l2 : List Int) : Option (Bool) := (trishawlaw06_few.f l0 l2).bind fun t739 => (if t739 = true then ((trishawref06_Day.f k l0 a1_0 a1_1).bind fun t740 => (trishawlaw06_TripMatched.j0 k l0 l2 (t740 != 0) a1_0 a1_1)) else (trishawlaw06_TripMatched.j0 k l0 l2 true a1_0 a1_1))
def trishawlaw06_TripMatched.T12 : Bool × List (List Nat × List Nat) := (true, [([], []), ([], []), ([], []), ([], []), ([], []), ([3, 4], [3, 4]), ([5], [5]), ([0, 1, 2, 6], [0, 1, 2, 6]), ([7], [7]), ([8], [8]), ([8], [8]), ([9, 7, 0, 1, 2, 3, 4, 5, 6, 7, 8, 9], [9]), ([10, 11, 0, 1, 2, 3, 4, 5, 6, 7, 8, 9, 10, 11], [10])])
def trishawlaw06_TripMatched.B12 : List Nat := [0, 0, 0, 0, 0, 24, 56, 127, 255, 511, 511, 1023, 4095]
theorem trishawlaw06_TripMatched.tab12 : rtab .any (opsOf Try.f13 12) = trishawlaw06_TripMatched.T12 := by kernel_rfl
theorem trishawlaw06_TripMatched.bits12 : waitsOk trishawlaw06_TripMatched.T12.2 trishawlaw06_TripMatched.B12 = true := by kernel_rfl
def trishawlaw06_TripMatched.T23 : Bool × List (List Nat × List Nat) := (true, [([], []), ([], []), ([], []), ([], []), ([], []), ([3, 4], [3, 4]), ([5], [5]), ([0, 1, 2, 6], [0, 1, 2, 6]), ([7], [7]), ([8], [8]), ([8], [8]), ([9, 7, 0, 1, 2, 3, 4, 5, 6, 7, 8, 9], [9]), ([10, 11, 0, 1, 2, 3, 4, 5, 6, 7, 8, 9, 10, 11], [10])])
def trishawlaw06_TripMatched.B23 : List Nat := [0, 0, 0, 0, 0, 24, 56, 127, 255, 511, 511, 1023, 4095]
theorem trishawlaw06_TripMatched.tab23 : rtab .any (opsOf Try.f13 23) = trishawlaw06_TripMatched.T23 := by kernel_rfl
theorem trishawlaw06_TripMatched.bits23 : waitsOk trishawlaw06_TripMatched.T23.2 trishawlaw06_TripMatched.B23 = true := by kernel_rfl
set_option maxHeartbeats 8000000 in
set_option maxRecDepth 100000 in
theorem trishawlaw06_TripMatched.calls (k : Nat) (A0 : Option Addr) (c0 : Nat) (l0 : List (S36)) (a1_0 : Int) (a1_1 : Int) (A2 : Option Addr) (c2 : Nat) (l2 : List Int) (r : Bool) (w : World) (hr0 : Kd.C k36 w A0 l0.length l0) (hc0 : l0.length ≤ c0) (hr2 : Kd.C (Kd.int .i64) w A2 l2.length l2) (hc2 : l2.length ≤ c2) (h : trishawlaw06_TripMatched.f k l0 a1_0 a1_1 l2 = some r) :
  Calls Try.prog 13 #[.slice A0 l0.length c0, .agg #[.int .i64 a1_0, .int .i64 a1_1], .slice A2 l2.length c2] w fun e w' => e = .returned (.bool r) ∧ Below w.heap.size w w' := by
 have hu24 := Try.underlying24
 have HR0 := Aside0.mk hr0
 have HC0 := Aside0.mk hc0
 clear hr0 hc0
 have HR2 := Aside0.mk hr2
 have HC2 := Aside0.mk hc2
 clear hr2 hc2
 have HB := Aside0.mk (Below.refl w.heap.size w)
 have H : ((trishawlaw06_few.f l0 l2).bind fun t739 => (if t739 = true then ((trishawref06_Day.f k l0 a1_0 a1_1).bind fun t740 => (trishawlaw06_TripMatched.j0 k l0 l2 (t740 != 0) a1_0 a1_1)) else (trishawlaw06_TripMatched.j0 k l0 l2 true a1_0 a1_1))) = some r := h
 clear h
 have HC4 := Aside0.mk H
 clear H
 go_enter Try.func13, Try.ntmps13
 go_upto_region 1 with (first | ((with_reducible refine gate_dst (N := 4) rfl ?_); (try (refine gate_guard (by rfl) ?_; dsimp only)); refine box_event ?hg (N := 4) ?hd (cs := #[.int .i64 a1_0, .int .i64 a1_1]) (t := 24) ?hr ?_; (case hd => rfl); (case hg => rfl); (case hr => first | (go_simp; done) | (go_simp; rfl)); intro gb738 hg w5 hbox hb; have n0_ := Aside0.mk (below_step (by repeat (first | (with_reducible first | exact HB.out | apply lal | apply ldn | apply ldr) | exact HB.out)) hb); have n1_ := Aside0.mk (hbox); have n2_ := Aside0.mk ((by rw [hg]; exact (below_size (by repeat (first | (with_reducible first | exact HB.out | apply lal | apply ldn | apply ldr) | exact HB.out))) : w.heap.size ≤ gb738)); have n3_ := Aside0.mk ((by rw [hg]; exact (below_size (by repeat (first | (with_reducible first | exact HB.out | apply lal | apply ldn | apply ldr) | exact HB.out))) : w.heap.size ≤ gb738)); clear HB; have HB := n0_; have BK738 := n1_; have GW738 := n2_; have GE738 := n3_; clear n0_ n1_ n2_ n3_; clear hb hbox hg))
 (try simp only [Act.put, sia, sc0, scs])
 go_cut [31] (fun v31 wc => ∃ (kq : Nat) (x31_3 : Bool), v31 = .bool x31_3 ∧ Aside0 (trishawlaw06_TripMatched.j0 kq l0 l2 x31_3 a1_0 a1_1 = some r) ∧ Aside0 (kq ≤ k) ∧ Aside0 (wc.heap[gb738]? = some (.cells #[.int .i64 a1_0, .int .i64 a1_1] 24 (0, 0))) ∧ Aside0 (Below w.heap.size w wc))
 case first =>
  have H := HC4.out
  clear HC4
  replace H := Option.bind_eq_some_iff.mp H
  obtain ⟨t739, A60, H⟩ := H
  replace H : (if t739 = true then ((trishawref06_Day.f k l0 a1_0 a1_1).bind fun t740 => (trishawlaw06_TripMatched.j0 k l0 l2 (t740 != 0) a1_0 a1_1)) else (trishawlaw06_TripMatched.j0 k l0 l2 true a1_0 a1_1)) = some r := H
  have A6 := Aside0.mk A60
  clear A60
  by_cases c7 : t739 = true
  ·subst c7
   have H1 : ((trishawref06_Day.f k l0 a1_0 a1_1).bind fun t740 => (trishawlaw06_TripMatched.j0 k l0 l2 (t740 != 0) a1_0 a1_1)) = some r := by rw [if_pos rfl] at H; exact H
   clear H
   have H := H1
   clear H1
   replace H := Option.bind_eq_some_iff.mp H
   obtain ⟨t740, A80, H⟩ := H
   replace H : (trishawlaw06_TripMatched.j0 k l0 l2 (t740 != 0) a1_0 a1_1) = some r := H
   have A8 := Aside0.mk A80
   clear A80
   have H' := Aside0.mk H
   clear H
   go_wp2_with (first | ((with_reducible refine gate_callee (f := 15) rfl ?_); refine goesL_ (some 24) rfl rfl Try.func15 (by kernel_rfl) rfl #[.slice A0 l0.length c0, .slice A2 l2.length c2] rfl (by (try simp only [List.map_toArray, List.map_cons, List.map_nil]); first | done | rfl | (simp only [List.length_drop, List.length_take]; rfl)) ?_; (with_reducible refine (trishawlaw06_few.calls _ _ l0 _ _ l2 true _ ?side1 ?side2 ?side3 ?side4 A6.out).mono ?_); (case side1 => repeat (first | exact (Kd.C_below HR0.out HB.out) | (with_reducible refine Kd.C_alloc ?_ _) | (with_reducible refine Kd.C_drewN ?_ _) | (with_reducible refine Kd.C_drew ?_))); (case side2 => exact HC0.out); (case side3 => repeat (first | exact (Kd.C_below HR2.out HB.out) | (with_reducible refine Kd.C_alloc ?_ _) | (with_reducible refine Kd.C_drewN ?_ _) | (with_reducible refine Kd.C_drew ?_))); (case side4 => exact HC2.out); rintro e w' ⟨rfl, ⟨nd, rfl⟩⟩; refine ⟨_, rfl, ?_⟩; have hcz9_0 : w5.cell? ⟨gb738, 0, none⟩ = some (.int .i64 a1_0) := (blk_cell BK738.out 0).trans rfl; have hcz9_1 : w5.cell? ⟨gb738, 1, none⟩ = some (.int .i64 a1_1) := (blk_cell BK738.out 1).trans rfl; have hfz9_0 := blk_frozen BK738.out 0; have hfz9_1 := blk_frozen BK738.out 1) | (go_at_call 20; (with_reducible refine (trishawref06_Day.calls k _ _ l0 a1_0 a1_1 t740 _ ?side1 ?side2 A8.out).mono ?_); (case side1 => repeat (first | exact (Kd.C_below HR0.out (by repeat (first | (with_reducible first | exact HB.out | apply lal | apply ldn | apply ldr | refine below_set ?_ GE738.out) | exact HB.out))) | (with_reducible refine Kd.C_alloc ?_ _) | (with_reducible refine Kd.C_drewN ?_ _) | (with_reducible refine Kd.C_drew ?_))); (case side2 => exact HC0.out); rintro e w10 ⟨rfl, hb⟩; have n0_ := Aside0.mk (blk_below (g := gb738) (o := .cells #[.int .i64 a1_0, .int .i64 a1_1] 24 (0, 0)) (by (with_reducible repeat (first | apply kdn | apply kdr | apply kal)); exact BK738.out) hb); have n1_ := Aside0.mk (below_step (by repeat (first | (with_reducible first | exact HB.out | apply lal | apply ldn | apply ldr | refine below_set ?_ GE738.out) | exact HB.out)) hb); clear BK738; clear HB; have BK738 := n0_; have HB := n1_; clear n0_ n1_; (try clear hb); (try clear hb2); (try clear hk); (try clear hi)))
   go_meet
   case rel => exact ⟨_, ((t740 != 0)), (by first | rfl | (simp; done) | (simp [*]; done)), H', ⟨by first | omega | exact Nat.le_refl _⟩, ⟨by (with_reducible repeat (first | apply kdn | apply kdr | apply kal)); exact BK738.out⟩, ⟨by repeat (first | (with_reducible first | exact HB.out | apply lal | apply ldn | apply ldr | refine below_set ?_ GE738.out) | exact HB.out)⟩⟩
  ·replace c7 := Bool.eq_false_iff.mpr c7
   subst c7
   have H1 : (trishawlaw06_TripMatched.j0 k l0 l2 true a1_0 a1_1) = some r := by rw [if_neg (show ¬ (false = true) by decide)] at H; exact H
   clear H
   have H := H1
   clear H1
   have H' := Aside0.mk H
   clear H
   go_wp2_with (first | ((with_reducible refine gate_callee (f := 15) rfl ?_); refine goesL_ (some 24) rfl rfl Try.func15 (by kernel_rfl) rfl #[.slice A0 l0.length c0, .slice A2 l2.length c2] rfl (by (try simp only [List.map_toArray, List.map_cons, List.map_nil]); first | done | rfl | (simp only [List.length_drop, List.length_take]; rfl)) ?_; (with_reducible refine (trishawlaw06_few.calls _ _ l0 _ _ l2 false _ ?side1 ?side2 ?side3 ?side4 A6.out).mono ?_); (case side1 => repeat (first | exact (Kd.C_below HR0.out HB.out) | (with_reducible refine Kd.C_alloc ?_ _) | (with_reducible refine Kd.C_drewN ?_ _) | (with_reducible refine Kd.C_drew ?_))); (case side2 => exact HC0.out); (case side3 => repeat (first | exact (Kd.C_below HR2.out HB.out) | (with_reducible refine Kd.C_alloc ?_ _) | (with_reducible refine Kd.C_drewN ?_ _) | (with_reducible refine Kd.C_drew ?_))); (case side4 => exact HC2.out); rintro e w' ⟨rfl, ⟨nd, rfl⟩⟩; refine ⟨_, rfl, ?_⟩))
   go_meet
   case rel => exact ⟨_, (true), (by first | rfl | (simp; done) | (simp [*]; done)), H', ⟨by first | omega | exact Nat.le_refl _⟩, ⟨by (with_reducible repeat (first | apply kdn | apply kdr | apply kal)); exact BK738.out⟩, ⟨by repeat (first | (with_reducible first | exact HB.out | apply lal | apply ldn | apply ldr | refine below_set ?_ GE738.out) | exact HB.out)⟩⟩
 case rest =>
  clear HC4
  try clear c1
  try clear c2
  try clear p2
  try clear c7
  try clear hcz9_0
  try clear hcz9_1
  try clear hfz9_0
  try clear hfz9_1
  obtain ⟨kq, x31_3, rfl, HA, HJ3, BK738, HB⟩ := hcut
  cases kq with
  | zero => exact absurd HA.out (by simp [trishawlaw06_TripMatched.j0])
  | succ kj3 =>
   have H := HA.out
   clear HA
   simp only [trishawlaw06_TripMatched.j0] at H
   by_cases c11 : x31_3 = true
   ·subst c11
    have H1 : ((trishawlaw06_alive.f kj3).bind fun t741 => (some t741)) = some r := by rw [if_pos rfl] at H; exact H
    clear H
    have H := H1
    clear H1
    replace H := Option.bind_eq_some_iff.mp H
    obtain ⟨t741, A120, H⟩ := H
    replace H : (some t741) = some r := H
    have A12 := Aside0.mk A120
    clear A120
    obtain rfl := Option.some.inj H
    go_wp2_with (first | ((with_reducible refine gate_callee (f := 16) rfl ?_); refine goesL_ (some 32) rfl rfl Try.func16 (by kernel_rfl) rfl #[] rfl (by (try simp only [List.map_toArray, List.map_cons, List.map_nil]); first | done | rfl | (simp only [List.length_drop, List.length_take]; rfl)) ?_; (with_reducible refine (trishawlaw06_alive.calls kj3  t741 _ A12.out).mono ?_); rintro e w13 ⟨rfl, hb⟩; refine ⟨_, rfl, ?_⟩; have n0_ := Aside0.mk (blk_below (g := gb738) (o := .cells #[.int .i64 a1_0, .int .i64 a1_1] 24 (0, 0)) (by (with_reducible repeat (first | apply kdn | apply kdr | apply kal)); exact BK738.out) hb); have n1_ := Aside0.mk (below_step (by repeat (first | (with_reducible first | exact HB.out | apply lal | apply ldn | apply ldr | refine below_set ?_ GE738.out) | exact HB.out)) hb); clear BK738; clear HB; have BK738 := n0_; have HB := n1_; clear n0_ n1_; (try clear hb); (try clear hb2); (try clear hk); (try clear hi)))
    go_ret
    exact ⟨by first | rfl | (simp [errW_none, errW_some] <;> rfl) | (simp [*, errW_none, errW_some] <;> rfl), by repeat (first | (with_reducible first | exact HB.out | apply lal | apply ldn | apply ldr | refine below_set ?_ GE738.out) | exact HB.out)⟩
   ·replace c11 := Bool.eq_false_iff.mpr c11
    subst c11
    have H1 : ((trip_Matching.f kj3 l0 a1_0 a1_1).bind fun bt742 => ((trip_Rings.f kj3 l0).bind fun bt747 => ((trip_Least.f kj3 l0 a1_0 a1_1).bind fun bt751 => (if bt742.2.2 = 0 then (if bt747.2 = 0 then (if bt751.2 = 0 then ((trishawref06_IsOrder.f kj3 (l0.length : Int) bt742.1).bind fun t753 => (if t753 = true then (if bt751.1 < bt742.2.1 then (none) else (if (bt747.1.length : Int) < 1 then (none) else (if (bt747.1.length : Int) = 1 then (trishawlaw06_TripMatched.j1 kj3 l0 l2 bt742.1 bt742.2.1 (bt751.1 != bt742.2.1) a1_0 a1_1) else (trishawlaw06_TripMatched.j1 kj3 l0 l2 bt742.1 bt742.2.1 false a1_0 a1_1)))) else (none))) else (none)) else (none)) else (none))))) = some r := by rw [if_neg (show ¬ (false = true) by decide)] at H; exact H
    clear H
    have H := H1
    clear H1
    replace H := Option.bind_eq_some_iff.mp H
    obtain ⟨⟨t742, t745, t746⟩, A140, H⟩ := H
    replace H : ((trip_Rings.f kj3 l0).bind fun bt747 => ((trip_Least.f kj3 l0 a1_0 a1_1).bind fun bt751 => (if t746 = 0 then (if bt747.2 = 0 then (if bt751.2 = 0 then ((trishawref06_IsOrder.f kj3 (l0.length : Int) t742).bind fun t753 => (if t753 = true then (if bt751.1 < t745 then (none) else (if (bt747.1.length : Int) < 1 then (none) else (if (bt747.1.length : Int) = 1 then (trishawlaw06_TripMatched.j1 kj3 l0 l2 t742 t745 (bt751.1 != t745) a1_0 a1_1) else (trishawlaw06_TripMatched.j1 kj3 l0 l2 t742 t745 false a1_0 a1_1)))) else (none))) else (none)) else (none)) else (none)))) = some r := H
    have A14 := Aside0.mk A140
    clear A140
    replace H := Option.bind_eq_some_iff.mp H
    obtain ⟨⟨t747, t748⟩, A150, H⟩ := H
    replace H : ((trip_Least.f kj3 l0 a1_0 a1_1).bind fun bt751 => (if t746 = 0 then (if t748 = 0 then (if bt751.2 = 0 then ((trishawref06_IsOrder.f kj3 (l0.length : Int) t742).bind fun t753 => (if t753 = true then (if bt751.1 < t745 then (none) else (if (t747.length : Int) < 1 then (none) else (if (t747.length : Int) = 1 then (trishawlaw06_TripMatched.j1 kj3 l0 l2 t742 t745 (bt751.1 != t745) a1_0 a1_1) else (trishawlaw06_TripMatched.j1 kj3 l0 l2 t742 t745 false a1_0 a1_1)))) else (none))) else (none)) else (none)) else (none))) = some r := H
    have A15 := Aside0.mk A150
    clear A150
    replace H := Option.bind_eq_some_iff.mp H
    obtain ⟨⟨t751, t752⟩, A160, H⟩ := H
    replace H : (if t746 = 0 then (if t748 = 0 then (if t752 = 0 then ((trishawref06_IsOrder.f kj3 (l0.length : Int) t742).bind fun t753 => (if t753 = true then (if t751 < t745 then (none) else (if (t747.length : Int) < 1 then (none) else (if (t747.length : Int) = 1 then (trishawlaw06_TripMatched.j1 kj3 l0 l2 t742 t745 (t751 != t745) a1_0 a1_1) else (trishawlaw06_TripMatched.j1 kj3 l0 l2 t742 t745 false a1_0 a1_1)))) else (none))) else (none)) else (none)) else (none)) = some r := H
    have A16 := Aside0.mk A160
    clear A160
    have HC17 := Aside0.mk H
    clear H
    have hcz18_0 : wc.cell? ⟨gb738, 0, none⟩ = some (.int .i64 a1_0) := (blk_cell BK738.out 0).trans rfl
    have hcz18_1 : wc.cell? ⟨gb738, 1, none⟩ = some (.int .i64 a1_1) := (blk_cell BK738.out 1).trans rfl
    have hfz18_0 := blk_frozen BK738.out 0
    have hfz18_1 := blk_frozen BK738.out 1
    go_upto_region 6 with (first | ((with_reducible refine gate_callee (f := 30) rfl ?_); refine goesL_ (some 36) rfl rfl Try.func30 (by kernel_rfl) rfl #[.slice A0 l0.length c0, .agg #[.int .i64 a1_0, .int .i64 a1_1]] rfl (by (try simp only [List.map_toArray, List.map_cons, List.map_nil]); first | done | rfl | (simp only [List.length_drop, List.length_take]; rfl)) ?_; (with_reducible refine (trip_Matching.calls kj3 _ _ l0 a1_0 a1_1 t742 t745 t746 _ ?side1 ?side2 A14.out).mono ?_); (case side1 => repeat (first | exact (Kd.C_below HR0.out HB.out) | (with_reducible refine Kd.C_alloc ?_ _) | (with_reducible refine Kd.C_drewN ?_ _) | (with_reducible refine Kd.C_drew ?_))); (case side2 => exact HC0.out); rintro e w19 ⟨v743, rfl, ho0, hb⟩; refine ⟨_, rfl, ?_⟩; have n0_ := Aside0.mk (Kd.R_lower ho0 (below_size (by repeat (first | (with_reducible first | exact HB.out | apply lal | apply ldn | apply ldr | refine below_set ?_ GE738.out) | exact HB.out)))); have n1_ := Aside0.mk (blk_below (g := gb738) (o := .cells #[.int .i64 a1_0, .int .i64 a1_1] 24 (0, 0)) (by (with_reducible repeat (first | apply kdn | apply kdr | apply kal)); exact BK738.out) hb); have n2_ := Aside0.mk (below_step (by repeat (first | (with_reducible first | exact HB.out | apply lal | apply ldn | apply ldr | refine below_set ?_ GE738.out) | exact HB.out)) hb); clear BK738; clear HB; have HO744 := n0_; have BK738 := n1_; have HB := n2_; clear n0_ n1_ n2_; (try clear hb); (try clear hb2); (try clear hk); (try clear hi); (try clear ho0)) | ((with_reducible refine gate_callee (f := 33) rfl ?_); refine goesL_ (some 42) rfl rfl Try.func33 (by kernel_rfl) rfl #[.slice A0 l0.length c0] rfl (by (try simp only [List.map_toArray, List.map_cons, List.map_nil]); first | done | rfl | (simp only [List.length_drop, List.length_take]; rfl)) ?_; (with_reducible refine (trip_Rings.calls kj3 _ _ l0 t747 t748 _ ?side1 ?side2 A15.out).mono ?_); (case side1 => repeat (first | exact (Kd.C_below HR0.out HB.out) | (with_reducible refine Kd.C_alloc ?_ _) | (with_reducible refine Kd.C_drewN ?_ _) | (with_reducible refine Kd.C_drew ?_))); (case side2 => exact HC0.out); rintro e w20 ⟨v749, rfl, ho0, hb⟩; refine ⟨_, rfl, ?_⟩; have n0_ := Aside0.mk (Kd.R_below (by (with_reducible repeat (first | apply Kd.R_alloc | apply Kd.R_drewN | apply Kd.R_drew)); exact HO744.out) hb); have n1_ := Aside0.mk (Kd.S_lower (Kd.S_new' ho0 (Kd.R_lt (by (with_reducible repeat (first | apply Kd.R_alloc | apply Kd.R_drewN | apply Kd.R_drew)); exact HO744.out))) (below_size (by repeat (first | (with_reducible first | exact HB.out | apply lal | apply ldn | apply ldr | refine below_set ?_ GE738.out) | exact HB.out)))); have n2_ := Aside0.mk (blk_below (g := gb738) (o := .cells #[.int .i64 a1_0, .int .i64 a1_1] 24 (0, 0)) (by (with_reducible repeat (first | apply kdn | apply kdr | apply kal)); exact BK738.out) hb); have n3_ := Aside0.mk (below_step (by repeat (first | (with_reducible first | exact HB.out | apply lal | apply ldn | apply ldr | refine below_set ?_ GE738.out) | exact HB.out)) hb); clear HO744; clear BK738; clear HB; have HO744 := n0_; have HO750 := n1_; have BK738 := n2_; have HB := n3_; clear n0_ n1_ n2_ n3_; (try clear hb); (try clear hb2); (try clear hk); (try clear hi); (try clear ho0); have hcz21_0 : w20.cell? ⟨gb738, 0, none⟩ = some (.int .i64 a1_0) := (blk_cell BK738.out 0).trans rfl; have hcz21_1 : w20.cell? ⟨gb738, 1, none⟩ = some (.int .i64 a1_1) := (blk_cell BK738.out 1).trans rfl; have hfz21_0 := blk_frozen BK738.out 0; have hfz21_1 := blk_frozen BK738.out 1) | ((with_reducible refine gate_callee (f := 21) rfl ?_); refine goesL_ (some 48) rfl rfl Try.func21 (by kernel_rfl) rfl #[.slice A0 l0.length c0, .agg #[.int .i64 a1_0, .int .i64 a1_1]] rfl (by (try simp only [List.map_toArray, List.map_cons, List.map_nil]); first | done | rfl | (simp only [List.length_drop, List.length_take]; rfl)) ?_; (with_reducible refine (trip_Least.calls kj3 _ _ l0 a1_0 a1_1 t751 t752 _ ?side1 ?side2 A16.out).mono ?_); (case side1 => repeat (first | exact (Kd.C_below HR0.out HB.out) | (with_reducible refine Kd.C_alloc ?_ _) | (with_reducible refine Kd.C_drewN ?_ _) | (with_reducible refine Kd.C_drew ?_))); (case side2 => exact HC0.out); rintro e w22 ⟨rfl, hb⟩; refine ⟨_, rfl, ?_⟩; have n0_ := Aside0.mk (Kd.R_below (by (with_reducible repeat (first | apply Kd.R_alloc | apply Kd.R_drewN | apply Kd.R_drew)); exact HO744.out) hb); have n1_ := Aside0.mk (Kd.S_below (by (with_reducible repeat (first | apply Kd.S_alloc | apply Kd.S_drewN | apply Kd.S_drew)); exact HO750.out) hb); have n2_ := Aside0.mk (blk_below (g := gb738) (o := .cells #[.int .i64 a1_0, .int .i64 a1_1] 24 (0, 0)) (by (with_reducible repeat (first | apply kdn | apply kdr | apply kal)); exact BK738.out) hb); have n3_ := Aside0.mk (below_step (by repeat (first | (with_reducible first | exact HB.out | apply lal | apply ldn | apply ldr | refine below_set ?_ GE738.out) | exact HB.out)) hb); clear HO744; clear HO750; clear BK738; clear HB; have HO744 := n0_; have HO750 := n1_; have BK738 := n2_; have HB := n3_; clear n0_ n1_ n2_ n3_; (try clear hb); (try clear hb2); (try clear hk); (try clear hi)))
    (try simp only [Act.put, sia, sc0, scs])
    go_cut [87] (fun v87 wc => ∃ (kq : Nat) (x87_16 : Bool), v87 = .bool x87_16 ∧ Aside0 (trishawlaw06_TripMatched.j1 kq l0 l2 t742 t745 x87_16 a1_0 a1_1 = some r) ∧ Aside0 (kq ≤ kj3) ∧ Aside0 (Kd.R (Kd.int .i64) 3 wc w.heap.size (fun _ => True) v743 t742) ∧ Aside0 (wc.heap[gb738]? = some (.cells #[.int .i64 a1_0, .int .i64 a1_1] 24 (0, 0))) ∧ Aside0 (Below w.heap.size w wc))
    case first =>
     have H := HC17.out
     clear HC17
     by_cases c23 : t746 = 0
     ·rw [if_pos c23] at H
      have c23b0 : (t746 == 0) = true := beq_iff_eq.mpr c23
      have c23b1 : (t746 != 0) = false := bne_eq_false_iff_eq.mpr c23
      clear c23
      (first | rw [c23b0] | (simp only [i64_w, i32_w]; rw [c23b0]) | skip)
      by_cases c24 : t748 = 0
      ·rw [if_pos c24] at H
       have c24b0 : (t748 == 0) = true := beq_iff_eq.mpr c24
       have c24b1 : (t748 != 0) = false := bne_eq_false_iff_eq.mpr c24
       clear c24
       by_cases c25 : t752 = 0
       ·rw [if_pos c25] at H
        have c25b0 : (t752 == 0) = true := beq_iff_eq.mpr c25
        have c25b1 : (t752 != 0) = false := bne_eq_false_iff_eq.mpr c25
        clear c25
        replace H := Option.bind_eq_some_iff.mp H
        obtain ⟨t753, A260, H⟩ := H
        replace H : (if t753 = true then (if t751 < t745 then (none) else (if (t747.length : Int) < 1 then (none) else (if (t747.length : Int) = 1 then (trishawlaw06_TripMatched.j1 kj3 l0 l2 t742 t745 (t751 != t745) a1_0 a1_1) else (trishawlaw06_TripMatched.j1 kj3 l0 l2 t742 t745 false a1_0 a1_1)))) else (none)) = some r := H
        have A26 := Aside0.mk A260
        clear A260
        by_cases c27 : t753 = true
        ·subst c27
         have H1 : (if t751 < t745 then (none) else (if (t747.length : Int) < 1 then (none) else (if (t747.length : Int) = 1 then (trishawlaw06_TripMatched.j1 kj3 l0 l2 t742 t745 (t751 != t745) a1_0 a1_1) else (trishawlaw06_TripMatched.j1 kj3 l0 l2 t742 t745 false a1_0 a1_1)))) = some r := by rw [if_pos rfl] at H; exact H
         clear H
         have H := H1
         clear H1
         by_cases c28 : t751 < t745
         ·rw [if_pos c28] at H
          exact absurd H (by simp)
         ·rw [if_neg c28] at H
          have c28b0 : decide (t751 < t745) = false := decide_eq_false c28
          clear c28
          by_cases c29 : (t747.length : Int) < 1
          ·rw [if_pos c29] at H
           exact absurd H (by simp)
          ·rw [if_neg c29] at H
           have c29b0 : decide ((t747.length : Int) < 1) = false := decide_eq_false c29
           have c29b1 : decide (t747.length < 1) = false := decide_eq_false (by omega)
           clear c29
           by_cases c30 : (t747.length : Int) = 1
           ·rw [if_pos c30] at H
            have c30b0 : ((t747.length : Int) == 1) = true := beq_iff_eq.mpr c30
            have c30b1 : ((t747.length : Int) != 1) = false := bne_eq_false_iff_eq.mpr c30
            clear c30
            have H' := Aside0.mk H
            clear H
            obtain ⟨Ao31, co31, eo31⟩ := Kd.R_slice HO744.out
            subst eo31
            go_wp2_with (first | (go_at_call 34; (with_reducible refine (trishawref06_IsOrder.calls kj3 (l0.length : Int) _ _ t742 true _ ?side1 ?side2 A26.out).mono ?_); (case side1 => repeat (first | exact (Kd.R_reads' HO744.out).2.2 | (with_reducible refine Kd.C_alloc ?_ _) | (with_reducible refine Kd.C_drewN ?_ _) | (with_reducible refine Kd.C_drew ?_))); (case side2 => exact (Kd.R_reads' HO744.out).2.1); rintro e w32 ⟨rfl, hb⟩; have n0_ := Aside0.mk (Kd.R_below (by (with_reducible repeat (first | apply Kd.R_alloc | apply Kd.R_drewN | apply Kd.R_drew)); exact HO744.out) hb); have n1_ := Aside0.mk (Kd.S_below (by (with_reducible repeat (first | apply Kd.S_alloc | apply Kd.S_drewN | apply Kd.S_drew)); exact HO750.out) hb); have n2_ := Aside0.mk (blk_below (g := gb738) (o := .cells #[.int .i64 a1_0, .int .i64 a1_1] 24 (0, 0)) (by (with_reducible repeat (first | apply kdn | apply kdr | apply kal)); exact BK738.out) hb); have n3_ := Aside0.mk (below_step (by repeat (first | (with_reducible first | exact HB.out | apply lal | apply ldn | apply ldr | refine below_set ?_ GE738.out) | exact HB.out)) hb); clear HO744; clear HO750; clear BK738; clear HB; have HO744 := n0_; have HO750 := n1_; have BK738 := n2_; have HB := n3_; clear n0_ n1_ n2_ n3_; (try clear hb); (try clear hb2); (try clear hk); (try clear hi); obtain ⟨Ao33, co33, eo33⟩ := Kd.S_slice HO750.out; subst eo33))
            go_meet
            case rel => exact ⟨_, ((t751 != t745)), (by first | rfl | (simp; done) | (simp [*]; done)), H', ⟨by have := HJ3.out; first | omega | exact Nat.le_refl _⟩, ⟨by (with_reducible repeat (first | apply Kd.R_alloc | apply Kd.R_drewN | apply Kd.R_drew)); exact HO744.out⟩, ⟨by (with_reducible repeat (first | apply kdn | apply kdr | apply kal)); exact BK738.out⟩, ⟨by repeat (first | (with_reducible first | exact HB.out | apply lal | apply ldn | apply ldr | refine below_set ?_ GE738.out) | exact HB.out)⟩⟩
           ·rw [if_neg c30] at H
            have c30b0 : ((t747.length : Int) == 1) = false := beq_eq_false_iff_ne.mpr c30
            have c30b1 : ((t747.length : Int) != 1) = true := bne_iff_ne.mpr c30
            have H' := Aside0.mk H
            clear H
            obtain ⟨Ao34, co34, eo34⟩ := Kd.R_slice HO744.out
            subst eo34
            go_wp2_with (first | (go_at_call 34; (with_reducible refine (trishawref06_IsOrder.calls kj3 (l0.length : Int) _ _ t742 true _ ?side1 ?side2 A26.out).mono ?_); (case side1 => repeat (first | exact (Kd.R_reads' HO744.out).2.2 | (with_reducible refine Kd.C_alloc ?_ _) | (with_reducible refine Kd.C_drewN ?_ _) | (with_reducible refine Kd.C_drew ?_))); (case side2 => exact (Kd.R_reads' HO744.out).2.1); rintro e w35 ⟨rfl, hb⟩; have n0_ := Aside0.mk (Kd.R_below (by (with_reducible repeat (first | apply Kd.R_alloc | apply Kd.R_drewN | apply Kd.R_drew)); exact HO744.out) hb); have n1_ := Aside0.mk (Kd.S_below (by (with_reducible repeat (first | apply Kd.S_alloc | apply Kd.S_drewN | apply Kd.S_drew)); exact HO750.out) hb); have n2_ := Aside0.mk (blk_below (g := gb738) (o := .cells #[.int .i64 a1_0, .int .i64 a1_1] 24 (0, 0)) (by (with_reducible repeat (first | apply kdn | apply kdr | apply kal)); exact BK738.out) hb); have n3_ := Aside0.mk (below_step (by repeat (first | (with_reducible first | exact HB.out | apply lal | apply ldn | apply ldr | refine below_set ?_ GE738.out) | exact HB.out)) hb); clear HO744; clear HO750; clear BK738; clear HB; have HO744 := n0_; have HO750 := n1_; have BK738 := n2_; have HB := n3_; clear n0_ n1_ n2_ n3_; (try clear hb); (try clear hb2); (try clear hk); (try clear hi); obtain ⟨Ao36, co36, eo36⟩ := Kd.S_slice HO750.out; subst eo36))
            go_meet
            case rel => exact ⟨_, (false), (by first | rfl | (simp; done) | (simp [*]; done)), H', ⟨by have := HJ3.out; first | omega | exact Nat.le_refl _⟩, ⟨by (with_reducible repeat (first | apply Kd.R_alloc | apply Kd.R_drewN | apply Kd.R_drew)); exact HO744.out⟩, ⟨by (with_reducible repeat (first | apply kdn | apply kdr | apply kal)); exact BK738.out⟩, ⟨by repeat (first | (with_reducible first | exact HB.out | apply lal | apply ldn | apply ldr | refine below_set ?_ GE738.out) | exact HB.out)⟩⟩
        ·replace c27 := Bool.eq_false_iff.mpr c27
         subst c27
         have H1 : (none) = some r := by rw [if_neg (show ¬ (false = true) by decide)] at H; exact H
         clear H
         have H := H1
         clear H1
         exact absurd H (by simp)
       ·rw [if_neg c25] at H
        exact absurd H (by simp)
      ·rw [if_neg c24] at H
       exact absurd H (by simp)
     ·rw [if_neg c23] at H
      exact absurd H (by simp)
    case rest =>
     clear HC17
     try clear c1
     try clear c2
     try clear p2
     try clear c3
     try clear c7
     try clear c11
     try clear c13
     try clear c15
     try clear c16
     try clear c21
     try clear c23
     try clear c23b0
     try clear c23b1
     try clear c24
     try clear c24b0
     try clear c24b1
     try clear c25
     try clear c25b0
     try clear c25b1
     try clear c27
     try clear c28
     try clear c28b0
     try clear c29
     try clear c29b0
     try clear c29b1
     try clear c30
     try clear c30b0
     try clear c30b1
     try clear c33
     try clear hcz18_0
     try clear hcz18_1
     try clear hcz21_0
     try clear hcz21_1
     try clear hcz9_0
     try clear hcz9_1
     try clear hfz18_0
     try clear hfz18_1
     try clear hfz21_0
     try clear hfz21_1
     try clear hfz9_0
     try clear hfz9_1
     try clear p2
     obtain ⟨kq, x87_16, rfl, HA, HJ16, HO_7, BK738, HB⟩ := hcut
     cases kq with
     | zero => exact absurd HA.out (by simp [trishawlaw06_TripMatched.j1])
     | succ kj16 =>
      have H := HA.out
      clear HA
      simp only [trishawlaw06_TripMatched.j1] at H
      by_cases c37 : x87_16 = true
      ·subst c37
       have H1 : (none) = some r := by rw [if_pos rfl] at H; exact H
       clear H
       have H := H1
       clear H1
       exact absurd H (by simp)
      ·replace c37 := Bool.eq_false_iff.mpr c37
       subst c37
       have H1 : (trishawlaw06_TripMatched.l0 kj16 l0 l2 t742 t745 0 0 0 a1_0 a1_1) = some r := by rw [if_neg (show ¬ (false = true) by decide)] at H; exact H
       clear H
       have H := H1
       clear H1
       have H' := Aside0.mk H
       clear H
       go_wp2
       go_loopg [14, 16] kj16 (fun kq v14 v16 w' => ∃ (x14_3 : Int) (x16_3 : Int), v14 = .int .i64 x14_3 ∧ v16 = .int .i64 x16_3 ∧ Aside0 (trishawlaw06_TripMatched.l0 kq l0 l2 t742 t745 x14_3 0 x16_3 a1_0 a1_1 = some r) ∧ Aside0 (kq ≤ kj16) ∧ Aside0 (Kd.R (Kd.int .i64) 3 w' w.heap.size (fun _ => True) v743 t742) ∧ Aside0 (w'.heap[gb738]? = some (.cells #[.int .i64 a1_0, .int .i64 a1_1] 24 (0, 0))) ∧ Aside0 (Below w.heap.size w w'))
       case atStart => exact ⟨(0), (0), (by first | rfl | (simp; done) | (simp [*]; done)), (by first | rfl | (simp; done) | (simp [*]; done)), H', ⟨Nat.le_refl _⟩, ⟨by (with_reducible repeat (first | apply Kd.R_alloc | apply Kd.R_drewN | apply Kd.R_drew)); exact HO_7.out⟩, ⟨by (with_reducible repeat (first | apply kdn | apply kdr | apply kal)); exact BK738.out⟩, ⟨by repeat (first | (with_reducible first | exact HB.out | apply lal | apply ldn | apply ldr | refine below_set ?_ GE738.out) | exact HB.out)⟩⟩
       case round =>
        clear H'
        try clear c1
        try clear c2
        try clear p2
        try clear c3
        try clear c7
        try clear c11
        try clear c13
        try clear c15
        try clear c16
        try clear c21
        try clear c23
        try clear c23b0
        try clear c23b1
        try clear c24
        try clear c24b0
        try clear c24b1
        try clear c25
        try clear c25b0
        try clear c25b1
        try clear c27
        try clear c28
        try clear c28b0
        try clear c29
        try clear c29b0
        try clear c29b1
        try clear c30
        try clear c30b0
        try clear c30b1
        try clear c33
        try clear c37
        try clear hcz18_0
        try clear hcz18_1
        try clear hcz21_0
        try clear hcz21_1
        try clear hcz9_0
        try clear hcz9_1
        try clear hfz18_0
        try clear hfz18_1
        try clear hfz21_0
        try clear hfz21_1
        try clear hfz9_0
        try clear hfz9_1
        try clear p2
        obtain ⟨x14_3, x16_3, rfl, rfl, HA, HK3, HO_7, BK738, HB⟩ := hrel
        cases gk with
        | zero => exact absurd HA.out (by simp [trishawlaw06_TripMatched.l0])
        | succ k3 =>
         have H := HA.out
         clear HA
         simp only [trishawlaw06_TripMatched.l0] at H
         by_cases c38 : x16_3 < (l0.length : Int)
         ·rw [if_pos c38] at H
          have c38b0 : decide (x16_3 < (l0.length : Int)) = true := decide_eq_true c38
          clear c38
          by_cases c39 : 0 ≤ x16_3
          ·rw [if_pos c39] at H
           have c39b0 : decide (0 ≤ x16_3) = true := decide_eq_true c39
           clear c39
           by_cases c40 : x16_3 < (t742.length : Int)
           ·rw [if_pos c40] at H
            have c40b0 : decide (x16_3 < (t742.length : Int)) = true := decide_eq_true c40
            clear c40
            replace H := Option.bind_eq_some_iff.mp H
            obtain ⟨⟨t755, t756⟩, A410, H⟩ := H
            replace H : (if t756 = 0 then (trishawlaw06_TripMatched.l0 k3 l0 l2 t742 t745 (wrap64 (x14_3 + t755)) 0 (wrap64 (x16_3 + 1)) a1_0 a1_1) else (none)) = some r := H
            have A41 := Aside0.mk A410
            clear A410
            by_cases c42 : t756 = 0
            ·rw [if_pos c42] at H
             have c42b0 : (t756 == 0) = true := beq_iff_eq.mpr c42
             have c42b1 : (t756 != 0) = false := bne_eq_false_iff_eq.mpr c42
             clear c42
             have H' := Aside0.mk H
             clear H
             try go_wp2
             have n0_ := Aside0.mk (Kd.R_drew HO_7.out)
             have n1_ := Aside0.mk (blk_drew BK738.out)
             have n2_ := Aside0.mk (below_drew1 HB.out)
             clear HO_7
             clear BK738
             clear HB
             have HO_7 := n0_
             have BK738 := n1_
             have HB := n2_
             clear n0_ n1_ n2_
             obtain ⟨Ao44, co44, eo44⟩ := Kd.R_slice HO_7.out
             (first | subst eo44 | (injection eo44 with f1_ f2_ f3_; have f4_ := f1_.symm; have f5_ := f3_.symm; clear f1_ f2_ f3_; subst f4_; subst f5_))
             have p754 : 0 ≤ (x16_3 : Int) := of_decide_eq_true (by first | (with_reducible assumption) | assumption)
             have q754 : x16_3 < (t742.length : Int) := of_decide_eq_true (by first | (with_reducible assumption) | assumption)
             obtain ⟨ad754, e754, hx754_0⟩ := Kd.at_int (Kd.R_reads' HO_7.out).2.2 x16_3 p754 q754
             cases e754
             replace p754 := eq_true p754
             replace q754 := eq_true q754
             refine start_ (n := 13) (S := fun w' => w'.cell? ⟨gb738, 0, none⟩ = some (.int .i64 a1_0) ∧ w'.cell? ⟨gb738, 1, none⟩ = some (.int .i64 a1_1) ∧ w'.cell? (ad754.add (x16_3).toNat) = some (.int .i64 (rd t742 x16_3))) (ds := []) #[false, false, false, false, false, false, false, false, false, false, false, false, false] (by kernel_rfl) rfl rfl ⟨(blk_cell BK738.out 0).trans rfl, (blk_cell BK738.out 1).trans rfl, hx754_0⟩ (fun hHeld => ?_); refine with_tabW trishawlaw06_TripMatched.tab12 trishawlaw06_TripMatched.bits12 (fun HT_ HW_ => ?_)
             generalize wr.drew = w43 at HO_7 BK738 HB hx754_0 hHeld ⊢
             refine pure_ (i := 0) (N := some 95) (v := ?_) (a' := ?_) #[true, false, false, false, false, false, false, false, false, false, false, false, false] rfl rfl (any_of HT_.out (by kernel_rfl)) (fun _ _ _ h => h) (Or.inl ⟨by rfl, ?_⟩) ?_ ?_
             rotate_left
             ·intro w'
              go_simp
              with_reducible rfl
             rotate_left
             ·simp only [Act.put, sia, sc0, scs, i64_w, i32_w]
              rfl
             refine pure_ (i := 2) (N := some 97) (v := ?_) (a' := ?_) #[true, false, true, false, false, false, false, false, false, false, false, false, false] rfl rfl (any_of HT_.out (by kernel_rfl)) (fun _ _ _ h => h) (Or.inl ⟨by rfl, ?_⟩) ?_ ?_
             rotate_left
             ·intro w'
              go_simp
              with_reducible rfl
             rotate_left
             ·simp only [Act.put, sia, sc0, scs, i64_w, i32_w]
              rfl
             refine pure_ (i := 3) (N := some 98) (v := ?_) (a' := ?_) #[true, false, true, true, false, false, false, false, false, false, false, false, false] rfl rfl (any_of HT_.out (by kernel_rfl)) (fun _ _ _ h => h) (Or.inl ⟨by rfl, ?_⟩) ?_ ?_
             rotate_left
             ·intro w'
              go_simp
              with_reducible rfl
             rotate_left
             ·simp only [Act.put, sia, sc0, scs, i64_w, i32_w]
              rfl
             refine pure_ (i := 4) (N := some 99) (v := ?_) (a' := ?_) #[true, false, true, true, true, false, false, false, false, false, false, false, false] rfl rfl (any_of HT_.out (by kernel_rfl)) (fun _ _ _ h => h) (Or.inl ⟨by rfl, ?_⟩) ?_ ?_
             rotate_left
             ·intro w'
              go_simp
              with_reducible rfl
             rotate_left
             ·simp only [Act.put, sia, sc0, scs, i64_w, i32_w]
              rfl
             refine pure_ (i := 5) (N := some 100) (v := ?_) (a' := ?_) #[true, false, true, true, true, true, false, false, false, false, false, false, false] rfl rfl (any_of HT_.out (by kernel_rfl)) (fun _ _ _ h => h) (Or.inl ⟨by rfl, ?_⟩) ?_ ?_
             rotate_left
             ·intro w'
              go_simp
              with_reducible rfl
             rotate_left
             ·simp only [Act.put, sia, sc0, scs, i64_w, i32_w]
              rfl
             refine take_ (i := 1) (N := some 96) (v := ?_) (a' := ?_) #[true, true, true, true, true, true, false, false, false, false, false, false, false] rfl rfl (take_ofW HT_.out HW_.out (by kernel_rfl)) (fun _ _ _ h => h) (Or.inl ⟨by rfl, ?_⟩) hHeld ?_ ?_
             rotate_left
             ·rintro w' ⟨s0, s1, s2⟩
              go_simp
              with_reducible rfl
             rotate_left
             ·simp only [Act.put, sia, sc0, scs, i64_w, i32_w]
              rfl
             refine take_ (i := 6) (N := some 101) (v := ?_) (a' := ?_) #[true, true, true, true, true, true, true, false, false, false, false, false, false] rfl rfl (take_ofW HT_.out HW_.out (by kernel_rfl)) (fun _ _ _ h => h) (Or.inl ⟨by rfl, ?_⟩) hHeld ?_ ?_
             rotate_left
             ·rintro w' ⟨s0, s1, s2⟩
              go_simp
              with_reducible rfl
             rotate_left
             ·simp only [Act.put, sia, sc0, scs, i64_w, i32_w]
              rfl
             refine one_ (i := 7) (N := some 102) #[true, true, true, true, true, true, true, true, false, false, false, false, false] rfl rfl (one_of HT_.out (by kernel_rfl)) (by decide) (fun K hK => ?_)
             refine goes_ Try.func37 (by kernel_rfl) rfl #[.slice A0 l0.length c0, .agg #[.int .i64 a1_0, .int .i64 a1_1], .int .i64 x16_3, .int .i64 (rd t742 x16_3)] (by rfl) rfl rfl (by (try simp only [List.map_toArray, List.map_cons, List.map_nil]); first | done | rfl | (simp only [List.length_drop, List.length_take]; rfl)) ?_
             with_reducible refine (trip_Empty.calls _ _ l0 a1_0 a1_1 x16_3 (rd t742 x16_3) t755 t756 _ ?side1 ?side2 A41.out).mono ?_
             (case side1 => repeat (first | exact (Kd.C_below HR0.out HB.out) | (with_reducible refine Kd.C_alloc ?_ _) | (with_reducible refine Kd.C_drewN ?_ _) | (with_reducible refine Kd.C_drew ?_)))
             (case side2 => exact HC0.out)
             rintro e w45 ⟨rfl, hb⟩
             have HS2_ := (hb.cell (World.block_lt_of_cell? _ _ (hHeld.2.2))).trans (hHeld.2.2)
             refine ⟨_, rfl, ?_⟩
             have n0_ := Aside0.mk (Kd.R_below (by (with_reducible repeat (first | apply Kd.R_alloc | apply Kd.R_drewN | apply Kd.R_drew)); exact HO_7.out) hb)
             have n1_ := Aside0.mk (blk_below (g := gb738) (o := .cells #[.int .i64 a1_0, .int .i64 a1_1] 24 (0, 0)) (by (with_reducible repeat (first | apply kdn | apply kdr | apply kal)); exact BK738.out) hb)
             have n2_ := Aside0.mk (below_step (by repeat (first | (with_reducible first | exact HB.out | apply lal | apply ldn | apply ldr | refine below_set ?_ GE738.out) | exact HB.out)) hb)
             clear HO_7
             clear BK738
             clear HB
             have HO_7 := n0_
             have BK738 := n1_
             have HB := n2_
             clear n0_ n1_ n2_
             (try clear hb)
             (try clear hb2)
             (try clear hk)
             (try clear hi)
             refine hK.out _ _ ⟨(blk_cell BK738.out 0).trans rfl, (blk_cell BK738.out 1).trans rfl, HS2_⟩ (fun hHeld => ?_)
             clear hK K
             refine norm_ (a' := ?_) ?_ ?_
             rotate_left
             ·show Act.put _ (some 102) _ = _
              simp only [Act.put, sia, sc0, scs, i64_w, i32_w]
              rfl
             refine pure_ (i := 8) (N := some 94) (v := ?_) (a' := ?_) #[true, true, true, true, true, true, true, true, true, false, false, false, false] rfl rfl (any_of HT_.out (by kernel_rfl)) (fun _ _ _ h => h) (Or.inl ⟨by rfl, ?_⟩) ?_ ?_
             rotate_left
             ·intro w'
              go_simp
              with_reducible rfl
             rotate_left
             ·simp only [Act.put, sia, sc0, scs, i64_w, i32_w]
              rfl
             refine pure_ (i := 9) (N := some 103) (v := ?_) (a' := ?_) #[true, true, true, true, true, true, true, true, true, true, false, false, false] rfl rfl (any_of HT_.out (by kernel_rfl)) (fun _ _ _ h => h) (Or.inl ⟨by rfl, ?_⟩) ?_ ?_
             rotate_left
             ·intro w'
              go_simp
              with_reducible rfl
             rotate_left
             ·simp only [Act.put, sia, sc0, scs, i64_w, i32_w]
              rfl
             refine pure_ (i := 10) (N := some 104) (v := ?_) (a' := ?_) #[true, true, true, true, true, true, true, true, true, true, true, false, false] rfl rfl (any_of HT_.out (by kernel_rfl)) (fun _ _ _ h => h) (Or.inl ⟨by rfl, ?_⟩) ?_ ?_
             rotate_left
             ·intro w'
              go_simp
              with_reducible rfl
             rotate_left
             ·simp only [Act.put, sia, sc0, scs, i64_w, i32_w]
              rfl
             refine pure_ (i := 11) (N := some 17) (v := ?_) (a' := ?_) #[true, true, true, true, true, true, true, true, true, true, true, true, false] rfl rfl (any_of HT_.out (by kernel_rfl)) (fun _ _ _ h => h) (Or.inl ⟨by rfl, ?_⟩) ?_ ?_
             rotate_left
             ·intro w'
              go_simp
              with_reducible rfl
             rotate_left
             ·simp only [Act.put, sia, sc0, scs, i64_w, i32_w]
              rfl
             refine pure_ (i := 12) (N := some 18) (v := ?_) (a' := ?_) #[true, true, true, true, true, true, true, true, true, true, true, true, true] rfl rfl (any_of HT_.out (by kernel_rfl)) (fun _ _ _ h => h) (Or.inl ⟨by rfl, ?_⟩) ?_ ?_
             rotate_left
             ·intro w'
              go_simp
              with_reducible rfl
             rotate_left
             ·simp only [Act.put, sia, sc0, scs, i64_w, i32_w]
              rfl
             refine done_ (done_of HT_.out (by kernel_rfl)) ?_
             try go_wp2
             go_roundg k3
             case measure => have := HJ3.out; have := HJ16.out; have := HK3.out; omega
             case rel => exact ⟨(wrap64 (x14_3 + t755)), (wrap64 (x16_3 + 1)), (by first | rfl | (simp; done) | (simp [*]; done)), (by first | rfl | (simp; done) | (simp [*]; done)), H', ⟨by have := HJ3.out; have := HJ16.out; have := HK3.out; omega⟩, ⟨by (with_reducible repeat (first | apply Kd.R_alloc | apply Kd.R_drewN | apply Kd.R_drew)); exact HO_7.out⟩, ⟨by (with_reducible repeat (first | apply kdn | apply kdr | apply kal)); exact BK738.out⟩, ⟨by repeat (first | (with_reducible first | exact HB.out | apply lal | apply ldn | apply ldr | refine below_set ?_ GE738.out) | exact HB.out)⟩⟩
            ·rw [if_neg c42] at H
             exact absurd H (by simp)
           ·rw [if_neg c40] at H
            exact absurd H (by simp)
          ·rw [if_neg c39] at H
           exact absurd H (by simp)
         ·rw [if_neg c38] at H
          have c38b0 : decide (x16_3 < (l0.length : Int)) = false := decide_eq_false c38
          clear c38
          by_cases c46 : x14_3 = t745
          ·rw [if_pos c46] at H
           have c46b0 : (x14_3 == t745) = true := beq_iff_eq.mpr c46
           have c46b1 : (x14_3 != t745) = false := bne_eq_false_iff_eq.mpr c46
           clear c46
           replace H := Option.bind_eq_some_iff.mp H
           obtain ⟨t757, A470, H⟩ := H
           replace H : (if t757 = true then (trishawlaw06_TripMatched.l1 k3 l0 l2 t745 0 0 a1_0 a1_1) else ((trishawlaw06_alive.f k3).bind fun t758 => (some t758))) = some r := H
           have A47 := Aside0.mk A470
           clear A470
           by_cases c48 : t757 = true
           ·subst c48
            have H1 : (trishawlaw06_TripMatched.l1 k3 l0 l2 t745 0 0 a1_0 a1_1) = some r := by rw [if_pos rfl] at H; exact H
            clear H
            have H := H1
            clear H1
            have H' := Aside0.mk H
            clear H
            go_wp2_with (first | ((with_reducible refine gate_callee (f := 34) rfl ?_); refine goesL_ (some 116) rfl rfl Try.func34 (by kernel_rfl) rfl #[.int .i64 (l0.length : Int), .slice A2 l2.length c2] rfl (by (try simp only [List.map_toArray, List.map_cons, List.map_nil]); first | done | rfl | (simp only [List.length_drop, List.length_take]; rfl)) ?_; (with_reducible refine (trishawref06_IsOrder.calls k3 (l0.length : Int) _ _ l2 true _ ?side1 ?side2 A47.out).mono ?_); (case side1 => repeat (first | exact (Kd.C_below HR2.out HB.out) | (with_reducible refine Kd.C_alloc ?_ _) | (with_reducible refine Kd.C_drewN ?_ _) | (with_reducible refine Kd.C_drew ?_))); (case side2 => exact HC2.out); rintro e w49 ⟨rfl, hb⟩; refine ⟨_, rfl, ?_⟩; have n0_ := Aside0.mk (Kd.R_below (by (with_reducible repeat (first | apply Kd.R_alloc | apply Kd.R_drewN | apply Kd.R_drew)); exact HO_7.out) hb); have n1_ := Aside0.mk (blk_below (g := gb738) (o := .cells #[.int .i64 a1_0, .int .i64 a1_1] 24 (0, 0)) (by (with_reducible repeat (first | apply kdn | apply kdr | apply kal)); exact BK738.out) hb); have n2_ := Aside0.mk (below_step (by repeat (first | (with_reducible first | exact HB.out | apply lal | apply ldn | apply ldr | refine below_set ?_ GE738.out) | exact HB.out)) hb); clear HO_7; clear BK738; clear HB; have HO_7 := n0_; have BK738 := n1_; have HB := n2_; clear n0_ n1_ n2_; (try clear hb); (try clear hb2); (try clear hk); (try clear hi)))
            go_loopg [15, 19] k3 (fun kq v15 v19 w' => ∃ (x15_4 : Int) (x19_4 : Int), v15 = .int .i64 x15_4 ∧ v19 = .int .i64 x19_4 ∧ Aside0 (trishawlaw06_TripMatched.l1 kq l0 l2 t745 x15_4 x19_4 a1_0 a1_1 = some r) ∧ Aside0 (kq ≤ k3) ∧ Aside0 (w'.heap[gb738]? = some (.cells #[.int .i64 a1_0, .int .i64 a1_1] 24 (0, 0))) ∧ Aside0 (Below w.heap.size w w'))
            case atStart => exact ⟨(0), (0), (by first | rfl | (simp; done) | (simp [*]; done)), (by first | rfl | (simp; done) | (simp [*]; done)), H', ⟨Nat.le_refl _⟩, ⟨by (with_reducible repeat (first | apply kdn | apply kdr | apply kal)); exact BK738.out⟩, ⟨by repeat (first | (with_reducible first | exact HB.out | apply lal | apply ldn | apply ldr | refine below_set ?_ GE738.out) | exact HB.out)⟩⟩
            case round =>
             clear H'
             try clear c1
             try clear c2
             try clear p2
             try clear c3
             try clear c4
             try clear p6
             try clear c7
             try clear p7
             try clear q7
             try clear hx7
             try clear c11
             try clear c13
             try clear c15
             try clear c16
             try clear c21
             try clear c23
             try clear c23b0
             try clear c23b1
             try clear c24
             try clear c24b0
             try clear c24b1
             try clear c25
             try clear c25b0
             try clear c25b1
             try clear c27
             try clear c28
             try clear c28b0
             try clear c29
             try clear c29b0
             try clear c29b1
             try clear c30
             try clear c30b0
             try clear c30b1
             try clear c33
             try clear c34
             try clear c37
             try clear c38
             try clear c38b0
             try clear c39
             try clear c39b0
             try clear c40
             try clear c40b0
             try clear c42
             try clear c42b0
             try clear c42b1
             try clear c46
             try clear c46b0
             try clear c46b1
             try clear c48
             try clear hcz18_0
             try clear hcz18_1
             try clear hcz21_0
             try clear hcz21_1
             try clear hcz9_0
             try clear hcz9_1
             try clear hfz18_0
             try clear hfz18_1
             try clear hfz21_0
             try clear hfz21_1
             try clear hfz9_0
             try clear hfz9_1
             try clear hx754_0
             try clear p2
             try clear p754
             try clear q754
             obtain ⟨x15_4, x19_4, rfl, rfl, HA, HK4, BK738, HB⟩ := hrel
             cases gk with
             | zero => exact absurd HA.out (by simp [trishawlaw06_TripMatched.l1])
             | succ k4 =>
              have H := HA.out
              clear HA
              simp only [trishawlaw06_TripMatched.l1] at H
              by_cases c50 : x19_4 < (l0.length : Int)
              ·rw [if_pos c50] at H
               have c50b0 : decide (x19_4 < (l0.length : Int)) = true := decide_eq_true c50
               clear c50
               by_cases c51 : 0 ≤ x19_4
               ·rw [if_pos c51] at H
                have c51b0 : decide (0 ≤ x19_4) = true := decide_eq_true c51
                clear c51
                by_cases c52 : x19_4 < (l2.length : Int)
                ·rw [if_pos c52] at H
                 have c52b0 : decide (x19_4 < (l2.length : Int)) = true := decide_eq_true c52
                 clear c52
                 replace H := Option.bind_eq_some_iff.mp H
                 obtain ⟨⟨t760, t761⟩, A530, H⟩ := H
                 replace H : (if t761 = 0 then (trishawlaw06_TripMatched.l1 k4 l0 l2 t745 (wrap64 (x15_4 + t760)) (wrap64 (x19_4 + 1)) a1_0 a1_1) else (none)) = some r := H
                 have A53 := Aside0.mk A530
                 clear A530
                 by_cases c54 : t761 = 0
                 ·rw [if_pos c54] at H
                  have c54b0 : (t761 == 0) = true := beq_iff_eq.mpr c54
                  have c54b1 : (t761 != 0) = false := bne_eq_false_iff_eq.mpr c54
                  clear c54
                  have H' := Aside0.mk H
                  clear H
                  try go_wp2
                  have n0_ := Aside0.mk (blk_drew BK738.out)
                  have n1_ := Aside0.mk (below_drew1 HB.out)
                  clear BK738
                  clear HB
                  have BK738 := n0_
                  have HB := n1_
                  clear n0_ n1_
                  have p759 : 0 ≤ (x19_4 : Int) := of_decide_eq_true (by first | (with_reducible assumption) | assumption)
                  have q759 : x19_4 < (l2.length : Int) := of_decide_eq_true (by first | (with_reducible assumption) | assumption)
                  obtain ⟨ad759, e759, hx759_0⟩ := Kd.at_int HR2.out x19_4 p759 q759
                  have hw759_0 := hx759_0
                  cases e759
                  replace hx759_0 := (HB.out.cell (World.block_lt_of_cell? w _ hx759_0)).trans hx759_0
                  replace p759 := eq_true p759
                  replace q759 := eq_true q759
                  refine start_ (n := 13) (S := fun w' => w'.cell? ⟨gb738, 0, none⟩ = some (.int .i64 a1_0) ∧ w'.cell? ⟨gb738, 1, none⟩ = some (.int .i64 a1_1) ∧ w'.cell? (ad759.add (x19_4).toNat) = some (.int .i64 (rd l2 x19_4))) (ds := []) #[false, false, false, false, false, false, false, false, false, false, false, false, false] (by kernel_rfl) rfl rfl ⟨(blk_cell BK738.out 0).trans rfl, (blk_cell BK738.out 1).trans rfl, ((HB.out.cell (World.block_lt_of_cell? w _ hw759_0)).trans hw759_0)⟩ (fun hHeld => ?_); refine with_tabW trishawlaw06_TripMatched.tab23 trishawlaw06_TripMatched.bits23 (fun HT_ HW_ => ?_)
                  generalize wr.drew = w55 at BK738 HB hx759_0 hHeld ⊢
                  refine pure_ (i := 0) (N := some 126) (v := ?_) (a' := ?_) #[true, false, false, false, false, false, false, false, false, false, false, false, false] rfl rfl (any_of HT_.out (by kernel_rfl)) (fun _ _ _ h => h) (Or.inl ⟨by rfl, ?_⟩) ?_ ?_
                  rotate_left
                  ·intro w'
                   go_simp
                   with_reducible rfl
                  rotate_left
                  ·simp only [Act.put, sia, sc0, scs, i64_w, i32_w]
                   rfl
                  refine pure_ (i := 2) (N := some 128) (v := ?_) (a' := ?_) #[true, false, true, false, false, false, false, false, false, false, false, false, false] rfl rfl (any_of HT_.out (by kernel_rfl)) (fun _ _ _ h => h) (Or.inl ⟨by rfl, ?_⟩) ?_ ?_
                  rotate_left
                  ·intro w'
                   go_simp
                   with_reducible rfl
                  rotate_left
                  ·simp only [Act.put, sia, sc0, scs, i64_w, i32_w]
                   rfl
                  refine pure_ (i := 3) (N := some 129) (v := ?_) (a' := ?_) #[true, false, true, true, false, false, false, false, false, false, false, false, false] rfl rfl (any_of HT_.out (by kernel_rfl)) (fun _ _ _ h => h) (Or.inl ⟨by rfl, ?_⟩) ?_ ?_
                  rotate_left
                  ·intro w'
                   go_simp
                   with_reducible rfl
                  rotate_left
                  ·simp only [Act.put, sia, sc0, scs, i64_w, i32_w]
                   rfl
                  refine pure_ (i := 4) (N := some 130) (v := ?_) (a' := ?_) #[true, false, true, true, true, false, false, false, false, false, false, false, false] rfl rfl (any_of HT_.out (by kernel_rfl)) (fun _ _ _ h => h) (Or.inl ⟨by rfl, ?_⟩) ?_ ?_
                  rotate_left
                  ·intro w'
                   go_simp
                   with_reducible rfl
                  rotate_left
                  ·simp only [Act.put, sia, sc0, scs, i64_w, i32_w]
                   rfl
                  refine pure_ (i := 5) (N := some 131) (v := ?_) (a' := ?_) #[true, false, true, true, true, true, false, false, false, false, false, false, false] rfl rfl (any_of HT_.out (by kernel_rfl)) (fun _ _ _ h => h) (Or.inl ⟨by rfl, ?_⟩) ?_ ?_
                  rotate_left
                  ·intro w'
                   go_simp
                   with_reducible rfl
                  rotate_left
                  ·simp only [Act.put, sia, sc0, scs, i64_w, i32_w]
                   rfl
                  refine take_ (i := 1) (N := some 127) (v := ?_) (a' := ?_) #[true, true, true, true, true, true, false, false, false, false, false, false, false] rfl rfl (take_ofW HT_.out HW_.out (by kernel_rfl)) (fun _ _ _ h => h) (Or.inl ⟨by rfl, ?_⟩) hHeld ?_ ?_
                  rotate_left
                  ·rintro w' ⟨s0, s1, s2⟩
                   go_simp
                   with_reducible rfl
                  rotate_left
                  ·simp only [Act.put, sia, sc0, scs, i64_w, i32_w]
                   rfl
                  refine take_ (i := 6) (N := some 132) (v := ?_) (a' := ?_) #[true, true, true, true, true, true, true, false, false, false, false, false, false] rfl rfl (take_ofW HT_.out HW_.out (by kernel_rfl)) (fun _ _ _ h => h) (Or.inl ⟨by rfl, ?_⟩) hHeld ?_ ?_
                  rotate_left
                  ·rintro w' ⟨s0, s1, s2⟩
                   go_simp
                   with_reducible rfl
                  rotate_left
                  ·simp only [Act.put, sia, sc0, scs, i64_w, i32_w]
                   rfl
                  refine one_ (i := 7) (N := some 133) #[true, true, true, true, true, true, true, true, false, false, false, false, false] rfl rfl (one_of HT_.out (by kernel_rfl)) (by decide) (fun K hK => ?_)
                  refine goes_ Try.func37 (by kernel_rfl) rfl #[.slice A0 l0.length c0, .agg #[.int .i64 a1_0, .int .i64 a1_1], .int .i64 x19_4, .int .i64 (rd l2 x19_4)] (by rfl) rfl rfl (by (try simp only [List.map_toArray, List.map_cons, List.map_nil]); first | done | rfl | (simp only [List.length_drop, List.length_take]; rfl)) ?_
                  with_reducible refine (trip_Empty.calls _ _ l0 a1_0 a1_1 x19_4 (rd l2 x19_4) t760 t761 _ ?side1 ?side2 A53.out).mono ?_
                  (case side1 => repeat (first | exact (Kd.C_below HR0.out HB.out) | (with_reducible refine Kd.C_alloc ?_ _) | (with_reducible refine Kd.C_drewN ?_ _) | (with_reducible refine Kd.C_drew ?_)))
                  (case side2 => exact HC0.out)
                  rintro e w56 ⟨rfl, hb⟩
                  refine ⟨_, rfl, ?_⟩
                  have n0_ := Aside0.mk (blk_below (g := gb738) (o := .cells #[.int .i64 a1_0, .int .i64 a1_1] 24 (0, 0)) (by (with_reducible repeat (first | apply kdn | apply kdr | apply kal)); exact BK738.out) hb)
                  have n1_ := Aside0.mk (below_step (by repeat (first | (with_reducible first | exact HB.out | apply lal | apply ldn | apply ldr | refine below_set ?_ GE738.out) | exact HB.out)) hb)
                  clear BK738
                  clear HB
                  have BK738 := n0_
                  have HB := n1_
                  clear n0_ n1_
                  (try clear hb)
                  (try clear hb2)
                  (try clear hk)
                  (try clear hi)
                  refine hK.out _ _ ⟨(blk_cell BK738.out 0).trans rfl, (blk_cell BK738.out 1).trans rfl, ((HB.out.cell (World.block_lt_of_cell? w _ hw759_0)).trans hw759_0)⟩ (fun hHeld => ?_)
                  clear hK K
                  refine norm_ (a' := ?_) ?_ ?_
                  rotate_left
                  ·show Act.put _ (some 133) _ = _
                   simp only [Act.put, sia, sc0, scs, i64_w, i32_w]
                   rfl
                  refine pure_ (i := 8) (N := some 125) (v := ?_) (a' := ?_) #[true, true, true, true, true, true, true, true, true, false, false, false, false] rfl rfl (any_of HT_.out (by kernel_rfl)) (fun _ _ _ h => h) (Or.inl ⟨by rfl, ?_⟩) ?_ ?_
                  rotate_left
                  ·intro w'
                   go_simp
                   with_reducible rfl
                  rotate_left
                  ·simp only [Act.put, sia, sc0, scs, i64_w, i32_w]
                   rfl
                  refine pure_ (i := 9) (N := some 134) (v := ?_) (a' := ?_) #[true, true, true, true, true, true, true, true, true, true, false, false, false] rfl rfl (any_of HT_.out (by kernel_rfl)) (fun _ _ _ h => h) (Or.inl ⟨by rfl, ?_⟩) ?_ ?_
                  rotate_left
                  ·intro w'
                   go_simp
                   with_reducible rfl
                  rotate_left
                  ·simp only [Act.put, sia, sc0, scs, i64_w, i32_w]
                   rfl
                  refine pure_ (i := 10) (N := some 135) (v := ?_) (a' := ?_) #[true, true, true, true, true, true, true, true, true, true, true, false, false] rfl rfl (any_of HT_.out (by kernel_rfl)) (fun _ _ _ h => h) (Or.inl ⟨by rfl, ?_⟩) ?_ ?_
                  rotate_left
                  ·intro w'
                   go_simp
                   with_reducible rfl
                  rotate_left
                  ·simp only [Act.put, sia, sc0, scs, i64_w, i32_w]
                   rfl
                  refine pure_ (i := 11) (N := some 20) (v := ?_) (a' := ?_) #[true, true, true, true, true, true, true, true, true, true, true, true, false] rfl rfl (any_of HT_.out (by kernel_rfl)) (fun _ _ _ h => h) (Or.inl ⟨by rfl, ?_⟩) ?_ ?_
                  rotate_left
                  ·intro w'
                   go_simp
                   with_reducible rfl
                  rotate_left
                  ·simp only [Act.put, sia, sc0, scs, i64_w, i32_w]
                   rfl
                  refine pure_ (i := 12) (N := some 21) (v := ?_) (a' := ?_) #[true, true, true, true, true, true, true, true, true, true, true, true, true] rfl rfl (any_of HT_.out (by kernel_rfl)) (fun _ _ _ h => h) (Or.inl ⟨by rfl, ?_⟩) ?_ ?_
                  rotate_left
                  ·intro w'
                   go_simp
                   with_reducible rfl
                  rotate_left
                  ·simp only [Act.put, sia, sc0, scs, i64_w, i32_w]
                   rfl
                  refine done_ (done_of HT_.out (by kernel_rfl)) ?_
                  try go_wp2
                  go_roundg k4
                  case measure => have := HJ3.out; have := HJ16.out; have := HK3.out; have := HK4.out; omega
                  case rel => exact ⟨(wrap64 (x15_4 + t760)), (wrap64 (x19_4 + 1)), (by first | rfl | (simp; done) | (simp [*]; done)), (by first | rfl | (simp; done) | (simp [*]; done)), H', ⟨by have := HJ3.out; have := HJ16.out; have := HK3.out; have := HK4.out; omega⟩, ⟨by (with_reducible repeat (first | apply kdn | apply kdr | apply kal)); exact BK738.out⟩, ⟨by repeat (first | (with_reducible first | exact HB.out | apply lal | apply ldn | apply ldr | refine below_set ?_ GE738.out) | exact HB.out)⟩⟩
                 ·rw [if_neg c54] at H
                  exact absurd H (by simp)
                ·rw [if_neg c52] at H
                 exact absurd H (by simp)
               ·rw [if_neg c51] at H
                exact absurd H (by simp)
              ·rw [if_neg c50] at H
               have c50b0 : decide (x19_4 < (l0.length : Int)) = false := decide_eq_false c50
               clear c50
               by_cases c57 : x15_4 ≥ t745
               ·rw [if_pos c57] at H
                have c57b0 : decide (t745 ≤ x15_4) = true := decide_eq_true c57
                clear c57
                replace H := Option.bind_eq_some_iff.mp H
                obtain ⟨t762, A580, H⟩ := H
                replace H : (some t762) = some r := H
                have A58 := Aside0.mk A580
                clear A580
                obtain rfl := Option.some.inj H
                go_wp2_with (first | (go_at_call 16; (with_reducible refine (trishawlaw06_alive.calls k4  t762 _ A58.out).mono ?_); rintro e w59 ⟨rfl, hb⟩; have n0_ := Aside0.mk (blk_below (g := gb738) (o := .cells #[.int .i64 a1_0, .int .i64 a1_1] 24 (0, 0)) (by (with_reducible repeat (first | apply kdn | apply kdr | apply kal)); exact BK738.out) hb); have n1_ := Aside0.mk (below_step (by repeat (first | (with_reducible first | exact HB.out | apply lal | apply ldn | apply ldr | refine below_set ?_ GE738.out) | exact HB.out)) hb); clear BK738; clear HB; have BK738 := n0_; have HB := n1_; clear n0_ n1_; (try clear hb); (try clear hb2); (try clear hk); (try clear hi)))
                go_ret
                exact ⟨by first | rfl | (simp [errW_none, errW_some] <;> rfl) | (simp [*, errW_none, errW_some] <;> rfl), by repeat (first | (with_reducible first | exact HB.out | apply lal | apply ldn | apply ldr | refine below_set ?_ GE738.out) | exact HB.out)⟩
               ·rw [if_neg c57] at H
                exact absurd H (by simp)
           ·replace c48 := Bool.eq_false_iff.mpr c48
            subst c48
            have H1 : ((trishawlaw06_alive.f k3).bind fun t758 => (some t758)) = some r := by rw [if_neg (show ¬ (false = true) by decide)] at H; exact H
            clear H
            have H := H1
            clear H1
            replace H := Option.bind_eq_some_iff.mp H
            obtain ⟨t758, A600, H⟩ := H
            replace H : (some t758) = some r := H
            have A60 := Aside0.mk A600
            clear A600
            obtain rfl := Option.some.inj H
            go_wp2_with (first | ((with_reducible refine gate_callee (f := 34) rfl ?_); refine goesL_ (some 116) rfl rfl Try.func34 (by kernel_rfl) rfl #[.int .i64 (l0.length : Int), .slice A2 l2.length c2] rfl (by (try simp only [List.map_toArray, List.map_cons, List.map_nil]); first | done | rfl | (simp only [List.length_drop, List.length_take]; rfl)) ?_; (with_reducible refine (trishawref06_IsOrder.calls k3 (l0.length : Int) _ _ l2 false _ ?side1 ?side2 A47.out).mono ?_); (case side1 => repeat (first | exact (Kd.C_below HR2.out HB.out) | (with_reducible refine Kd.C_alloc ?_ _) | (with_reducible refine Kd.C_drewN ?_ _) | (with_reducible refine Kd.C_drew ?_))); (case side2 => exact HC2.out); rintro e w61 ⟨rfl, hb⟩; refine ⟨_, rfl, ?_⟩; have n0_ := Aside0.mk (Kd.R_below (by (with_reducible repeat (first | apply Kd.R_alloc | apply Kd.R_drewN | apply Kd.R_drew)); exact HO_7.out) hb); have n1_ := Aside0.mk (blk_below (g := gb738) (o := .cells #[.int .i64 a1_0, .int .i64 a1_1] 24 (0, 0)) (by (with_reducible repeat (first | apply kdn | apply kdr | apply kal)); exact BK738.out) hb); have n2_ := Aside0.mk (below_step (by repeat (first | (with_reducible first | exact HB.out | apply lal | apply ldn | apply ldr | refine below_set ?_ GE738.out) | exact HB.out)) hb); clear HO_7; clear BK738; clear HB; have HO_7 := n0_; have BK738 := n1_; have HB := n2_; clear n0_ n1_ n2_; (try clear hb); (try clear hb2); (try clear hk); (try clear hi)) | ((with_reducible refine gate_callee (f := 16) rfl ?_); refine goesL_ (some 118) rfl rfl Try.func16 (by kernel_rfl) rfl #[] rfl (by (try simp only [List.map_toArray, List.map_cons, List.map_nil]); first | done | rfl | (simp only [List.length_drop, List.length_take]; rfl)) ?_; (with_reducible refine (trishawlaw06_alive.calls k3  t758 _ A60.out).mono ?_); rintro e w62 ⟨rfl, hb⟩; refine ⟨_, rfl, ?_⟩; have n0_ := Aside0.mk (Kd.R_below (by (with_reducible repeat (first | apply Kd.R_alloc | apply Kd.R_drewN | apply Kd.R_drew)); exact HO_7.out) hb); have n1_ := Aside0.mk (blk_below (g := gb738) (o := .cells #[.int .i64 a1_0, .int .i64 a1_1] 24 (0, 0)) (by (with_reducible repeat (first | apply kdn | apply kdr | apply kal)); exact BK738.out) hb); have n2_ := Aside0.mk (below_step (by repeat (first | (with_reducible first | exact HB.out | apply lal | apply ldn | apply ldr | refine below_set ?_ GE738.out) | exact HB.out)) hb); clear HO_7; clear BK738; clear HB; have HO_7 := n0_; have BK738 := n1_; have HB := n2_; clear n0_ n1_ n2_; (try clear hb); (try clear hb2); (try clear hk); (try clear hi)))
            go_ret
            exact ⟨by first | rfl | (simp [errW_none, errW_some] <;> rfl) | (simp [*, errW_none, errW_some] <;> rfl), by repeat (first | (with_reducible first | exact HB.out | apply lal | apply ldn | apply ldr | refine below_set ?_ GE738.out) | exact HB.out)⟩
          ·rw [if_neg c46] at H
           exact absurd H (by simp)
end Go.Proofs.Ytlmlneneakpohaa.OAll
