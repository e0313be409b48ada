/- A part of the proof of 'tripByLevels_holds', for every input, without a condition. -/
import Derived.Test.YtlmlneneakpohaaTByOAllx0
import Derived.Test.YtlmlneneakpohaaTByOAllx3
import Derived.Test.YtlmlneneakpohaaTByOAllx5
import Derived.Test.YtlmlneneakpohaaTByOAllx9
import Derived.Test.YtlmlneneakpohaaTByOAllx4
import Derived.Test.YtlmlneneakpohaaTByOAllx8
import Derived.Test.YtlmlneneakpohaaTByOAllx2
import Derived.Test.YtlmlneneakpohaaTByOAllx18
namespace Go.Proofs.Ytlmlneneakpohaa.OAll
open Go.RowKit Go.Proofs.YtlmlneneakpohaaW.PrintWords Go.Proofs.YtlmlneneakpohaaW.PrintLast Go.Proofs.YtlmlneneakpohaaW.PrintMore
attribute [local go_sem] max2_int min2_int max_two min_two max_three min_three max_four min_four
set_option linter.unusedVariables false
set_option linter.unusedSimpArgs false
mutual
def trishawlaw06_TripByLevels.j0 : Nat → List (S36) → Bool → Int → Int → Option (Bool)
 | 0, _, _, _, _ => none
 | k + 1, x0, x21, x524000, x524001 => if x21 = true then ((trishawlaw06_alive.f k).bind fun t526 => (some t526)) else ((trip_Matching.f k x0 x524000 x524001).bind fun bt527 => (trishawlaw06_TripByLevels.l0 k x0 bt527.2.1 bt527.2.2 0 1 x524000 x524001))
def trishawlaw06_TripByLevels.l0 : Nat → List (S36) → Int → Int → Int → Int → Int → Int → Option (Bool)
 | 0, _, _, _, _, _, _, _ => none
 | k + 1, x0, x6, x7, x8, x9, x524000, x524001 => if x9 ≤ 1000 then ((trip_Level.f k x0 x9).bind fun bt532 => (if bt532.2.2 = 0 then (trishawlaw06_TripByLevels.l0 k x0 x6 x7 (wrap64 (x8 + (wrap64 ((wrap64 (x524000 * (mx 0 (wrap64 (bt532.2.1 - bt532.1))))) + (wrap64 (x524001 * (mx 0 (wrap64 (bt532.1 - bt532.2.1))))))))) (wrap64 (x9 + 1)) x524000 x524001) else (none))) else (if x7 = 0 then (if x6 = x8 then ((trishawlaw06_alive.f k).bind fun t535 => (some t535)) else (none)) else (none))
end
def trishawlaw06_TripByLevels.f (k : Nat) (l0 : List (S36)) (a1_0 : Int) (a1_1 : Int) : Option (Bool) := (trishawlaw06_few.f l0 ([] : List Int)).bind fun t524 => (if t524 = true then ((trishawref06_Day.f k l0 a1_0 a1_1).bind fun t525 => (trishawlaw06_TripByLevels.j0 k l0 (t525 != 0) a1_0 a1_1)) else (trishawlaw06_TripByLevels.j0 k l0 true a1_0 a1_1))
set_option maxHeartbeats 8000000 in
set_option maxRecDepth 100000 in
theorem trishawlaw06_TripByLevels.calls (k : Nat) (A0 : Option Addr) (c0 : Nat) (l0 : List (S36)) (a1_0 : Int) (a1_1 : Int) (r : Bool) (w : World) (hr0 : Kd.C k36 w A0 l0.length l0) (hc0 : l0.length ≤ c0) (h : trishawlaw06_TripByLevels.f k l0 a1_0 a1_1 = some r) :
  Calls Try.prog 8 #[.slice A0 l0.length c0, .agg #[.int .i64 a1_0, .int .i64 a1_1]] w fun e w' => e = .returned (.bool r) ∧ Below w.heap.size w w' := by
 have hu24 := Try.underlying24
 have HR0 := Aside0.mk hr0
 have HC0 := Aside0.mk hc0
 clear hr0 hc0
 have HB := Aside0.mk (Below.refl w.heap.size w)
 have H : ((trishawlaw06_few.f l0 ([] : List Int)).bind fun t524 => (if t524 = true then ((trishawref06_Day.f k l0 a1_0 a1_1).bind fun t525 => (trishawlaw06_TripByLevels.j0 k l0 (t525 != 0) a1_0 a1_1)) else (trishawlaw06_TripByLevels.j0 k l0 true a1_0 a1_1))) = some r := h
 clear h
 have HC3 := Aside0.mk H
 clear H
 go_enter Try.func8, Try.ntmps8
 go_upto_region 1 with (first | ((with_reducible refine gate_dst (N := 3) rfl ?_); refine box_event ?hg (N := 3) ?hd (cs := #[.int .i64 a1_0, .int .i64 a1_1]) (t := 24) ?hr ?_; (case hd => rfl); (case hg => rfl); (case hr => first | (go_simp; done) | (go_simp; rfl)); intro gb523 hg w4 hbox hb; have n0_ := Aside0.mk (below_step (by repeat (first | (with_reducible first | exact HB.out | apply lal | apply ldn | apply ldr) | exact HB.out)) hb); have n1_ := Aside0.mk (hbox); have n2_ := Aside0.mk ((by rw [hg]; exact (below_size (by repeat (first | (with_reducible first | exact HB.out | apply lal | apply ldn | apply ldr) | exact HB.out))) : w.heap.size ≤ gb523)); have n3_ := Aside0.mk ((by rw [hg]; exact (below_size (by repeat (first | (with_reducible first | exact HB.out | apply lal | apply ldn | apply ldr) | exact HB.out))) : w.heap.size ≤ gb523)); clear HB; have HB := n0_; have BK523 := n1_; have GW523 := n2_; have GE523 := n3_; clear n0_ n1_ n2_ n3_; clear hb hbox hg))
 (try simp only [Act.put, sia, sc0, scs])
 go_cut [21] (fun v21 wc => ∃ (kq : Nat) (x21_2 : Bool), v21 = .bool x21_2 ∧ Aside0 (trishawlaw06_TripByLevels.j0 kq l0 x21_2 a1_0 a1_1 = some r) ∧ Aside0 (kq ≤ k) ∧ Aside0 (wc.heap[gb523]? = some (.cells #[.int .i64 a1_0, .int .i64 a1_1] 24 (0, 0))) ∧ Aside0 (Below w.heap.size w wc))
 case first =>
  have H := HC3.out
  clear HC3
  replace H := Option.bind_eq_some_iff.mp H
  obtain ⟨t524, A50, H⟩ := H
  replace H : (if t524 = true then ((trishawref06_Day.f k l0 a1_0 a1_1).bind fun t525 => (trishawlaw06_TripByLevels.j0 k l0 (t525 != 0) a1_0 a1_1)) else (trishawlaw06_TripByLevels.j0 k l0 true a1_0 a1_1)) = some r := H
  have A5 := Aside0.mk A50
  clear A50
  by_cases c6 : t524 = true
  ·subst c6
   have H1 : ((trishawref06_Day.f k l0 a1_0 a1_1).bind fun t525 => (trishawlaw06_TripByLevels.j0 k l0 (t525 != 0) a1_0 a1_1)) = some r := by rw [if_pos rfl] at H; exact H
   clear H
   have H := H1
   clear H1
   replace H := Option.bind_eq_some_iff.mp H
   obtain ⟨t525, A70, H⟩ := H
   replace H : (trishawlaw06_TripByLevels.j0 k l0 (t525 != 0) a1_0 a1_1) = some r := H
   have A7 := Aside0.mk A70
   clear A70
   have H' := Aside0.mk H
   clear H
   go_wp2_with (first | ((with_reducible refine gate_callee (f := 15) rfl ?_); refine goesL_ (some 14) rfl rfl Try.func15 (by kernel_rfl) rfl #[.slice A0 l0.length c0, .slice none 0 0] rfl (by (try simp only [List.map_toArray, List.map_cons, List.map_nil]); first | done | rfl | (simp only [List.length_drop, List.length_take]; rfl)) ?_; (refine (trishawlaw06_few.calls _ _ l0 _ _ ([] : List Int) true _ ?side1 ?side2 ?side3 ?side4 A5.out).mono ?_); (case side1 => repeat (first | exact (Kd.C_below HR0.out HB.out) | (with_reducible refine Kd.C_alloc ?_ _) | (with_reducible refine Kd.C_drewN ?_ _) | (with_reducible refine Kd.C_drew ?_))); (case side2 => exact HC0.out); (case side3 => exact Kd.C_nil _ _); (case side4 => exact Nat.le_refl _); rintro e w' ⟨rfl, ⟨nd, rfl⟩⟩; refine ⟨_, rfl, ?_⟩; have hcz8_0 : w4.cell? ⟨gb523, 0, none⟩ = some (.int .i64 a1_0) := (blk_cell BK523.out 0).trans rfl; have hcz8_1 : w4.cell? ⟨gb523, 1, none⟩ = some (.int .i64 a1_1) := (blk_cell BK523.out 1).trans rfl; have hfz8_0 := blk_frozen BK523.out 0; have hfz8_1 := blk_frozen BK523.out 1) | (go_at_call 20; (with_reducible refine (trishawref06_Day.calls k _ _ l0 a1_0 a1_1 t525 _ ?side1 ?side2 A7.out).mono ?_); (case side1 => repeat (first | exact (Kd.C_below HR0.out (by repeat (first | (with_reducible first | exact HB.out | apply lal | apply ldn | apply ldr | refine below_set ?_ GE523.out) | exact HB.out))) | (with_reducible refine Kd.C_alloc ?_ _) | (with_reducible refine Kd.C_drewN ?_ _) | (with_reducible refine Kd.C_drew ?_))); (case side2 => exact HC0.out); rintro e w9 ⟨rfl, hb⟩; have n0_ := Aside0.mk (blk_below (g := gb523) (o := .cells #[.int .i64 a1_0, .int .i64 a1_1] 24 (0, 0)) (by (with_reducible repeat (first | apply kdn | apply kdr | apply kal)); exact BK523.out) hb); have n1_ := Aside0.mk (below_step (by repeat (first | (with_reducible first | exact HB.out | apply lal | apply ldn | apply ldr | refine below_set ?_ GE523.out) | exact HB.out)) hb); clear BK523; clear HB; have BK523 := n0_; have HB := n1_; clear n0_ n1_; (try clear hb); (try clear hb2); (try clear hk); (try clear hi)))
   go_meet
   case rel => exact ⟨_, ((t525 != 0)), (by first | rfl | (simp; done) | (simp [*]; done)), H', ⟨by first | omega | exact Nat.le_refl _⟩, ⟨by (with_reducible repeat (first | apply kdn | apply kdr | apply kal)); exact BK523.out⟩, ⟨by repeat (first | (with_reducible first | exact HB.out | apply lal | apply ldn | apply ldr | refine below_set ?_ GE523.out) | exact HB.out)⟩⟩
  ·replace c6 := Bool.eq_false_iff.mpr c6
   subst c6
   have H1 : (trishawlaw06_TripByLevels.j0 k l0 true a1_0 a1_1) = some r := by rw [if_neg (show ¬ (false = true) by decide)] at H; exact H
   clear H
   have H := H1
   clear H1
   have H' := Aside0.mk H
   clear H
   go_wp2_with (first | ((with_reducible refine gate_callee (f := 15) rfl ?_); refine goesL_ (some 14) rfl rfl Try.func15 (by kernel_rfl) rfl #[.slice A0 l0.length c0, .slice none 0 0] rfl (by (try simp only [List.map_toArray, List.map_cons, List.map_nil]); first | done | rfl | (simp only [List.length_drop, List.length_take]; rfl)) ?_; (refine (trishawlaw06_few.calls _ _ l0 _ _ ([] : List Int) false _ ?side1 ?side2 ?side3 ?side4 A5.out).mono ?_); (case side1 => repeat (first | exact (Kd.C_below HR0.out HB.out) | (with_reducible refine Kd.C_alloc ?_ _) | (with_reducible refine Kd.C_drewN ?_ _) | (with_reducible refine Kd.C_drew ?_))); (case side2 => exact HC0.out); (case side3 => exact Kd.C_nil _ _); (case side4 => exact Nat.le_refl _); rintro e w' ⟨rfl, ⟨nd, rfl⟩⟩; refine ⟨_, rfl, ?_⟩))
   go_meet
   case rel => exact ⟨_, (true), (by first | rfl | (simp; done) | (simp [*]; done)), H', ⟨by first | omega | exact Nat.le_refl _⟩, ⟨by (with_reducible repeat (first | apply kdn | apply kdr | apply kal)); exact BK523.out⟩, ⟨by repeat (first | (with_reducible first | exact HB.out | apply lal | apply ldn | apply ldr | refine below_set ?_ GE523.out) | exact HB.out)⟩⟩
 case rest =>
  clear HC3
  try clear c1
  try clear p2
  try clear c6
  try clear c8
  try clear hcz8_0
  try clear hcz8_1
  try clear hfz8_0
  try clear hfz8_1
  obtain ⟨kq, x21_2, rfl, HA, HJ2, BK523, HB⟩ := hcut
  cases kq with
  | zero => exact absurd HA.out (by simp [trishawlaw06_TripByLevels.j0])
  | succ kj2 =>
   have H := HA.out
   clear HA
   simp only [trishawlaw06_TripByLevels.j0] at H
   by_cases c10 : x21_2 = true
   ·subst c10
    have H1 : ((trishawlaw06_alive.f kj2).bind fun t526 => (some t526)) = some r := by rw [if_pos rfl] at H; exact H
    clear H
    have H := H1
    clear H1
    replace H := Option.bind_eq_some_iff.mp H
    obtain ⟨t526, A110, H⟩ := H
    replace H : (some t526) = some r := H
    have A11 := Aside0.mk A110
    clear A110
    obtain rfl := Option.some.inj H
    go_wp2_with (first | ((with_reducible refine gate_callee (f := 16) rfl ?_); refine goesL_ (some 22) rfl rfl Try.func16 (by kernel_rfl) rfl #[] rfl (by (try simp only [List.map_toArray, List.map_cons, List.map_nil]); first | done | rfl | (simp only [List.length_drop, List.length_take]; rfl)) ?_; (with_reducible refine (trishawlaw06_alive.calls kj2  t526 _ A11.out).mono ?_); rintro e w12 ⟨rfl, hb⟩; refine ⟨_, rfl, ?_⟩; have n0_ := Aside0.mk (blk_below (g := gb523) (o := .cells #[.int .i64 a1_0, .int .i64 a1_1] 24 (0, 0)) (by (with_reducible repeat (first | apply kdn | apply kdr | apply kal)); exact BK523.out) hb); have n1_ := Aside0.mk (below_step (by repeat (first | (with_reducible first | exact HB.out | apply lal | apply ldn | apply ldr | refine below_set ?_ GE523.out) | exact HB.out)) hb); clear BK523; clear HB; have BK523 := n0_; have HB := n1_; clear n0_ n1_; (try clear hb); (try clear hb2); (try clear hk); (try clear hi)))
    go_ret
    exact ⟨by first | rfl | (simp [errW_none, errW_some] <;> rfl) | (simp [*, errW_none, errW_some] <;> rfl), by repeat (first | (with_reducible first | exact HB.out | apply lal | apply ldn | apply ldr | refine below_set ?_ GE523.out) | exact HB.out)⟩
   ·replace c10 := Bool.eq_false_iff.mpr c10
    subst c10
    have H1 : ((trip_Matching.f kj2 l0 a1_0 a1_1).bind fun bt527 => (trishawlaw06_TripByLevels.l0 kj2 l0 bt527.2.1 bt527.2.2 0 1 a1_0 a1_1)) = some r := by rw [if_neg (show ¬ (false = true) by decide)] at H; exact H
    clear H
    have H := H1
    clear H1
    replace H := Option.bind_eq_some_iff.mp H
    obtain ⟨⟨t527, t530, t531⟩, A130, H⟩ := H
    replace H : (trishawlaw06_TripByLevels.l0 kj2 l0 t530 t531 0 1 a1_0 a1_1) = some r := H
    have A13 := Aside0.mk A130
    clear A130
    have H' := Aside0.mk H
    clear H
    have hcz14_0 : wc.cell? ⟨gb523, 0, none⟩ = some (.int .i64 a1_0) := (blk_cell BK523.out 0).trans rfl
    have hcz14_1 : wc.cell? ⟨gb523, 1, none⟩ = some (.int .i64 a1_1) := (blk_cell BK523.out 1).trans rfl
    have hfz14_0 := blk_frozen BK523.out 0
    have hfz14_1 := blk_frozen BK523.out 1
    go_wp2_with (first | ((with_reducible refine gate_callee (f := 30) rfl ?_); refine goesL_ (some 26) rfl rfl Try.func30 (by kernel_rfl) rfl #[.slice A0 l0.length c0, .agg #[.int .i64 a1_0, .int .i64 a1_1]] rfl (by (try simp only [List.map_toArray, List.map_cons, List.map_nil]); first | done | rfl | (simp only [List.length_drop, List.length_take]; rfl)) ?_; (with_reducible refine (trip_Matching.calls kj2 _ _ l0 a1_0 a1_1 t527 t530 t531 _ ?side1 ?side2 A13.out).mono ?_); (case side1 => repeat (first | exact (Kd.C_below HR0.out HB.out) | (with_reducible refine Kd.C_alloc ?_ _) | (with_reducible refine Kd.C_drewN ?_ _) | (with_reducible refine Kd.C_drew ?_))); (case side2 => exact HC0.out); rintro e w15 ⟨v528, rfl, ho0, hb⟩; refine ⟨_, rfl, ?_⟩; have n0_ := Aside0.mk (Kd.R_lower ho0 (below_size (by repeat (first | (with_reducible first | exact HB.out | apply lal | apply ldn | apply ldr | refine below_set ?_ GE523.out) | exact HB.out)))); have n1_ := Aside0.mk (blk_below (g := gb523) (o := .cells #[.int .i64 a1_0, .int .i64 a1_1] 24 (0, 0)) (by (with_reducible repeat (first | apply kdn | apply kdr | apply kal)); exact BK523.out) hb); have n2_ := Aside0.mk (below_step (by repeat (first | (with_reducible first | exact HB.out | apply lal | apply ldn | apply ldr | refine below_set ?_ GE523.out) | exact HB.out)) hb); clear BK523; clear HB; have HO529 := n0_; have BK523 := n1_; have HB := n2_; clear n0_ n1_ n2_; (try clear hb); (try clear hb2); (try clear hk); (try clear hi); (try clear ho0)))
    go_loopg [8, 9] kj2 (fun kq v8 v9 w' => ∃ (x8_2 : Int) (x9_2 : Int), v8 = .int .i64 x8_2 ∧ v9 = .int .i64 x9_2 ∧ Aside0 (trishawlaw06_TripByLevels.l0 kq l0 t530 t531 x8_2 x9_2 a1_0 a1_1 = some r) ∧ Aside0 (kq ≤ kj2) ∧ Aside0 (w'.heap[gb523]? = some (.cells #[.int .i64 a1_0, .int .i64 a1_1] 24 (0, 0))) ∧ Aside0 (Below w.heap.size w w'))
    case atStart => exact ⟨(0), (1), (by first | rfl | (simp; done) | (simp [*]; done)), (by first | rfl | (simp; done) | (simp [*]; done)), H', ⟨Nat.le_refl _⟩, ⟨by (with_reducible repeat (first | apply kdn | apply kdr | apply kal)); exact BK523.out⟩, ⟨by repeat (first | (with_reducible first | exact HB.out | apply lal | apply ldn | apply ldr | refine below_set ?_ GE523.out) | exact HB.out)⟩⟩
    case round =>
     clear H'
     try clear c1
     try clear p2
     try clear c3
     try clear c6
     try clear c8
     try clear c10
     try clear c15
     try clear hcz14_0
     try clear hcz14_1
     try clear hcz8_0
     try clear hcz8_1
     try clear hfz14_0
     try clear hfz14_1
     try clear hfz8_0
     try clear hfz8_1
     try clear p2
     obtain ⟨x8_2, x9_2, rfl, rfl, HA, HK2, BK523, HB⟩ := hrel
     cases gk with
     | zero => exact absurd HA.out (by simp [trishawlaw06_TripByLevels.l0])
     | succ k2 =>
      have H := HA.out
      clear HA
      simp only [trishawlaw06_TripByLevels.l0] at H
      by_cases c16 : x9_2 ≤ 1000
      ·rw [if_pos c16] at H
       have c16b0 : decide (x9_2 ≤ 1000) = true := decide_eq_true c16
       clear c16
       replace H := Option.bind_eq_some_iff.mp H
       obtain ⟨⟨t532, t533, t534⟩, A170, H⟩ := H
       replace H : (if t534 = 0 then (trishawlaw06_TripByLevels.l0 k2 l0 t530 t531 (wrap64 (x8_2 + (wrap64 ((wrap64 (a1_0 * (mx 0 (wrap64 (t533 - t532))))) + (wrap64 (a1_1 * (mx 0 (wrap64 (t532 - t533))))))))) (wrap64 (x9_2 + 1)) a1_0 a1_1) else (none)) = some r := H
       have A17 := Aside0.mk A170
       clear A170
       by_cases c18 : t534 = 0
       ·rw [if_pos c18] at H
        have c18b0 : (t534 == 0) = true := beq_iff_eq.mpr c18
        have c18b1 : (t534 != 0) = false := bne_eq_false_iff_eq.mpr c18
        clear c18
        obtain ⟨ji19, hji19⟩ : ∃ j_ : Int, (mx 0 (wrap64 (t533 - t532))) = j_ := ⟨_, rfl⟩
        replace H : (trishawlaw06_TripByLevels.l0 k2 l0 t530 t531 (wrap64 (x8_2 + (wrap64 ((wrap64 (a1_0 * (ji19))) + (wrap64 (a1_1 * (mx 0 (wrap64 (t532 - t533))))))))) (wrap64 (x9_2 + 1)) a1_0 a1_1) = some r := by first | (rw [hji19] at H; exact H) | (simp only [hji19] at H ⊢; exact H)
        (try rw [hji19] at A17)
        (try (have hji19l : 0 ≤ ji19 := by (rw [← hji19]; unfold mx; (repeat' split) <;> omega)))
        (try (have hji19m : 0 ≤ ji19 := by omega))
        have hji19_ : (if 0 < (wrap64 (t533 - t532)) then (wrap64 (t533 - t532)) else 0) = ji19 := hji19
        obtain ⟨ji20, hji20⟩ : ∃ j_ : Int, (mx 0 (wrap64 (t532 - t533))) = j_ := ⟨_, rfl⟩
        replace H : (trishawlaw06_TripByLevels.l0 k2 l0 t530 t531 (wrap64 (x8_2 + (wrap64 ((wrap64 (a1_0 * (ji19))) + (wrap64 (a1_1 * (ji20))))))) (wrap64 (x9_2 + 1)) a1_0 a1_1) = some r := by first | (rw [hji20] at H; exact H) | (simp only [hji20] at H ⊢; exact H)
        (try rw [hji20] at A17)
        (try (have hji20l : 0 ≤ ji20 := by (rw [← hji20]; unfold mx; (repeat' split) <;> omega)))
        (try (have hji20m : 0 ≤ ji20 := by omega))
        have hji20_ : (if 0 < (wrap64 (t532 - t533)) then (wrap64 (t532 - t533)) else 0) = ji20 := hji20
        have H' := Aside0.mk H
        clear H
        go_wp2_with (first | ((with_reducible refine gate_callee (f := 28) rfl ?_); refine goesL_ (some 37) rfl rfl Try.func28 (by kernel_rfl) rfl #[.slice A0 l0.length c0, .int .i64 x9_2] rfl (by (try simp only [List.map_toArray, List.map_cons, List.map_nil]); first | done | rfl | (simp only [List.length_drop, List.length_take]; rfl)) ?_; (with_reducible refine (trip_Level.calls k2 _ _ l0 x9_2 t532 t533 t534 _ ?side1 ?side2 A17.out).mono ?_); (case side1 => repeat (first | exact (Kd.C_below HR0.out HB.out) | (with_reducible refine Kd.C_alloc ?_ _) | (with_reducible refine Kd.C_drewN ?_ _) | (with_reducible refine Kd.C_drew ?_))); (case side2 => exact HC0.out); rintro e w21 ⟨rfl, hb⟩; refine ⟨_, rfl, ?_⟩; have n0_ := Aside0.mk (blk_below (g := gb523) (o := .cells #[.int .i64 a1_0, .int .i64 a1_1] 24 (0, 0)) (by (with_reducible repeat (first | apply kdn | apply kdr | apply kal)); exact BK523.out) hb); have n1_ := Aside0.mk (below_step (by repeat (first | (with_reducible first | exact HB.out | apply lal | apply ldn | apply ldr | refine below_set ?_ GE523.out) | exact HB.out)) hb); clear BK523; clear HB; have BK523 := n0_; have HB := n1_; clear n0_ n1_; (try clear hb); (try clear hb2); (try clear hk); (try clear hi); have hcz22_0 : w21.cell? ⟨gb523, 0, none⟩ = some (.int .i64 a1_0) := (blk_cell BK523.out 0).trans rfl; have hcz22_1 : w21.cell? ⟨gb523, 1, none⟩ = some (.int .i64 a1_1) := (blk_cell BK523.out 1).trans rfl; have hfz22_0 := blk_frozen BK523.out 0; have hfz22_1 := blk_frozen BK523.out 1))
        go_roundg k2
        case measure => have := HJ2.out; have := HK2.out; omega
        case rel => exact ⟨(wrap64 (x8_2 + (wrap64 ((wrap64 (a1_0 * (ji19))) + (wrap64 (a1_1 * (ji20))))))), (wrap64 (x9_2 + 1)), (by first | rfl | (simp; done) | (simp only [← hji19, ← hji20] <;> (first | rfl | simp)) | (simp [*]; done)), (by first | rfl | (simp; done) | (simp [*]; done)), H', ⟨by have := HJ2.out; have := HK2.out; omega⟩, ⟨by (with_reducible repeat (first | apply kdn | apply kdr | apply kal)); exact BK523.out⟩, ⟨by repeat (first | (with_reducible first | exact HB.out | apply lal | apply ldn | apply ldr | refine below_set ?_ GE523.out) | exact HB.out)⟩⟩
       ·rw [if_neg c18] at H
        exact absurd H (by simp)
      ·rw [if_neg c16] at H
       have c16b0 : decide (x9_2 ≤ 1000) = false := decide_eq_false c16
       clear c16
       by_cases c23 : t531 = 0
       ·rw [if_pos c23] at H
        have c23b0 : (t531 == 0) = true := beq_iff_eq.mpr c23
        have c23b1 : (t531 != 0) = false := bne_eq_false_iff_eq.mpr c23
        clear c23
        by_cases c24 : t530 = x8_2
        ·rw [if_pos c24] at H
         have c24b0 : (t530 == x8_2) = true := beq_iff_eq.mpr c24
         have c24b1 : (t530 != x8_2) = false := bne_eq_false_iff_eq.mpr c24
         clear c24
         replace H := Option.bind_eq_some_iff.mp H
         obtain ⟨t535, A250, H⟩ := H
         replace H : (some t535) = some r := H
         have A25 := Aside0.mk A250
         clear A250
         obtain rfl := Option.some.inj H
         go_wp2_with (first | (go_at_call 16; (with_reducible refine (trishawlaw06_alive.calls k2  t535 _ A25.out).mono ?_); rintro e w26 ⟨rfl, hb⟩; have n0_ := Aside0.mk (blk_below (g := gb523) (o := .cells #[.int .i64 a1_0, .int .i64 a1_1] 24 (0, 0)) (by (with_reducible repeat (first | apply kdn | apply kdr | apply kal)); exact BK523.out) hb); have n1_ := Aside0.mk (below_step (by repeat (first | (with_reducible first | exact HB.out | apply lal | apply ldn | apply ldr | refine below_set ?_ GE523.out) | exact HB.out)) hb); clear BK523; clear HB; have BK523 := n0_; have HB := n1_; clear n0_ n1_; (try clear hb); (try clear hb2); (try clear hk); (try clear hi)))
         go_ret
         exact ⟨by first | rfl | (simp [errW_none, errW_some] <;> rfl) | (simp [*, errW_none, errW_some] <;> rfl), by repeat (first | (with_reducible first | exact HB.out | apply lal | apply ldn | apply ldr | refine below_set ?_ GE523.out) | exact HB.out)⟩
        ·rw [if_neg c24] at H
         exact absurd H (by simp)
       ·rw [if_neg c23] at H
        exact absurd H (by simp)
end Go.Proofs.Ytlmlneneakpohaa.OAll
