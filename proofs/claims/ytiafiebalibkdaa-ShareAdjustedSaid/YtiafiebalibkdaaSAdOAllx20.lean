/- A part of the proof of 'shareAdjusted_holds', for every input, without a condition. -/
import Derived.Test.YtiafiebalibkdaaSAdOAllx0
import Derived.Test.YtiafiebalibkdaaSAdOAllx1
import Derived.Test.YtiafiebalibkdaaSAdOAllx5
import Derived.Test.YtiafiebalibkdaaSAdOAllx8
import Derived.Test.YtiafiebalibkdaaSAdOAllx10
import Derived.Test.YtiafiebalibkdaaSAdOAllx11
import Derived.Test.YtiafiebalibkdaaSAdOAllx4
import Derived.Test.YtiafiebalibkdaaSAdOAllx7
import Derived.Test.YtiafiebalibkdaaSAdOAllx3
import Derived.Test.YtiafiebalibkdaaSAdOAllx6
import Derived.Test.YtiafiebalibkdaaSAdOAllx9
namespace Go.Proofs.Ytiafiebalibkdaa.OAll
open Go.RowKit Go.Proofs.YtiafiebalibkdaaW.PrintWords Go.Proofs.YtiafiebalibkdaaW.PrintLast Go.Proofs.YtiafiebalibkdaaW.PrintMore
attribute [local go_sem] max2_int min2_int max_two min_two max_three min_three max_four min_four
set_option linter.unusedVariables false
set_option linter.unusedSimpArgs false
attribute [local go_sem high] eqA28
mutual
def ratio_AreParts.j0 : Nat → Int → Int → Bool → List Int → Int → Option (Bool)
 | 0, _, _, _, _, _ => none
 | k + 1, x2, x3, x26, x583000, x583001 => if x26 = true then (some false) else (ratio_AreParts.l0 k x2 x3 x583001 x583000 (x583000.length : Int) 0 x583000 x583001)
def ratio_AreParts.l0 : Nat → Int → Int → Int → List Int → Int → Int → List Int → Int → Option (Bool)
 | 0, _, _, _, _, _, _, _, _ => none
 | k + 1, x2, x3, x9, x30, x31, x32, x583000, x583001 => if x32 < x31 then (if 0 ≤ x32 then (if x32 < (x30.length : Int) then (if (rd x30 x32) < (wrap64 (x2 * x583001)) then (some false) else (if (rd x30 x32) > (wrap64 (x3 * x583001)) then (some false) else ((ratio_divisor.f k x9 (rd x30 x32)).bind fun t584 => (ratio_AreParts.l0 k x2 x3 t584 x30 x31 (wrap64 (x32 + 1)) x583000 x583001)))) else (none)) else (none)) else (some ((mx x9 (wrap64 (-x9))) == 1))
end
def ratio_AreParts.f (k : Nat) (l0_0 : List Int) (a0_1 : Int) (a1 : Int) (a2 : Int) (a3 : Int) : Option (Bool) := if a0_1 < 1 then (ratio_AreParts.j0 k a2 a3 true l0_0 a0_1) else (if a0_1 > 10000000 then (ratio_AreParts.j0 k a2 a3 true l0_0 a0_1) else (ratio_AreParts.j0 k a2 a3 ((l0_0.length : Int) != a1) l0_0 a0_1))
set_option maxHeartbeats 8000000 in
set_option maxRecDepth 100000 in
theorem ratio_AreParts.calls (k : Nat) (A0_0 : Option Addr) (c0_0 : Nat) (l0_0 : List Int) (a0_1 : Int) (a1 : Int) (a2 : Int) (a3 : Int) (r : Bool) (w : World) (hr0_0 : Kd.C (Kd.int .i64) w A0_0 l0_0.length l0_0) (hc0_0 : l0_0.length ≤ c0_0) (h : ratio_AreParts.f k l0_0 a0_1 a1 a2 a3 = some r) :
  Calls Try.prog 63 #[.agg #[.slice A0_0 l0_0.length c0_0, .int .i64 a0_1], .int .i64 a1, .int .i64 a2, .int .i64 a3] w fun e w' => e = .returned (.bool r) ∧ Below w.heap.size w w' := by
 have hu26 := Try.underlying26
 have HR0_0 := Aside0.mk hr0_0
 have HC0_0 := Aside0.mk hc0_0
 clear hr0_0 hc0_0
 have HB := Aside0.mk (Below.refl w.heap.size w)
 have H : (if a0_1 < 1 then (ratio_AreParts.j0 k a2 a3 true l0_0 a0_1) else (if a0_1 > 10000000 then (ratio_AreParts.j0 k a2 a3 true l0_0 a0_1) else (ratio_AreParts.j0 k a2 a3 ((l0_0.length : Int) != a1) l0_0 a0_1))) = some r := h
 clear h
 have HC5 := Aside0.mk H
 clear H
 go_enter Try.func63, Try.ntmps63
 go_upto_region 1 with (first | ((with_reducible refine gate_dst (N := 4) rfl ?_); (try (refine gate_guard (by rfl) ?_; dsimp only)); refine box_event ?hg (N := 4) ?hd (cs := #[.slice A0_0 l0_0.length c0_0, .int .i64 a0_1]) (t := 26) ?hr ?_; (case hd => rfl); (case hg => rfl); (case hr => first | (go_simp; done) | (go_simp; rfl)); intro gb582 hg w6 hbox hb; have n0_ := Aside0.mk (below_step (by repeat (first | (with_reducible first | exact HB.out | apply lal | apply ldn | apply ldr) | exact HB.out)) hb); have n1_ := Aside0.mk (hbox); have n2_ := Aside0.mk ((by rw [hg]; exact (below_size (by repeat (first | (with_reducible first | exact HB.out | apply lal | apply ldn | apply ldr) | exact HB.out))) : w.heap.size ≤ gb582)); have n3_ := Aside0.mk ((by rw [hg]; exact (below_size (by repeat (first | (with_reducible first | exact HB.out | apply lal | apply ldn | apply ldr) | exact HB.out))) : w.heap.size ≤ gb582)); clear HB; have HB := n0_; have BK582 := n1_; have GW582 := n2_; have GE582 := n3_; clear n0_ n1_ n2_ n3_; clear hb hbox hg))
 (try simp only [Act.put, sia, sc0, scs])
 go_cut [26] (fun v26 wc => ∃ (kq : Nat) (x26_4 : Bool), v26 = .bool x26_4 ∧ Aside0 (ratio_AreParts.j0 kq a2 a3 x26_4 l0_0 a0_1 = some r) ∧ Aside0 (kq ≤ k) ∧ Aside0 (wc.heap[gb582]? = some (.cells #[(.slice A0_0 l0_0.length c0_0), .int .i64 a0_1] 26 (0, 0))) ∧ Aside0 (Below w.heap.size w wc))
 case first =>
  have H := HC5.out
  clear HC5
  by_cases c7 : a0_1 < 1
  ·rw [if_pos c7] at H
   have c7b0 : decide (a0_1 < 1) = true := decide_eq_true c7
   clear c7
   (first | rw [c7b0] | (simp only [i64_w, i32_w]; rw [c7b0]) | skip)
   have H' := Aside0.mk H
   clear H
   have hcz8_0 : w6.cell? ⟨gb582, 0, none⟩ = some (.slice A0_0 l0_0.length c0_0) := (blk_cell BK582.out 0).trans rfl
   have hcz8_1 : w6.cell? ⟨gb582, 1, none⟩ = some (.int .i64 a0_1) := (blk_cell BK582.out 1).trans rfl
   have hfz8_0 := blk_frozen BK582.out 0
   have hfz8_1 := blk_frozen BK582.out 1
   go_wp2
   go_meet
   case rel => exact ⟨_, (true), (by first | rfl | (simp; done) | (simp [*]; done)), H', ⟨by first | omega | exact Nat.le_refl _⟩, ⟨by (with_reducible repeat (first | apply kdn | apply kdr | apply kal)); exact BK582.out⟩, ⟨by repeat (first | (with_reducible first | exact HB.out | apply lal | apply ldn | apply ldr | refine below_set ?_ GE582.out) | exact HB.out)⟩⟩
  ·rw [if_neg c7] at H
   have c7b0 : decide (a0_1 < 1) = false := decide_eq_false c7
   clear c7
   (first | rw [c7b0] | (simp only [i64_w, i32_w]; rw [c7b0]) | skip)
   by_cases c9 : a0_1 > 10000000
   ·rw [if_pos c9] at H
    have c9b0 : decide (10000000 < a0_1) = true := decide_eq_true c9
    clear c9
    have H' := Aside0.mk H
    clear H
    have hcz10_0 : w6.cell? ⟨gb582, 0, none⟩ = some (.slice A0_0 l0_0.length c0_0) := (blk_cell BK582.out 0).trans rfl
    have hcz10_1 : w6.cell? ⟨gb582, 1, none⟩ = some (.int .i64 a0_1) := (blk_cell BK582.out 1).trans rfl
    have hfz10_0 := blk_frozen BK582.out 0
    have hfz10_1 := blk_frozen BK582.out 1
    go_wp2
    go_meet
    case rel => exact ⟨_, (true), (by first | rfl | (simp; done) | (simp [*]; done)), H', ⟨by first | omega | exact Nat.le_refl _⟩, ⟨by (with_reducible repeat (first | apply kdn | apply kdr | apply kal)); exact BK582.out⟩, ⟨by repeat (first | (with_reducible first | exact HB.out | apply lal | apply ldn | apply ldr | refine below_set ?_ GE582.out) | exact HB.out)⟩⟩
   ·rw [if_neg c9] at H
    have c9b0 : decide (10000000 < a0_1) = false := decide_eq_false c9
    clear c9
    have H' := Aside0.mk H
    clear H
    have hcz11_0 : w6.cell? ⟨gb582, 0, none⟩ = some (.slice A0_0 l0_0.length c0_0) := (blk_cell BK582.out 0).trans rfl
    have hcz11_1 : w6.cell? ⟨gb582, 1, none⟩ = some (.int .i64 a0_1) := (blk_cell BK582.out 1).trans rfl
    have hfz11_0 := blk_frozen BK582.out 0
    have hfz11_1 := blk_frozen BK582.out 1
    go_wp2
    go_meet
    case rel => exact ⟨_, (((l0_0.length : Int) != a1)), (by first | rfl | (simp; done) | (simp [*]; done)), H', ⟨by first | omega | exact Nat.le_refl _⟩, ⟨by (with_reducible repeat (first | apply kdn | apply kdr | apply kal)); exact BK582.out⟩, ⟨by repeat (first | (with_reducible first | exact HB.out | apply lal | apply ldn | apply ldr | refine below_set ?_ GE582.out) | exact HB.out)⟩⟩
 case rest =>
  clear HC5
  try clear p2
  try clear c6
  try clear c7
  try clear c7b0
  try clear c9
  try clear c9b0
  try clear hcz10_0
  try clear hcz10_1
  try clear hcz11_0
  try clear hcz11_1
  try clear hcz8_0
  try clear hcz8_1
  try clear hfz10_0
  try clear hfz10_1
  try clear hfz11_0
  try clear hfz11_1
  try clear hfz8_0
  try clear hfz8_1
  obtain ⟨kq, x26_4, rfl, HA, HJ4, BK582, HB⟩ := hcut
  cases kq with
  | zero => exact absurd HA.out (by simp [ratio_AreParts.j0])
  | succ kj4 =>
   have H := HA.out
   clear HA
   simp only [ratio_AreParts.j0] at H
   by_cases c12 : x26_4 = true
   ·subst c12
    have H1 : (some false) = some r := by rw [if_pos rfl] at H; exact H
    clear H
    have H := H1
    clear H1
    obtain rfl := Option.some.inj H
    go_wp2
    go_ret
    exact ⟨by first | rfl | (simp [errW_none, errW_some] <;> rfl) | (simp [*, errW_none, errW_some] <;> rfl), by repeat (first | (with_reducible first | exact HB.out | apply lal | apply ldn | apply ldr | refine below_set ?_ GE582.out) | exact HB.out)⟩
   ·replace c12 := Bool.eq_false_iff.mpr c12
    subst c12
    have H1 : (ratio_AreParts.l0 kj4 a2 a3 a0_1 l0_0 (l0_0.length : Int) 0 l0_0 a0_1) = some r := by rw [if_neg (show ¬ (false = true) by decide)] at H; exact H
    clear H
    have H := H1
    clear H1
    have H' := Aside0.mk H
    clear H
    have hcz13_0 : wc.cell? ⟨gb582, 0, none⟩ = some (.slice A0_0 l0_0.length c0_0) := (blk_cell BK582.out 0).trans rfl
    have hcz13_1 : wc.cell? ⟨gb582, 1, none⟩ = some (.int .i64 a0_1) := (blk_cell BK582.out 1).trans rfl
    have hfz13_0 := blk_frozen BK582.out 0
    have hfz13_1 := blk_frozen BK582.out 1
    go_wp2
    go_loopg [9, 32] kj4 (fun kq v9 v32 w' => ∃ (x9_2 : Int) (x32_2 : Int), v9 = .int .i64 x9_2 ∧ v32 = .int .i64 x32_2 ∧ Aside0 (ratio_AreParts.l0 kq a2 a3 x9_2 l0_0 (l0_0.length : Int) x32_2 l0_0 a0_1 = some r) ∧ Aside0 (kq ≤ kj4) ∧ Aside0 (w'.heap[gb582]? = some (.cells #[(.slice A0_0 l0_0.length c0_0), .int .i64 a0_1] 26 (0, 0))) ∧ Aside0 (Below w.heap.size w w'))
    case atStart => exact ⟨(a0_1), (0), (by first | rfl | (simp; done) | (simp [*]; done)), (by first | rfl | (simp; done) | (simp [*]; done)), H', ⟨Nat.le_refl _⟩, ⟨by (with_reducible repeat (first | apply kdn | apply kdr | apply kal)); exact BK582.out⟩, ⟨by repeat (first | (with_reducible first | exact HB.out | apply lal | apply ldn | apply ldr | refine below_set ?_ GE582.out) | exact HB.out)⟩⟩
    case round =>
     clear H'
     try clear c1
     try clear p2
     try clear c6
     try clear c7
     try clear c7b0
     try clear c9
     try clear c9b0
     try clear c12
     try clear hcz10_0
     try clear hcz10_1
     try clear hcz11_0
     try clear hcz11_1
     try clear hcz13_0
     try clear hcz13_1
     try clear hcz8_0
     try clear hcz8_1
     try clear hfz10_0
     try clear hfz10_1
     try clear hfz11_0
     try clear hfz11_1
     try clear hfz13_0
     try clear hfz13_1
     try clear hfz8_0
     try clear hfz8_1
     try clear p2
     obtain ⟨x9_2, x32_2, rfl, rfl, HA, HK2, BK582, HB⟩ := hrel
     cases gk with
     | zero => exact absurd HA.out (by simp [ratio_AreParts.l0])
     | succ k2 =>
      have H := HA.out
      clear HA
      simp only [ratio_AreParts.l0] at H
      by_cases c14 : x32_2 < (l0_0.length : Int)
      ·rw [if_pos c14] at H
       have c14b0 : decide (x32_2 < (l0_0.length : Int)) = true := decide_eq_true c14
       clear c14
       by_cases c15 : 0 ≤ x32_2
       ·rw [if_pos c15] at H
        have c15b0 : decide (0 ≤ x32_2) = true := decide_eq_true c15
        clear c15
        by_cases c16 : x32_2 < (l0_0.length : Int)
        ·rw [if_pos c16] at H
         have c16b0 : decide (x32_2 < (l0_0.length : Int)) = true := decide_eq_true c16
         clear c16
         by_cases c17 : (rd l0_0 x32_2) < (wrap64 (a2 * a0_1))
         ·rw [if_pos c17] at H
          have c17b0 : decide ((rd l0_0 x32_2) < (wrap64 (a2 * a0_1))) = true := decide_eq_true c17
          clear c17
          obtain rfl := Option.some.inj H
          have p583 : 0 ≤ (x32_2 : Int) := of_decide_eq_true (by first | (with_reducible assumption) | assumption)
          have q583 : x32_2 < (l0_0.length : Int) := of_decide_eq_true (by first | (with_reducible assumption) | assumption)
          obtain ⟨ad583, e583, hx583_0⟩ := Kd.at_int HR0_0.out x32_2 p583 q583
          cases e583
          replace hx583_0 := (HB.out.cell (World.block_lt_of_cell? w _ hx583_0)).trans hx583_0
          replace p583 := eq_true p583
          replace q583 := eq_true q583
          have hcz18_0 : wr.cell? ⟨gb582, 0, none⟩ = some (.slice (some ad583) l0_0.length c0_0) := (blk_cell BK582.out 0).trans rfl
          have hcz18_1 : wr.cell? ⟨gb582, 1, none⟩ = some (.int .i64 a0_1) := (blk_cell BK582.out 1).trans rfl
          have hfz18_0 := blk_frozen BK582.out 0
          have hfz18_1 := blk_frozen BK582.out 1
          go_wp2
          go_ret
          exact ⟨by first | rfl | (simp [errW_none, errW_some] <;> rfl) | (simp [*, errW_none, errW_some] <;> rfl), by repeat (first | (with_reducible first | exact HB.out | apply lal | apply ldn | apply ldr | refine below_set ?_ GE582.out) | exact HB.out)⟩
         ·rw [if_neg c17] at H
          have c17b0 : decide ((rd l0_0 x32_2) < (wrap64 (a2 * a0_1))) = false := decide_eq_false c17
          clear c17
          by_cases c19 : (rd l0_0 x32_2) > (wrap64 (a3 * a0_1))
          ·rw [if_pos c19] at H
           have c19b0 : decide ((wrap64 (a3 * a0_1)) < (rd l0_0 x32_2)) = true := decide_eq_true c19
           clear c19
           obtain rfl := Option.some.inj H
           have p583 : 0 ≤ (x32_2 : Int) := of_decide_eq_true (by first | (with_reducible assumption) | assumption)
           have q583 : x32_2 < (l0_0.length : Int) := of_decide_eq_true (by first | (with_reducible assumption) | assumption)
           obtain ⟨ad583, e583, hx583_0⟩ := Kd.at_int HR0_0.out x32_2 p583 q583
           cases e583
           replace hx583_0 := (HB.out.cell (World.block_lt_of_cell? w _ hx583_0)).trans hx583_0
           replace p583 := eq_true p583
           replace q583 := eq_true q583
           have hcz20_0 : wr.cell? ⟨gb582, 0, none⟩ = some (.slice (some ad583) l0_0.length c0_0) := (blk_cell BK582.out 0).trans rfl
           have hcz20_1 : wr.cell? ⟨gb582, 1, none⟩ = some (.int .i64 a0_1) := (blk_cell BK582.out 1).trans rfl
           have hfz20_0 := blk_frozen BK582.out 0
           have hfz20_1 := blk_frozen BK582.out 1
           go_wp2
           go_ret
           exact ⟨by first | rfl | (simp [errW_none, errW_some] <;> rfl) | (simp [*, errW_none, errW_some] <;> rfl), by repeat (first | (with_reducible first | exact HB.out | apply lal | apply ldn | apply ldr | refine below_set ?_ GE582.out) | exact HB.out)⟩
          ·rw [if_neg c19] at H
           have c19b0 : decide ((wrap64 (a3 * a0_1)) < (rd l0_0 x32_2)) = false := decide_eq_false c19
           clear c19
           replace H := Option.bind_eq_some_iff.mp H
           obtain ⟨t584, A210, H⟩ := H
           replace H : (ratio_AreParts.l0 k2 a2 a3 t584 l0_0 (l0_0.length : Int) (wrap64 (x32_2 + 1)) l0_0 a0_1) = some r := H
           have A21 := Aside0.mk A210
           clear A210
           have H' := Aside0.mk H
           clear H
           have p583 : 0 ≤ (x32_2 : Int) := of_decide_eq_true (by first | (with_reducible assumption) | assumption)
           have q583 : x32_2 < (l0_0.length : Int) := of_decide_eq_true (by first | (with_reducible assumption) | assumption)
           obtain ⟨ad583, e583, hx583_0⟩ := Kd.at_int HR0_0.out x32_2 p583 q583
           cases e583
           replace hx583_0 := (HB.out.cell (World.block_lt_of_cell? w _ hx583_0)).trans hx583_0
           replace p583 := eq_true p583
           replace q583 := eq_true q583
           have hcz22_0 : wr.cell? ⟨gb582, 0, none⟩ = some (.slice (some ad583) l0_0.length c0_0) := (blk_cell BK582.out 0).trans rfl
           have hcz22_1 : wr.cell? ⟨gb582, 1, none⟩ = some (.int .i64 a0_1) := (blk_cell BK582.out 1).trans rfl
           have hfz22_0 := blk_frozen BK582.out 0
           have hfz22_1 := blk_frozen BK582.out 1
           go_wp2_with (first | ((with_reducible refine gate_callee (f := 74) rfl ?_); refine goesL_ (some 52) rfl rfl Try.func74 (by kernel_rfl) rfl #[.int .i64 x9_2, .int .i64 (rd l0_0 x32_2)] rfl (by (try simp only [List.map_toArray, List.map_cons, List.map_nil]); first | done | rfl | (simp only [List.length_drop, List.length_take]; rfl)) ?_; (with_reducible refine (ratio_divisor.calls k2 x9_2 (rd l0_0 x32_2) t584 _ A21.out).mono ?_); rintro e w23 ⟨rfl, hb⟩; refine ⟨_, rfl, ?_⟩; have n0_ := Aside0.mk (blk_below (g := gb582) (o := .cells #[.slice (some ad583) l0_0.length c0_0, .int .i64 a0_1] 26 (0, 0)) (by (with_reducible repeat (first | apply kdn | apply kdr | apply kal)); exact BK582.out) hb); have n1_ := Aside0.mk (below_step (by repeat (first | (with_reducible first | exact HB.out | apply lal | apply ldn | apply ldr | refine below_set ?_ GE582.out) | exact HB.out)) hb); clear BK582; clear HB; have BK582 := n0_; have HB := n1_; clear n0_ n1_; (try clear hb); (try clear hb2); (try clear hk); (try clear hi)))
           go_roundg k2
           case measure => have := HJ4.out; have := HK2.out; omega
           case rel => exact ⟨(t584), (wrap64 (x32_2 + 1)), (by first | rfl | (simp; done) | (simp [*]; done)), (by first | rfl | (simp; done) | (simp [*]; done)), H', ⟨by have := HJ4.out; have := HK2.out; omega⟩, ⟨by (with_reducible repeat (first | apply kdn | apply kdr | apply kal)); exact BK582.out⟩, ⟨by repeat (first | (with_reducible first | exact HB.out | apply lal | apply ldn | apply ldr | refine below_set ?_ GE582.out) | exact HB.out)⟩⟩
        ·rw [if_neg c16] at H
         exact absurd H (by simp)
       ·rw [if_neg c15] at H
        exact absurd H (by simp)
      ·rw [if_neg c14] at H
       have c14b0 : decide (x32_2 < (l0_0.length : Int)) = false := decide_eq_false c14
       clear c14
       obtain ⟨ji24, hji24⟩ : ∃ j_ : Int, (mx x9_2 (wrap64 (-x9_2))) = j_ := ⟨_, rfl⟩
       replace H : (some ((ji24) == 1)) = some r := by first | (rw [hji24] at H; exact H) | (simp only [hji24] at H ⊢; exact H)
       have hji24_ : (if x9_2 < (wrap64 (-x9_2)) then (wrap64 (-x9_2)) else x9_2) = ji24 := hji24
       obtain rfl := Option.some.inj H
       go_wp2
       go_ret
       exact ⟨by first | rfl | (simp [errW_none, errW_some] <;> rfl) | (simp only [← hji24]; first | rfl | (simp [errW_none, errW_some] <;> rfl)) | (simp [*, errW_none, errW_some] <;> rfl), by repeat (first | (with_reducible first | exact HB.out | apply lal | apply ldn | apply ldr | refine below_set ?_ GE582.out) | exact HB.out)⟩
end Go.Proofs.Ytiafiebalibkdaa.OAll
