/- A part of the proof of 'shareAdjusted_holds', for every input, without a condition. -/
import Derived.Test.YtiafiebalibkdaaSAdOAllx0
import Derived.Test.YtiafiebalibkdaaSAdOAllx3
import Derived.Test.YtiafiebalibkdaaSAdOAllx29
namespace Go.Proofs.Ytiafiebalibkdaa.OAll
open Go.RowKit Go.Proofs.YtiafiebalibkdaaW.PrintWords Go.Proofs.YtiafiebalibkdaaW.PrintLast Go.Proofs.YtiafiebalibkdaaW.PrintMore
attribute [local go_sem] max2_int min2_int max_two min_two max_three min_three max_four min_four
set_option linter.unusedVariables false
set_option linter.unusedSimpArgs false
mutual
def share_Efficient.l0 : Nat → List (S76) → List (S76) → Int → Int → List Int → Int → Option (Bool × Int)
 | 0, _, _, _, _, _, _ => none
 | k + 1, x8, x24, x25, x26, x777000, x777001 => if x26 < x25 then (if 0 ≤ x26 then (if x26 < (x24.length : Int) then (if x26 < (x777000.length : Int) then (if (rd x777000 x26) > 0 then ((share_point_kind.f k ((rd_T76 x24 x26).f0) ((rd_T76 x24 x26).f1)).bind fun t784 => (if t784 = 2 then (share_Efficient.j1 k x8 x26 x24 x25 x26 true x777000 x777001 ((rd_T76 x24 x26).f0) ((rd_T76 x24 x26).f1)) else (if (rd x777000 x26) < x777001 then ((share_point_kind.f k ((rd_T76 x24 x26).f0) ((rd_T76 x24 x26).f1)).bind fun t786 => (share_Efficient.j1 k x8 x26 x24 x25 x26 (t786 == 0) x777000 x777001 ((rd_T76 x24 x26).f0) ((rd_T76 x24 x26).f1))) else (share_Efficient.j1 k x8 x26 x24 x25 x26 false x777000 x777001 ((rd_T76 x24 x26).f0) ((rd_T76 x24 x26).f1))))) else (if (rd x777000 x26) < x777001 then ((share_point_kind.f k ((rd_T76 x24 x26).f0) ((rd_T76 x24 x26).f1)).bind fun t788 => (share_Efficient.j1 k x8 x26 x24 x25 x26 (t788 == 0) x777000 x777001 ((rd_T76 x24 x26).f0) ((rd_T76 x24 x26).f1))) else (share_Efficient.j1 k x8 x26 x24 x25 x26 false x777000 x777001 ((rd_T76 x24 x26).f0) ((rd_T76 x24 x26).f1)))) else (none)) else (none)) else (none)) else (some (true, 0))
def share_Efficient.j1 : Nat → List (S76) → Int → List (S76) → Int → Int → Bool → List Int → Int → Int → Int → Option (Bool × Int)
 | 0, _, _, _, _, _, _, _, _, _, _ => none
 | k + 1, x8, x10, x24, x25, x26, x56, x777000, x777001, x783000, x783001 => if x56 = true then (some (false, 0)) else (share_Efficient.l1 k x8 x10 x24 x25 x26 x8 (x8.length : Int) 0 x777000 x777001 x783000 x783001)
def share_Efficient.l1 : Nat → List (S76) → Int → List (S76) → Int → Int → List (S76) → Int → Int → List Int → Int → Int → Int → Option (Bool × Int)
 | 0, _, _, _, _, _, _, _, _, _, _, _, _ => none
 | k + 1, x8, x10, x24, x25, x26, x57, x58, x59, x777000, x777001, x783000, x783001 => if x59 < x58 then (if 0 ≤ x59 then (if x59 < (x57.length : Int) then (if 0 ≤ x10 then (if x10 < (x777000.length : Int) then (if (rd x777000 x10) > 0 then (if x59 < (x777000.length : Int) then (if (rd x777000 x59) < x777001 then ((share_point_ahead.f ((rd_T76 x57 x59).f0) ((rd_T76 x57 x59).f1) x783000 x783001).bind fun t793 => (if t793 = true then (some (false, 0)) else (share_Efficient.l1 k x8 x10 x24 x25 x26 x57 x58 (wrap64 (x59 + 1)) x777000 x777001 x783000 x783001))) else (share_Efficient.l1 k x8 x10 x24 x25 x26 x57 x58 (wrap64 (x59 + 1)) x777000 x777001 x783000 x783001)) else (none)) else (share_Efficient.l1 k x8 x10 x24 x25 x26 x57 x58 (wrap64 (x59 + 1)) x777000 x777001 x783000 x783001)) else (none)) else (none)) else (none)) else (none)) else (share_Efficient.l0 k x8 x24 x25 (wrap64 (x26 + 1)) x777000 x777001)
end
def share_Efficient.f (k : Nat) (l0 : List Int) (l1 : List Int) (l2_0 : List Int) (a2_1 : Int) : Option (Bool × Int) := (share_divided.f k l0 l1 l2_0 a2_1).bind fun bt777 => (if bt777.2 = 0 then (share_Efficient.l0 k bt777.1 bt777.1 (bt777.1.length : Int) 0 l2_0 a2_1) else (some (false, bt777.2)))
def share_Efficient.T7 : Bool × List (List Nat × List Nat) := (true, [([], []), ([0], [0]), ([], []), ([1, 2], [1, 2]), ([3], [3]), ([4], [4]), ([5], [5]), ([6], [6]), ([7, 6, 6], [6, 7]), ([8, 6], [6, 8]), ([6, 9], [6, 9]), ([10, 8], [10]), ([11], [11]), ([12, 11], [11, 12]), ([11], [11]), ([13, 14, 11], [11, 13, 14]), ([15, 11], [11, 15]), ([11], [11]), ([17, 11], [11, 17]), ([16, 18, 11], [11, 16, 18]), ([19, 11, 11], [11, 19]), ([20], [20]), ([21, 20, 20], [20, 21]), ([22, 20], [20, 22]), ([20, 23, 11], [11, 20, 23]), ([11, 24], [11, 24])])
def share_Efficient.B7 : List Nat := [0, 1, 0, 7, 15, 31, 63, 127, 255, 511, 1023, 2047, 4095, 8191, 4095, 32767, 65535, 4095, 135167, 524287, 1048575, 2097151, 4194303, 8388607, 16777215, 33554431]
theorem share_Efficient.tab7 : rtab .any (opsOf Try.f41 7) = share_Efficient.T7 := by kernel_rfl
theorem share_Efficient.bits7 : waitsOk share_Efficient.T7.2 share_Efficient.B7 = true := by kernel_rfl
def share_Efficient.T12 : Bool × List (List Nat × List Nat) := (true, [([], []), ([0], [0]), ([], []), ([1, 2], [1, 2]), ([3], [3]), ([4], [4]), ([5], [5]), ([6], [6]), ([7, 6], [6, 7]), ([6], [6]), ([8, 9, 6], [6, 8, 9]), ([10, 6], [6, 10]), ([6], [6]), ([12, 6], [6, 12]), ([11, 13, 6], [6, 11, 13]), ([6, 14], [6, 14]), ([15, 6], [15]), ([16], [16]), ([16], [16]), ([17, 18, 16, 16], [16, 17, 18]), ([16, 19], [16, 19])])
def share_Efficient.B12 : List Nat := [0, 1, 0, 7, 15, 31, 63, 127, 255, 127, 1023, 2047, 127, 4223, 16383, 32767, 65535, 131071, 131071, 524287, 1048575]
theorem share_Efficient.tab12 : rtab .any (opsOf Try.f41 12) = share_Efficient.T12 := by kernel_rfl
theorem share_Efficient.bits12 : waitsOk share_Efficient.T12.2 share_Efficient.B12 = true := by kernel_rfl
set_option maxHeartbeats 8000000 in
set_option maxRecDepth 100000 in
theorem share_Efficient.calls (k : Nat) (A0 : Option Addr) (c0 : Nat) (l0 : List Int) (A1 : Option Addr) (c1 : Nat) (l1 : List Int) (A2_0 : Option Addr) (c2_0 : Nat) (l2_0 : List Int) (a2_1 : Int) (r1 : Bool) (r2 : Int) (w : World) (hr0 : Kd.C (Kd.int .i64) w A0 l0.length l0) (hc0 : l0.length ≤ c0) (hr1 : Kd.C (Kd.int .i64) w A1 l1.length l1) (hc1 : l1.length ≤ c1) (hr2_0 : Kd.C (Kd.int .i64) w A2_0 l2_0.length l2_0) (hc2_0 : l2_0.length ≤ c2_0) (h : share_Efficient.f k l0 l1 l2_0 a2_1 = some (r1, r2)) :
  Calls Try.prog 41 #[.slice A0 l0.length c0, .slice A1 l1.length c1, .agg #[.slice A2_0 l2_0.length c2_0, .int .i64 a2_1]] w fun e w' => e = .returned (.tuple #[.bool r1, .int .i64 r2]) ∧ Below w.heap.size w w' := by
 have hu26 := Try.underlying26
 have hu76 := Try.underlying76
 have HR0 := Aside0.mk hr0
 have HC0 := Aside0.mk hc0
 clear hr0 hc0
 have HR1 := Aside0.mk hr1
 have HC1 := Aside0.mk hc1
 clear hr1 hc1
 have HR2_0 := Aside0.mk hr2_0
 have HC2_0 := Aside0.mk hc2_0
 clear hr2_0 hc2_0
 have HB := Aside0.mk (Below.refl w.heap.size w)
 have H : ((share_divided.f k l0 l1 l2_0 a2_1).bind fun bt777 => (if bt777.2 = 0 then (share_Efficient.l0 k bt777.1 bt777.1 (bt777.1.length : Int) 0 l2_0 a2_1) else (some (false, bt777.2)))) = some (r1, r2) := h
 clear h
 replace H := Option.bind_eq_some_iff.mp H
 obtain ⟨⟨t777, t780⟩, A40, H⟩ := H
 replace H : (if t780 = 0 then (share_Efficient.l0 k t777 t777 (t777.length : Int) 0 l2_0 a2_1) else (some (false, t780))) = some (r1, r2) := H
 have A4 := Aside0.mk A40
 clear A40
 by_cases c5 : t780 = 0
 ·rw [if_pos c5] at H
  have c5b0 : (t780 == 0) = true := beq_iff_eq.mpr c5
  have c5b1 : (t780 != 0) = false := bne_eq_false_iff_eq.mpr c5
  clear c5
  have H' := Aside0.mk H
  clear H
  go_enter Try.func41, Try.ntmps41
  go_wp2_with (first | ((with_reducible refine gate_dst (N := 5) rfl ?_); refine box_event ?hg (N := 5) ?hd (cs := #[.slice A2_0 l2_0.length c2_0, .int .i64 a2_1]) (t := 26) ?hr ?_; (case hd => rfl); (case hg => rfl); (case hr => first | (go_simp; done) | (go_simp; rfl)); intro gb776 hg w6 hbox hb; have n0_ := Aside0.mk (below_step (by repeat (first | (with_reducible first | exact HB.out | apply lal | apply ldn | apply ldr) | exact HB.out)) hb); have n1_ := Aside0.mk (hbox); have n2_ := Aside0.mk ((by rw [hg]; exact (below_size (by repeat (first | (with_reducible first | exact HB.out | apply lal | apply ldn | apply ldr) | exact HB.out))) : w.heap.size ≤ gb776)); have n3_ := Aside0.mk ((by rw [hg]; exact (below_size (by repeat (first | (with_reducible first | exact HB.out | apply lal | apply ldn | apply ldr) | exact HB.out))) : w.heap.size ≤ gb776)); clear HB; have HB := n0_; have BK776 := n1_; have GW776 := n2_; have GE776 := n3_; clear n0_ n1_ n2_ n3_; clear hb hbox hg; have hcz7_0 : w6.cell? ⟨gb776, 0, none⟩ = some (.slice A2_0 l2_0.length c2_0) := (blk_cell BK776.out 0).trans rfl; have hcz7_1 : w6.cell? ⟨gb776, 1, none⟩ = some (.int .i64 a2_1) := (blk_cell BK776.out 1).trans rfl; have hfz7_0 := blk_frozen BK776.out 0; have hfz7_1 := blk_frozen BK776.out 1) | ((with_reducible refine gate_callee (f := 66) rfl ?_); refine goesL_ (some 18) rfl rfl Try.func66 (by kernel_rfl) rfl #[.slice A0 l0.length c0, .slice A1 l1.length c1, .agg #[.slice A2_0 l2_0.length c2_0, .int .i64 a2_1]] rfl (by (try simp only [List.map_toArray, List.map_cons, List.map_nil]); first | done | rfl | (simp only [List.length_drop, List.length_take]; rfl)) ?_; (with_reducible refine (share_divided.calls k _ _ l0 _ _ l1 _ _ l2_0 a2_1 t777 t780 _ ?side1 ?side2 ?side3 ?side4 ?side5 ?side6 A4.out).mono ?_); (case side1 => repeat (first | exact (Kd.C_below HR0.out HB.out) | (with_reducible refine Kd.C_alloc ?_ _) | (with_reducible refine Kd.C_drewN ?_ _) | (with_reducible refine Kd.C_drew ?_))); (case side2 => exact HC0.out); (case side3 => repeat (first | exact (Kd.C_below HR1.out HB.out) | (with_reducible refine Kd.C_alloc ?_ _) | (with_reducible refine Kd.C_drewN ?_ _) | (with_reducible refine Kd.C_drew ?_))); (case side4 => exact HC1.out); (case side5 => repeat (first | exact (Kd.C_below HR2_0.out HB.out) | (with_reducible refine Kd.C_alloc ?_ _) | (with_reducible refine Kd.C_drewN ?_ _) | (with_reducible refine Kd.C_drew ?_))); (case side6 => exact HC2_0.out); rintro e w8 ⟨v778, rfl, ho0, hb⟩; refine ⟨_, rfl, ?_⟩; have n0_ := Aside0.mk (Kd.R_lower ho0 (below_size (by repeat (first | (with_reducible first | exact HB.out | apply lal | apply ldn | apply ldr | refine below_set ?_ GE776.out) | exact HB.out)))); have n1_ := Aside0.mk (blk_below (g := gb776) (o := .cells #[.slice A2_0 l2_0.length c2_0, .int .i64 a2_1] 26 (0, 0)) (by (with_reducible repeat (first | apply kdn | apply kdr | apply kal)); exact BK776.out) hb); have n2_ := Aside0.mk (below_step (by repeat (first | (with_reducible first | exact HB.out | apply lal | apply ldn | apply ldr | refine below_set ?_ GE776.out) | exact HB.out)) hb); clear BK776; clear HB; have HO779 := n0_; have BK776 := n1_; have HB := n2_; clear n0_ n1_ n2_; (try clear hb); (try clear hb2); (try clear hk); (try clear hi); (try clear ho0); obtain ⟨Ao9, co9, eo9⟩ := Kd.R_slice HO779.out; subst eo9))
  go_loopg [26] k (fun kq v26 w' => ∃ (x26_1 : Int), v26 = .int .i64 x26_1 ∧ Aside0 (share_Efficient.l0 kq t777 t777 (t777.length : Int) x26_1 l2_0 a2_1 = some (r1, r2)) ∧ Aside0 (kq ≤ k) ∧ Aside0 (Kd.R k76 76 w' w.heap.size (fun _ => True) (.slice Ao9 t777.length co9) t777) ∧ Aside0 (Kd.R k76 76 w' w.heap.size (fun _ => True) (.slice Ao9 t777.length co9) t777) ∧ Aside0 (w'.heap[gb776]? = some (.cells #[(.slice A2_0 l2_0.length c2_0), .int .i64 a2_1] 26 (0, 0))) ∧ Aside0 (Below w.heap.size w w'))
  case atStart => exact ⟨(0), (by first | rfl | (simp; done) | (simp [*]; done)), H', ⟨Nat.le_refl _⟩, ⟨by (with_reducible repeat (first | apply Kd.R_alloc | apply Kd.R_drewN | apply Kd.R_drew)); exact HO779.out⟩, ⟨by (with_reducible repeat (first | apply Kd.R_alloc | apply Kd.R_drewN | apply Kd.R_drew)); exact HO779.out⟩, ⟨by (with_reducible repeat (first | apply kdn | apply kdr | apply kal)); exact BK776.out⟩, ⟨by repeat (first | (with_reducible first | exact HB.out | apply lal | apply ldn | apply ldr | refine below_set ?_ GE776.out) | exact HB.out)⟩⟩
  case round =>
   clear H'
   try clear c1
   try clear c2
   try clear p2
   try clear c4
   try clear c5
   try clear c5b0
   try clear c5b1
   try clear c6
   try clear hcz7_0
   try clear hcz7_1
   try clear hfz7_0
   try clear hfz7_1
   obtain ⟨x26_1, rfl, HA, HK1, HO_8, HO_24, BK776, HB⟩ := hrel
   cases gk with
   | zero => exact absurd HA.out (by simp [share_Efficient.l0])
   | succ k1 =>
    have H := HA.out
    clear HA
    simp only [share_Efficient.l0] at H
    by_cases c10 : x26_1 < (t777.length : Int)
    ·rw [if_pos c10] at H
     have c10b0 : decide (x26_1 < (t777.length : Int)) = true := decide_eq_true c10
     clear c10
     by_cases c11 : 0 ≤ x26_1
     ·rw [if_pos c11] at H
      have c11b0 : decide (0 ≤ x26_1) = true := decide_eq_true c11
      clear c11
      by_cases c12 : x26_1 < (t777.length : Int)
      ·rw [if_pos c12] at H
       have c12b0 : decide (x26_1 < (t777.length : Int)) = true := decide_eq_true c12
       clear c12
       have HC13 := Aside0.mk H
       clear H
       have p781 : 0 ≤ (x26_1 : Int) := of_decide_eq_true (by first | (with_reducible assumption) | assumption)
       have q781 : x26_1 < (t777.length : Int) := of_decide_eq_true (by first | (with_reducible assumption) | assumption)
       obtain ⟨ad781, e781, hx781_0, hx781_1⟩ := at_T76 (Kd.R_reads' HO_24.out).2.2 x26_1 p781 q781
       cases e781
       replace p781 := eq_true p781
       replace q781 := eq_true q781
       go_upto_region 7 with (first | ((with_reducible refine gate_dst (N := 11) rfl ?_); refine box_event ?hg (N := 11) ?hd (cs := #[.int .i64 0, .int .i64 0]) (t := 76) ?hr ?_; (case hd => rfl); (case hg => rfl); (case hr => first | (go_simp; done) | (go_simp; rfl)); intro gb782 hg w14 hbox hb; have n0_ := Aside0.mk (Kd.R_below (Kd.R_elderB (by (with_reducible repeat (first | apply Kd.R_alloc | apply Kd.R_drewN | apply Kd.R_drew)); exact HO_8.out) gb782 (Nat.le_of_eq hg.symm)) hb); have n1_ := Aside0.mk (Kd.R_below (Kd.R_elderB (by (with_reducible repeat (first | apply Kd.R_alloc | apply Kd.R_drewN | apply Kd.R_drew)); exact HO_24.out) gb782 (Nat.le_of_eq hg.symm)) hb); have n2_ := Aside0.mk (blk_below (g := gb776) (o := .cells #[.slice A2_0 l2_0.length c2_0, .int .i64 a2_1] 26 (0, 0)) (by (with_reducible repeat (first | apply kdn | apply kdr | apply kal)); exact BK776.out) hb); have n3_ := Aside0.mk (below_step (by repeat (first | (with_reducible first | exact HB.out | apply lal | apply ldn | apply ldr | refine below_set ?_ GE776.out) | exact HB.out)) hb); have n4_ := Aside0.mk (hbox); have n5_ := Aside0.mk ((by rw [hg]; exact (below_size (by repeat (first | (with_reducible first | exact HB.out | apply lal | apply ldn | apply ldr | refine below_set ?_ GE776.out) | exact HB.out))) : w.heap.size ≤ gb782)); have n6_ := Aside0.mk ((by rw [hg]; exact (below_size (by repeat (first | (with_reducible first | exact HB.out | apply lal | apply ldn | apply ldr | refine below_set ?_ GE776.out) | exact HB.out))) : w.heap.size ≤ gb782)); have n7_ := Aside0.mk ((by rw [hg]; exact Nat.ne_of_lt (blk_lt (g := gb776) (o := .cells #[.slice A2_0 l2_0.length c2_0, .int .i64 a2_1] 26 (0, 0)) (by (with_reducible repeat (first | apply kdn | apply kdr | apply kal)); exact BK776.out)) : gb776 ≠ gb782)); have n8_ := Aside0.mk ((by rw [hg]; exact Nat.ne_of_gt (blk_lt (g := gb776) (o := .cells #[.slice A2_0 l2_0.length c2_0, .int .i64 a2_1] 26 (0, 0)) (by (with_reducible repeat (first | apply kdn | apply kdr | apply kal)); exact BK776.out)) : gb782 ≠ gb776)); clear HO_8; clear HO_24; clear BK776; clear HB; have HO_8 := n0_; have HO_24 := n1_; have BK776 := n2_; have HB := n3_; have BK782 := n4_; have GW782 := n5_; have GE782 := n6_; have NB776_782 := n7_; have NB782_776 := n8_; clear n0_ n1_ n2_ n3_ n4_ n5_ n6_ n7_ n8_; clear hb hbox hg; have hnb15 := NB782_776.out; have hnc15 := NB776_782.out; have hcz16_0 : w14.cell? ⟨gb782, 0, none⟩ = some (.int .i64 0) := (blk_cell BK782.out 0).trans rfl; have hcz16_1 : w14.cell? ⟨gb782, 1, none⟩ = some (.int .i64 0) := (blk_cell BK782.out 1).trans rfl; have hfz16_0 := blk_frozen BK782.out 0; have hfz16_1 := blk_frozen BK782.out 1))
       (try simp only [Act.put, sia, sc0, scs])
       go_cut [56] (fun v56 wc => ∃ (kq : Nat) (x56_12 : Bool), v56 = .bool x56_12 ∧ Aside0 (share_Efficient.j1 kq t777 x26_1 t777 (t777.length : Int) x26_1 x56_12 l2_0 a2_1 ((rd_T76 t777 x26_1).f0) ((rd_T76 t777 x26_1).f1) = some (r1, r2)) ∧ Aside0 (kq ≤ k1) ∧ Aside0 (Kd.R k76 76 wc w.heap.size (fun k_ => k_ ≠ gb782) (.slice (some ad781) t777.length co9) t777) ∧ Aside0 (Kd.R k76 76 wc w.heap.size (fun k_ => k_ ≠ gb782) (.slice (some ad781) t777.length co9) t777) ∧ Aside0 (wc.heap[gb776]? = some (.cells #[(.slice A2_0 l2_0.length c2_0), .int .i64 a2_1] 26 (0, 0))) ∧ Aside0 (wc.heap[gb782]? = some (.cells #[.int .i64 ((rd_T76 t777 x26_1).f0), .int .i64 ((rd_T76 t777 x26_1).f1)] 76 (0, 0))) ∧ Aside0 (Below w.heap.size w wc))
       case first =>
        have H := HC13.out
        clear HC13
        by_cases c17 : x26_1 < (l2_0.length : Int)
        ·rw [if_pos c17] at H
         have c17b0 : decide (x26_1 < (l2_0.length : Int)) = true := decide_eq_true c17
         clear c17
         (first | rw [c17b0] | (simp only [i64_w, i32_w]; rw [c17b0]) | skip)
         by_cases c18 : (rd l2_0 x26_1) > 0
         ·rw [if_pos c18] at H
          have c18b0 : decide (0 < (rd l2_0 x26_1)) = true := decide_eq_true c18
          clear c18
          replace H := Option.bind_eq_some_iff.mp H
          obtain ⟨t784, A190, H⟩ := H
          replace H : (if t784 = 2 then (share_Efficient.j1 k1 t777 x26_1 t777 (t777.length : Int) x26_1 true l2_0 a2_1 ((rd_T76 t777 x26_1).f0) ((rd_T76 t777 x26_1).f1)) else (if (rd l2_0 x26_1) < a2_1 then ((share_point_kind.f k1 ((rd_T76 t777 x26_1).f0) ((rd_T76 t777 x26_1).f1)).bind fun t786 => (share_Efficient.j1 k1 t777 x26_1 t777 (t777.length : Int) x26_1 (t786 == 0) l2_0 a2_1 ((rd_T76 t777 x26_1).f0) ((rd_T76 t777 x26_1).f1))) else (share_Efficient.j1 k1 t777 x26_1 t777 (t777.length : Int) x26_1 false l2_0 a2_1 ((rd_T76 t777 x26_1).f0) ((rd_T76 t777 x26_1).f1)))) = some (r1, r2) := H
          have A19 := Aside0.mk A190
          clear A190
          by_cases c20 : t784 = 2
          ·rw [if_pos c20] at H
           have c20b0 : (t784 == 2) = true := beq_iff_eq.mpr c20
           have c20b1 : (t784 != 2) = false := bne_eq_false_iff_eq.mpr c20
           clear c20
           have H' := Aside0.mk H
           clear H
           try go_wp2
           have n0_ : Aside0 (Kd.R k76 76 ((w14.setCell ⟨gb782, 0, none⟩ (.int .i64 ((rd_T76 t777 x26_1).f0))).setCell ⟨gb782, 1, none⟩ (.int .i64 ((rd_T76 t777 x26_1).f1))) w.heap.size (fun k_ => k_ ≠ gb782) (.slice (some ad781) t777.length co9) t777) := ⟨by (with_reducible repeat (first | apply Kd.R_alloc | apply Kd.R_drewN | apply Kd.R_drew)); exact Kd.R_mono (Kd.R_far (p := ⟨gb782, 1, none⟩) (Kd.R_far (p := ⟨gb782, 0, none⟩) (Kd.R_mono HO_8.out (fun k_ hk => (⟨hk, hk.2⟩ : _ ∧ k_ ≠ gb782))) (fun _ hk => hk.2) (.int .i64 ((rd_T76 t777 x26_1).f0))) (fun _ hk => hk.2) (.int .i64 ((rd_T76 t777 x26_1).f1))) (fun _ hk => hk.1.2)⟩
           have n1_ : Aside0 (Kd.R k76 76 ((w14.setCell ⟨gb782, 0, none⟩ (.int .i64 ((rd_T76 t777 x26_1).f0))).setCell ⟨gb782, 1, none⟩ (.int .i64 ((rd_T76 t777 x26_1).f1))) w.heap.size (fun k_ => k_ ≠ gb782) (.slice (some ad781) t777.length co9) t777) := ⟨by (with_reducible repeat (first | apply Kd.R_alloc | apply Kd.R_drewN | apply Kd.R_drew)); exact Kd.R_mono (Kd.R_far (p := ⟨gb782, 1, none⟩) (Kd.R_far (p := ⟨gb782, 0, none⟩) (Kd.R_mono HO_24.out (fun k_ hk => (⟨hk, hk.2⟩ : _ ∧ k_ ≠ gb782))) (fun _ hk => hk.2) (.int .i64 ((rd_T76 t777 x26_1).f0))) (fun _ hk => hk.2) (.int .i64 ((rd_T76 t777 x26_1).f1))) (fun _ hk => hk.1.2)⟩
           have n2_ : Aside0 (((w14.setCell ⟨gb782, 0, none⟩ (.int .i64 ((rd_T76 t777 x26_1).f0))).setCell ⟨gb782, 1, none⟩ (.int .i64 ((rd_T76 t777 x26_1).f1))).heap[gb776]? = some (.cells #[.slice A2_0 l2_0.length c2_0, .int .i64 a2_1] 26 (0, 0))) := ⟨by (with_reducible repeat (first | apply kdn | apply kdr | apply kal)); refine blk_far ?_ NB776_782.out _; (with_reducible repeat (first | apply kdn | apply kdr | apply kal)); refine blk_far ?_ NB776_782.out _; (with_reducible repeat (first | apply kdn | apply kdr | apply kal)); exact BK776.out⟩
           have n3_ : Aside0 (((w14.setCell ⟨gb782, 0, none⟩ (.int .i64 ((rd_T76 t777 x26_1).f0))).setCell ⟨gb782, 1, none⟩ (.int .i64 ((rd_T76 t777 x26_1).f1))).heap[gb782]? = some (.cells #[.int .i64 ((rd_T76 t777 x26_1).f0), .int .i64 ((rd_T76 t777 x26_1).f1)] 76 (0, 0))) := ⟨by (with_reducible repeat (first | apply kdn | apply kdr | apply kal)); refine blk_put (cs := #[.int .i64 ((rd_T76 t777 x26_1).f0), .int .i64 0]) ?_ 1 _ rfl; (with_reducible repeat (first | apply kdn | apply kdr | apply kal)); refine blk_put (cs := #[.int .i64 0, .int .i64 0]) ?_ 0 _ rfl; (with_reducible repeat (first | apply kdn | apply kdr | apply kal)); exact BK782.out⟩
           have n4_ : Aside0 (Below w.heap.size w ((w14.setCell ⟨gb782, 0, none⟩ (.int .i64 ((rd_T76 t777 x26_1).f0))).setCell ⟨gb782, 1, none⟩ (.int .i64 ((rd_T76 t777 x26_1).f1)))) := ⟨by repeat (first | (with_reducible first | exact HB.out | apply lal | apply ldn | apply ldr | refine below_set ?_ GE776.out | refine below_set ?_ GE782.out) | exact HB.out)⟩
           (try clear HO_8)
           (try clear HO_24)
           (try clear BK776)
           (try clear BK782)
           (try clear HB)
           generalize ((w14.setCell ⟨gb782, 0, none⟩ (.int .i64 ((rd_T76 t777 x26_1).f0))).setCell ⟨gb782, 1, none⟩ (.int .i64 ((rd_T76 t777 x26_1).f1))) = w21 at n0_ n1_ n2_ n3_ n4_ ⊢
           have HO_8 := n0_
           have HO_24 := n1_
           have BK776 := n2_
           have BK782 := n3_
           have HB := n4_
           clear n0_ n1_ n2_ n3_ n4_
           have n0_ := Aside0.mk (Kd.R_drew HO_8.out)
           have n1_ := Aside0.mk (Kd.R_drew HO_24.out)
           have n2_ := Aside0.mk (blk_drew BK776.out)
           have n3_ := Aside0.mk (blk_drew BK782.out)
           have n4_ := Aside0.mk (below_drew1 HB.out)
           clear HO_8
           clear HO_24
           clear BK776
           clear BK782
           clear HB
           have HO_8 := n0_
           have HO_24 := n1_
           have BK776 := n2_
           have BK782 := n3_
           have HB := n4_
           clear n0_ n1_ n2_ n3_ n4_
           have p783 : 0 ≤ (x26_1 : Int) := of_decide_eq_true (by first | (with_reducible assumption) | assumption)
           have q783 : x26_1 < (l2_0.length : Int) := of_decide_eq_true (by first | (with_reducible assumption) | assumption)
           obtain ⟨ad783, e783, hx783_0⟩ := Kd.at_int HR2_0.out x26_1 p783 q783
           have hw783_0 := hx783_0
           cases e783
           replace hx783_0 := (HB.out.cell (World.block_lt_of_cell? w _ hx783_0)).trans hx783_0
           replace p783 := eq_true p783
           replace q783 := eq_true q783
           refine start_ (n := 26) (S := fun w' => w'.cell? ⟨gb776, 0, none⟩ = some (.slice (some ad783) l2_0.length c2_0) ∧ w'.cell? ⟨gb776, 1, none⟩ = some (.int .i64 a2_1) ∧ w'.cell? ⟨gb782, 0, none⟩ = some (.int .i64 ((rd_T76 t777 x26_1).f0)) ∧ w'.cell? ⟨gb782, 1, none⟩ = some (.int .i64 ((rd_T76 t777 x26_1).f1)) ∧ w'.cell? (ad783.add (x26_1).toNat) = some (.int .i64 (rd l2_0 x26_1))) (ds := []) #[false, false, false, false, false, false, false, false, false, false, false, false, false, false, false, false, false, false, false, false, false, false, false, false, false, false] (by kernel_rfl) rfl rfl ⟨(blk_cell BK776.out 0).trans rfl, (blk_cell BK776.out 1).trans rfl, (blk_cell BK782.out 0).trans rfl, (blk_cell BK782.out 1).trans rfl, ((HB.out.cell (World.block_lt_of_cell? w _ hw783_0)).trans hw783_0)⟩ (fun hHeld => ?_); refine with_tabW share_Efficient.tab7 share_Efficient.bits7 (fun HT_ HW_ => ?_)
           generalize w21.drew = w22 at HO_8 HO_24 BK776 BK782 HB hx783_0 hHeld ⊢
           refine pure_ (i := 0) (N := some 31) (v := ?_) (a' := ?_) #[true, false, false, false, false, false, false, false, false, false, false, false, false, false, false, false, false, false, false, false, false, false, false, false, false, false] rfl rfl (any_of HT_.out (by kernel_rfl)) (fun _ _ _ h => h) (Or.inl ⟨by rfl, ?_⟩) ?_ ?_
           rotate_left
           ·intro w'
            go_simp
            with_reducible rfl
           rotate_left
           ·simp only [Act.put, sia, sc0, scs, i64_w, i32_w]
            rfl
           refine pure_ (i := 2) (N := some 33) (v := ?_) (a' := ?_) #[true, false, true, false, false, false, false, false, false, false, false, false, false, false, false, false, false, false, false, false, false, false, false, false, false, false] rfl rfl (any_of HT_.out (by kernel_rfl)) (fun _ _ _ h => h) (Or.inl ⟨by rfl, ?_⟩) ?_ ?_
           rotate_left
           ·intro w'
            go_simp
            with_reducible rfl
           rotate_left
           ·simp only [Act.put, sia, sc0, scs, i64_w, i32_w]
            rfl
           refine take_ (i := 1) (N := some 32) (v := ?_) (a' := ?_) #[true, true, true, false, false, false, false, false, false, false, false, false, false, false, false, false, false, false, false, false, false, false, false, false, false, false] rfl rfl (take_ofW HT_.out HW_.out (by kernel_rfl)) (fun _ _ _ h => h) (Or.inl ⟨by rfl, ?_⟩) hHeld ?_ ?_
           rotate_left
           ·rintro w' ⟨s0, s1, s2, s3, s4⟩
            go_simp
            with_reducible rfl
           rotate_left
           ·simp only [Act.put, sia, sc0, scs, i64_w, i32_w]
            rfl
           refine pure_ (i := 3) (N := some 34) (v := ?_) (a' := ?_) #[true, true, true, true, false, false, false, false, false, false, false, false, false, false, false, false, false, false, false, false, false, false, false, false, false, false] rfl rfl (any_of HT_.out (by kernel_rfl)) (fun _ _ _ h => h) (Or.inl ⟨by rfl, ?_⟩) ?_ ?_
           rotate_left
           ·intro w'
            go_simp
            with_reducible rfl
           rotate_left
           ·simp only [Act.put, sia, sc0, scs, i64_w, i32_w]
            rfl
           refine take_ (i := 4) (N := some 35) (v := ?_) (a' := ?_) #[true, true, true, true, true, false, false, false, false, false, false, false, false, false, false, false, false, false, false, false, false, false, false, false, false, false] rfl rfl (take_ofW HT_.out HW_.out (by kernel_rfl)) (fun _ _ _ h => h) (Or.inl ⟨by rfl, ?_⟩) hHeld ?_ ?_
           rotate_left
           ·rintro w' ⟨s0, s1, s2, s3, s4⟩
            go_simp
            with_reducible rfl
           rotate_left
           ·simp only [Act.put, sia, sc0, scs, i64_w, i32_w]
            rfl
           refine pure_ (i := 5) (N := some 36) (v := ?_) (a' := ?_) #[true, true, true, true, true, true, false, false, false, false, false, false, false, false, false, false, false, false, false, false, false, false, false, false, false, false] rfl rfl (any_of HT_.out (by kernel_rfl)) (fun _ _ _ h => h) (Or.inl ⟨by rfl, ?_⟩) ?_ ?_
           rotate_left
           ·intro w'
            go_simp
            with_reducible rfl
           rotate_left
           ·simp only [Act.put, sia, sc0, scs, i64_w, i32_w]
            rfl
           refine pure_ (i := 6) (N := some 37) (v := ?_) (a' := ?_) #[true, true, true, true, true, true, true, false, false, false, false, false, false, false, false, false, false, false, false, false, false, false, false, false, false, false] rfl rfl (any_of HT_.out (by kernel_rfl)) (fun _ _ _ h => h) (Or.inl ⟨by rfl, ?_⟩) ?_ ?_
           rotate_left
           ·intro w'
            go_simp
            with_reducible rfl
           rotate_left
           ·simp only [Act.put, sia, sc0, scs, i64_w, i32_w]
            rfl
           refine take_ (i := 7) (N := some 38) (v := ?_) (a' := ?_) #[true, true, true, true, true, true, true, true, false, false, false, false, false, false, false, false, false, false, false, false, false, false, false, false, false, false] rfl rfl (take_ofW HT_.out HW_.out (by kernel_rfl)) (fun _ _ _ h => h) (Or.inl ⟨by rfl, ?_⟩) hHeld ?_ ?_
           rotate_left
           ·rintro w' ⟨s0, s1, s2, s3, s4⟩
            go_simp
            with_reducible rfl
           rotate_left
           ·simp only [Act.put, sia, sc0, scs, i64_w, i32_w]
            rfl
           refine one_ (i := 8) (N := some 39) #[true, true, true, true, true, true, true, true, true, false, false, false, false, false, false, false, false, false, false, false, false, false, false, false, false, false] rfl rfl (one_of HT_.out (by kernel_rfl)) (by decide) (fun K hK => ?_)
           refine goes_ Try.func68 (by kernel_rfl) rfl #[.agg #[.int .i64 ((rd_T76 t777 x26_1).f0), .int .i64 ((rd_T76 t777 x26_1).f1)]] (by rfl) rfl rfl (by (try simp only [List.map_toArray, List.map_cons, List.map_nil]); first | done | rfl | (simp only [List.length_drop, List.length_take]; rfl)) ?_
           with_reducible refine (share_point_kind.calls k1 ((rd_T76 t777 x26_1).f0) ((rd_T76 t777 x26_1).f1) t784 _ A19.out).mono ?_
           rintro e w23 ⟨rfl, hb⟩
           refine ⟨_, rfl, ?_⟩
           have n0_ := Aside0.mk (Kd.R_below (by (with_reducible repeat (first | apply Kd.R_alloc | apply Kd.R_drewN | apply Kd.R_drew)); exact HO_8.out) hb)
           have n1_ := Aside0.mk (Kd.R_below (by (with_reducible repeat (first | apply Kd.R_alloc | apply Kd.R_drewN | apply Kd.R_drew)); exact HO_24.out) hb)
           have n2_ := Aside0.mk (blk_below (g := gb776) (o := .cells #[.slice (some ad783) l2_0.length c2_0, .int .i64 a2_1] 26 (0, 0)) (by (with_reducible repeat (first | apply kdn | apply kdr | apply kal)); exact BK776.out) hb)
           have n3_ := Aside0.mk (blk_below (g := gb782) (o := .cells #[.int .i64 ((rd_T76 t777 x26_1).f0), .int .i64 ((rd_T76 t777 x26_1).f1)] 76 (0, 0)) (by (with_reducible repeat (first | apply kdn | apply kdr | apply kal)); exact BK782.out) hb)
           have n4_ := Aside0.mk (below_step (by repeat (first | (with_reducible first | exact HB.out | apply lal | apply ldn | apply ldr | refine below_set ?_ GE776.out | refine below_set ?_ GE782.out) | exact HB.out)) hb)
           clear HO_8
           clear HO_24
           clear BK776
           clear BK782
           clear HB
           have HO_8 := n0_
           have HO_24 := n1_
           have BK776 := n2_
           have BK782 := n3_
           have HB := n4_
           clear n0_ n1_ n2_ n3_ n4_
           (try clear hb)
           (try clear hb2)
           (try clear hk)
           (try clear hi)
           refine hK.out _ _ ⟨(blk_cell BK776.out 0).trans rfl, (blk_cell BK776.out 1).trans rfl, (blk_cell BK782.out 0).trans rfl, (blk_cell BK782.out 1).trans rfl, ((HB.out.cell (World.block_lt_of_cell? w _ hw783_0)).trans hw783_0)⟩ (fun hHeld => ?_)
           clear hK K
           refine norm_ (a' := ?_) ?_ ?_
           rotate_left
           ·show Act.put _ (some 39) _ = _
            simp only [Act.put, sia, sc0, scs, i64_w, i32_w]
            rfl
           refine pure_ (i := 9) (N := some 40) (v := ?_) (a' := ?_) #[true, true, true, true, true, true, true, true, true, true, false, false, false, false, false, false, false, false, false, false, false, false, false, false, false, false] rfl rfl (any_of HT_.out (by kernel_rfl)) (fun _ _ _ h => h) (Or.inl ⟨by rfl, ?_⟩) ?_ ?_
           rotate_left
           ·intro w'
            go_simp
            with_reducible rfl
           rotate_left
           ·simp only [Act.put, sia, sc0, scs, i64_w, i32_w]
            rfl
           refine pure_ (i := 10) (N := some 41) (v := ?_) (a' := ?_) #[true, true, true, true, true, true, true, true, true, true, true, false, false, false, false, false, false, false, false, false, false, false, false, false, false, false] rfl rfl (any_of HT_.out (by kernel_rfl)) (fun _ _ _ h => h) (Or.inl ⟨by rfl, ?_⟩) ?_ ?_
           rotate_left
           ·intro w'
            go_simp
            with_reducible rfl
           rotate_left
           ·simp only [Act.put, sia, sc0, scs, i64_w, i32_w]
            rfl
           refine pure_ (i := 11) (N := some 42) (v := ?_) (a' := ?_) #[true, true, true, true, true, true, true, true, true, true, true, true, false, false, false, false, false, false, false, false, false, false, false, false, false, false] rfl rfl (any_of HT_.out (by kernel_rfl)) (fun _ _ _ h => h) (Or.inl ⟨by rfl, ?_⟩) ?_ ?_
           rotate_left
           ·intro w'
            go_simp
            with_reducible rfl
           rotate_left
           ·simp only [Act.put, sia, sc0, scs, i64_w, i32_w]
            rfl
           refine pure_ (i := 12) (N := some 43) (v := undef) (a' := ?_) #[true, true, true, true, true, true, true, true, true, true, true, true, true, false, false, false, false, false, false, false, false, false, false, false, false, false] rfl rfl (any_of HT_.out (by kernel_rfl)) (fun _ _ _ h => h) (Or.inr ⟨by rfl, rfl⟩) ?_ ?_
           rotate_left
           ·simp only [Act.put, sia, sc0, scs, i64_w, i32_w]
            rfl
           refine pure_ (i := 13) (N := some 44) (v := undef) (a' := ?_) #[true, true, true, true, true, true, true, true, true, true, true, true, true, true, false, false, false, false, false, false, false, false, false, false, false, false] rfl rfl (any_of HT_.out (by kernel_rfl)) (fun _ _ _ h => h) (Or.inr ⟨by rfl, rfl⟩) ?_ ?_
           rotate_left
           ·simp only [Act.put, sia, sc0, scs, i64_w, i32_w]
            rfl
           refine pure_ (i := 14) (N := some 45) (v := undef) (a' := ?_) #[true, true, true, true, true, true, true, true, true, true, true, true, true, true, true, false, false, false, false, false, false, false, false, false, false, false] rfl rfl (any_of HT_.out (by kernel_rfl)) (fun _ _ _ h => h) (Or.inr ⟨by rfl, rfl⟩) ?_ ?_
           rotate_left
           ·simp only [Act.put, sia, sc0, scs, i64_w, i32_w]
            rfl
           refine pure_ (i := 15) (N := some 46) (v := undef) (a' := ?_) #[true, true, true, true, true, true, true, true, true, true, true, true, true, true, true, true, false, false, false, false, false, false, false, false, false, false] rfl rfl (any_of HT_.out (by kernel_rfl)) (fun _ _ _ h => h) (Or.inr ⟨by rfl, rfl⟩) ?_ ?_
           rotate_left
           ·simp only [Act.put, sia, sc0, scs, i64_w, i32_w]
            rfl
           refine pure_ (i := 16) (N := some 47) (v := undef) (a' := ?_) #[true, true, true, true, true, true, true, true, true, true, true, true, true, true, true, true, true, false, false, false, false, false, false, false, false, false] rfl rfl (any_of HT_.out (by kernel_rfl)) (fun _ _ _ h => h) (Or.inr ⟨by rfl, rfl⟩) ?_ ?_
           rotate_left
           ·simp only [Act.put, sia, sc0, scs, i64_w, i32_w]
            rfl
           refine pure_ (i := 17) (N := some 48) (v := undef) (a' := ?_) #[true, true, true, true, true, true, true, true, true, true, true, true, true, true, true, true, true, true, false, false, false, false, false, false, false, false] rfl rfl (any_of HT_.out (by kernel_rfl)) (fun _ _ _ h => h) (Or.inr ⟨by rfl, rfl⟩) ?_ ?_
           rotate_left
           ·simp only [Act.put, sia, sc0, scs, i64_w, i32_w]
            rfl
           refine pure_ (i := 18) (N := some 49) (v := undef) (a' := ?_) #[true, true, true, true, true, true, true, true, true, true, true, true, true, true, true, true, true, true, true, false, false, false, false, false, false, false] rfl rfl (any_of HT_.out (by kernel_rfl)) (fun _ _ _ h => h) (Or.inr ⟨by rfl, rfl⟩) ?_ ?_
           rotate_left
           ·simp only [Act.put, sia, sc0, scs, i64_w, i32_w]
            rfl
           refine pure_ (i := 19) (N := some 50) (v := undef) (a' := ?_) #[true, true, true, true, true, true, true, true, true, true, true, true, true, true, true, true, true, true, true, true, false, false, false, false, false, false] rfl rfl (any_of HT_.out (by kernel_rfl)) (fun _ _ _ h => h) (Or.inr ⟨by rfl, rfl⟩) ?_ ?_
           rotate_left
           ·simp only [Act.put, sia, sc0, scs, i64_w, i32_w]
            rfl
           refine pure_ (i := 20) (N := some 51) (v := undef) (a' := ?_) #[true, true, true, true, true, true, true, true, true, true, true, true, true, true, true, true, true, true, true, true, true, false, false, false, false, false] rfl rfl (any_of HT_.out (by kernel_rfl)) (fun _ _ _ h => h) (Or.inr ⟨by rfl, rfl⟩) ?_ ?_
           rotate_left
           ·simp only [Act.put, sia, sc0, scs, i64_w, i32_w]
            rfl
           refine pure_ (i := 21) (N := some 52) (v := undef) (a' := ?_) #[true, true, true, true, true, true, true, true, true, true, true, true, true, true, true, true, true, true, true, true, true, true, false, false, false, false] rfl rfl (any_of HT_.out (by kernel_rfl)) (fun _ _ _ h => h) (Or.inr ⟨by rfl, rfl⟩) ?_ ?_
           rotate_left
           ·simp only [Act.put, sia, sc0, scs, i64_w, i32_w]
            rfl
           refine pure_ (i := 22) (N := some 53) (v := undef) (a' := ?_) #[true, true, true, true, true, true, true, true, true, true, true, true, true, true, true, true, true, true, true, true, true, true, true, false, false, false] rfl rfl (any_of HT_.out (by kernel_rfl)) (fun _ _ _ h => h) (Or.inr ⟨by rfl, rfl⟩) ?_ ?_
           rotate_left
           ·simp only [Act.put, sia, sc0, scs, i64_w, i32_w]
            rfl
           refine pure_ (i := 23) (N := some 54) (v := undef) (a' := ?_) #[true, true, true, true, true, true, true, true, true, true, true, true, true, true, true, true, true, true, true, true, true, true, true, true, false, false] rfl rfl (any_of HT_.out (by kernel_rfl)) (fun _ _ _ h => h) (Or.inr ⟨by rfl, rfl⟩) ?_ ?_
           rotate_left
           ·simp only [Act.put, sia, sc0, scs, i64_w, i32_w]
            rfl
           refine pure_ (i := 24) (N := some 55) (v := undef) (a' := ?_) #[true, true, true, true, true, true, true, true, true, true, true, true, true, true, true, true, true, true, true, true, true, true, true, true, true, false] rfl rfl (any_of HT_.out (by kernel_rfl)) (fun _ _ _ h => h) (Or.inr ⟨by rfl, rfl⟩) ?_ ?_
           rotate_left
           ·simp only [Act.put, sia, sc0, scs, i64_w, i32_w]
            rfl
           refine pure_ (i := 25) (N := some 56) (v := ?_) (a' := ?_) #[true, true, true, true, true, true, true, true, true, true, true, true, true, true, true, true, true, true, true, true, true, true, true, true, true, true] rfl rfl (any_of HT_.out (by kernel_rfl)) (fun _ _ _ h => h) (Or.inl ⟨by rfl, ?_⟩) ?_ ?_
           rotate_left
           ·intro w'
            go_simp
            with_reducible rfl
           rotate_left
           ·simp only [Act.put, sia, sc0, scs, i64_w, i32_w]
            rfl
           refine done_ (done_of HT_.out (by kernel_rfl)) ?_
           try go_wp2
           go_meet
           case rel => exact ⟨_, (true), (by first | rfl | (simp; done) | (simp [*]; done)), H', ⟨by have := HK1.out; first | omega | exact Nat.le_refl _⟩, ⟨by (with_reducible repeat (first | apply Kd.R_alloc | apply Kd.R_drewN | apply Kd.R_drew)); exact HO_8.out⟩, ⟨by (with_reducible repeat (first | apply Kd.R_alloc | apply Kd.R_drewN | apply Kd.R_drew)); exact HO_24.out⟩, ⟨by (with_reducible repeat (first | apply kdn | apply kdr | apply kal)); exact BK776.out⟩, ⟨by (with_reducible repeat (first | apply kdn | apply kdr | apply kal)); exact BK782.out⟩, ⟨by repeat (first | (with_reducible first | exact HB.out | apply lal | apply ldn | apply ldr | refine below_set ?_ GE776.out | refine below_set ?_ GE782.out) | exact HB.out)⟩⟩
          ·rw [if_neg c20] at H
           have c20b0 : (t784 == 2) = false := beq_eq_false_iff_ne.mpr c20
           have c20b1 : (t784 != 2) = true := bne_iff_ne.mpr c20
           by_cases c24 : (rd l2_0 x26_1) < a2_1
           ·rw [if_pos c24] at H
            have c24b0 : decide ((rd l2_0 x26_1) < a2_1) = true := decide_eq_true c24
            clear c24
            replace H := Option.bind_eq_some_iff.mp H
            obtain ⟨t786, A250, H⟩ := H
            replace H : (share_Efficient.j1 k1 t777 x26_1 t777 (t777.length : Int) x26_1 (t786 == 0) l2_0 a2_1 ((rd_T76 t777 x26_1).f0) ((rd_T76 t777 x26_1).f1)) = some (r1, r2) := H
            have A25 := Aside0.mk A250
            clear A250
            have H' := Aside0.mk H
            clear H
            try go_wp2
            have n0_ : Aside0 (Kd.R k76 76 ((w14.setCell ⟨gb782, 0, none⟩ (.int .i64 ((rd_T76 t777 x26_1).f0))).setCell ⟨gb782, 1, none⟩ (.int .i64 ((rd_T76 t777 x26_1).f1))) w.heap.size (fun k_ => k_ ≠ gb782) (.slice (some ad781) t777.length co9) t777) := ⟨by (with_reducible repeat (first | apply Kd.R_alloc | apply Kd.R_drewN | apply Kd.R_drew)); exact Kd.R_mono (Kd.R_far (p := ⟨gb782, 1, none⟩) (Kd.R_far (p := ⟨gb782, 0, none⟩) (Kd.R_mono HO_8.out (fun k_ hk => (⟨hk, hk.2⟩ : _ ∧ k_ ≠ gb782))) (fun _ hk => hk.2) (.int .i64 ((rd_T76 t777 x26_1).f0))) (fun _ hk => hk.2) (.int .i64 ((rd_T76 t777 x26_1).f1))) (fun _ hk => hk.1.2)⟩
            have n1_ : Aside0 (Kd.R k76 76 ((w14.setCell ⟨gb782, 0, none⟩ (.int .i64 ((rd_T76 t777 x26_1).f0))).setCell ⟨gb782, 1, none⟩ (.int .i64 ((rd_T76 t777 x26_1).f1))) w.heap.size (fun k_ => k_ ≠ gb782) (.slice (some ad781) t777.length co9) t777) := ⟨by (with_reducible repeat (first | apply Kd.R_alloc | apply Kd.R_drewN | apply Kd.R_drew)); exact Kd.R_mono (Kd.R_far (p := ⟨gb782, 1, none⟩) (Kd.R_far (p := ⟨gb782, 0, none⟩) (Kd.R_mono HO_24.out (fun k_ hk => (⟨hk, hk.2⟩ : _ ∧ k_ ≠ gb782))) (fun _ hk => hk.2) (.int .i64 ((rd_T76 t777 x26_1).f0))) (fun _ hk => hk.2) (.int .i64 ((rd_T76 t777 x26_1).f1))) (fun _ hk => hk.1.2)⟩
            have n2_ : Aside0 (((w14.setCell ⟨gb782, 0, none⟩ (.int .i64 ((rd_T76 t777 x26_1).f0))).setCell ⟨gb782, 1, none⟩ (.int .i64 ((rd_T76 t777 x26_1).f1))).heap[gb776]? = some (.cells #[.slice A2_0 l2_0.length c2_0, .int .i64 a2_1] 26 (0, 0))) := ⟨by (with_reducible repeat (first | apply kdn | apply kdr | apply kal)); refine blk_far ?_ NB776_782.out _; (with_reducible repeat (first | apply kdn | apply kdr | apply kal)); refine blk_far ?_ NB776_782.out _; (with_reducible repeat (first | apply kdn | apply kdr | apply kal)); exact BK776.out⟩
            have n3_ : Aside0 (((w14.setCell ⟨gb782, 0, none⟩ (.int .i64 ((rd_T76 t777 x26_1).f0))).setCell ⟨gb782, 1, none⟩ (.int .i64 ((rd_T76 t777 x26_1).f1))).heap[gb782]? = some (.cells #[.int .i64 ((rd_T76 t777 x26_1).f0), .int .i64 ((rd_T76 t777 x26_1).f1)] 76 (0, 0))) := ⟨by (with_reducible repeat (first | apply kdn | apply kdr | apply kal)); refine blk_put (cs := #[.int .i64 ((rd_T76 t777 x26_1).f0), .int .i64 0]) ?_ 1 _ rfl; (with_reducible repeat (first | apply kdn | apply kdr | apply kal)); refine blk_put (cs := #[.int .i64 0, .int .i64 0]) ?_ 0 _ rfl; (with_reducible repeat (first | apply kdn | apply kdr | apply kal)); exact BK782.out⟩
            have n4_ : Aside0 (Below w.heap.size w ((w14.setCell ⟨gb782, 0, none⟩ (.int .i64 ((rd_T76 t777 x26_1).f0))).setCell ⟨gb782, 1, none⟩ (.int .i64 ((rd_T76 t777 x26_1).f1)))) := ⟨by repeat (first | (with_reducible first | exact HB.out | apply lal | apply ldn | apply ldr | refine below_set ?_ GE776.out | refine below_set ?_ GE782.out) | exact HB.out)⟩
            (try clear HO_8)
            (try clear HO_24)
            (try clear BK776)
            (try clear BK782)
            (try clear HB)
            generalize ((w14.setCell ⟨gb782, 0, none⟩ (.int .i64 ((rd_T76 t777 x26_1).f0))).setCell ⟨gb782, 1, none⟩ (.int .i64 ((rd_T76 t777 x26_1).f1))) = w26 at n0_ n1_ n2_ n3_ n4_ ⊢
            have HO_8 := n0_
            have HO_24 := n1_
            have BK776 := n2_
            have BK782 := n3_
            have HB := n4_
            clear n0_ n1_ n2_ n3_ n4_
            have n0_ := Aside0.mk (Kd.R_drew HO_8.out)
            have n1_ := Aside0.mk (Kd.R_drew HO_24.out)
            have n2_ := Aside0.mk (blk_drew BK776.out)
            have n3_ := Aside0.mk (blk_drew BK782.out)
            have n4_ := Aside0.mk (below_drew1 HB.out)
            clear HO_8
            clear HO_24
            clear BK776
            clear BK782
            clear HB
            have HO_8 := n0_
            have HO_24 := n1_
            have BK776 := n2_
            have BK782 := n3_
            have HB := n4_
            clear n0_ n1_ n2_ n3_ n4_
            have p783 : 0 ≤ (x26_1 : Int) := of_decide_eq_true (by first | (with_reducible assumption) | assumption)
            have q783 : x26_1 < (l2_0.length : Int) := of_decide_eq_true (by first | (with_reducible assumption) | assumption)
            obtain ⟨ad783, e783, hx783_0⟩ := Kd.at_int HR2_0.out x26_1 p783 q783
            have hw783_0 := hx783_0
            cases e783
            replace hx783_0 := (HB.out.cell (World.block_lt_of_cell? w _ hx783_0)).trans hx783_0
            replace p783 := eq_true p783
            replace q783 := eq_true q783
            have p785 : 0 ≤ (x26_1 : Int) := of_decide_eq_true (by first | (with_reducible assumption) | assumption)
            have q785 : x26_1 < (l2_0.length : Int) := of_decide_eq_true (by first | (with_reducible assumption) | assumption)
            obtain ⟨ad785, e785, hx785_0⟩ := Kd.at_int HR2_0.out x26_1 p785 q785
            have hw785_0 := hx785_0
            obtain rfl : ad783 = ad785 := (by injection e785)
            replace hx785_0 := (HB.out.cell (World.block_lt_of_cell? w _ hx785_0)).trans hx785_0
            replace p785 := eq_true p785
            replace q785 := eq_true q785
            refine start_ (n := 26) (S := fun w' => w'.cell? ⟨gb776, 0, none⟩ = some (.slice (some ad783) l2_0.length c2_0) ∧ w'.cell? ⟨gb776, 1, none⟩ = some (.int .i64 a2_1) ∧ w'.cell? ⟨gb782, 0, none⟩ = some (.int .i64 ((rd_T76 t777 x26_1).f0)) ∧ w'.cell? ⟨gb782, 1, none⟩ = some (.int .i64 ((rd_T76 t777 x26_1).f1)) ∧ w'.cell? (ad783.add (x26_1).toNat) = some (.int .i64 (rd l2_0 x26_1)) ∧ w'.cell? (ad783.add (x26_1).toNat) = some (.int .i64 (rd l2_0 x26_1))) (ds := []) #[false, false, false, false, false, false, false, false, false, false, false, false, false, false, false, false, false, false, false, false, false, false, false, false, false, false] (by kernel_rfl) rfl rfl ⟨(blk_cell BK776.out 0).trans rfl, (blk_cell BK776.out 1).trans rfl, (blk_cell BK782.out 0).trans rfl, (blk_cell BK782.out 1).trans rfl, ((HB.out.cell (World.block_lt_of_cell? w _ hw783_0)).trans hw783_0), ((HB.out.cell (World.block_lt_of_cell? w _ hw785_0)).trans hw785_0)⟩ (fun hHeld => ?_); refine with_tabW share_Efficient.tab7 share_Efficient.bits7 (fun HT_ HW_ => ?_)
            generalize w26.drew = w27 at HO_8 HO_24 BK776 BK782 HB hx783_0 hx785_0 hHeld ⊢
            refine pure_ (i := 0) (N := some 31) (v := ?_) (a' := ?_) #[true, false, false, false, false, false, false, false, false, false, false, false, false, false, false, false, false, false, false, false, false, false, false, false, false, false] rfl rfl (any_of HT_.out (by kernel_rfl)) (fun _ _ _ h => h) (Or.inl ⟨by rfl, ?_⟩) ?_ ?_
            rotate_left
            ·intro w'
             go_simp
             with_reducible rfl
            rotate_left
            ·simp only [Act.put, sia, sc0, scs, i64_w, i32_w]
             rfl
            refine pure_ (i := 2) (N := some 33) (v := ?_) (a' := ?_) #[true, false, true, false, false, false, false, false, false, false, false, false, false, false, false, false, false, false, false, false, false, false, false, false, false, false] rfl rfl (any_of HT_.out (by kernel_rfl)) (fun _ _ _ h => h) (Or.inl ⟨by rfl, ?_⟩) ?_ ?_
            rotate_left
            ·intro w'
             go_simp
             with_reducible rfl
            rotate_left
            ·simp only [Act.put, sia, sc0, scs, i64_w, i32_w]
             rfl
            refine take_ (i := 1) (N := some 32) (v := ?_) (a' := ?_) #[true, true, true, false, false, false, false, false, false, false, false, false, false, false, false, false, false, false, false, false, false, false, false, false, false, false] rfl rfl (take_ofW HT_.out HW_.out (by kernel_rfl)) (fun _ _ _ h => h) (Or.inl ⟨by rfl, ?_⟩) hHeld ?_ ?_
            rotate_left
            ·rintro w' ⟨s0, s1, s2, s3, s4, s5⟩
             go_simp
             with_reducible rfl
            rotate_left
            ·simp only [Act.put, sia, sc0, scs, i64_w, i32_w]
             rfl
            refine pure_ (i := 3) (N := some 34) (v := ?_) (a' := ?_) #[true, true, true, true, false, false, false, false, false, false, false, false, false, false, false, false, false, false, false, false, false, false, false, false, false, false] rfl rfl (any_of HT_.out (by kernel_rfl)) (fun _ _ _ h => h) (Or.inl ⟨by rfl, ?_⟩) ?_ ?_
            rotate_left
            ·intro w'
             go_simp
             with_reducible rfl
            rotate_left
            ·simp only [Act.put, sia, sc0, scs, i64_w, i32_w]
             rfl
            refine take_ (i := 4) (N := some 35) (v := ?_) (a' := ?_) #[true, true, true, true, true, false, false, false, false, false, false, false, false, false, false, false, false, false, false, false, false, false, false, false, false, false] rfl rfl (take_ofW HT_.out HW_.out (by kernel_rfl)) (fun _ _ _ h => h) (Or.inl ⟨by rfl, ?_⟩) hHeld ?_ ?_
            rotate_left
            ·rintro w' ⟨s0, s1, s2, s3, s4, s5⟩
             go_simp
             with_reducible rfl
            rotate_left
            ·simp only [Act.put, sia, sc0, scs, i64_w, i32_w]
             rfl
            refine pure_ (i := 5) (N := some 36) (v := ?_) (a' := ?_) #[true, true, true, true, true, true, false, false, false, false, false, false, false, false, false, false, false, false, false, false, false, false, false, false, false, false] rfl rfl (any_of HT_.out (by kernel_rfl)) (fun _ _ _ h => h) (Or.inl ⟨by rfl, ?_⟩) ?_ ?_
            rotate_left
            ·intro w'
             go_simp
             with_reducible rfl
            rotate_left
            ·simp only [Act.put, sia, sc0, scs, i64_w, i32_w]
             rfl
            refine pure_ (i := 6) (N := some 37) (v := ?_) (a' := ?_) #[true, true, true, true, true, true, true, false, false, false, false, false, false, false, false, false, false, false, false, false, false, false, false, false, false, false] rfl rfl (any_of HT_.out (by kernel_rfl)) (fun _ _ _ h => h) (Or.inl ⟨by rfl, ?_⟩) ?_ ?_
            rotate_left
            ·intro w'
             go_simp
             with_reducible rfl
            rotate_left
            ·simp only [Act.put, sia, sc0, scs, i64_w, i32_w]
             rfl
            refine take_ (i := 7) (N := some 38) (v := ?_) (a' := ?_) #[true, true, true, true, true, true, true, true, false, false, false, false, false, false, false, false, false, false, false, false, false, false, false, false, false, false] rfl rfl (take_ofW HT_.out HW_.out (by kernel_rfl)) (fun _ _ _ h => h) (Or.inl ⟨by rfl, ?_⟩) hHeld ?_ ?_
            rotate_left
            ·rintro w' ⟨s0, s1, s2, s3, s4, s5⟩
             go_simp
             with_reducible rfl
            rotate_left
            ·simp only [Act.put, sia, sc0, scs, i64_w, i32_w]
             rfl
            refine one_ (i := 8) (N := some 39) #[true, true, true, true, true, true, true, true, true, false, false, false, false, false, false, false, false, false, false, false, false, false, false, false, false, false] rfl rfl (one_of HT_.out (by kernel_rfl)) (by decide) (fun K hK => ?_)
            refine goes_ Try.func68 (by kernel_rfl) rfl #[.agg #[.int .i64 ((rd_T76 t777 x26_1).f0), .int .i64 ((rd_T76 t777 x26_1).f1)]] (by rfl) rfl rfl (by (try simp only [List.map_toArray, List.map_cons, List.map_nil]); first | done | rfl | (simp only [List.length_drop, List.length_take]; rfl)) ?_
            with_reducible refine (share_point_kind.calls k1 ((rd_T76 t777 x26_1).f0) ((rd_T76 t777 x26_1).f1) t784 _ A19.out).mono ?_
            rintro e w28 ⟨rfl, hb⟩
            refine ⟨_, rfl, ?_⟩
            have n0_ := Aside0.mk (Kd.R_below (by (with_reducible repeat (first | apply Kd.R_alloc | apply Kd.R_drewN | apply Kd.R_drew)); exact HO_8.out) hb)
            have n1_ := Aside0.mk (Kd.R_below (by (with_reducible repeat (first | apply Kd.R_alloc | apply Kd.R_drewN | apply Kd.R_drew)); exact HO_24.out) hb)
            have n2_ := Aside0.mk (blk_below (g := gb776) (o := .cells #[.slice (some ad783) l2_0.length c2_0, .int .i64 a2_1] 26 (0, 0)) (by (with_reducible repeat (first | apply kdn | apply kdr | apply kal)); exact BK776.out) hb)
            have n3_ := Aside0.mk (blk_below (g := gb782) (o := .cells #[.int .i64 ((rd_T76 t777 x26_1).f0), .int .i64 ((rd_T76 t777 x26_1).f1)] 76 (0, 0)) (by (with_reducible repeat (first | apply kdn | apply kdr | apply kal)); exact BK782.out) hb)
            have n4_ := Aside0.mk (below_step (by repeat (first | (with_reducible first | exact HB.out | apply lal | apply ldn | apply ldr | refine below_set ?_ GE776.out | refine below_set ?_ GE782.out) | exact HB.out)) hb)
            clear HO_8
            clear HO_24
            clear BK776
            clear BK782
            clear HB
            have HO_8 := n0_
            have HO_24 := n1_
            have BK776 := n2_
            have BK782 := n3_
            have HB := n4_
            clear n0_ n1_ n2_ n3_ n4_
            (try clear hb)
            (try clear hb2)
            (try clear hk)
            (try clear hi)
            refine hK.out _ _ ⟨(blk_cell BK776.out 0).trans rfl, (blk_cell BK776.out 1).trans rfl, (blk_cell BK782.out 0).trans rfl, (blk_cell BK782.out 1).trans rfl, ((HB.out.cell (World.block_lt_of_cell? w _ hw783_0)).trans hw783_0), ((HB.out.cell (World.block_lt_of_cell? w _ hw785_0)).trans hw785_0)⟩ (fun hHeld => ?_)
            clear hK K
            refine norm_ (a' := ?_) ?_ ?_
            rotate_left
            ·show Act.put _ (some 39) _ = _
             simp only [Act.put, sia, sc0, scs, i64_w, i32_w]
             rfl
            refine pure_ (i := 9) (N := some 40) (v := ?_) (a' := ?_) #[true, true, true, true, true, true, true, true, true, true, false, false, false, false, false, false, false, false, false, false, false, false, false, false, false, false] rfl rfl (any_of HT_.out (by kernel_rfl)) (fun _ _ _ h => h) (Or.inl ⟨by rfl, ?_⟩) ?_ ?_
            rotate_left
            ·intro w'
             go_simp
             with_reducible rfl
            rotate_left
            ·simp only [Act.put, sia, sc0, scs, i64_w, i32_w]
             rfl
            refine pure_ (i := 10) (N := some 41) (v := ?_) (a' := ?_) #[true, true, true, true, true, true, true, true, true, true, true, false, false, false, false, false, false, false, false, false, false, false, false, false, false, false] rfl rfl (any_of HT_.out (by kernel_rfl)) (fun _ _ _ h => h) (Or.inl ⟨by rfl, ?_⟩) ?_ ?_
            rotate_left
            ·intro w'
             go_simp
             with_reducible rfl
            rotate_left
            ·simp only [Act.put, sia, sc0, scs, i64_w, i32_w]
             rfl
            refine pure_ (i := 11) (N := some 42) (v := ?_) (a' := ?_) #[true, true, true, true, true, true, true, true, true, true, true, true, false, false, false, false, false, false, false, false, false, false, false, false, false, false] rfl rfl (any_of HT_.out (by kernel_rfl)) (fun _ _ _ h => h) (Or.inl ⟨by rfl, ?_⟩) ?_ ?_
            rotate_left
            ·intro w'
             go_simp
             with_reducible rfl
            rotate_left
            ·simp only [Act.put, sia, sc0, scs, i64_w, i32_w]
             rfl
            refine pure_ (i := 12) (N := some 43) (v := ?_) (a' := ?_) #[true, true, true, true, true, true, true, true, true, true, true, true, true, false, false, false, false, false, false, false, false, false, false, false, false, false] rfl rfl (any_of HT_.out (by kernel_rfl)) (fun _ _ _ h => h) (Or.inl ⟨by rfl, ?_⟩) ?_ ?_
            rotate_left
            ·intro w'
             go_simp
             with_reducible rfl
            rotate_left
            ·simp only [Act.put, sia, sc0, scs, i64_w, i32_w]
             rfl
            refine pure_ (i := 14) (N := some 45) (v := ?_) (a' := ?_) #[true, true, true, true, true, true, true, true, true, true, true, true, true, false, true, false, false, false, false, false, false, false, false, false, false, false] rfl rfl (any_of HT_.out (by kernel_rfl)) (fun _ _ _ h => h) (Or.inl ⟨by rfl, ?_⟩) ?_ ?_
            rotate_left
            ·intro w'
             go_simp
             with_reducible rfl
            rotate_left
            ·simp only [Act.put, sia, sc0, scs, i64_w, i32_w]
             rfl
            refine pure_ (i := 17) (N := some 48) (v := ?_) (a' := ?_) #[true, true, true, true, true, true, true, true, true, true, true, true, true, false, true, false, false, true, false, false, false, false, false, false, false, false] rfl rfl (any_of HT_.out (by kernel_rfl)) (fun _ _ _ h => h) (Or.inl ⟨by rfl, ?_⟩) ?_ ?_
            rotate_left
            ·intro w'
             go_simp
             with_reducible rfl
            rotate_left
            ·simp only [Act.put, sia, sc0, scs, i64_w, i32_w]
             rfl
            refine take_ (i := 13) (N := some 44) (v := ?_) (a' := ?_) #[true, true, true, true, true, true, true, true, true, true, true, true, true, true, true, false, false, true, false, false, false, false, false, false, false, false] rfl rfl (take_ofW HT_.out HW_.out (by kernel_rfl)) (fun _ _ _ h => h) (Or.inl ⟨by rfl, ?_⟩) hHeld ?_ ?_
            rotate_left
            ·rintro w' ⟨s0, s1, s2, s3, s4, s5⟩
             go_simp
             with_reducible rfl
            rotate_left
            ·simp only [Act.put, sia, sc0, scs, i64_w, i32_w]
             rfl
            refine pure_ (i := 15) (N := some 46) (v := ?_) (a' := ?_) #[true, true, true, true, true, true, true, true, true, true, true, true, true, true, true, true, false, true, false, false, false, false, false, false, false, false] rfl rfl (any_of HT_.out (by kernel_rfl)) (fun _ _ _ h => h) (Or.inl ⟨by rfl, ?_⟩) ?_ ?_
            rotate_left
            ·intro w'
             go_simp
             with_reducible rfl
            rotate_left
            ·simp only [Act.put, sia, sc0, scs, i64_w, i32_w]
             rfl
            refine take_ (i := 16) (N := some 47) (v := ?_) (a' := ?_) #[true, true, true, true, true, true, true, true, true, true, true, true, true, true, true, true, true, true, false, false, false, false, false, false, false, false] rfl rfl (take_ofW HT_.out HW_.out (by kernel_rfl)) (fun _ _ _ h => h) (Or.inl ⟨by rfl, ?_⟩) hHeld ?_ ?_
            rotate_left
            ·rintro w' ⟨s0, s1, s2, s3, s4, s5⟩
             go_simp
             with_reducible rfl
            rotate_left
            ·simp only [Act.put, sia, sc0, scs, i64_w, i32_w]
             rfl
            refine take_ (i := 18) (N := some 49) (v := ?_) (a' := ?_) #[true, true, true, true, true, true, true, true, true, true, true, true, true, true, true, true, true, true, true, false, false, false, false, false, false, false] rfl rfl (take_ofW HT_.out HW_.out (by kernel_rfl)) (fun _ _ _ h => h) (Or.inl ⟨by rfl, ?_⟩) hHeld ?_ ?_
            rotate_left
            ·rintro w' ⟨s0, s1, s2, s3, s4, s5⟩
             go_simp
             with_reducible rfl
            rotate_left
            ·simp only [Act.put, sia, sc0, scs, i64_w, i32_w]
             rfl
            refine pure_ (i := 19) (N := some 50) (v := ?_) (a' := ?_) #[true, true, true, true, true, true, true, true, true, true, true, true, true, true, true, true, true, true, true, true, false, false, false, false, false, false] rfl rfl (any_of HT_.out (by kernel_rfl)) (fun _ _ _ h => h) (Or.inl ⟨by rfl, ?_⟩) ?_ ?_
            rotate_left
            ·intro w'
             go_simp
             with_reducible rfl
            rotate_left
            ·simp only [Act.put, sia, sc0, scs, i64_w, i32_w]
             rfl
            refine pure_ (i := 20) (N := some 51) (v := ?_) (a' := ?_) #[true, true, true, true, true, true, true, true, true, true, true, true, true, true, true, true, true, true, true, true, true, false, false, false, false, false] rfl rfl (any_of HT_.out (by kernel_rfl)) (fun _ _ _ h => h) (Or.inl ⟨by rfl, ?_⟩) ?_ ?_
            rotate_left
            ·intro w'
             go_simp
             with_reducible rfl
            rotate_left
            ·simp only [Act.put, sia, sc0, scs, i64_w, i32_w]
             rfl
            refine take_ (i := 21) (N := some 52) (v := ?_) (a' := ?_) #[true, true, true, true, true, true, true, true, true, true, true, true, true, true, true, true, true, true, true, true, true, true, false, false, false, false] rfl rfl (take_ofW HT_.out HW_.out (by kernel_rfl)) (fun _ _ _ h => h) (Or.inl ⟨by rfl, ?_⟩) hHeld ?_ ?_
            rotate_left
            ·rintro w' ⟨s0, s1, s2, s3, s4, s5⟩
             go_simp
             with_reducible rfl
            rotate_left
            ·simp only [Act.put, sia, sc0, scs, i64_w, i32_w]
             rfl
            refine one_ (i := 22) (N := some 53) #[true, true, true, true, true, true, true, true, true, true, true, true, true, true, true, true, true, true, true, true, true, true, true, false, false, false] rfl rfl (one_of HT_.out (by kernel_rfl)) (by decide) (fun K hK => ?_)
            refine goes_ Try.func68 (by kernel_rfl) rfl #[.agg #[.int .i64 ((rd_T76 t777 x26_1).f0), .int .i64 ((rd_T76 t777 x26_1).f1)]] (by rfl) rfl rfl (by (try simp only [List.map_toArray, List.map_cons, List.map_nil]); first | done | rfl | (simp only [List.length_drop, List.length_take]; rfl)) ?_
            with_reducible refine (share_point_kind.calls k1 ((rd_T76 t777 x26_1).f0) ((rd_T76 t777 x26_1).f1) t786 _ A25.out).mono ?_
            rintro e w29 ⟨rfl, hb⟩
            refine ⟨_, rfl, ?_⟩
            have n0_ := Aside0.mk (Kd.R_below (by (with_reducible repeat (first | apply Kd.R_alloc | apply Kd.R_drewN | apply Kd.R_drew)); exact HO_8.out) hb)
            have n1_ := Aside0.mk (Kd.R_below (by (with_reducible repeat (first | apply Kd.R_alloc | apply Kd.R_drewN | apply Kd.R_drew)); exact HO_24.out) hb)
            have n2_ := Aside0.mk (blk_below (g := gb776) (o := .cells #[.slice (some ad783) l2_0.length c2_0, .int .i64 a2_1] 26 (0, 0)) (by (with_reducible repeat (first | apply kdn | apply kdr | apply kal)); exact BK776.out) hb)
            have n3_ := Aside0.mk (blk_below (g := gb782) (o := .cells #[.int .i64 ((rd_T76 t777 x26_1).f0), .int .i64 ((rd_T76 t777 x26_1).f1)] 76 (0, 0)) (by (with_reducible repeat (first | apply kdn | apply kdr | apply kal)); exact BK782.out) hb)
            have n4_ := Aside0.mk (below_step (by repeat (first | (with_reducible first | exact HB.out | apply lal | apply ldn | apply ldr | refine below_set ?_ GE776.out | refine below_set ?_ GE782.out) | exact HB.out)) hb)
            clear HO_8
            clear HO_24
            clear BK776
            clear BK782
            clear HB
            have HO_8 := n0_
            have HO_24 := n1_
            have BK776 := n2_
            have BK782 := n3_
            have HB := n4_
            clear n0_ n1_ n2_ n3_ n4_
            (try clear hb)
            (try clear hb2)
            (try clear hk)
            (try clear hi)
            refine hK.out _ _ ⟨(blk_cell BK776.out 0).trans rfl, (blk_cell BK776.out 1).trans rfl, (blk_cell BK782.out 0).trans rfl, (blk_cell BK782.out 1).trans rfl, ((HB.out.cell (World.block_lt_of_cell? w _ hw783_0)).trans hw783_0), ((HB.out.cell (World.block_lt_of_cell? w _ hw785_0)).trans hw785_0)⟩ (fun hHeld => ?_)
            clear hK K
            refine norm_ (a' := ?_) ?_ ?_
            rotate_left
            ·show Act.put _ (some 53) _ = _
             simp only [Act.put, sia, sc0, scs, i64_w, i32_w]
             rfl
            refine pure_ (i := 23) (N := some 54) (v := ?_) (a' := ?_) #[true, true, true, true, true, true, true, true, true, true, true, true, true, true, true, true, true, true, true, true, true, true, true, true, false, false] rfl rfl (any_of HT_.out (by kernel_rfl)) (fun _ _ _ h => h) (Or.inl ⟨by rfl, ?_⟩) ?_ ?_
            rotate_left
            ·intro w'
             go_simp
             with_reducible rfl
            rotate_left
            ·simp only [Act.put, sia, sc0, scs, i64_w, i32_w]
             rfl
            refine pure_ (i := 24) (N := some 55) (v := ?_) (a' := ?_) #[true, true, true, true, true, true, true, true, true, true, true, true, true, true, true, true, true, true, true, true, true, true, true, true, true, false] rfl rfl (any_of HT_.out (by kernel_rfl)) (fun _ _ _ h => h) (Or.inl ⟨by rfl, ?_⟩) ?_ ?_
            rotate_left
            ·intro w'
             go_simp
             with_reducible rfl
            rotate_left
            ·simp only [Act.put, sia, sc0, scs, i64_w, i32_w]
             rfl
            refine pure_ (i := 25) (N := some 56) (v := ?_) (a' := ?_) #[true, true, true, true, true, true, true, true, true, true, true, true, true, true, true, true, true, true, true, true, true, true, true, true, true, true] rfl rfl (any_of HT_.out (by kernel_rfl)) (fun _ _ _ h => h) (Or.inl ⟨by rfl, ?_⟩) ?_ ?_
            rotate_left
            ·intro w'
             go_simp
             with_reducible rfl
            rotate_left
            ·simp only [Act.put, sia, sc0, scs, i64_w, i32_w]
             rfl
            refine done_ (done_of HT_.out (by kernel_rfl)) ?_
            try go_wp2
            go_meet
            case rel => exact ⟨_, ((t786 == 0)), (by first | rfl | (simp; done) | (simp [*]; done)), H', ⟨by have := HK1.out; first | omega | exact Nat.le_refl _⟩, ⟨by (with_reducible repeat (first | apply Kd.R_alloc | apply Kd.R_drewN | apply Kd.R_drew)); exact HO_8.out⟩, ⟨by (with_reducible repeat (first | apply Kd.R_alloc | apply Kd.R_drewN | apply Kd.R_drew)); exact HO_24.out⟩, ⟨by (with_reducible repeat (first | apply kdn | apply kdr | apply kal)); exact BK776.out⟩, ⟨by (with_reducible repeat (first | apply kdn | apply kdr | apply kal)); exact BK782.out⟩, ⟨by repeat (first | (with_reducible first | exact HB.out | apply lal | apply ldn | apply ldr | refine below_set ?_ GE776.out | refine below_set ?_ GE782.out) | exact HB.out)⟩⟩
           ·rw [if_neg c24] at H
            have c24b0 : decide ((rd l2_0 x26_1) < a2_1) = false := decide_eq_false c24
            clear c24
            have H' := Aside0.mk H
            clear H
            try go_wp2
            have n0_ : Aside0 (Kd.R k76 76 ((w14.setCell ⟨gb782, 0, none⟩ (.int .i64 ((rd_T76 t777 x26_1).f0))).setCell ⟨gb782, 1, none⟩ (.int .i64 ((rd_T76 t777 x26_1).f1))) w.heap.size (fun k_ => k_ ≠ gb782) (.slice (some ad781) t777.length co9) t777) := ⟨by (with_reducible repeat (first | apply Kd.R_alloc | apply Kd.R_drewN | apply Kd.R_drew)); exact Kd.R_mono (Kd.R_far (p := ⟨gb782, 1, none⟩) (Kd.R_far (p := ⟨gb782, 0, none⟩) (Kd.R_mono HO_8.out (fun k_ hk => (⟨hk, hk.2⟩ : _ ∧ k_ ≠ gb782))) (fun _ hk => hk.2) (.int .i64 ((rd_T76 t777 x26_1).f0))) (fun _ hk => hk.2) (.int .i64 ((rd_T76 t777 x26_1).f1))) (fun _ hk => hk.1.2)⟩
            have n1_ : Aside0 (Kd.R k76 76 ((w14.setCell ⟨gb782, 0, none⟩ (.int .i64 ((rd_T76 t777 x26_1).f0))).setCell ⟨gb782, 1, none⟩ (.int .i64 ((rd_T76 t777 x26_1).f1))) w.heap.size (fun k_ => k_ ≠ gb782) (.slice (some ad781) t777.length co9) t777) := ⟨by (with_reducible repeat (first | apply Kd.R_alloc | apply Kd.R_drewN | apply Kd.R_drew)); exact Kd.R_mono (Kd.R_far (p := ⟨gb782, 1, none⟩) (Kd.R_far (p := ⟨gb782, 0, none⟩) (Kd.R_mono HO_24.out (fun k_ hk => (⟨hk, hk.2⟩ : _ ∧ k_ ≠ gb782))) (fun _ hk => hk.2) (.int .i64 ((rd_T76 t777 x26_1).f0))) (fun _ hk => hk.2) (.int .i64 ((rd_T76 t777 x26_1).f1))) (fun _ hk => hk.1.2)⟩
            have n2_ : Aside0 (((w14.setCell ⟨gb782, 0, none⟩ (.int .i64 ((rd_T76 t777 x26_1).f0))).setCell ⟨gb782, 1, none⟩ (.int .i64 ((rd_T76 t777 x26_1).f1))).heap[gb776]? = some (.cells #[.slice A2_0 l2_0.length c2_0, .int .i64 a2_1] 26 (0, 0))) := ⟨by (with_reducible repeat (first | apply kdn | apply kdr | apply kal)); refine blk_far ?_ NB776_782.out _; (with_reducible repeat (first | apply kdn | apply kdr | apply kal)); refine blk_far ?_ NB776_782.out _; (with_reducible repeat (first | apply kdn | apply kdr | apply kal)); exact BK776.out⟩
            have n3_ : Aside0 (((w14.setCell ⟨gb782, 0, none⟩ (.int .i64 ((rd_T76 t777 x26_1).f0))).setCell ⟨gb782, 1, none⟩ (.int .i64 ((rd_T76 t777 x26_1).f1))).heap[gb782]? = some (.cells #[.int .i64 ((rd_T76 t777 x26_1).f0), .int .i64 ((rd_T76 t777 x26_1).f1)] 76 (0, 0))) := ⟨by (with_reducible repeat (first | apply kdn | apply kdr | apply kal)); refine blk_put (cs := #[.int .i64 ((rd_T76 t777 x26_1).f0), .int .i64 0]) ?_ 1 _ rfl; (with_reducible repeat (first | apply kdn | apply kdr | apply kal)); refine blk_put (cs := #[.int .i64 0, .int .i64 0]) ?_ 0 _ rfl; (with_reducible repeat (first | apply kdn | apply kdr | apply kal)); exact BK782.out⟩
            have n4_ : Aside0 (Below w.heap.size w ((w14.setCell ⟨gb782, 0, none⟩ (.int .i64 ((rd_T76 t777 x26_1).f0))).setCell ⟨gb782, 1, none⟩ (.int .i64 ((rd_T76 t777 x26_1).f1)))) := ⟨by repeat (first | (with_reducible first | exact HB.out | apply lal | apply ldn | apply ldr | refine below_set ?_ GE776.out | refine below_set ?_ GE782.out) | exact HB.out)⟩
            (try clear HO_8)
            (try clear HO_24)
            (try clear BK776)
            (try clear BK782)
            (try clear HB)
            generalize ((w14.setCell ⟨gb782, 0, none⟩ (.int .i64 ((rd_T76 t777 x26_1).f0))).setCell ⟨gb782, 1, none⟩ (.int .i64 ((rd_T76 t777 x26_1).f1))) = w30 at n0_ n1_ n2_ n3_ n4_ ⊢
            have HO_8 := n0_
            have HO_24 := n1_
            have BK776 := n2_
            have BK782 := n3_
            have HB := n4_
            clear n0_ n1_ n2_ n3_ n4_
            have n0_ := Aside0.mk (Kd.R_drew HO_8.out)
            have n1_ := Aside0.mk (Kd.R_drew HO_24.out)
            have n2_ := Aside0.mk (blk_drew BK776.out)
            have n3_ := Aside0.mk (blk_drew BK782.out)
            have n4_ := Aside0.mk (below_drew1 HB.out)
            clear HO_8
            clear HO_24
            clear BK776
            clear BK782
            clear HB
            have HO_8 := n0_
            have HO_24 := n1_
            have BK776 := n2_
            have BK782 := n3_
            have HB := n4_
            clear n0_ n1_ n2_ n3_ n4_
            have p783 : 0 ≤ (x26_1 : Int) := of_decide_eq_true (by first | (with_reducible assumption) | assumption)
            have q783 : x26_1 < (l2_0.length : Int) := of_decide_eq_true (by first | (with_reducible assumption) | assumption)
            obtain ⟨ad783, e783, hx783_0⟩ := Kd.at_int HR2_0.out x26_1 p783 q783
            have hw783_0 := hx783_0
            cases e783
            replace hx783_0 := (HB.out.cell (World.block_lt_of_cell? w _ hx783_0)).trans hx783_0
            replace p783 := eq_true p783
            replace q783 := eq_true q783
            have p785 : 0 ≤ (x26_1 : Int) := of_decide_eq_true (by first | (with_reducible assumption) | assumption)
            have q785 : x26_1 < (l2_0.length : Int) := of_decide_eq_true (by first | (with_reducible assumption) | assumption)
            obtain ⟨ad785, e785, hx785_0⟩ := Kd.at_int HR2_0.out x26_1 p785 q785
            have hw785_0 := hx785_0
            obtain rfl : ad783 = ad785 := (by injection e785)
            replace hx785_0 := (HB.out.cell (World.block_lt_of_cell? w _ hx785_0)).trans hx785_0
            replace p785 := eq_true p785
            replace q785 := eq_true q785
            refine start_ (n := 26) (S := fun w' => w'.cell? ⟨gb776, 0, none⟩ = some (.slice (some ad783) l2_0.length c2_0) ∧ w'.cell? ⟨gb776, 1, none⟩ = some (.int .i64 a2_1) ∧ w'.cell? ⟨gb782, 0, none⟩ = some (.int .i64 ((rd_T76 t777 x26_1).f0)) ∧ w'.cell? ⟨gb782, 1, none⟩ = some (.int .i64 ((rd_T76 t777 x26_1).f1)) ∧ w'.cell? (ad783.add (x26_1).toNat) = some (.int .i64 (rd l2_0 x26_1)) ∧ w'.cell? (ad783.add (x26_1).toNat) = some (.int .i64 (rd l2_0 x26_1))) (ds := []) #[false, false, false, false, false, false, false, false, false, false, false, false, false, false, false, false, false, false, false, false, false, false, false, false, false, false] (by kernel_rfl) rfl rfl ⟨(blk_cell BK776.out 0).trans rfl, (blk_cell BK776.out 1).trans rfl, (blk_cell BK782.out 0).trans rfl, (blk_cell BK782.out 1).trans rfl, ((HB.out.cell (World.block_lt_of_cell? w _ hw783_0)).trans hw783_0), ((HB.out.cell (World.block_lt_of_cell? w _ hw785_0)).trans hw785_0)⟩ (fun hHeld => ?_); refine with_tabW share_Efficient.tab7 share_Efficient.bits7 (fun HT_ HW_ => ?_)
            generalize w30.drew = w31 at HO_8 HO_24 BK776 BK782 HB hx783_0 hx785_0 hHeld ⊢
            refine pure_ (i := 0) (N := some 31) (v := ?_) (a' := ?_) #[true, false, false, false, false, false, false, false, false, false, false, false, false, false, false, false, false, false, false, false, false, false, false, false, false, false] rfl rfl (any_of HT_.out (by kernel_rfl)) (fun _ _ _ h => h) (Or.inl ⟨by rfl, ?_⟩) ?_ ?_
            rotate_left
            ·intro w'
             go_simp
             with_reducible rfl
            rotate_left
            ·simp only [Act.put, sia, sc0, scs, i64_w, i32_w]
             rfl
            refine pure_ (i := 2) (N := some 33) (v := ?_) (a' := ?_) #[true, false, true, false, false, false, false, false, false, false, false, false, false, false, false, false, false, false, false, false, false, false, false, false, false, false] rfl rfl (any_of HT_.out (by kernel_rfl)) (fun _ _ _ h => h) (Or.inl ⟨by rfl, ?_⟩) ?_ ?_
            rotate_left
            ·intro w'
             go_simp
             with_reducible rfl
            rotate_left
            ·simp only [Act.put, sia, sc0, scs, i64_w, i32_w]
             rfl
            refine take_ (i := 1) (N := some 32) (v := ?_) (a' := ?_) #[true, true, true, false, false, false, false, false, false, false, false, false, false, false, false, false, false, false, false, false, false, false, false, false, false, false] rfl rfl (take_ofW HT_.out HW_.out (by kernel_rfl)) (fun _ _ _ h => h) (Or.inl ⟨by rfl, ?_⟩) hHeld ?_ ?_
            rotate_left
            ·rintro w' ⟨s0, s1, s2, s3, s4, s5⟩
             go_simp
             with_reducible rfl
            rotate_left
            ·simp only [Act.put, sia, sc0, scs, i64_w, i32_w]
             rfl
            refine pure_ (i := 3) (N := some 34) (v := ?_) (a' := ?_) #[true, true, true, true, false, false, false, false, false, false, false, false, false, false, false, false, false, false, false, false, false, false, false, false, false, false] rfl rfl (any_of HT_.out (by kernel_rfl)) (fun _ _ _ h => h) (Or.inl ⟨by rfl, ?_⟩) ?_ ?_
            rotate_left
            ·intro w'
             go_simp
             with_reducible rfl
            rotate_left
            ·simp only [Act.put, sia, sc0, scs, i64_w, i32_w]
             rfl
            refine take_ (i := 4) (N := some 35) (v := ?_) (a' := ?_) #[true, true, true, true, true, false, false, false, false, false, false, false, false, false, false, false, false, false, false, false, false, false, false, false, false, false] rfl rfl (take_ofW HT_.out HW_.out (by kernel_rfl)) (fun _ _ _ h => h) (Or.inl ⟨by rfl, ?_⟩) hHeld ?_ ?_
            rotate_left
            ·rintro w' ⟨s0, s1, s2, s3, s4, s5⟩
             go_simp
             with_reducible rfl
            rotate_left
            ·simp only [Act.put, sia, sc0, scs, i64_w, i32_w]
             rfl
            refine pure_ (i := 5) (N := some 36) (v := ?_) (a' := ?_) #[true, true, true, true, true, true, false, false, false, false, false, false, false, false, false, false, false, false, false, false, false, false, false, false, false, false] rfl rfl (any_of HT_.out (by kernel_rfl)) (fun _ _ _ h => h) (Or.inl ⟨by rfl, ?_⟩) ?_ ?_
            rotate_left
            ·intro w'
             go_simp
             with_reducible rfl
            rotate_left
            ·simp only [Act.put, sia, sc0, scs, i64_w, i32_w]
             rfl
            refine pure_ (i := 6) (N := some 37) (v := ?_) (a' := ?_) #[true, true, true, true, true, true, true, false, false, false, false, false, false, false, false, false, false, false, false, false, false, false, false, false, false, false] rfl rfl (any_of HT_.out (by kernel_rfl)) (fun _ _ _ h => h) (Or.inl ⟨by rfl, ?_⟩) ?_ ?_
            rotate_left
            ·intro w'
             go_simp
             with_reducible rfl
            rotate_left
            ·simp only [Act.put, sia, sc0, scs, i64_w, i32_w]
             rfl
            refine take_ (i := 7) (N := some 38) (v := ?_) (a' := ?_) #[true, true, true, true, true, true, true, true, false, false, false, false, false, false, false, false, false, false, false, false, false, false, false, false, false, false] rfl rfl (take_ofW HT_.out HW_.out (by kernel_rfl)) (fun _ _ _ h => h) (Or.inl ⟨by rfl, ?_⟩) hHeld ?_ ?_
            rotate_left
            ·rintro w' ⟨s0, s1, s2, s3, s4, s5⟩
             go_simp
             with_reducible rfl
            rotate_left
            ·simp only [Act.put, sia, sc0, scs, i64_w, i32_w]
             rfl
            refine one_ (i := 8) (N := some 39) #[true, true, true, true, true, true, true, true, true, false, false, false, false, false, false, false, false, false, false, false, false, false, false, false, false, false] rfl rfl (one_of HT_.out (by kernel_rfl)) (by decide) (fun K hK => ?_)
            refine goes_ Try.func68 (by kernel_rfl) rfl #[.agg #[.int .i64 ((rd_T76 t777 x26_1).f0), .int .i64 ((rd_T76 t777 x26_1).f1)]] (by rfl) rfl rfl (by (try simp only [List.map_toArray, List.map_cons, List.map_nil]); first | done | rfl | (simp only [List.length_drop, List.length_take]; rfl)) ?_
            with_reducible refine (share_point_kind.calls k1 ((rd_T76 t777 x26_1).f0) ((rd_T76 t777 x26_1).f1) t784 _ A19.out).mono ?_
            rintro e w32 ⟨rfl, hb⟩
            refine ⟨_, rfl, ?_⟩
            have n0_ := Aside0.mk (Kd.R_below (by (with_reducible repeat (first | apply Kd.R_alloc | apply Kd.R_drewN | apply Kd.R_drew)); exact HO_8.out) hb)
            have n1_ := Aside0.mk (Kd.R_below (by (with_reducible repeat (first | apply Kd.R_alloc | apply Kd.R_drewN | apply Kd.R_drew)); exact HO_24.out) hb)
            have n2_ := Aside0.mk (blk_below (g := gb776) (o := .cells #[.slice (some ad783) l2_0.length c2_0, .int .i64 a2_1] 26 (0, 0)) (by (with_reducible repeat (first | apply kdn | apply kdr | apply kal)); exact BK776.out) hb)
            have n3_ := Aside0.mk (blk_below (g := gb782) (o := .cells #[.int .i64 ((rd_T76 t777 x26_1).f0), .int .i64 ((rd_T76 t777 x26_1).f1)] 76 (0, 0)) (by (with_reducible repeat (first | apply kdn | apply kdr | apply kal)); exact BK782.out) hb)
            have n4_ := Aside0.mk (below_step (by repeat (first | (with_reducible first | exact HB.out | apply lal | apply ldn | apply ldr | refine below_set ?_ GE776.out | refine below_set ?_ GE782.out) | exact HB.out)) hb)
            clear HO_8
            clear HO_24
            clear BK776
            clear BK782
            clear HB
            have HO_8 := n0_
            have HO_24 := n1_
            have BK776 := n2_
            have BK782 := n3_
            have HB := n4_
            clear n0_ n1_ n2_ n3_ n4_
            (try clear hb)
            (try clear hb2)
            (try clear hk)
            (try clear hi)
            refine hK.out _ _ ⟨(blk_cell BK776.out 0).trans rfl, (blk_cell BK776.out 1).trans rfl, (blk_cell BK782.out 0).trans rfl, (blk_cell BK782.out 1).trans rfl, ((HB.out.cell (World.block_lt_of_cell? w _ hw783_0)).trans hw783_0), ((HB.out.cell (World.block_lt_of_cell? w _ hw785_0)).trans hw785_0)⟩ (fun hHeld => ?_)
            clear hK K
            refine norm_ (a' := ?_) ?_ ?_
            rotate_left
            ·show Act.put _ (some 39) _ = _
             simp only [Act.put, sia, sc0, scs, i64_w, i32_w]
             rfl
            refine pure_ (i := 9) (N := some 40) (v := ?_) (a' := ?_) #[true, true, true, true, true, true, true, true, true, true, false, false, false, false, false, false, false, false, false, false, false, false, false, false, false, false] rfl rfl (any_of HT_.out (by kernel_rfl)) (fun _ _ _ h => h) (Or.inl ⟨by rfl, ?_⟩) ?_ ?_
            rotate_left
            ·intro w'
             go_simp
             with_reducible rfl
            rotate_left
            ·simp only [Act.put, sia, sc0, scs, i64_w, i32_w]
             rfl
            refine pure_ (i := 10) (N := some 41) (v := ?_) (a' := ?_) #[true, true, true, true, true, true, true, true, true, true, true, false, false, false, false, false, false, false, false, false, false, false, false, false, false, false] rfl rfl (any_of HT_.out (by kernel_rfl)) (fun _ _ _ h => h) (Or.inl ⟨by rfl, ?_⟩) ?_ ?_
            rotate_left
            ·intro w'
             go_simp
             with_reducible rfl
            rotate_left
            ·simp only [Act.put, sia, sc0, scs, i64_w, i32_w]
             rfl
            refine pure_ (i := 11) (N := some 42) (v := ?_) (a' := ?_) #[true, true, true, true, true, true, true, true, true, true, true, true, false, false, false, false, false, false, false, false, false, false, false, false, false, false] rfl rfl (any_of HT_.out (by kernel_rfl)) (fun _ _ _ h => h) (Or.inl ⟨by rfl, ?_⟩) ?_ ?_
            rotate_left
            ·intro w'
             go_simp
             with_reducible rfl
            rotate_left
            ·simp only [Act.put, sia, sc0, scs, i64_w, i32_w]
             rfl
            refine pure_ (i := 12) (N := some 43) (v := ?_) (a' := ?_) #[true, true, true, true, true, true, true, true, true, true, true, true, true, false, false, false, false, false, false, false, false, false, false, false, false, false] rfl rfl (any_of HT_.out (by kernel_rfl)) (fun _ _ _ h => h) (Or.inl ⟨by rfl, ?_⟩) ?_ ?_
            rotate_left
            ·intro w'
             go_simp
             with_reducible rfl
            rotate_left
            ·simp only [Act.put, sia, sc0, scs, i64_w, i32_w]
             rfl
            refine pure_ (i := 14) (N := some 45) (v := ?_) (a' := ?_) #[true, true, true, true, true, true, true, true, true, true, true, true, true, false, true, false, false, false, false, false, false, false, false, false, false, false] rfl rfl (any_of HT_.out (by kernel_rfl)) (fun _ _ _ h => h) (Or.inl ⟨by rfl, ?_⟩) ?_ ?_
            rotate_left
            ·intro w'
             go_simp
             with_reducible rfl
            rotate_left
            ·simp only [Act.put, sia, sc0, scs, i64_w, i32_w]
             rfl
            refine pure_ (i := 17) (N := some 48) (v := ?_) (a' := ?_) #[true, true, true, true, true, true, true, true, true, true, true, true, true, false, true, false, false, true, false, false, false, false, false, false, false, false] rfl rfl (any_of HT_.out (by kernel_rfl)) (fun _ _ _ h => h) (Or.inl ⟨by rfl, ?_⟩) ?_ ?_
            rotate_left
            ·intro w'
             go_simp
             with_reducible rfl
            rotate_left
            ·simp only [Act.put, sia, sc0, scs, i64_w, i32_w]
             rfl
            refine take_ (i := 13) (N := some 44) (v := ?_) (a' := ?_) #[true, true, true, true, true, true, true, true, true, true, true, true, true, true, true, false, false, true, false, false, false, false, false, false, false, false] rfl rfl (take_ofW HT_.out HW_.out (by kernel_rfl)) (fun _ _ _ h => h) (Or.inl ⟨by rfl, ?_⟩) hHeld ?_ ?_
            rotate_left
            ·rintro w' ⟨s0, s1, s2, s3, s4, s5⟩
             go_simp
             with_reducible rfl
            rotate_left
            ·simp only [Act.put, sia, sc0, scs, i64_w, i32_w]
             rfl
            refine pure_ (i := 15) (N := some 46) (v := ?_) (a' := ?_) #[true, true, true, true, true, true, true, true, true, true, true, true, true, true, true, true, false, true, false, false, false, false, false, false, false, false] rfl rfl (any_of HT_.out (by kernel_rfl)) (fun _ _ _ h => h) (Or.inl ⟨by rfl, ?_⟩) ?_ ?_
            rotate_left
            ·intro w'
             go_simp
             with_reducible rfl
            rotate_left
            ·simp only [Act.put, sia, sc0, scs, i64_w, i32_w]
             rfl
            refine take_ (i := 16) (N := some 47) (v := ?_) (a' := ?_) #[true, true, true, true, true, true, true, true, true, true, true, true, true, true, true, true, true, true, false, false, false, false, false, false, false, false] rfl rfl (take_ofW HT_.out HW_.out (by kernel_rfl)) (fun _ _ _ h => h) (Or.inl ⟨by rfl, ?_⟩) hHeld ?_ ?_
            rotate_left
            ·rintro w' ⟨s0, s1, s2, s3, s4, s5⟩
             go_simp
             with_reducible rfl
            rotate_left
            ·simp only [Act.put, sia, sc0, scs, i64_w, i32_w]
             rfl
            refine take_ (i := 18) (N := some 49) (v := ?_) (a' := ?_) #[true, true, true, true, true, true, true, true, true, true, true, true, true, true, true, true, true, true, true, false, false, false, false, false, false, false] rfl rfl (take_ofW HT_.out HW_.out (by kernel_rfl)) (fun _ _ _ h => h) (Or.inl ⟨by rfl, ?_⟩) hHeld ?_ ?_
            rotate_left
            ·rintro w' ⟨s0, s1, s2, s3, s4, s5⟩
             go_simp
             with_reducible rfl
            rotate_left
            ·simp only [Act.put, sia, sc0, scs, i64_w, i32_w]
             rfl
            refine pure_ (i := 19) (N := some 50) (v := ?_) (a' := ?_) #[true, true, true, true, true, true, true, true, true, true, true, true, true, true, true, true, true, true, true, true, false, false, false, false, false, false] rfl rfl (any_of HT_.out (by kernel_rfl)) (fun _ _ _ h => h) (Or.inl ⟨by rfl, ?_⟩) ?_ ?_
            rotate_left
            ·intro w'
             go_simp
             with_reducible rfl
            rotate_left
            ·simp only [Act.put, sia, sc0, scs, i64_w, i32_w]
             rfl
            refine pure_ (i := 20) (N := some 51) (v := ?_) (a' := ?_) #[true, true, true, true, true, true, true, true, true, true, true, true, true, true, true, true, true, true, true, true, true, false, false, false, false, false] rfl rfl (any_of HT_.out (by kernel_rfl)) (fun _ _ _ h => h) (Or.inl ⟨by rfl, ?_⟩) ?_ ?_
            rotate_left
            ·intro w'
             go_simp
             with_reducible rfl
            rotate_left
            ·simp only [Act.put, sia, sc0, scs, i64_w, i32_w]
             rfl
            refine pure_ (i := 21) (N := some 52) (v := undef) (a' := ?_) #[true, true, true, true, true, true, true, true, true, true, true, true, true, true, true, true, true, true, true, true, true, true, false, false, false, false] rfl rfl (any_of HT_.out (by kernel_rfl)) (fun _ _ _ h => h) (Or.inr ⟨by rfl, rfl⟩) ?_ ?_
            rotate_left
            ·simp only [Act.put, sia, sc0, scs, i64_w, i32_w]
             rfl
            refine pure_ (i := 22) (N := some 53) (v := undef) (a' := ?_) #[true, true, true, true, true, true, true, true, true, true, true, true, true, true, true, true, true, true, true, true, true, true, true, false, false, false] rfl rfl (any_of HT_.out (by kernel_rfl)) (fun _ _ _ h => h) (Or.inr ⟨by rfl, rfl⟩) ?_ ?_
            rotate_left
            ·simp only [Act.put, sia, sc0, scs, i64_w, i32_w]
             rfl
            refine pure_ (i := 23) (N := some 54) (v := undef) (a' := ?_) #[true, true, true, true, true, true, true, true, true, true, true, true, true, true, true, true, true, true, true, true, true, true, true, true, false, false] rfl rfl (any_of HT_.out (by kernel_rfl)) (fun _ _ _ h => h) (Or.inr ⟨by rfl, rfl⟩) ?_ ?_
            rotate_left
            ·simp only [Act.put, sia, sc0, scs, i64_w, i32_w]
             rfl
            refine pure_ (i := 24) (N := some 55) (v := ?_) (a' := ?_) #[true, true, true, true, true, true, true, true, true, true, true, true, true, true, true, true, true, true, true, true, true, true, true, true, true, false] rfl rfl (any_of HT_.out (by kernel_rfl)) (fun _ _ _ h => h) (Or.inl ⟨by rfl, ?_⟩) ?_ ?_
            rotate_left
            ·intro w'
             go_simp
             with_reducible rfl
            rotate_left
            ·simp only [Act.put, sia, sc0, scs, i64_w, i32_w]
             rfl
            refine pure_ (i := 25) (N := some 56) (v := ?_) (a' := ?_) #[true, true, true, true, true, true, true, true, true, true, true, true, true, true, true, true, true, true, true, true, true, true, true, true, true, true] rfl rfl (any_of HT_.out (by kernel_rfl)) (fun _ _ _ h => h) (Or.inl ⟨by rfl, ?_⟩) ?_ ?_
            rotate_left
            ·intro w'
             go_simp
             with_reducible rfl
            rotate_left
            ·simp only [Act.put, sia, sc0, scs, i64_w, i32_w]
             rfl
            refine done_ (done_of HT_.out (by kernel_rfl)) ?_
            try go_wp2
            go_meet
            case rel => exact ⟨_, (false), (by first | rfl | (simp; done) | (simp [*]; done)), H', ⟨by have := HK1.out; first | omega | exact Nat.le_refl _⟩, ⟨by (with_reducible repeat (first | apply Kd.R_alloc | apply Kd.R_drewN | apply Kd.R_drew)); exact HO_8.out⟩, ⟨by (with_reducible repeat (first | apply Kd.R_alloc | apply Kd.R_drewN | apply Kd.R_drew)); exact HO_24.out⟩, ⟨by (with_reducible repeat (first | apply kdn | apply kdr | apply kal)); exact BK776.out⟩, ⟨by (with_reducible repeat (first | apply kdn | apply kdr | apply kal)); exact BK782.out⟩, ⟨by repeat (first | (with_reducible first | exact HB.out | apply lal | apply ldn | apply ldr | refine below_set ?_ GE776.out | refine below_set ?_ GE782.out) | exact HB.out)⟩⟩
         ·rw [if_neg c18] at H
          have c18b0 : decide (0 < (rd l2_0 x26_1)) = false := decide_eq_false c18
          clear c18
          by_cases c33 : (rd l2_0 x26_1) < a2_1
          ·rw [if_pos c33] at H
           have c33b0 : decide ((rd l2_0 x26_1) < a2_1) = true := decide_eq_true c33
           clear c33
           replace H := Option.bind_eq_some_iff.mp H
           obtain ⟨t788, A340, H⟩ := H
           replace H : (share_Efficient.j1 k1 t777 x26_1 t777 (t777.length : Int) x26_1 (t788 == 0) l2_0 a2_1 ((rd_T76 t777 x26_1).f0) ((rd_T76 t777 x26_1).f1)) = some (r1, r2) := H
           have A34 := Aside0.mk A340
           clear A340
           have H' := Aside0.mk H
           clear H
           try go_wp2
           have n0_ : Aside0 (Kd.R k76 76 ((w14.setCell ⟨gb782, 0, none⟩ (.int .i64 ((rd_T76 t777 x26_1).f0))).setCell ⟨gb782, 1, none⟩ (.int .i64 ((rd_T76 t777 x26_1).f1))) w.heap.size (fun k_ => k_ ≠ gb782) (.slice (some ad781) t777.length co9) t777) := ⟨by (with_reducible repeat (first | apply Kd.R_alloc | apply Kd.R_drewN | apply Kd.R_drew)); exact Kd.R_mono (Kd.R_far (p := ⟨gb782, 1, none⟩) (Kd.R_far (p := ⟨gb782, 0, none⟩) (Kd.R_mono HO_8.out (fun k_ hk => (⟨hk, hk.2⟩ : _ ∧ k_ ≠ gb782))) (fun _ hk => hk.2) (.int .i64 ((rd_T76 t777 x26_1).f0))) (fun _ hk => hk.2) (.int .i64 ((rd_T76 t777 x26_1).f1))) (fun _ hk => hk.1.2)⟩
           have n1_ : Aside0 (Kd.R k76 76 ((w14.setCell ⟨gb782, 0, none⟩ (.int .i64 ((rd_T76 t777 x26_1).f0))).setCell ⟨gb782, 1, none⟩ (.int .i64 ((rd_T76 t777 x26_1).f1))) w.heap.size (fun k_ => k_ ≠ gb782) (.slice (some ad781) t777.length co9) t777) := ⟨by (with_reducible repeat (first | apply Kd.R_alloc | apply Kd.R_drewN | apply Kd.R_drew)); exact Kd.R_mono (Kd.R_far (p := ⟨gb782, 1, none⟩) (Kd.R_far (p := ⟨gb782, 0, none⟩) (Kd.R_mono HO_24.out (fun k_ hk => (⟨hk, hk.2⟩ : _ ∧ k_ ≠ gb782))) (fun _ hk => hk.2) (.int .i64 ((rd_T76 t777 x26_1).f0))) (fun _ hk => hk.2) (.int .i64 ((rd_T76 t777 x26_1).f1))) (fun _ hk => hk.1.2)⟩
           have n2_ : Aside0 (((w14.setCell ⟨gb782, 0, none⟩ (.int .i64 ((rd_T76 t777 x26_1).f0))).setCell ⟨gb782, 1, none⟩ (.int .i64 ((rd_T76 t777 x26_1).f1))).heap[gb776]? = some (.cells #[.slice A2_0 l2_0.length c2_0, .int .i64 a2_1] 26 (0, 0))) := ⟨by (with_reducible repeat (first | apply kdn | apply kdr | apply kal)); refine blk_far ?_ NB776_782.out _; (with_reducible repeat (first | apply kdn | apply kdr | apply kal)); refine blk_far ?_ NB776_782.out _; (with_reducible repeat (first | apply kdn | apply kdr | apply kal)); exact BK776.out⟩
           have n3_ : Aside0 (((w14.setCell ⟨gb782, 0, none⟩ (.int .i64 ((rd_T76 t777 x26_1).f0))).setCell ⟨gb782, 1, none⟩ (.int .i64 ((rd_T76 t777 x26_1).f1))).heap[gb782]? = some (.cells #[.int .i64 ((rd_T76 t777 x26_1).f0), .int .i64 ((rd_T76 t777 x26_1).f1)] 76 (0, 0))) := ⟨by (with_reducible repeat (first | apply kdn | apply kdr | apply kal)); refine blk_put (cs := #[.int .i64 ((rd_T76 t777 x26_1).f0), .int .i64 0]) ?_ 1 _ rfl; (with_reducible repeat (first | apply kdn | apply kdr | apply kal)); refine blk_put (cs := #[.int .i64 0, .int .i64 0]) ?_ 0 _ rfl; (with_reducible repeat (first | apply kdn | apply kdr | apply kal)); exact BK782.out⟩
           have n4_ : Aside0 (Below w.heap.size w ((w14.setCell ⟨gb782, 0, none⟩ (.int .i64 ((rd_T76 t777 x26_1).f0))).setCell ⟨gb782, 1, none⟩ (.int .i64 ((rd_T76 t777 x26_1).f1)))) := ⟨by repeat (first | (with_reducible first | exact HB.out | apply lal | apply ldn | apply ldr | refine below_set ?_ GE776.out | refine below_set ?_ GE782.out) | exact HB.out)⟩
           (try clear HO_8)
           (try clear HO_24)
           (try clear BK776)
           (try clear BK782)
           (try clear HB)
           generalize ((w14.setCell ⟨gb782, 0, none⟩ (.int .i64 ((rd_T76 t777 x26_1).f0))).setCell ⟨gb782, 1, none⟩ (.int .i64 ((rd_T76 t777 x26_1).f1))) = w35 at n0_ n1_ n2_ n3_ n4_ ⊢
           have HO_8 := n0_
           have HO_24 := n1_
           have BK776 := n2_
           have BK782 := n3_
           have HB := n4_
           clear n0_ n1_ n2_ n3_ n4_
           have n0_ := Aside0.mk (Kd.R_drew HO_8.out)
           have n1_ := Aside0.mk (Kd.R_drew HO_24.out)
           have n2_ := Aside0.mk (blk_drew BK776.out)
           have n3_ := Aside0.mk (blk_drew BK782.out)
           have n4_ := Aside0.mk (below_drew1 HB.out)
           clear HO_8
           clear HO_24
           clear BK776
           clear BK782
           clear HB
           have HO_8 := n0_
           have HO_24 := n1_
           have BK776 := n2_
           have BK782 := n3_
           have HB := n4_
           clear n0_ n1_ n2_ n3_ n4_
           have p783 : 0 ≤ (x26_1 : Int) := of_decide_eq_true (by first | (with_reducible assumption) | assumption)
           have q783 : x26_1 < (l2_0.length : Int) := of_decide_eq_true (by first | (with_reducible assumption) | assumption)
           obtain ⟨ad783, e783, hx783_0⟩ := Kd.at_int HR2_0.out x26_1 p783 q783
           have hw783_0 := hx783_0
           cases e783
           replace hx783_0 := (HB.out.cell (World.block_lt_of_cell? w _ hx783_0)).trans hx783_0
           replace p783 := eq_true p783
           replace q783 := eq_true q783
           have p787 : 0 ≤ (x26_1 : Int) := of_decide_eq_true (by first | (with_reducible assumption) | assumption)
           have q787 : x26_1 < (l2_0.length : Int) := of_decide_eq_true (by first | (with_reducible assumption) | assumption)
           obtain ⟨ad787, e787, hx787_0⟩ := Kd.at_int HR2_0.out x26_1 p787 q787
           have hw787_0 := hx787_0
           obtain rfl : ad783 = ad787 := (by injection e787)
           replace hx787_0 := (HB.out.cell (World.block_lt_of_cell? w _ hx787_0)).trans hx787_0
           replace p787 := eq_true p787
           replace q787 := eq_true q787
           refine start_ (n := 26) (S := fun w' => w'.cell? ⟨gb776, 0, none⟩ = some (.slice (some ad783) l2_0.length c2_0) ∧ w'.cell? ⟨gb776, 1, none⟩ = some (.int .i64 a2_1) ∧ w'.cell? ⟨gb782, 0, none⟩ = some (.int .i64 ((rd_T76 t777 x26_1).f0)) ∧ w'.cell? ⟨gb782, 1, none⟩ = some (.int .i64 ((rd_T76 t777 x26_1).f1)) ∧ w'.cell? (ad783.add (x26_1).toNat) = some (.int .i64 (rd l2_0 x26_1)) ∧ w'.cell? (ad783.add (x26_1).toNat) = some (.int .i64 (rd l2_0 x26_1))) (ds := []) #[false, false, false, false, false, false, false, false, false, false, false, false, false, false, false, false, false, false, false, false, false, false, false, false, false, false] (by kernel_rfl) rfl rfl ⟨(blk_cell BK776.out 0).trans rfl, (blk_cell BK776.out 1).trans rfl, (blk_cell BK782.out 0).trans rfl, (blk_cell BK782.out 1).trans rfl, ((HB.out.cell (World.block_lt_of_cell? w _ hw783_0)).trans hw783_0), ((HB.out.cell (World.block_lt_of_cell? w _ hw787_0)).trans hw787_0)⟩ (fun hHeld => ?_); refine with_tabW share_Efficient.tab7 share_Efficient.bits7 (fun HT_ HW_ => ?_)
           generalize w35.drew = w36 at HO_8 HO_24 BK776 BK782 HB hx783_0 hx787_0 hHeld ⊢
           refine pure_ (i := 0) (N := some 31) (v := ?_) (a' := ?_) #[true, false, false, false, false, false, false, false, false, false, false, false, false, false, false, false, false, false, false, false, false, false, false, false, false, false] rfl rfl (any_of HT_.out (by kernel_rfl)) (fun _ _ _ h => h) (Or.inl ⟨by rfl, ?_⟩) ?_ ?_
           rotate_left
           ·intro w'
            go_simp
            with_reducible rfl
           rotate_left
           ·simp only [Act.put, sia, sc0, scs, i64_w, i32_w]
            rfl
           refine pure_ (i := 2) (N := some 33) (v := ?_) (a' := ?_) #[true, false, true, false, false, false, false, false, false, false, false, false, false, false, false, false, false, false, false, false, false, false, false, false, false, false] rfl rfl (any_of HT_.out (by kernel_rfl)) (fun _ _ _ h => h) (Or.inl ⟨by rfl, ?_⟩) ?_ ?_
           rotate_left
           ·intro w'
            go_simp
            with_reducible rfl
           rotate_left
           ·simp only [Act.put, sia, sc0, scs, i64_w, i32_w]
            rfl
           refine take_ (i := 1) (N := some 32) (v := ?_) (a' := ?_) #[true, true, true, false, false, false, false, false, false, false, false, false, false, false, false, false, false, false, false, false, false, false, false, false, false, false] rfl rfl (take_ofW HT_.out HW_.out (by kernel_rfl)) (fun _ _ _ h => h) (Or.inl ⟨by rfl, ?_⟩) hHeld ?_ ?_
           rotate_left
           ·rintro w' ⟨s0, s1, s2, s3, s4, s5⟩
            go_simp
            with_reducible rfl
           rotate_left
           ·simp only [Act.put, sia, sc0, scs, i64_w, i32_w]
            rfl
           refine pure_ (i := 3) (N := some 34) (v := ?_) (a' := ?_) #[true, true, true, true, false, false, false, false, false, false, false, false, false, false, false, false, false, false, false, false, false, false, false, false, false, false] rfl rfl (any_of HT_.out (by kernel_rfl)) (fun _ _ _ h => h) (Or.inl ⟨by rfl, ?_⟩) ?_ ?_
           rotate_left
           ·intro w'
            go_simp
            with_reducible rfl
           rotate_left
           ·simp only [Act.put, sia, sc0, scs, i64_w, i32_w]
            rfl
           refine take_ (i := 4) (N := some 35) (v := ?_) (a' := ?_) #[true, true, true, true, true, false, false, false, false, false, false, false, false, false, false, false, false, false, false, false, false, false, false, false, false, false] rfl rfl (take_ofW HT_.out HW_.out (by kernel_rfl)) (fun _ _ _ h => h) (Or.inl ⟨by rfl, ?_⟩) hHeld ?_ ?_
           rotate_left
           ·rintro w' ⟨s0, s1, s2, s3, s4, s5⟩
            go_simp
            with_reducible rfl
           rotate_left
           ·simp only [Act.put, sia, sc0, scs, i64_w, i32_w]
            rfl
           refine pure_ (i := 5) (N := some 36) (v := ?_) (a' := ?_) #[true, true, true, true, true, true, false, false, false, false, false, false, false, false, false, false, false, false, false, false, false, false, false, false, false, false] rfl rfl (any_of HT_.out (by kernel_rfl)) (fun _ _ _ h => h) (Or.inl ⟨by rfl, ?_⟩) ?_ ?_
           rotate_left
           ·intro w'
            go_simp
            with_reducible rfl
           rotate_left
           ·simp only [Act.put, sia, sc0, scs, i64_w, i32_w]
            rfl
           refine pure_ (i := 6) (N := some 37) (v := ?_) (a' := ?_) #[true, true, true, true, true, true, true, false, false, false, false, false, false, false, false, false, false, false, false, false, false, false, false, false, false, false] rfl rfl (any_of HT_.out (by kernel_rfl)) (fun _ _ _ h => h) (Or.inl ⟨by rfl, ?_⟩) ?_ ?_
           rotate_left
           ·intro w'
            go_simp
            with_reducible rfl
           rotate_left
           ·simp only [Act.put, sia, sc0, scs, i64_w, i32_w]
            rfl
           refine pure_ (i := 7) (N := some 38) (v := undef) (a' := ?_) #[true, true, true, true, true, true, true, true, false, false, false, false, false, false, false, false, false, false, false, false, false, false, false, false, false, false] rfl rfl (any_of HT_.out (by kernel_rfl)) (fun _ _ _ h => h) (Or.inr ⟨by rfl, rfl⟩) ?_ ?_
           rotate_left
           ·simp only [Act.put, sia, sc0, scs, i64_w, i32_w]
            rfl
           refine pure_ (i := 8) (N := some 39) (v := undef) (a' := ?_) #[true, true, true, true, true, true, true, true, true, false, false, false, false, false, false, false, false, false, false, false, false, false, false, false, false, false] rfl rfl (any_of HT_.out (by kernel_rfl)) (fun _ _ _ h => h) (Or.inr ⟨by rfl, rfl⟩) ?_ ?_
           rotate_left
           ·simp only [Act.put, sia, sc0, scs, i64_w, i32_w]
            rfl
           refine pure_ (i := 9) (N := some 40) (v := undef) (a' := ?_) #[true, true, true, true, true, true, true, true, true, true, false, false, false, false, false, false, false, false, false, false, false, false, false, false, false, false] rfl rfl (any_of HT_.out (by kernel_rfl)) (fun _ _ _ h => h) (Or.inr ⟨by rfl, rfl⟩) ?_ ?_
           rotate_left
           ·simp only [Act.put, sia, sc0, scs, i64_w, i32_w]
            rfl
           refine pure_ (i := 10) (N := some 41) (v := ?_) (a' := ?_) #[true, true, true, true, true, true, true, true, true, true, true, false, false, false, false, false, false, false, false, false, false, false, false, false, false, false] rfl rfl (any_of HT_.out (by kernel_rfl)) (fun _ _ _ h => h) (Or.inl ⟨by rfl, ?_⟩) ?_ ?_
           rotate_left
           ·intro w'
            go_simp
            with_reducible rfl
           rotate_left
           ·simp only [Act.put, sia, sc0, scs, i64_w, i32_w]
            rfl
           refine pure_ (i := 11) (N := some 42) (v := ?_) (a' := ?_) #[true, true, true, true, true, true, true, true, true, true, true, true, false, false, false, false, false, false, false, false, false, false, false, false, false, false] rfl rfl (any_of HT_.out (by kernel_rfl)) (fun _ _ _ h => h) (Or.inl ⟨by rfl, ?_⟩) ?_ ?_
           rotate_left
           ·intro w'
            go_simp
            with_reducible rfl
           rotate_left
           ·simp only [Act.put, sia, sc0, scs, i64_w, i32_w]
            rfl
           refine pure_ (i := 12) (N := some 43) (v := ?_) (a' := ?_) #[true, true, true, true, true, true, true, true, true, true, true, true, true, false, false, false, false, false, false, false, false, false, false, false, false, false] rfl rfl (any_of HT_.out (by kernel_rfl)) (fun _ _ _ h => h) (Or.inl ⟨by rfl, ?_⟩) ?_ ?_
           rotate_left
           ·intro w'
            go_simp
            with_reducible rfl
           rotate_left
           ·simp only [Act.put, sia, sc0, scs, i64_w, i32_w]
            rfl
           refine pure_ (i := 14) (N := some 45) (v := ?_) (a' := ?_) #[true, true, true, true, true, true, true, true, true, true, true, true, true, false, true, false, false, false, false, false, false, false, false, false, false, false] rfl rfl (any_of HT_.out (by kernel_rfl)) (fun _ _ _ h => h) (Or.inl ⟨by rfl, ?_⟩) ?_ ?_
           rotate_left
           ·intro w'
            go_simp
            with_reducible rfl
           rotate_left
           ·simp only [Act.put, sia, sc0, scs, i64_w, i32_w]
            rfl
           refine pure_ (i := 17) (N := some 48) (v := ?_) (a' := ?_) #[true, true, true, true, true, true, true, true, true, true, true, true, true, false, true, false, false, true, false, false, false, false, false, false, false, false] rfl rfl (any_of HT_.out (by kernel_rfl)) (fun _ _ _ h => h) (Or.inl ⟨by rfl, ?_⟩) ?_ ?_
           rotate_left
           ·intro w'
            go_simp
            with_reducible rfl
           rotate_left
           ·simp only [Act.put, sia, sc0, scs, i64_w, i32_w]
            rfl
           refine take_ (i := 13) (N := some 44) (v := ?_) (a' := ?_) #[true, true, true, true, true, true, true, true, true, true, true, true, true, true, true, false, false, true, false, false, false, false, false, false, false, false] rfl rfl (take_ofW HT_.out HW_.out (by kernel_rfl)) (fun _ _ _ h => h) (Or.inl ⟨by rfl, ?_⟩) hHeld ?_ ?_
           rotate_left
           ·rintro w' ⟨s0, s1, s2, s3, s4, s5⟩
            go_simp
            with_reducible rfl
           rotate_left
           ·simp only [Act.put, sia, sc0, scs, i64_w, i32_w]
            rfl
           refine pure_ (i := 15) (N := some 46) (v := ?_) (a' := ?_) #[true, true, true, true, true, true, true, true, true, true, true, true, true, true, true, true, false, true, false, false, false, false, false, false, false, false] rfl rfl (any_of HT_.out (by kernel_rfl)) (fun _ _ _ h => h) (Or.inl ⟨by rfl, ?_⟩) ?_ ?_
           rotate_left
           ·intro w'
            go_simp
            with_reducible rfl
           rotate_left
           ·simp only [Act.put, sia, sc0, scs, i64_w, i32_w]
            rfl
           refine take_ (i := 16) (N := some 47) (v := ?_) (a' := ?_) #[true, true, true, true, true, true, true, true, true, true, true, true, true, true, true, true, true, true, false, false, false, false, false, false, false, false] rfl rfl (take_ofW HT_.out HW_.out (by kernel_rfl)) (fun _ _ _ h => h) (Or.inl ⟨by rfl, ?_⟩) hHeld ?_ ?_
           rotate_left
           ·rintro w' ⟨s0, s1, s2, s3, s4, s5⟩
            go_simp
            with_reducible rfl
           rotate_left
           ·simp only [Act.put, sia, sc0, scs, i64_w, i32_w]
            rfl
           refine take_ (i := 18) (N := some 49) (v := ?_) (a' := ?_) #[true, true, true, true, true, true, true, true, true, true, true, true, true, true, true, true, true, true, true, false, false, false, false, false, false, false] rfl rfl (take_ofW HT_.out HW_.out (by kernel_rfl)) (fun _ _ _ h => h) (Or.inl ⟨by rfl, ?_⟩) hHeld ?_ ?_
           rotate_left
           ·rintro w' ⟨s0, s1, s2, s3, s4, s5⟩
            go_simp
            with_reducible rfl
           rotate_left
           ·simp only [Act.put, sia, sc0, scs, i64_w, i32_w]
            rfl
           refine pure_ (i := 19) (N := some 50) (v := ?_) (a' := ?_) #[true, true, true, true, true, true, true, true, true, true, true, true, true, true, true, true, true, true, true, true, false, false, false, false, false, false] rfl rfl (any_of HT_.out (by kernel_rfl)) (fun _ _ _ h => h) (Or.inl ⟨by rfl, ?_⟩) ?_ ?_
           rotate_left
           ·intro w'
            go_simp
            with_reducible rfl
           rotate_left
           ·simp only [Act.put, sia, sc0, scs, i64_w, i32_w]
            rfl
           refine pure_ (i := 20) (N := some 51) (v := ?_) (a' := ?_) #[true, true, true, true, true, true, true, true, true, true, true, true, true, true, true, true, true, true, true, true, true, false, false, false, false, false] rfl rfl (any_of HT_.out (by kernel_rfl)) (fun _ _ _ h => h) (Or.inl ⟨by rfl, ?_⟩) ?_ ?_
           rotate_left
           ·intro w'
            go_simp
            with_reducible rfl
           rotate_left
           ·simp only [Act.put, sia, sc0, scs, i64_w, i32_w]
            rfl
           refine take_ (i := 21) (N := some 52) (v := ?_) (a' := ?_) #[true, true, true, true, true, true, true, true, true, true, true, true, true, true, true, true, true, true, true, true, true, true, false, false, false, false] rfl rfl (take_ofW HT_.out HW_.out (by kernel_rfl)) (fun _ _ _ h => h) (Or.inl ⟨by rfl, ?_⟩) hHeld ?_ ?_
           rotate_left
           ·rintro w' ⟨s0, s1, s2, s3, s4, s5⟩
            go_simp
            with_reducible rfl
           rotate_left
           ·simp only [Act.put, sia, sc0, scs, i64_w, i32_w]
            rfl
           refine one_ (i := 22) (N := some 53) #[true, true, true, true, true, true, true, true, true, true, true, true, true, true, true, true, true, true, true, true, true, true, true, false, false, false] rfl rfl (one_of HT_.out (by kernel_rfl)) (by decide) (fun K hK => ?_)
           refine goes_ Try.func68 (by kernel_rfl) rfl #[.agg #[.int .i64 ((rd_T76 t777 x26_1).f0), .int .i64 ((rd_T76 t777 x26_1).f1)]] (by rfl) rfl rfl (by (try simp only [List.map_toArray, List.map_cons, List.map_nil]); first | done | rfl | (simp only [List.length_drop, List.length_take]; rfl)) ?_
           with_reducible refine (share_point_kind.calls k1 ((rd_T76 t777 x26_1).f0) ((rd_T76 t777 x26_1).f1) t788 _ A34.out).mono ?_
           rintro e w37 ⟨rfl, hb⟩
           refine ⟨_, rfl, ?_⟩
           have n0_ := Aside0.mk (Kd.R_below (by (with_reducible repeat (first | apply Kd.R_alloc | apply Kd.R_drewN | apply Kd.R_drew)); exact HO_8.out) hb)
           have n1_ := Aside0.mk (Kd.R_below (by (with_reducible repeat (first | apply Kd.R_alloc | apply Kd.R_drewN | apply Kd.R_drew)); exact HO_24.out) hb)
           have n2_ := Aside0.mk (blk_below (g := gb776) (o := .cells #[.slice (some ad783) l2_0.length c2_0, .int .i64 a2_1] 26 (0, 0)) (by (with_reducible repeat (first | apply kdn | apply kdr | apply kal)); exact BK776.out) hb)
           have n3_ := Aside0.mk (blk_below (g := gb782) (o := .cells #[.int .i64 ((rd_T76 t777 x26_1).f0), .int .i64 ((rd_T76 t777 x26_1).f1)] 76 (0, 0)) (by (with_reducible repeat (first | apply kdn | apply kdr | apply kal)); exact BK782.out) hb)
           have n4_ := Aside0.mk (below_step (by repeat (first | (with_reducible first | exact HB.out | apply lal | apply ldn | apply ldr | refine below_set ?_ GE776.out | refine below_set ?_ GE782.out) | exact HB.out)) hb)
           clear HO_8
           clear HO_24
           clear BK776
           clear BK782
           clear HB
           have HO_8 := n0_
           have HO_24 := n1_
           have BK776 := n2_
           have BK782 := n3_
           have HB := n4_
           clear n0_ n1_ n2_ n3_ n4_
           (try clear hb)
           (try clear hb2)
           (try clear hk)
           (try clear hi)
           refine hK.out _ _ ⟨(blk_cell BK776.out 0).trans rfl, (blk_cell BK776.out 1).trans rfl, (blk_cell BK782.out 0).trans rfl, (blk_cell BK782.out 1).trans rfl, ((HB.out.cell (World.block_lt_of_cell? w _ hw783_0)).trans hw783_0), ((HB.out.cell (World.block_lt_of_cell? w _ hw787_0)).trans hw787_0)⟩ (fun hHeld => ?_)
           clear hK K
           refine norm_ (a' := ?_) ?_ ?_
           rotate_left
           ·show Act.put _ (some 53) _ = _
            simp only [Act.put, sia, sc0, scs, i64_w, i32_w]
            rfl
           refine pure_ (i := 23) (N := some 54) (v := ?_) (a' := ?_) #[true, true, true, true, true, true, true, true, true, true, true, true, true, true, true, true, true, true, true, true, true, true, true, true, false, false] rfl rfl (any_of HT_.out (by kernel_rfl)) (fun _ _ _ h => h) (Or.inl ⟨by rfl, ?_⟩) ?_ ?_
           rotate_left
           ·intro w'
            go_simp
            with_reducible rfl
           rotate_left
           ·simp only [Act.put, sia, sc0, scs, i64_w, i32_w]
            rfl
           refine pure_ (i := 24) (N := some 55) (v := ?_) (a' := ?_) #[true, true, true, true, true, true, true, true, true, true, true, true, true, true, true, true, true, true, true, true, true, true, true, true, true, false] rfl rfl (any_of HT_.out (by kernel_rfl)) (fun _ _ _ h => h) (Or.inl ⟨by rfl, ?_⟩) ?_ ?_
           rotate_left
           ·intro w'
            go_simp
            with_reducible rfl
           rotate_left
           ·simp only [Act.put, sia, sc0, scs, i64_w, i32_w]
            rfl
           refine pure_ (i := 25) (N := some 56) (v := ?_) (a' := ?_) #[true, true, true, true, true, true, true, true, true, true, true, true, true, true, true, true, true, true, true, true, true, true, true, true, true, true] rfl rfl (any_of HT_.out (by kernel_rfl)) (fun _ _ _ h => h) (Or.inl ⟨by rfl, ?_⟩) ?_ ?_
           rotate_left
           ·intro w'
            go_simp
            with_reducible rfl
           rotate_left
           ·simp only [Act.put, sia, sc0, scs, i64_w, i32_w]
            rfl
           refine done_ (done_of HT_.out (by kernel_rfl)) ?_
           try go_wp2
           go_meet
           case rel => exact ⟨_, ((t788 == 0)), (by first | rfl | (simp; done) | (simp [*]; done)), H', ⟨by have := HK1.out; first | omega | exact Nat.le_refl _⟩, ⟨by (with_reducible repeat (first | apply Kd.R_alloc | apply Kd.R_drewN | apply Kd.R_drew)); exact HO_8.out⟩, ⟨by (with_reducible repeat (first | apply Kd.R_alloc | apply Kd.R_drewN | apply Kd.R_drew)); exact HO_24.out⟩, ⟨by (with_reducible repeat (first | apply kdn | apply kdr | apply kal)); exact BK776.out⟩, ⟨by (with_reducible repeat (first | apply kdn | apply kdr | apply kal)); exact BK782.out⟩, ⟨by repeat (first | (with_reducible first | exact HB.out | apply lal | apply ldn | apply ldr | refine below_set ?_ GE776.out | refine below_set ?_ GE782.out) | exact HB.out)⟩⟩
          ·rw [if_neg c33] at H
           have c33b0 : decide ((rd l2_0 x26_1) < a2_1) = false := decide_eq_false c33
           clear c33
           have H' := Aside0.mk H
           clear H
           try go_wp2
           have n0_ : Aside0 (Kd.R k76 76 ((w14.setCell ⟨gb782, 0, none⟩ (.int .i64 ((rd_T76 t777 x26_1).f0))).setCell ⟨gb782, 1, none⟩ (.int .i64 ((rd_T76 t777 x26_1).f1))) w.heap.size (fun k_ => k_ ≠ gb782) (.slice (some ad781) t777.length co9) t777) := ⟨by (with_reducible repeat (first | apply Kd.R_alloc | apply Kd.R_drewN | apply Kd.R_drew)); exact Kd.R_mono (Kd.R_far (p := ⟨gb782, 1, none⟩) (Kd.R_far (p := ⟨gb782, 0, none⟩) (Kd.R_mono HO_8.out (fun k_ hk => (⟨hk, hk.2⟩ : _ ∧ k_ ≠ gb782))) (fun _ hk => hk.2) (.int .i64 ((rd_T76 t777 x26_1).f0))) (fun _ hk => hk.2) (.int .i64 ((rd_T76 t777 x26_1).f1))) (fun _ hk => hk.1.2)⟩
           have n1_ : Aside0 (Kd.R k76 76 ((w14.setCell ⟨gb782, 0, none⟩ (.int .i64 ((rd_T76 t777 x26_1).f0))).setCell ⟨gb782, 1, none⟩ (.int .i64 ((rd_T76 t777 x26_1).f1))) w.heap.size (fun k_ => k_ ≠ gb782) (.slice (some ad781) t777.length co9) t777) := ⟨by (with_reducible repeat (first | apply Kd.R_alloc | apply Kd.R_drewN | apply Kd.R_drew)); exact Kd.R_mono (Kd.R_far (p := ⟨gb782, 1, none⟩) (Kd.R_far (p := ⟨gb782, 0, none⟩) (Kd.R_mono HO_24.out (fun k_ hk => (⟨hk, hk.2⟩ : _ ∧ k_ ≠ gb782))) (fun _ hk => hk.2) (.int .i64 ((rd_T76 t777 x26_1).f0))) (fun _ hk => hk.2) (.int .i64 ((rd_T76 t777 x26_1).f1))) (fun _ hk => hk.1.2)⟩
           have n2_ : Aside0 (((w14.setCell ⟨gb782, 0, none⟩ (.int .i64 ((rd_T76 t777 x26_1).f0))).setCell ⟨gb782, 1, none⟩ (.int .i64 ((rd_T76 t777 x26_1).f1))).heap[gb776]? = some (.cells #[.slice A2_0 l2_0.length c2_0, .int .i64 a2_1] 26 (0, 0))) := ⟨by (with_reducible repeat (first | apply kdn | apply kdr | apply kal)); refine blk_far ?_ NB776_782.out _; (with_reducible repeat (first | apply kdn | apply kdr | apply kal)); refine blk_far ?_ NB776_782.out _; (with_reducible repeat (first | apply kdn | apply kdr | apply kal)); exact BK776.out⟩
           have n3_ : Aside0 (((w14.setCell ⟨gb782, 0, none⟩ (.int .i64 ((rd_T76 t777 x26_1).f0))).setCell ⟨gb782, 1, none⟩ (.int .i64 ((rd_T76 t777 x26_1).f1))).heap[gb782]? = some (.cells #[.int .i64 ((rd_T76 t777 x26_1).f0), .int .i64 ((rd_T76 t777 x26_1).f1)] 76 (0, 0))) := ⟨by (with_reducible repeat (first | apply kdn | apply kdr | apply kal)); refine blk_put (cs := #[.int .i64 ((rd_T76 t777 x26_1).f0), .int .i64 0]) ?_ 1 _ rfl; (with_reducible repeat (first | apply kdn | apply kdr | apply kal)); refine blk_put (cs := #[.int .i64 0, .int .i64 0]) ?_ 0 _ rfl; (with_reducible repeat (first | apply kdn | apply kdr | apply kal)); exact BK782.out⟩
           have n4_ : Aside0 (Below w.heap.size w ((w14.setCell ⟨gb782, 0, none⟩ (.int .i64 ((rd_T76 t777 x26_1).f0))).setCell ⟨gb782, 1, none⟩ (.int .i64 ((rd_T76 t777 x26_1).f1)))) := ⟨by repeat (first | (with_reducible first | exact HB.out | apply lal | apply ldn | apply ldr | refine below_set ?_ GE776.out | refine below_set ?_ GE782.out) | exact HB.out)⟩
           (try clear HO_8)
           (try clear HO_24)
           (try clear BK776)
           (try clear BK782)
           (try clear HB)
           generalize ((w14.setCell ⟨gb782, 0, none⟩ (.int .i64 ((rd_T76 t777 x26_1).f0))).setCell ⟨gb782, 1, none⟩ (.int .i64 ((rd_T76 t777 x26_1).f1))) = w38 at n0_ n1_ n2_ n3_ n4_ ⊢
           have HO_8 := n0_
           have HO_24 := n1_
           have BK776 := n2_
           have BK782 := n3_
           have HB := n4_
           clear n0_ n1_ n2_ n3_ n4_
           have n0_ := Aside0.mk (Kd.R_drew HO_8.out)
           have n1_ := Aside0.mk (Kd.R_drew HO_24.out)
           have n2_ := Aside0.mk (blk_drew BK776.out)
           have n3_ := Aside0.mk (blk_drew BK782.out)
           have n4_ := Aside0.mk (below_drew1 HB.out)
           clear HO_8
           clear HO_24
           clear BK776
           clear BK782
           clear HB
           have HO_8 := n0_
           have HO_24 := n1_
           have BK776 := n2_
           have BK782 := n3_
           have HB := n4_
           clear n0_ n1_ n2_ n3_ n4_
           have p783 : 0 ≤ (x26_1 : Int) := of_decide_eq_true (by first | (with_reducible assumption) | assumption)
           have q783 : x26_1 < (l2_0.length : Int) := of_decide_eq_true (by first | (with_reducible assumption) | assumption)
           obtain ⟨ad783, e783, hx783_0⟩ := Kd.at_int HR2_0.out x26_1 p783 q783
           have hw783_0 := hx783_0
           cases e783
           replace hx783_0 := (HB.out.cell (World.block_lt_of_cell? w _ hx783_0)).trans hx783_0
           replace p783 := eq_true p783
           replace q783 := eq_true q783
           have p787 : 0 ≤ (x26_1 : Int) := of_decide_eq_true (by first | (with_reducible assumption) | assumption)
           have q787 : x26_1 < (l2_0.length : Int) := of_decide_eq_true (by first | (with_reducible assumption) | assumption)
           obtain ⟨ad787, e787, hx787_0⟩ := Kd.at_int HR2_0.out x26_1 p787 q787
           have hw787_0 := hx787_0
           obtain rfl : ad783 = ad787 := (by injection e787)
           replace hx787_0 := (HB.out.cell (World.block_lt_of_cell? w _ hx787_0)).trans hx787_0
           replace p787 := eq_true p787
           replace q787 := eq_true q787
           refine start_ (n := 26) (S := fun w' => w'.cell? ⟨gb776, 0, none⟩ = some (.slice (some ad783) l2_0.length c2_0) ∧ w'.cell? ⟨gb776, 1, none⟩ = some (.int .i64 a2_1) ∧ w'.cell? (ad783.add (x26_1).toNat) = some (.int .i64 (rd l2_0 x26_1)) ∧ w'.cell? (ad783.add (x26_1).toNat) = some (.int .i64 (rd l2_0 x26_1))) (ds := []) #[false, false, false, false, false, false, false, false, false, false, false, false, false, false, false, false, false, false, false, false, false, false, false, false, false, false] (by kernel_rfl) rfl rfl ⟨(blk_cell BK776.out 0).trans rfl, (blk_cell BK776.out 1).trans rfl, ((HB.out.cell (World.block_lt_of_cell? w _ hw783_0)).trans hw783_0), ((HB.out.cell (World.block_lt_of_cell? w _ hw787_0)).trans hw787_0)⟩ (fun hHeld => ?_); refine with_tabW share_Efficient.tab7 share_Efficient.bits7 (fun HT_ HW_ => ?_)
           generalize w38.drew = w39 at HO_8 HO_24 BK776 BK782 HB hx783_0 hx787_0 hHeld ⊢
           refine pure_ (i := 0) (N := some 31) (v := ?_) (a' := ?_) #[true, false, false, false, false, false, false, false, false, false, false, false, false, false, false, false, false, false, false, false, false, false, false, false, false, false] rfl rfl (any_of HT_.out (by kernel_rfl)) (fun _ _ _ h => h) (Or.inl ⟨by rfl, ?_⟩) ?_ ?_
           rotate_left
           ·intro w'
            go_simp
            with_reducible rfl
           rotate_left
           ·simp only [Act.put, sia, sc0, scs, i64_w, i32_w]
            rfl
           refine pure_ (i := 2) (N := some 33) (v := ?_) (a' := ?_) #[true, false, true, false, false, false, false, false, false, false, false, false, false, false, false, false, false, false, false, false, false, false, false, false, false, false] rfl rfl (any_of HT_.out (by kernel_rfl)) (fun _ _ _ h => h) (Or.inl ⟨by rfl, ?_⟩) ?_ ?_
           rotate_left
           ·intro w'
            go_simp
            with_reducible rfl
           rotate_left
           ·simp only [Act.put, sia, sc0, scs, i64_w, i32_w]
            rfl
           refine take_ (i := 1) (N := some 32) (v := ?_) (a' := ?_) #[true, true, true, false, false, false, false, false, false, false, false, false, false, false, false, false, false, false, false, false, false, false, false, false, false, false] rfl rfl (take_ofW HT_.out HW_.out (by kernel_rfl)) (fun _ _ _ h => h) (Or.inl ⟨by rfl, ?_⟩) hHeld ?_ ?_
           rotate_left
           ·rintro w' ⟨s0, s1, s2, s3⟩
            go_simp
            with_reducible rfl
           rotate_left
           ·simp only [Act.put, sia, sc0, scs, i64_w, i32_w]
            rfl
           refine pure_ (i := 3) (N := some 34) (v := ?_) (a' := ?_) #[true, true, true, true, false, false, false, false, false, false, false, false, false, false, false, false, false, false, false, false, false, false, false, false, false, false] rfl rfl (any_of HT_.out (by kernel_rfl)) (fun _ _ _ h => h) (Or.inl ⟨by rfl, ?_⟩) ?_ ?_
           rotate_left
           ·intro w'
            go_simp
            with_reducible rfl
           rotate_left
           ·simp only [Act.put, sia, sc0, scs, i64_w, i32_w]
            rfl
           refine take_ (i := 4) (N := some 35) (v := ?_) (a' := ?_) #[true, true, true, true, true, false, false, false, false, false, false, false, false, false, false, false, false, false, false, false, false, false, false, false, false, false] rfl rfl (take_ofW HT_.out HW_.out (by kernel_rfl)) (fun _ _ _ h => h) (Or.inl ⟨by rfl, ?_⟩) hHeld ?_ ?_
           rotate_left
           ·rintro w' ⟨s0, s1, s2, s3⟩
            go_simp
            with_reducible rfl
           rotate_left
           ·simp only [Act.put, sia, sc0, scs, i64_w, i32_w]
            rfl
           refine pure_ (i := 5) (N := some 36) (v := ?_) (a' := ?_) #[true, true, true, true, true, true, false, false, false, false, false, false, false, false, false, false, false, false, false, false, false, false, false, false, false, false] rfl rfl (any_of HT_.out (by kernel_rfl)) (fun _ _ _ h => h) (Or.inl ⟨by rfl, ?_⟩) ?_ ?_
           rotate_left
           ·intro w'
            go_simp
            with_reducible rfl
           rotate_left
           ·simp only [Act.put, sia, sc0, scs, i64_w, i32_w]
            rfl
           refine pure_ (i := 6) (N := some 37) (v := ?_) (a' := ?_) #[true, true, true, true, true, true, true, false, false, false, false, false, false, false, false, false, false, false, false, false, false, false, false, false, false, false] rfl rfl (any_of HT_.out (by kernel_rfl)) (fun _ _ _ h => h) (Or.inl ⟨by rfl, ?_⟩) ?_ ?_
           rotate_left
           ·intro w'
            go_simp
            with_reducible rfl
           rotate_left
           ·simp only [Act.put, sia, sc0, scs, i64_w, i32_w]
            rfl
           refine pure_ (i := 7) (N := some 38) (v := undef) (a' := ?_) #[true, true, true, true, true, true, true, true, false, false, false, false, false, false, false, false, false, false, false, false, false, false, false, false, false, false] rfl rfl (any_of HT_.out (by kernel_rfl)) (fun _ _ _ h => h) (Or.inr ⟨by rfl, rfl⟩) ?_ ?_
           rotate_left
           ·simp only [Act.put, sia, sc0, scs, i64_w, i32_w]
            rfl
           refine pure_ (i := 8) (N := some 39) (v := undef) (a' := ?_) #[true, true, true, true, true, true, true, true, true, false, false, false, false, false, false, false, false, false, false, false, false, false, false, false, false, false] rfl rfl (any_of HT_.out (by kernel_rfl)) (fun _ _ _ h => h) (Or.inr ⟨by rfl, rfl⟩) ?_ ?_
           rotate_left
           ·simp only [Act.put, sia, sc0, scs, i64_w, i32_w]
            rfl
           refine pure_ (i := 9) (N := some 40) (v := undef) (a' := ?_) #[true, true, true, true, true, true, true, true, true, true, false, false, false, false, false, false, false, false, false, false, false, false, false, false, false, false] rfl rfl (any_of HT_.out (by kernel_rfl)) (fun _ _ _ h => h) (Or.inr ⟨by rfl, rfl⟩) ?_ ?_
           rotate_left
           ·simp only [Act.put, sia, sc0, scs, i64_w, i32_w]
            rfl
           refine pure_ (i := 10) (N := some 41) (v := ?_) (a' := ?_) #[true, true, true, true, true, true, true, true, true, true, true, false, false, false, false, false, false, false, false, false, false, false, false, false, false, false] rfl rfl (any_of HT_.out (by kernel_rfl)) (fun _ _ _ h => h) (Or.inl ⟨by rfl, ?_⟩) ?_ ?_
           rotate_left
           ·intro w'
            go_simp
            with_reducible rfl
           rotate_left
           ·simp only [Act.put, sia, sc0, scs, i64_w, i32_w]
            rfl
           refine pure_ (i := 11) (N := some 42) (v := ?_) (a' := ?_) #[true, true, true, true, true, true, true, true, true, true, true, true, false, false, false, false, false, false, false, false, false, false, false, false, false, false] rfl rfl (any_of HT_.out (by kernel_rfl)) (fun _ _ _ h => h) (Or.inl ⟨by rfl, ?_⟩) ?_ ?_
           rotate_left
           ·intro w'
            go_simp
            with_reducible rfl
           rotate_left
           ·simp only [Act.put, sia, sc0, scs, i64_w, i32_w]
            rfl
           refine pure_ (i := 12) (N := some 43) (v := ?_) (a' := ?_) #[true, true, true, true, true, true, true, true, true, true, true, true, true, false, false, false, false, false, false, false, false, false, false, false, false, false] rfl rfl (any_of HT_.out (by kernel_rfl)) (fun _ _ _ h => h) (Or.inl ⟨by rfl, ?_⟩) ?_ ?_
           rotate_left
           ·intro w'
            go_simp
            with_reducible rfl
           rotate_left
           ·simp only [Act.put, sia, sc0, scs, i64_w, i32_w]
            rfl
           refine pure_ (i := 14) (N := some 45) (v := ?_) (a' := ?_) #[true, true, true, true, true, true, true, true, true, true, true, true, true, false, true, false, false, false, false, false, false, false, false, false, false, false] rfl rfl (any_of HT_.out (by kernel_rfl)) (fun _ _ _ h => h) (Or.inl ⟨by rfl, ?_⟩) ?_ ?_
           rotate_left
           ·intro w'
            go_simp
            with_reducible rfl
           rotate_left
           ·simp only [Act.put, sia, sc0, scs, i64_w, i32_w]
            rfl
           refine pure_ (i := 17) (N := some 48) (v := ?_) (a' := ?_) #[true, true, true, true, true, true, true, true, true, true, true, true, true, false, true, false, false, true, false, false, false, false, false, false, false, false] rfl rfl (any_of HT_.out (by kernel_rfl)) (fun _ _ _ h => h) (Or.inl ⟨by rfl, ?_⟩) ?_ ?_
           rotate_left
           ·intro w'
            go_simp
            with_reducible rfl
           rotate_left
           ·simp only [Act.put, sia, sc0, scs, i64_w, i32_w]
            rfl
           refine take_ (i := 13) (N := some 44) (v := ?_) (a' := ?_) #[true, true, true, true, true, true, true, true, true, true, true, true, true, true, true, false, false, true, false, false, false, false, false, false, false, false] rfl rfl (take_ofW HT_.out HW_.out (by kernel_rfl)) (fun _ _ _ h => h) (Or.inl ⟨by rfl, ?_⟩) hHeld ?_ ?_
           rotate_left
           ·rintro w' ⟨s0, s1, s2, s3⟩
            go_simp
            with_reducible rfl
           rotate_left
           ·simp only [Act.put, sia, sc0, scs, i64_w, i32_w]
            rfl
           refine pure_ (i := 15) (N := some 46) (v := ?_) (a' := ?_) #[true, true, true, true, true, true, true, true, true, true, true, true, true, true, true, true, false, true, false, false, false, false, false, false, false, false] rfl rfl (any_of HT_.out (by kernel_rfl)) (fun _ _ _ h => h) (Or.inl ⟨by rfl, ?_⟩) ?_ ?_
           rotate_left
           ·intro w'
            go_simp
            with_reducible rfl
           rotate_left
           ·simp only [Act.put, sia, sc0, scs, i64_w, i32_w]
            rfl
           refine take_ (i := 16) (N := some 47) (v := ?_) (a' := ?_) #[true, true, true, true, true, true, true, true, true, true, true, true, true, true, true, true, true, true, false, false, false, false, false, false, false, false] rfl rfl (take_ofW HT_.out HW_.out (by kernel_rfl)) (fun _ _ _ h => h) (Or.inl ⟨by rfl, ?_⟩) hHeld ?_ ?_
           rotate_left
           ·rintro w' ⟨s0, s1, s2, s3⟩
            go_simp
            with_reducible rfl
           rotate_left
           ·simp only [Act.put, sia, sc0, scs, i64_w, i32_w]
            rfl
           refine take_ (i := 18) (N := some 49) (v := ?_) (a' := ?_) #[true, true, true, true, true, true, true, true, true, true, true, true, true, true, true, true, true, true, true, false, false, false, false, false, false, false] rfl rfl (take_ofW HT_.out HW_.out (by kernel_rfl)) (fun _ _ _ h => h) (Or.inl ⟨by rfl, ?_⟩) hHeld ?_ ?_
           rotate_left
           ·rintro w' ⟨s0, s1, s2, s3⟩
            go_simp
            with_reducible rfl
           rotate_left
           ·simp only [Act.put, sia, sc0, scs, i64_w, i32_w]
            rfl
           refine pure_ (i := 19) (N := some 50) (v := ?_) (a' := ?_) #[true, true, true, true, true, true, true, true, true, true, true, true, true, true, true, true, true, true, true, true, false, false, false, false, false, false] rfl rfl (any_of HT_.out (by kernel_rfl)) (fun _ _ _ h => h) (Or.inl ⟨by rfl, ?_⟩) ?_ ?_
           rotate_left
           ·intro w'
            go_simp
            with_reducible rfl
           rotate_left
           ·simp only [Act.put, sia, sc0, scs, i64_w, i32_w]
            rfl
           refine pure_ (i := 20) (N := some 51) (v := ?_) (a' := ?_) #[true, true, true, true, true, true, true, true, true, true, true, true, true, true, true, true, true, true, true, true, true, false, false, false, false, false] rfl rfl (any_of HT_.out (by kernel_rfl)) (fun _ _ _ h => h) (Or.inl ⟨by rfl, ?_⟩) ?_ ?_
           rotate_left
           ·intro w'
            go_simp
            with_reducible rfl
           rotate_left
           ·simp only [Act.put, sia, sc0, scs, i64_w, i32_w]
            rfl
           refine pure_ (i := 21) (N := some 52) (v := undef) (a' := ?_) #[true, true, true, true, true, true, true, true, true, true, true, true, true, true, true, true, true, true, true, true, true, true, false, false, false, false] rfl rfl (any_of HT_.out (by kernel_rfl)) (fun _ _ _ h => h) (Or.inr ⟨by rfl, rfl⟩) ?_ ?_
           rotate_left
           ·simp only [Act.put, sia, sc0, scs, i64_w, i32_w]
            rfl
           refine pure_ (i := 22) (N := some 53) (v := undef) (a' := ?_) #[true, true, true, true, true, true, true, true, true, true, true, true, true, true, true, true, true, true, true, true, true, true, true, false, false, false] rfl rfl (any_of HT_.out (by kernel_rfl)) (fun _ _ _ h => h) (Or.inr ⟨by rfl, rfl⟩) ?_ ?_
           rotate_left
           ·simp only [Act.put, sia, sc0, scs, i64_w, i32_w]
            rfl
           refine pure_ (i := 23) (N := some 54) (v := undef) (a' := ?_) #[true, true, true, true, true, true, true, true, true, true, true, true, true, true, true, true, true, true, true, true, true, true, true, true, false, false] rfl rfl (any_of HT_.out (by kernel_rfl)) (fun _ _ _ h => h) (Or.inr ⟨by rfl, rfl⟩) ?_ ?_
           rotate_left
           ·simp only [Act.put, sia, sc0, scs, i64_w, i32_w]
            rfl
           refine pure_ (i := 24) (N := some 55) (v := ?_) (a' := ?_) #[true, true, true, true, true, true, true, true, true, true, true, true, true, true, true, true, true, true, true, true, true, true, true, true, true, false] rfl rfl (any_of HT_.out (by kernel_rfl)) (fun _ _ _ h => h) (Or.inl ⟨by rfl, ?_⟩) ?_ ?_
           rotate_left
           ·intro w'
            go_simp
            with_reducible rfl
           rotate_left
           ·simp only [Act.put, sia, sc0, scs, i64_w, i32_w]
            rfl
           refine pure_ (i := 25) (N := some 56) (v := ?_) (a' := ?_) #[true, true, true, true, true, true, true, true, true, true, true, true, true, true, true, true, true, true, true, true, true, true, true, true, true, true] rfl rfl (any_of HT_.out (by kernel_rfl)) (fun _ _ _ h => h) (Or.inl ⟨by rfl, ?_⟩) ?_ ?_
           rotate_left
           ·intro w'
            go_simp
            with_reducible rfl
           rotate_left
           ·simp only [Act.put, sia, sc0, scs, i64_w, i32_w]
            rfl
           refine done_ (done_of HT_.out (by kernel_rfl)) ?_
           try go_wp2
           go_meet
           case rel => exact ⟨_, (false), (by first | rfl | (simp; done) | (simp [*]; done)), H', ⟨by have := HK1.out; first | omega | exact Nat.le_refl _⟩, ⟨by (with_reducible repeat (first | apply Kd.R_alloc | apply Kd.R_drewN | apply Kd.R_drew)); exact HO_8.out⟩, ⟨by (with_reducible repeat (first | apply Kd.R_alloc | apply Kd.R_drewN | apply Kd.R_drew)); exact HO_24.out⟩, ⟨by (with_reducible repeat (first | apply kdn | apply kdr | apply kal)); exact BK776.out⟩, ⟨by (with_reducible repeat (first | apply kdn | apply kdr | apply kal)); exact BK782.out⟩, ⟨by repeat (first | (with_reducible first | exact HB.out | apply lal | apply ldn | apply ldr | refine below_set ?_ GE776.out | refine below_set ?_ GE782.out) | exact HB.out)⟩⟩
        ·rw [if_neg c17] at H
         exact absurd H (by simp)
       case rest =>
        clear HC13
        try clear c1
        try clear c2
        try clear p2
        try clear c3
        try clear c6
        try clear p7
        try clear q7
        try clear hx7
        try clear c17
        try clear c18
        try clear c18b0
        try clear c33
        try clear c33b0
        try clear hx783_0
        try clear hx787_0
        try clear p783
        try clear p787
        try clear q783
        try clear q787
        obtain ⟨kq, x56_12, rfl, HA, HJ12, HO_8, HO_24, BK776, BK782, HB⟩ := hcut
        cases kq with
        | zero => exact absurd HA.out (by simp [share_Efficient.j1])
        | succ kj12 =>
         have H := HA.out
         clear HA
         simp only [share_Efficient.j1] at H
         by_cases c40 : x56_12 = true
         ·subst c40
          have H1 : (some (false, 0)) = some (r1, r2) := by rw [if_pos rfl] at H; exact H
          clear H
          have H := H1
          clear H1
          simp only [Option.some.injEq, Prod.mk.injEq] at H
          obtain ⟨rfl, rfl⟩ := H
          go_wp2
          go_ret2
          exact ⟨by first | rfl | (simp [errW_none, errW_some] <;> rfl) | (simp [*, errW_none, errW_some] <;> rfl), by repeat (first | (with_reducible first | exact HB.out | apply lal | apply ldn | apply ldr | refine below_set ?_ GE776.out | refine below_set ?_ GE782.out) | exact HB.out)⟩
         ·replace c40 := Bool.eq_false_iff.mpr c40
          subst c40
          have H1 : (share_Efficient.l1 kj12 t777 x26_1 t777 (t777.length : Int) x26_1 t777 (t777.length : Int) 0 l2_0 a2_1 ((rd_T76 t777 x26_1).f0) ((rd_T76 t777 x26_1).f1)) = some (r1, r2) := by rw [if_neg (show ¬ (false = true) by decide)] at H; exact H
          clear H
          have H := H1
          clear H1
          have H' := Aside0.mk H
          clear H
          go_wp2
          go_loopg [59] kj12 (fun kq v59 w' => ∃ (x59_3 : Int), v59 = .int .i64 x59_3 ∧ Aside0 (share_Efficient.l1 kq t777 x26_1 t777 (t777.length : Int) x26_1 t777 (t777.length : Int) x59_3 l2_0 a2_1 ((rd_T76 t777 x26_1).f0) ((rd_T76 t777 x26_1).f1) = some (r1, r2)) ∧ Aside0 (kq ≤ kj12) ∧ Aside0 (Kd.R k76 76 w' w.heap.size (fun k_ => k_ ≠ gb782) (.slice (some ad781) t777.length co9) t777) ∧ Aside0 (Kd.R k76 76 w' w.heap.size (fun k_ => k_ ≠ gb782) (.slice (some ad781) t777.length co9) t777) ∧ Aside0 (Kd.R k76 76 w' w.heap.size (fun k_ => k_ ≠ gb782) (.slice (some ad781) t777.length co9) t777) ∧ Aside0 (w'.heap[gb776]? = some (.cells #[(.slice A2_0 l2_0.length c2_0), .int .i64 a2_1] 26 (0, 0))) ∧ Aside0 (w'.heap[gb782]? = some (.cells #[.int .i64 ((rd_T76 t777 x26_1).f0), .int .i64 ((rd_T76 t777 x26_1).f1)] 76 (0, 0))) ∧ Aside0 (Below w.heap.size w w'))
          case atStart => exact ⟨(0), (by first | rfl | (simp; done) | (simp [*]; done)), H', ⟨Nat.le_refl _⟩, ⟨by (with_reducible repeat (first | apply Kd.R_alloc | apply Kd.R_drewN | apply Kd.R_drew)); exact HO_8.out⟩, ⟨by (with_reducible repeat (first | apply Kd.R_alloc | apply Kd.R_drewN | apply Kd.R_drew)); exact HO_24.out⟩, ⟨by (with_reducible repeat (first | apply Kd.R_alloc | apply Kd.R_drewN | apply Kd.R_drew)); exact HO_8.out⟩, ⟨by (with_reducible repeat (first | apply kdn | apply kdr | apply kal)); exact BK776.out⟩, ⟨by (with_reducible repeat (first | apply kdn | apply kdr | apply kal)); exact BK782.out⟩, ⟨by repeat (first | (with_reducible first | exact HB.out | apply lal | apply ldn | apply ldr | refine below_set ?_ GE776.out | refine below_set ?_ GE782.out) | exact HB.out)⟩⟩
          case round =>
           clear H'
           try clear c1
           try clear c2
           try clear p2
           try clear c3
           try clear c4
           try clear c6
           try clear p7
           try clear q7
           try clear hx7
           try clear c17
           try clear c18
           try clear c18b0
           try clear c33
           try clear c33b0
           try clear c40
           try clear hx783_0
           try clear hx787_0
           try clear p2
           try clear p7
           try clear p783
           try clear p787
           try clear q7
           try clear q783
           try clear q787
           obtain ⟨x59_3, rfl, HA, HK3, HO_8, HO_24, HO_57, BK776, BK782, HB⟩ := hrel
           cases gk with
           | zero => exact absurd HA.out (by simp [share_Efficient.l1])
           | succ k3 =>
            have H := HA.out
            clear HA
            simp only [share_Efficient.l1] at H
            by_cases c41 : x59_3 < (t777.length : Int)
            ·rw [if_pos c41] at H
             have c41b0 : decide (x59_3 < (t777.length : Int)) = true := decide_eq_true c41
             clear c41
             by_cases c42 : 0 ≤ x59_3
             ·rw [if_pos c42] at H
              have c42b0 : decide (0 ≤ x59_3) = true := decide_eq_true c42
              clear c42
              by_cases c43 : x59_3 < (t777.length : Int)
              ·rw [if_pos c43] at H
               have c43b0 : decide (x59_3 < (t777.length : Int)) = true := decide_eq_true c43
               clear c43
               by_cases c44 : 0 ≤ x26_1
               ·rw [if_pos c44] at H
                have c44b0 : decide (0 ≤ x26_1) = true := decide_eq_true c44
                clear c44
                by_cases c45 : x26_1 < (l2_0.length : Int)
                ·rw [if_pos c45] at H
                 have c45b0 : decide (x26_1 < (l2_0.length : Int)) = true := decide_eq_true c45
                 clear c45
                 by_cases c46 : (rd l2_0 x26_1) > 0
                 ·rw [if_pos c46] at H
                  have c46b0 : decide (0 < (rd l2_0 x26_1)) = true := decide_eq_true c46
                  clear c46
                  by_cases c47 : x59_3 < (l2_0.length : Int)
                  ·rw [if_pos c47] at H
                   have c47b0 : decide (x59_3 < (l2_0.length : Int)) = true := decide_eq_true c47
                   clear c47
                   by_cases c48 : (rd l2_0 x59_3) < a2_1
                   ·rw [if_pos c48] at H
                    have c48b0 : decide ((rd l2_0 x59_3) < a2_1) = true := decide_eq_true c48
                    clear c48
                    replace H := Option.bind_eq_some_iff.mp H
                    obtain ⟨t793, A490, H⟩ := H
                    replace H : (if t793 = true then (some (false, 0)) else (share_Efficient.l1 k3 t777 x26_1 t777 (t777.length : Int) x26_1 t777 (t777.length : Int) (wrap64 (x59_3 + 1)) l2_0 a2_1 ((rd_T76 t777 x26_1).f0) ((rd_T76 t777 x26_1).f1))) = some (r1, r2) := H
                    have A49 := Aside0.mk A490
                    clear A490
                    by_cases c50 : t793 = true
                    ·subst c50
                     have H1 : (some (false, 0)) = some (r1, r2) := by rw [if_pos rfl] at H; exact H
                     clear H
                     have H := H1
                     clear H1
                     simp only [Option.some.injEq, Prod.mk.injEq] at H
                     obtain ⟨rfl, rfl⟩ := H
                     have p789 : 0 ≤ (x59_3 : Int) := of_decide_eq_true (by first | (with_reducible assumption) | assumption)
                     have q789 : x59_3 < (t777.length : Int) := of_decide_eq_true (by first | (with_reducible assumption) | assumption)
                     obtain ⟨ad789, e789, hx789_0, hx789_1⟩ := at_T76 (Kd.R_reads' HO_57.out).2.2 x59_3 p789 q789
                     obtain rfl : ad781 = ad789 := (by injection e789)
                     replace p789 := eq_true p789
                     replace q789 := eq_true q789
                     try go_wp2_with (first | ((with_reducible refine gate_dst (N := 13) rfl ?_); refine box_event ?hg (N := 13) ?hd (cs := #[.int .i64 0, .int .i64 0]) (t := 76) ?hr ?_; (case hd => rfl); (case hg => rfl); (case hr => first | (go_simp; done) | (go_simp; rfl)); intro gb790 hg w51 hbox hb; have n0_ := Aside0.mk (Kd.R_below (Kd.R_elderB (by (with_reducible repeat (first | apply Kd.R_alloc | apply Kd.R_drewN | apply Kd.R_drew)); exact HO_8.out) gb790 (Nat.le_of_eq hg.symm)) hb); have n1_ := Aside0.mk (Kd.R_below (Kd.R_elderB (by (with_reducible repeat (first | apply Kd.R_alloc | apply Kd.R_drewN | apply Kd.R_drew)); exact HO_24.out) gb790 (Nat.le_of_eq hg.symm)) hb); have n2_ := Aside0.mk (Kd.R_below (Kd.R_elderB (by (with_reducible repeat (first | apply Kd.R_alloc | apply Kd.R_drewN | apply Kd.R_drew)); exact HO_57.out) gb790 (Nat.le_of_eq hg.symm)) hb); have n3_ := Aside0.mk (blk_below (g := gb776) (o := .cells #[.slice A2_0 l2_0.length c2_0, .int .i64 a2_1] 26 (0, 0)) (by (with_reducible repeat (first | apply kdn | apply kdr | apply kal)); exact BK776.out) hb); have n4_ := Aside0.mk (blk_below (g := gb782) (o := .cells #[.int .i64 ((rd_T76 t777 x26_1).f0), .int .i64 ((rd_T76 t777 x26_1).f1)] 76 (0, 0)) (by (with_reducible repeat (first | apply kdn | apply kdr | apply kal)); exact BK782.out) hb); have n5_ := Aside0.mk (below_step (by repeat (first | (with_reducible first | exact HB.out | apply lal | apply ldn | apply ldr | refine below_set ?_ GE776.out | refine below_set ?_ GE782.out) | exact HB.out)) hb); have n6_ := Aside0.mk (hbox); have n7_ := Aside0.mk ((by rw [hg]; exact (below_size (by repeat (first | (with_reducible first | exact HB.out | apply lal | apply ldn | apply ldr | refine below_set ?_ GE776.out | refine below_set ?_ GE782.out) | exact HB.out))) : w.heap.size ≤ gb790)); have n8_ := Aside0.mk ((by rw [hg]; exact (below_size (by repeat (first | (with_reducible first | exact HB.out | apply lal | apply ldn | apply ldr | refine below_set ?_ GE776.out | refine below_set ?_ GE782.out) | exact HB.out))) : w.heap.size ≤ gb790)); have n9_ := Aside0.mk ((by rw [hg]; exact Nat.ne_of_lt (blk_lt (g := gb776) (o := .cells #[.slice A2_0 l2_0.length c2_0, .int .i64 a2_1] 26 (0, 0)) (by (with_reducible repeat (first | apply kdn | apply kdr | apply kal)); exact BK776.out)) : gb776 ≠ gb790)); have n10_ := Aside0.mk ((by rw [hg]; exact Nat.ne_of_gt (blk_lt (g := gb776) (o := .cells #[.slice A2_0 l2_0.length c2_0, .int .i64 a2_1] 26 (0, 0)) (by (with_reducible repeat (first | apply kdn | apply kdr | apply kal)); exact BK776.out)) : gb790 ≠ gb776)); have n11_ := Aside0.mk ((by rw [hg]; exact Nat.ne_of_lt (blk_lt (g := gb782) (o := .cells #[.int .i64 ((rd_T76 t777 x26_1).f0), .int .i64 ((rd_T76 t777 x26_1).f1)] 76 (0, 0)) (by (with_reducible repeat (first | apply kdn | apply kdr | apply kal)); exact BK782.out)) : gb782 ≠ gb790)); have n12_ := Aside0.mk ((by rw [hg]; exact Nat.ne_of_gt (blk_lt (g := gb782) (o := .cells #[.int .i64 ((rd_T76 t777 x26_1).f0), .int .i64 ((rd_T76 t777 x26_1).f1)] 76 (0, 0)) (by (with_reducible repeat (first | apply kdn | apply kdr | apply kal)); exact BK782.out)) : gb790 ≠ gb782)); clear HO_8; clear HO_24; clear HO_57; clear BK776; clear BK782; clear HB; have HO_8 := n0_; have HO_24 := n1_; have HO_57 := n2_; have BK776 := n3_; have BK782 := n4_; have HB := n5_; have BK790 := n6_; have GW790 := n7_; have GE790 := n8_; have NB776_790 := n9_; have NB790_776 := n10_; have NB782_790 := n11_; have NB790_782 := n12_; clear n0_ n1_ n2_ n3_ n4_ n5_ n6_ n7_ n8_ n9_ n10_ n11_ n12_; clear hb hbox hg; have hnb52 := NB790_776.out; have hnc52 := NB776_790.out; have hnb53 := NB790_782.out; have hnc53 := NB782_790.out; have hcz54_0 : w51.cell? ⟨gb790, 0, none⟩ = some (.int .i64 0) := (blk_cell BK790.out 0).trans rfl; have hcz54_1 : w51.cell? ⟨gb790, 1, none⟩ = some (.int .i64 0) := (blk_cell BK790.out 1).trans rfl; have hfz54_0 := blk_frozen BK790.out 0; have hfz54_1 := blk_frozen BK790.out 1))
                     have n0_ : Aside0 (Kd.R k76 76 ((w51.setCell ⟨gb790, 0, none⟩ (.int .i64 ((rd_T76 t777 x59_3).f0))).setCell ⟨gb790, 1, none⟩ (.int .i64 ((rd_T76 t777 x59_3).f1))) w.heap.size (fun k_ => k_ ≠ gb782 ∧ k_ ≠ gb790) (.slice (some ad781) t777.length co9) t777) := ⟨by (with_reducible repeat (first | apply Kd.R_alloc | apply Kd.R_drewN | apply Kd.R_drew)); exact Kd.R_mono (Kd.R_far (p := ⟨gb790, 1, none⟩) (Kd.R_far (p := ⟨gb790, 0, none⟩) (Kd.R_mono HO_8.out (fun k_ hk => (⟨hk, hk.2⟩ : _ ∧ k_ ≠ gb790))) (fun _ hk => hk.2) (.int .i64 ((rd_T76 t777 x59_3).f0))) (fun _ hk => hk.2) (.int .i64 ((rd_T76 t777 x59_3).f1))) (fun _ hk => ⟨hk.1.1, hk.1.2⟩)⟩
                     have n1_ : Aside0 (Kd.R k76 76 ((w51.setCell ⟨gb790, 0, none⟩ (.int .i64 ((rd_T76 t777 x59_3).f0))).setCell ⟨gb790, 1, none⟩ (.int .i64 ((rd_T76 t777 x59_3).f1))) w.heap.size (fun k_ => k_ ≠ gb782 ∧ k_ ≠ gb790) (.slice (some ad781) t777.length co9) t777) := ⟨by (with_reducible repeat (first | apply Kd.R_alloc | apply Kd.R_drewN | apply Kd.R_drew)); exact Kd.R_mono (Kd.R_far (p := ⟨gb790, 1, none⟩) (Kd.R_far (p := ⟨gb790, 0, none⟩) (Kd.R_mono HO_24.out (fun k_ hk => (⟨hk, hk.2⟩ : _ ∧ k_ ≠ gb790))) (fun _ hk => hk.2) (.int .i64 ((rd_T76 t777 x59_3).f0))) (fun _ hk => hk.2) (.int .i64 ((rd_T76 t777 x59_3).f1))) (fun _ hk => ⟨hk.1.1, hk.1.2⟩)⟩
                     have n2_ : Aside0 (Kd.R k76 76 ((w51.setCell ⟨gb790, 0, none⟩ (.int .i64 ((rd_T76 t777 x59_3).f0))).setCell ⟨gb790, 1, none⟩ (.int .i64 ((rd_T76 t777 x59_3).f1))) w.heap.size (fun k_ => k_ ≠ gb782 ∧ k_ ≠ gb790) (.slice (some ad781) t777.length co9) t777) := ⟨by (with_reducible repeat (first | apply Kd.R_alloc | apply Kd.R_drewN | apply Kd.R_drew)); exact Kd.R_mono (Kd.R_far (p := ⟨gb790, 1, none⟩) (Kd.R_far (p := ⟨gb790, 0, none⟩) (Kd.R_mono HO_57.out (fun k_ hk => (⟨hk, hk.2⟩ : _ ∧ k_ ≠ gb790))) (fun _ hk => hk.2) (.int .i64 ((rd_T76 t777 x59_3).f0))) (fun _ hk => hk.2) (.int .i64 ((rd_T76 t777 x59_3).f1))) (fun _ hk => ⟨hk.1.1, hk.1.2⟩)⟩
                     have n3_ : Aside0 (((w51.setCell ⟨gb790, 0, none⟩ (.int .i64 ((rd_T76 t777 x59_3).f0))).setCell ⟨gb790, 1, none⟩ (.int .i64 ((rd_T76 t777 x59_3).f1))).heap[gb776]? = some (.cells #[.slice A2_0 l2_0.length c2_0, .int .i64 a2_1] 26 (0, 0))) := ⟨by (with_reducible repeat (first | apply kdn | apply kdr | apply kal)); refine blk_far ?_ NB776_790.out _; (with_reducible repeat (first | apply kdn | apply kdr | apply kal)); refine blk_far ?_ NB776_790.out _; (with_reducible repeat (first | apply kdn | apply kdr | apply kal)); exact BK776.out⟩
                     have n4_ : Aside0 (((w51.setCell ⟨gb790, 0, none⟩ (.int .i64 ((rd_T76 t777 x59_3).f0))).setCell ⟨gb790, 1, none⟩ (.int .i64 ((rd_T76 t777 x59_3).f1))).heap[gb782]? = some (.cells #[.int .i64 ((rd_T76 t777 x26_1).f0), .int .i64 ((rd_T76 t777 x26_1).f1)] 76 (0, 0))) := ⟨by (with_reducible repeat (first | apply kdn | apply kdr | apply kal)); refine blk_far ?_ NB782_790.out _; (with_reducible repeat (first | apply kdn | apply kdr | apply kal)); refine blk_far ?_ NB782_790.out _; (with_reducible repeat (first | apply kdn | apply kdr | apply kal)); exact BK782.out⟩
                     have n5_ : Aside0 (((w51.setCell ⟨gb790, 0, none⟩ (.int .i64 ((rd_T76 t777 x59_3).f0))).setCell ⟨gb790, 1, none⟩ (.int .i64 ((rd_T76 t777 x59_3).f1))).heap[gb790]? = some (.cells #[.int .i64 ((rd_T76 t777 x59_3).f0), .int .i64 ((rd_T76 t777 x59_3).f1)] 76 (0, 0))) := ⟨by (with_reducible repeat (first | apply kdn | apply kdr | apply kal)); refine blk_put (cs := #[.int .i64 ((rd_T76 t777 x59_3).f0), .int .i64 0]) ?_ 1 _ rfl; (with_reducible repeat (first | apply kdn | apply kdr | apply kal)); refine blk_put (cs := #[.int .i64 0, .int .i64 0]) ?_ 0 _ rfl; (with_reducible repeat (first | apply kdn | apply kdr | apply kal)); exact BK790.out⟩
                     have n6_ : Aside0 (Below w.heap.size w ((w51.setCell ⟨gb790, 0, none⟩ (.int .i64 ((rd_T76 t777 x59_3).f0))).setCell ⟨gb790, 1, none⟩ (.int .i64 ((rd_T76 t777 x59_3).f1)))) := ⟨by repeat (first | (with_reducible first | exact HB.out | apply lal | apply ldn | apply ldr | refine below_set ?_ GE776.out | refine below_set ?_ GE782.out | refine below_set ?_ GE790.out) | exact HB.out)⟩
                     (try clear HO_8)
                     (try clear HO_24)
                     (try clear HO_57)
                     (try clear BK776)
                     (try clear BK782)
                     (try clear BK790)
                     (try clear HB)
                     generalize ((w51.setCell ⟨gb790, 0, none⟩ (.int .i64 ((rd_T76 t777 x59_3).f0))).setCell ⟨gb790, 1, none⟩ (.int .i64 ((rd_T76 t777 x59_3).f1))) = w55 at n0_ n1_ n2_ n3_ n4_ n5_ n6_ ⊢
                     have HO_8 := n0_
                     have HO_24 := n1_
                     have HO_57 := n2_
                     have BK776 := n3_
                     have BK782 := n4_
                     have BK790 := n5_
                     have HB := n6_
                     clear n0_ n1_ n2_ n3_ n4_ n5_ n6_
                     have n0_ := Aside0.mk (Kd.R_drew HO_8.out)
                     have n1_ := Aside0.mk (Kd.R_drew HO_24.out)
                     have n2_ := Aside0.mk (Kd.R_drew HO_57.out)
                     have n3_ := Aside0.mk (blk_drew BK776.out)
                     have n4_ := Aside0.mk (blk_drew BK782.out)
                     have n5_ := Aside0.mk (blk_drew BK790.out)
                     have n6_ := Aside0.mk (below_drew1 HB.out)
                     clear HO_8
                     clear HO_24
                     clear HO_57
                     clear BK776
                     clear BK782
                     clear BK790
                     clear HB
                     have HO_8 := n0_
                     have HO_24 := n1_
                     have HO_57 := n2_
                     have BK776 := n3_
                     have BK782 := n4_
                     have BK790 := n5_
                     have HB := n6_
                     clear n0_ n1_ n2_ n3_ n4_ n5_ n6_
                     have p791 : 0 ≤ (x26_1 : Int) := of_decide_eq_true (by first | (with_reducible assumption) | assumption)
                     have q791 : x26_1 < (l2_0.length : Int) := of_decide_eq_true (by first | (with_reducible assumption) | assumption)
                     obtain ⟨ad791, e791, hx791_0⟩ := Kd.at_int HR2_0.out x26_1 p791 q791
                     have hw791_0 := hx791_0
                     cases e791
                     replace hx791_0 := (HB.out.cell (World.block_lt_of_cell? w _ hx791_0)).trans hx791_0
                     replace p791 := eq_true p791
                     replace q791 := eq_true q791
                     have p792 : 0 ≤ (x59_3 : Int) := of_decide_eq_true (by first | (with_reducible assumption) | assumption)
                     have q792 : x59_3 < (l2_0.length : Int) := of_decide_eq_true (by first | (with_reducible assumption) | assumption)
                     obtain ⟨ad792, e792, hx792_0⟩ := Kd.at_int HR2_0.out x59_3 p792 q792
                     have hw792_0 := hx792_0
                     obtain rfl : ad791 = ad792 := (by injection e792)
                     replace hx792_0 := (HB.out.cell (World.block_lt_of_cell? w _ hx792_0)).trans hx792_0
                     replace p792 := eq_true p792
                     replace q792 := eq_true q792
                     refine start_ (n := 21) (S := fun w' => w'.cell? ⟨gb776, 0, none⟩ = some (.slice (some ad791) l2_0.length c2_0) ∧ w'.cell? ⟨gb776, 1, none⟩ = some (.int .i64 a2_1) ∧ w'.cell? ⟨gb790, 0, none⟩ = some (.int .i64 ((rd_T76 t777 x59_3).f0)) ∧ w'.cell? ⟨gb790, 1, none⟩ = some (.int .i64 ((rd_T76 t777 x59_3).f1)) ∧ w'.cell? ⟨gb782, 0, none⟩ = some (.int .i64 ((rd_T76 t777 x26_1).f0)) ∧ w'.cell? ⟨gb782, 1, none⟩ = some (.int .i64 ((rd_T76 t777 x26_1).f1)) ∧ w'.cell? (ad791.add (x26_1).toNat) = some (.int .i64 (rd l2_0 x26_1)) ∧ w'.cell? (ad791.add (x59_3).toNat) = some (.int .i64 (rd l2_0 x59_3))) (ds := []) #[false, false, false, false, false, false, false, false, false, false, false, false, false, false, false, false, false, false, false, false, false] (by kernel_rfl) rfl rfl ⟨(blk_cell BK776.out 0).trans rfl, (blk_cell BK776.out 1).trans rfl, (blk_cell BK790.out 0).trans rfl, (blk_cell BK790.out 1).trans rfl, (blk_cell BK782.out 0).trans rfl, (blk_cell BK782.out 1).trans rfl, ((HB.out.cell (World.block_lt_of_cell? w _ hw791_0)).trans hw791_0), ((HB.out.cell (World.block_lt_of_cell? w _ hw792_0)).trans hw792_0)⟩ (fun hHeld => ?_); refine with_tabW share_Efficient.tab12 share_Efficient.bits12 (fun HT_ HW_ => ?_)
                     generalize w55.drew = w56 at HO_8 HO_24 HO_57 BK776 BK782 BK790 HB hx791_0 hx792_0 hHeld ⊢
                     refine pure_ (i := 0) (N := some 64) (v := ?_) (a' := ?_) #[true, false, false, false, false, false, false, false, false, false, false, false, false, false, false, false, false, false, false, false, false] rfl rfl (any_of HT_.out (by kernel_rfl)) (fun _ _ _ h => h) (Or.inl ⟨by rfl, ?_⟩) ?_ ?_
                     rotate_left
                     ·intro w'
                      go_simp
                      with_reducible rfl
                     rotate_left
                     ·simp only [Act.put, sia, sc0, scs, i64_w, i32_w]
                      rfl
                     refine pure_ (i := 2) (N := some 66) (v := ?_) (a' := ?_) #[true, false, true, false, false, false, false, false, false, false, false, false, false, false, false, false, false, false, false, false, false] rfl rfl (any_of HT_.out (by kernel_rfl)) (fun _ _ _ h => h) (Or.inl ⟨by rfl, ?_⟩) ?_ ?_
                     rotate_left
                     ·intro w'
                      go_simp
                      with_reducible rfl
                     rotate_left
                     ·simp only [Act.put, sia, sc0, scs, i64_w, i32_w]
                      rfl
                     refine take_ (i := 1) (N := some 65) (v := ?_) (a' := ?_) #[true, true, true, false, false, false, false, false, false, false, false, false, false, false, false, false, false, false, false, false, false] rfl rfl (take_ofW HT_.out HW_.out (by kernel_rfl)) (fun _ _ _ h => h) (Or.inl ⟨by rfl, ?_⟩) hHeld ?_ ?_
                     rotate_left
                     ·rintro w' ⟨s0, s1, s2, s3, s4, s5, s6, s7⟩
                      go_simp
                      with_reducible rfl
                     rotate_left
                     ·simp only [Act.put, sia, sc0, scs, i64_w, i32_w]
                      rfl
                     refine pure_ (i := 3) (N := some 67) (v := ?_) (a' := ?_) #[true, true, true, true, false, false, false, false, false, false, false, false, false, false, false, false, false, false, false, false, false] rfl rfl (any_of HT_.out (by kernel_rfl)) (fun _ _ _ h => h) (Or.inl ⟨by rfl, ?_⟩) ?_ ?_
                     rotate_left
                     ·intro w'
                      go_simp
                      with_reducible rfl
                     rotate_left
                     ·simp only [Act.put, sia, sc0, scs, i64_w, i32_w]
                      rfl
                     refine take_ (i := 4) (N := some 68) (v := ?_) (a' := ?_) #[true, true, true, true, true, false, false, false, false, false, false, false, false, false, false, false, false, false, false, false, false] rfl rfl (take_ofW HT_.out HW_.out (by kernel_rfl)) (fun _ _ _ h => h) (Or.inl ⟨by rfl, ?_⟩) hHeld ?_ ?_
                     rotate_left
                     ·rintro w' ⟨s0, s1, s2, s3, s4, s5, s6, s7⟩
                      go_simp
                      with_reducible rfl
                     rotate_left
                     ·simp only [Act.put, sia, sc0, scs, i64_w, i32_w]
                      rfl
                     refine pure_ (i := 5) (N := some 69) (v := ?_) (a' := ?_) #[true, true, true, true, true, true, false, false, false, false, false, false, false, false, false, false, false, false, false, false, false] rfl rfl (any_of HT_.out (by kernel_rfl)) (fun _ _ _ h => h) (Or.inl ⟨by rfl, ?_⟩) ?_ ?_
                     rotate_left
                     ·intro w'
                      go_simp
                      with_reducible rfl
                     rotate_left
                     ·simp only [Act.put, sia, sc0, scs, i64_w, i32_w]
                      rfl
                     refine pure_ (i := 6) (N := some 70) (v := ?_) (a' := ?_) #[true, true, true, true, true, true, true, false, false, false, false, false, false, false, false, false, false, false, false, false, false] rfl rfl (any_of HT_.out (by kernel_rfl)) (fun _ _ _ h => h) (Or.inl ⟨by rfl, ?_⟩) ?_ ?_
                     rotate_left
                     ·intro w'
                      go_simp
                      with_reducible rfl
                     rotate_left
                     ·simp only [Act.put, sia, sc0, scs, i64_w, i32_w]
                      rfl
                     refine pure_ (i := 7) (N := some 71) (v := ?_) (a' := ?_) #[true, true, true, true, true, true, true, true, false, false, false, false, false, false, false, false, false, false, false, false, false] rfl rfl (any_of HT_.out (by kernel_rfl)) (fun _ _ _ h => h) (Or.inl ⟨by rfl, ?_⟩) ?_ ?_
                     rotate_left
                     ·intro w'
                      go_simp
                      with_reducible rfl
                     rotate_left
                     ·simp only [Act.put, sia, sc0, scs, i64_w, i32_w]
                      rfl
                     refine pure_ (i := 9) (N := some 73) (v := ?_) (a' := ?_) #[true, true, true, true, true, true, true, true, false, true, false, false, false, false, false, false, false, false, false, false, false] rfl rfl (any_of HT_.out (by kernel_rfl)) (fun _ _ _ h => h) (Or.inl ⟨by rfl, ?_⟩) ?_ ?_
                     rotate_left
                     ·intro w'
                      go_simp
                      with_reducible rfl
                     rotate_left
                     ·simp only [Act.put, sia, sc0, scs, i64_w, i32_w]
                      rfl
                     refine pure_ (i := 12) (N := some 76) (v := ?_) (a' := ?_) #[true, true, true, true, true, true, true, true, false, true, false, false, true, false, false, false, false, false, false, false, false] rfl rfl (any_of HT_.out (by kernel_rfl)) (fun _ _ _ h => h) (Or.inl ⟨by rfl, ?_⟩) ?_ ?_
                     rotate_left
                     ·intro w'
                      go_simp
                      with_reducible rfl
                     rotate_left
                     ·simp only [Act.put, sia, sc0, scs, i64_w, i32_w]
                      rfl
                     refine take_ (i := 8) (N := some 72) (v := ?_) (a' := ?_) #[true, true, true, true, true, true, true, true, true, true, false, false, true, false, false, false, false, false, false, false, false] rfl rfl (take_ofW HT_.out HW_.out (by kernel_rfl)) (fun _ _ _ h => h) (Or.inl ⟨by rfl, ?_⟩) hHeld ?_ ?_
                     rotate_left
                     ·rintro w' ⟨s0, s1, s2, s3, s4, s5, s6, s7⟩
                      go_simp
                      with_reducible rfl
                     rotate_left
                     ·simp only [Act.put, sia, sc0, scs, i64_w, i32_w]
                      rfl
                     refine pure_ (i := 10) (N := some 74) (v := ?_) (a' := ?_) #[true, true, true, true, true, true, true, true, true, true, true, false, true, false, false, false, false, false, false, false, false] rfl rfl (any_of HT_.out (by kernel_rfl)) (fun _ _ _ h => h) (Or.inl ⟨by rfl, ?_⟩) ?_ ?_
                     rotate_left
                     ·intro w'
                      go_simp
                      with_reducible rfl
                     rotate_left
                     ·simp only [Act.put, sia, sc0, scs, i64_w, i32_w]
                      rfl
                     refine take_ (i := 11) (N := some 75) (v := ?_) (a' := ?_) #[true, true, true, true, true, true, true, true, true, true, true, true, true, false, false, false, false, false, false, false, false] rfl rfl (take_ofW HT_.out HW_.out (by kernel_rfl)) (fun _ _ _ h => h) (Or.inl ⟨by rfl, ?_⟩) hHeld ?_ ?_
                     rotate_left
                     ·rintro w' ⟨s0, s1, s2, s3, s4, s5, s6, s7⟩
                      go_simp
                      with_reducible rfl
                     rotate_left
                     ·simp only [Act.put, sia, sc0, scs, i64_w, i32_w]
                      rfl
                     refine take_ (i := 13) (N := some 77) (v := ?_) (a' := ?_) #[true, true, true, true, true, true, true, true, true, true, true, true, true, true, false, false, false, false, false, false, false] rfl rfl (take_ofW HT_.out HW_.out (by kernel_rfl)) (fun _ _ _ h => h) (Or.inl ⟨by rfl, ?_⟩) hHeld ?_ ?_
                     rotate_left
                     ·rintro w' ⟨s0, s1, s2, s3, s4, s5, s6, s7⟩
                      go_simp
                      with_reducible rfl
                     rotate_left
                     ·simp only [Act.put, sia, sc0, scs, i64_w, i32_w]
                      rfl
                     refine pure_ (i := 14) (N := some 78) (v := ?_) (a' := ?_) #[true, true, true, true, true, true, true, true, true, true, true, true, true, true, true, false, false, false, false, false, false] rfl rfl (any_of HT_.out (by kernel_rfl)) (fun _ _ _ h => h) (Or.inl ⟨by rfl, ?_⟩) ?_ ?_
                     rotate_left
                     ·intro w'
                      go_simp
                      with_reducible rfl
                     rotate_left
                     ·simp only [Act.put, sia, sc0, scs, i64_w, i32_w]
                      rfl
                     refine pure_ (i := 15) (N := some 79) (v := ?_) (a' := ?_) #[true, true, true, true, true, true, true, true, true, true, true, true, true, true, true, true, false, false, false, false, false] rfl rfl (any_of HT_.out (by kernel_rfl)) (fun _ _ _ h => h) (Or.inl ⟨by rfl, ?_⟩) ?_ ?_
                     rotate_left
                     ·intro w'
                      go_simp
                      with_reducible rfl
                     rotate_left
                     ·simp only [Act.put, sia, sc0, scs, i64_w, i32_w]
                      rfl
                     refine pure_ (i := 16) (N := some 80) (v := ?_) (a' := ?_) #[true, true, true, true, true, true, true, true, true, true, true, true, true, true, true, true, true, false, false, false, false] rfl rfl (any_of HT_.out (by kernel_rfl)) (fun _ _ _ h => h) (Or.inl ⟨by rfl, ?_⟩) ?_ ?_
                     rotate_left
                     ·intro w'
                      go_simp
                      with_reducible rfl
                     rotate_left
                     ·simp only [Act.put, sia, sc0, scs, i64_w, i32_w]
                      rfl
                     refine take_ (i := 17) (N := some 81) (v := ?_) (a' := ?_) #[true, true, true, true, true, true, true, true, true, true, true, true, true, true, true, true, true, true, false, false, false] rfl rfl (take_ofW HT_.out HW_.out (by kernel_rfl)) (fun _ _ _ h => h) (Or.inl ⟨by rfl, ?_⟩) hHeld ?_ ?_
                     rotate_left
                     ·rintro w' ⟨s0, s1, s2, s3, s4, s5, s6, s7⟩
                      go_simp
                      with_reducible rfl
                     rotate_left
                     ·simp only [Act.put, sia, sc0, scs, i64_w, i32_w]
                      rfl
                     refine take_ (i := 18) (N := some 82) (v := ?_) (a' := ?_) #[true, true, true, true, true, true, true, true, true, true, true, true, true, true, true, true, true, true, true, false, false] rfl rfl (take_ofW HT_.out HW_.out (by kernel_rfl)) (fun _ _ _ h => h) (Or.inl ⟨by rfl, ?_⟩) hHeld ?_ ?_
                     rotate_left
                     ·rintro w' ⟨s0, s1, s2, s3, s4, s5, s6, s7⟩
                      go_simp
                      with_reducible rfl
                     rotate_left
                     ·simp only [Act.put, sia, sc0, scs, i64_w, i32_w]
                      rfl
                     refine one_ (i := 19) (N := some 83) #[true, true, true, true, true, true, true, true, true, true, true, true, true, true, true, true, true, true, true, true, false] rfl rfl (one_of HT_.out (by kernel_rfl)) (by decide) (fun K hK => ?_)
                     refine goes_ Try.func69 (by kernel_rfl) rfl #[.agg #[.int .i64 ((rd_T76 t777 x59_3).f0), .int .i64 ((rd_T76 t777 x59_3).f1)], .agg #[.int .i64 ((rd_T76 t777 x26_1).f0), .int .i64 ((rd_T76 t777 x26_1).f1)]] (by rfl) rfl rfl (by (try simp only [List.map_toArray, List.map_cons, List.map_nil]); first | done | rfl | (simp only [List.length_drop, List.length_take]; rfl)) ?_
                     with_reducible refine (share_point_ahead.calls ((rd_T76 t777 x59_3).f0) ((rd_T76 t777 x59_3).f1) ((rd_T76 t777 x26_1).f0) ((rd_T76 t777 x26_1).f1) true _ A49.out).mono ?_
                     rintro e w57 ⟨rfl, hb⟩
                     refine ⟨_, rfl, ?_⟩
                     have n0_ := Aside0.mk (Kd.R_below (by (with_reducible repeat (first | apply Kd.R_alloc | apply Kd.R_drewN | apply Kd.R_drew)); exact HO_8.out) hb)
                     have n1_ := Aside0.mk (Kd.R_below (by (with_reducible repeat (first | apply Kd.R_alloc | apply Kd.R_drewN | apply Kd.R_drew)); exact HO_24.out) hb)
                     have n2_ := Aside0.mk (Kd.R_below (by (with_reducible repeat (first | apply Kd.R_alloc | apply Kd.R_drewN | apply Kd.R_drew)); exact HO_57.out) hb)
                     have n3_ := Aside0.mk (blk_below (g := gb776) (o := .cells #[.slice (some ad791) l2_0.length c2_0, .int .i64 a2_1] 26 (0, 0)) (by (with_reducible repeat (first | apply kdn | apply kdr | apply kal)); exact BK776.out) hb)
                     have n4_ := Aside0.mk (blk_below (g := gb782) (o := .cells #[.int .i64 ((rd_T76 t777 x26_1).f0), .int .i64 ((rd_T76 t777 x26_1).f1)] 76 (0, 0)) (by (with_reducible repeat (first | apply kdn | apply kdr | apply kal)); exact BK782.out) hb)
                     have n5_ := Aside0.mk (blk_below (g := gb790) (o := .cells #[.int .i64 ((rd_T76 t777 x59_3).f0), .int .i64 ((rd_T76 t777 x59_3).f1)] 76 (0, 0)) (by (with_reducible repeat (first | apply kdn | apply kdr | apply kal)); exact BK790.out) hb)
                     have n6_ := Aside0.mk (below_step (by repeat (first | (with_reducible first | exact HB.out | apply lal | apply ldn | apply ldr | refine below_set ?_ GE776.out | refine below_set ?_ GE782.out | refine below_set ?_ GE790.out) | exact HB.out)) hb)
                     clear HO_8
                     clear HO_24
                     clear HO_57
                     clear BK776
                     clear BK782
                     clear BK790
                     clear HB
                     have HO_8 := n0_
                     have HO_24 := n1_
                     have HO_57 := n2_
                     have BK776 := n3_
                     have BK782 := n4_
                     have BK790 := n5_
                     have HB := n6_
                     clear n0_ n1_ n2_ n3_ n4_ n5_ n6_
                     (try clear hb)
                     (try clear hb2)
                     (try clear hk)
                     (try clear hi)
                     refine hK.out _ _ ⟨(blk_cell BK776.out 0).trans rfl, (blk_cell BK776.out 1).trans rfl, (blk_cell BK790.out 0).trans rfl, (blk_cell BK790.out 1).trans rfl, (blk_cell BK782.out 0).trans rfl, (blk_cell BK782.out 1).trans rfl, ((HB.out.cell (World.block_lt_of_cell? w _ hw791_0)).trans hw791_0), ((HB.out.cell (World.block_lt_of_cell? w _ hw792_0)).trans hw792_0)⟩ (fun hHeld => ?_)
                     clear hK K
                     refine norm_ (a' := ?_) ?_ ?_
                     rotate_left
                     ·show Act.put _ (some 83) _ = _
                      simp only [Act.put, sia, sc0, scs, i64_w, i32_w]
                      rfl
                     refine pure_ (i := 20) (N := some 84) (v := ?_) (a' := ?_) #[true, true, true, true, true, true, true, true, true, true, true, true, true, true, true, true, true, true, true, true, true] rfl rfl (any_of HT_.out (by kernel_rfl)) (fun _ _ _ h => h) (Or.inl ⟨by rfl, ?_⟩) ?_ ?_
                     rotate_left
                     ·intro w'
                      go_simp
                      with_reducible rfl
                     rotate_left
                     ·simp only [Act.put, sia, sc0, scs, i64_w, i32_w]
                      rfl
                     refine done_ (done_of HT_.out (by kernel_rfl)) ?_
                     try go_wp2
                     go_ret2
                     exact ⟨by first | rfl | (simp [errW_none, errW_some] <;> rfl) | (simp [*, errW_none, errW_some] <;> rfl), by repeat (first | (with_reducible first | exact HB.out | apply lal | apply ldn | apply ldr | refine below_set ?_ GE776.out | refine below_set ?_ GE782.out | refine below_set ?_ GE790.out) | exact HB.out)⟩
                    ·replace c50 := Bool.eq_false_iff.mpr c50
                     subst c50
                     have H1 : (share_Efficient.l1 k3 t777 x26_1 t777 (t777.length : Int) x26_1 t777 (t777.length : Int) (wrap64 (x59_3 + 1)) l2_0 a2_1 ((rd_T76 t777 x26_1).f0) ((rd_T76 t777 x26_1).f1)) = some (r1, r2) := by rw [if_neg (show ¬ (false = true) by decide)] at H; exact H
                     clear H
                     have H := H1
                     clear H1
                     have H' := Aside0.mk H
                     clear H
                     have p789 : 0 ≤ (x59_3 : Int) := of_decide_eq_true (by first | (with_reducible assumption) | assumption)
                     have q789 : x59_3 < (t777.length : Int) := of_decide_eq_true (by first | (with_reducible assumption) | assumption)
                     obtain ⟨ad789, e789, hx789_0, hx789_1⟩ := at_T76 (Kd.R_reads' HO_57.out).2.2 x59_3 p789 q789
                     obtain rfl : ad781 = ad789 := (by injection e789)
                     replace p789 := eq_true p789
                     replace q789 := eq_true q789
                     try go_wp2_with (first | ((with_reducible refine gate_dst (N := 13) rfl ?_); refine box_event ?hg (N := 13) ?hd (cs := #[.int .i64 0, .int .i64 0]) (t := 76) ?hr ?_; (case hd => rfl); (case hg => rfl); (case hr => first | (go_simp; done) | (go_simp; rfl)); intro gb790 hg w58 hbox hb; have n0_ := Aside0.mk (Kd.R_below (Kd.R_elderB (by (with_reducible repeat (first | apply Kd.R_alloc | apply Kd.R_drewN | apply Kd.R_drew)); exact HO_8.out) gb790 (Nat.le_of_eq hg.symm)) hb); have n1_ := Aside0.mk (Kd.R_below (Kd.R_elderB (by (with_reducible repeat (first | apply Kd.R_alloc | apply Kd.R_drewN | apply Kd.R_drew)); exact HO_24.out) gb790 (Nat.le_of_eq hg.symm)) hb); have n2_ := Aside0.mk (Kd.R_below (Kd.R_elderB (by (with_reducible repeat (first | apply Kd.R_alloc | apply Kd.R_drewN | apply Kd.R_drew)); exact HO_57.out) gb790 (Nat.le_of_eq hg.symm)) hb); have n3_ := Aside0.mk (blk_below (g := gb776) (o := .cells #[.slice A2_0 l2_0.length c2_0, .int .i64 a2_1] 26 (0, 0)) (by (with_reducible repeat (first | apply kdn | apply kdr | apply kal)); exact BK776.out) hb); have n4_ := Aside0.mk (blk_below (g := gb782) (o := .cells #[.int .i64 ((rd_T76 t777 x26_1).f0), .int .i64 ((rd_T76 t777 x26_1).f1)] 76 (0, 0)) (by (with_reducible repeat (first | apply kdn | apply kdr | apply kal)); exact BK782.out) hb); have n5_ := Aside0.mk (below_step (by repeat (first | (with_reducible first | exact HB.out | apply lal | apply ldn | apply ldr | refine below_set ?_ GE776.out | refine below_set ?_ GE782.out) | exact HB.out)) hb); have n6_ := Aside0.mk (hbox); have n7_ := Aside0.mk ((by rw [hg]; exact (below_size (by repeat (first | (with_reducible first | exact HB.out | apply lal | apply ldn | apply ldr | refine below_set ?_ GE776.out | refine below_set ?_ GE782.out) | exact HB.out))) : w.heap.size ≤ gb790)); have n8_ := Aside0.mk ((by rw [hg]; exact (below_size (by repeat (first | (with_reducible first | exact HB.out | apply lal | apply ldn | apply ldr | refine below_set ?_ GE776.out | refine below_set ?_ GE782.out) | exact HB.out))) : w.heap.size ≤ gb790)); have n9_ := Aside0.mk ((by rw [hg]; exact Nat.ne_of_lt (blk_lt (g := gb776) (o := .cells #[.slice A2_0 l2_0.length c2_0, .int .i64 a2_1] 26 (0, 0)) (by (with_reducible repeat (first | apply kdn | apply kdr | apply kal)); exact BK776.out)) : gb776 ≠ gb790)); have n10_ := Aside0.mk ((by rw [hg]; exact Nat.ne_of_gt (blk_lt (g := gb776) (o := .cells #[.slice A2_0 l2_0.length c2_0, .int .i64 a2_1] 26 (0, 0)) (by (with_reducible repeat (first | apply kdn | apply kdr | apply kal)); exact BK776.out)) : gb790 ≠ gb776)); have n11_ := Aside0.mk ((by rw [hg]; exact Nat.ne_of_lt (blk_lt (g := gb782) (o := .cells #[.int .i64 ((rd_T76 t777 x26_1).f0), .int .i64 ((rd_T76 t777 x26_1).f1)] 76 (0, 0)) (by (with_reducible repeat (first | apply kdn | apply kdr | apply kal)); exact BK782.out)) : gb782 ≠ gb790)); have n12_ := Aside0.mk ((by rw [hg]; exact Nat.ne_of_gt (blk_lt (g := gb782) (o := .cells #[.int .i64 ((rd_T76 t777 x26_1).f0), .int .i64 ((rd_T76 t777 x26_1).f1)] 76 (0, 0)) (by (with_reducible repeat (first | apply kdn | apply kdr | apply kal)); exact BK782.out)) : gb790 ≠ gb782)); clear HO_8; clear HO_24; clear HO_57; clear BK776; clear BK782; clear HB; have HO_8 := n0_; have HO_24 := n1_; have HO_57 := n2_; have BK776 := n3_; have BK782 := n4_; have HB := n5_; have BK790 := n6_; have GW790 := n7_; have GE790 := n8_; have NB776_790 := n9_; have NB790_776 := n10_; have NB782_790 := n11_; have NB790_782 := n12_; clear n0_ n1_ n2_ n3_ n4_ n5_ n6_ n7_ n8_ n9_ n10_ n11_ n12_; clear hb hbox hg; have hnb59 := NB790_776.out; have hnc59 := NB776_790.out; have hnb60 := NB790_782.out; have hnc60 := NB782_790.out; have hcz61_0 : w58.cell? ⟨gb790, 0, none⟩ = some (.int .i64 0) := (blk_cell BK790.out 0).trans rfl; have hcz61_1 : w58.cell? ⟨gb790, 1, none⟩ = some (.int .i64 0) := (blk_cell BK790.out 1).trans rfl; have hfz61_0 := blk_frozen BK790.out 0; have hfz61_1 := blk_frozen BK790.out 1))
                     have n0_ : Aside0 (Kd.R k76 76 ((w58.setCell ⟨gb790, 0, none⟩ (.int .i64 ((rd_T76 t777 x59_3).f0))).setCell ⟨gb790, 1, none⟩ (.int .i64 ((rd_T76 t777 x59_3).f1))) w.heap.size (fun k_ => k_ ≠ gb782 ∧ k_ ≠ gb790) (.slice (some ad781) t777.length co9) t777) := ⟨by (with_reducible repeat (first | apply Kd.R_alloc | apply Kd.R_drewN | apply Kd.R_drew)); exact Kd.R_mono (Kd.R_far (p := ⟨gb790, 1, none⟩) (Kd.R_far (p := ⟨gb790, 0, none⟩) (Kd.R_mono HO_8.out (fun k_ hk => (⟨hk, hk.2⟩ : _ ∧ k_ ≠ gb790))) (fun _ hk => hk.2) (.int .i64 ((rd_T76 t777 x59_3).f0))) (fun _ hk => hk.2) (.int .i64 ((rd_T76 t777 x59_3).f1))) (fun _ hk => ⟨hk.1.1, hk.1.2⟩)⟩
                     have n1_ : Aside0 (Kd.R k76 76 ((w58.setCell ⟨gb790, 0, none⟩ (.int .i64 ((rd_T76 t777 x59_3).f0))).setCell ⟨gb790, 1, none⟩ (.int .i64 ((rd_T76 t777 x59_3).f1))) w.heap.size (fun k_ => k_ ≠ gb782 ∧ k_ ≠ gb790) (.slice (some ad781) t777.length co9) t777) := ⟨by (with_reducible repeat (first | apply Kd.R_alloc | apply Kd.R_drewN | apply Kd.R_drew)); exact Kd.R_mono (Kd.R_far (p := ⟨gb790, 1, none⟩) (Kd.R_far (p := ⟨gb790, 0, none⟩) (Kd.R_mono HO_24.out (fun k_ hk => (⟨hk, hk.2⟩ : _ ∧ k_ ≠ gb790))) (fun _ hk => hk.2) (.int .i64 ((rd_T76 t777 x59_3).f0))) (fun _ hk => hk.2) (.int .i64 ((rd_T76 t777 x59_3).f1))) (fun _ hk => ⟨hk.1.1, hk.1.2⟩)⟩
                     have n2_ : Aside0 (Kd.R k76 76 ((w58.setCell ⟨gb790, 0, none⟩ (.int .i64 ((rd_T76 t777 x59_3).f0))).setCell ⟨gb790, 1, none⟩ (.int .i64 ((rd_T76 t777 x59_3).f1))) w.heap.size (fun k_ => k_ ≠ gb782 ∧ k_ ≠ gb790) (.slice (some ad781) t777.length co9) t777) := ⟨by (with_reducible repeat (first | apply Kd.R_alloc | apply Kd.R_drewN | apply Kd.R_drew)); exact Kd.R_mono (Kd.R_far (p := ⟨gb790, 1, none⟩) (Kd.R_far (p := ⟨gb790, 0, none⟩) (Kd.R_mono HO_57.out (fun k_ hk => (⟨hk, hk.2⟩ : _ ∧ k_ ≠ gb790))) (fun _ hk => hk.2) (.int .i64 ((rd_T76 t777 x59_3).f0))) (fun _ hk => hk.2) (.int .i64 ((rd_T76 t777 x59_3).f1))) (fun _ hk => ⟨hk.1.1, hk.1.2⟩)⟩
                     have n3_ : Aside0 (((w58.setCell ⟨gb790, 0, none⟩ (.int .i64 ((rd_T76 t777 x59_3).f0))).setCell ⟨gb790, 1, none⟩ (.int .i64 ((rd_T76 t777 x59_3).f1))).heap[gb776]? = some (.cells #[.slice A2_0 l2_0.length c2_0, .int .i64 a2_1] 26 (0, 0))) := ⟨by (with_reducible repeat (first | apply kdn | apply kdr | apply kal)); refine blk_far ?_ NB776_790.out _; (with_reducible repeat (first | apply kdn | apply kdr | apply kal)); refine blk_far ?_ NB776_790.out _; (with_reducible repeat (first | apply kdn | apply kdr | apply kal)); exact BK776.out⟩
                     have n4_ : Aside0 (((w58.setCell ⟨gb790, 0, none⟩ (.int .i64 ((rd_T76 t777 x59_3).f0))).setCell ⟨gb790, 1, none⟩ (.int .i64 ((rd_T76 t777 x59_3).f1))).heap[gb782]? = some (.cells #[.int .i64 ((rd_T76 t777 x26_1).f0), .int .i64 ((rd_T76 t777 x26_1).f1)] 76 (0, 0))) := ⟨by (with_reducible repeat (first | apply kdn | apply kdr | apply kal)); refine blk_far ?_ NB782_790.out _; (with_reducible repeat (first | apply kdn | apply kdr | apply kal)); refine blk_far ?_ NB782_790.out _; (with_reducible repeat (first | apply kdn | apply kdr | apply kal)); exact BK782.out⟩
                     have n5_ : Aside0 (((w58.setCell ⟨gb790, 0, none⟩ (.int .i64 ((rd_T76 t777 x59_3).f0))).setCell ⟨gb790, 1, none⟩ (.int .i64 ((rd_T76 t777 x59_3).f1))).heap[gb790]? = some (.cells #[.int .i64 ((rd_T76 t777 x59_3).f0), .int .i64 ((rd_T76 t777 x59_3).f1)] 76 (0, 0))) := ⟨by (with_reducible repeat (first | apply kdn | apply kdr | apply kal)); refine blk_put (cs := #[.int .i64 ((rd_T76 t777 x59_3).f0), .int .i64 0]) ?_ 1 _ rfl; (with_reducible repeat (first | apply kdn | apply kdr | apply kal)); refine blk_put (cs := #[.int .i64 0, .int .i64 0]) ?_ 0 _ rfl; (with_reducible repeat (first | apply kdn | apply kdr | apply kal)); exact BK790.out⟩
                     have n6_ : Aside0 (Below w.heap.size w ((w58.setCell ⟨gb790, 0, none⟩ (.int .i64 ((rd_T76 t777 x59_3).f0))).setCell ⟨gb790, 1, none⟩ (.int .i64 ((rd_T76 t777 x59_3).f1)))) := ⟨by repeat (first | (with_reducible first | exact HB.out | apply lal | apply ldn | apply ldr | refine below_set ?_ GE776.out | refine below_set ?_ GE782.out | refine below_set ?_ GE790.out) | exact HB.out)⟩
                     (try clear HO_8)
                     (try clear HO_24)
                     (try clear HO_57)
                     (try clear BK776)
                     (try clear BK782)
                     (try clear BK790)
                     (try clear HB)
                     generalize ((w58.setCell ⟨gb790, 0, none⟩ (.int .i64 ((rd_T76 t777 x59_3).f0))).setCell ⟨gb790, 1, none⟩ (.int .i64 ((rd_T76 t777 x59_3).f1))) = w62 at n0_ n1_ n2_ n3_ n4_ n5_ n6_ ⊢
                     have HO_8 := n0_
                     have HO_24 := n1_
                     have HO_57 := n2_
                     have BK776 := n3_
                     have BK782 := n4_
                     have BK790 := n5_
                     have HB := n6_
                     clear n0_ n1_ n2_ n3_ n4_ n5_ n6_
                     have n0_ := Aside0.mk (Kd.R_drew HO_8.out)
                     have n1_ := Aside0.mk (Kd.R_drew HO_24.out)
                     have n2_ := Aside0.mk (Kd.R_drew HO_57.out)
                     have n3_ := Aside0.mk (blk_drew BK776.out)
                     have n4_ := Aside0.mk (blk_drew BK782.out)
                     have n5_ := Aside0.mk (blk_drew BK790.out)
                     have n6_ := Aside0.mk (below_drew1 HB.out)
                     clear HO_8
                     clear HO_24
                     clear HO_57
                     clear BK776
                     clear BK782
                     clear BK790
                     clear HB
                     have HO_8 := n0_
                     have HO_24 := n1_
                     have HO_57 := n2_
                     have BK776 := n3_
                     have BK782 := n4_
                     have BK790 := n5_
                     have HB := n6_
                     clear n0_ n1_ n2_ n3_ n4_ n5_ n6_
                     have p791 : 0 ≤ (x26_1 : Int) := of_decide_eq_true (by first | (with_reducible assumption) | assumption)
                     have q791 : x26_1 < (l2_0.length : Int) := of_decide_eq_true (by first | (with_reducible assumption) | assumption)
                     obtain ⟨ad791, e791, hx791_0⟩ := Kd.at_int HR2_0.out x26_1 p791 q791
                     have hw791_0 := hx791_0
                     cases e791
                     replace hx791_0 := (HB.out.cell (World.block_lt_of_cell? w _ hx791_0)).trans hx791_0
                     replace p791 := eq_true p791
                     replace q791 := eq_true q791
                     have p792 : 0 ≤ (x59_3 : Int) := of_decide_eq_true (by first | (with_reducible assumption) | assumption)
                     have q792 : x59_3 < (l2_0.length : Int) := of_decide_eq_true (by first | (with_reducible assumption) | assumption)
                     obtain ⟨ad792, e792, hx792_0⟩ := Kd.at_int HR2_0.out x59_3 p792 q792
                     have hw792_0 := hx792_0
                     obtain rfl : ad791 = ad792 := (by injection e792)
                     replace hx792_0 := (HB.out.cell (World.block_lt_of_cell? w _ hx792_0)).trans hx792_0
                     replace p792 := eq_true p792
                     replace q792 := eq_true q792
                     refine start_ (n := 21) (S := fun w' => w'.cell? ⟨gb776, 0, none⟩ = some (.slice (some ad791) l2_0.length c2_0) ∧ w'.cell? ⟨gb776, 1, none⟩ = some (.int .i64 a2_1) ∧ w'.cell? ⟨gb790, 0, none⟩ = some (.int .i64 ((rd_T76 t777 x59_3).f0)) ∧ w'.cell? ⟨gb790, 1, none⟩ = some (.int .i64 ((rd_T76 t777 x59_3).f1)) ∧ w'.cell? ⟨gb782, 0, none⟩ = some (.int .i64 ((rd_T76 t777 x26_1).f0)) ∧ w'.cell? ⟨gb782, 1, none⟩ = some (.int .i64 ((rd_T76 t777 x26_1).f1)) ∧ w'.cell? (ad791.add (x26_1).toNat) = some (.int .i64 (rd l2_0 x26_1)) ∧ w'.cell? (ad791.add (x59_3).toNat) = some (.int .i64 (rd l2_0 x59_3))) (ds := []) #[false, false, false, false, false, false, false, false, false, false, false, false, false, false, false, false, false, false, false, false, false] (by kernel_rfl) rfl rfl ⟨(blk_cell BK776.out 0).trans rfl, (blk_cell BK776.out 1).trans rfl, (blk_cell BK790.out 0).trans rfl, (blk_cell BK790.out 1).trans rfl, (blk_cell BK782.out 0).trans rfl, (blk_cell BK782.out 1).trans rfl, ((HB.out.cell (World.block_lt_of_cell? w _ hw791_0)).trans hw791_0), ((HB.out.cell (World.block_lt_of_cell? w _ hw792_0)).trans hw792_0)⟩ (fun hHeld => ?_); refine with_tabW share_Efficient.tab12 share_Efficient.bits12 (fun HT_ HW_ => ?_)
                     generalize w62.drew = w63 at HO_8 HO_24 HO_57 BK776 BK782 BK790 HB hx791_0 hx792_0 hHeld ⊢
                     refine pure_ (i := 0) (N := some 64) (v := ?_) (a' := ?_) #[true, false, false, false, false, false, false, false, false, false, false, false, false, false, false, false, false, false, false, false, false] rfl rfl (any_of HT_.out (by kernel_rfl)) (fun _ _ _ h => h) (Or.inl ⟨by rfl, ?_⟩) ?_ ?_
                     rotate_left
                     ·intro w'
                      go_simp
                      with_reducible rfl
                     rotate_left
                     ·simp only [Act.put, sia, sc0, scs, i64_w, i32_w]
                      rfl
                     refine pure_ (i := 2) (N := some 66) (v := ?_) (a' := ?_) #[true, false, true, false, false, false, false, false, false, false, false, false, false, false, false, false, false, false, false, false, false] rfl rfl (any_of HT_.out (by kernel_rfl)) (fun _ _ _ h => h) (Or.inl ⟨by rfl, ?_⟩) ?_ ?_
                     rotate_left
                     ·intro w'
                      go_simp
                      with_reducible rfl
                     rotate_left
                     ·simp only [Act.put, sia, sc0, scs, i64_w, i32_w]
                      rfl
                     refine take_ (i := 1) (N := some 65) (v := ?_) (a' := ?_) #[true, true, true, false, false, false, false, false, false, false, false, false, false, false, false, false, false, false, false, false, false] rfl rfl (take_ofW HT_.out HW_.out (by kernel_rfl)) (fun _ _ _ h => h) (Or.inl ⟨by rfl, ?_⟩) hHeld ?_ ?_
                     rotate_left
                     ·rintro w' ⟨s0, s1, s2, s3, s4, s5, s6, s7⟩
                      go_simp
                      with_reducible rfl
                     rotate_left
                     ·simp only [Act.put, sia, sc0, scs, i64_w, i32_w]
                      rfl
                     refine pure_ (i := 3) (N := some 67) (v := ?_) (a' := ?_) #[true, true, true, true, false, false, false, false, false, false, false, false, false, false, false, false, false, false, false, false, false] rfl rfl (any_of HT_.out (by kernel_rfl)) (fun _ _ _ h => h) (Or.inl ⟨by rfl, ?_⟩) ?_ ?_
                     rotate_left
                     ·intro w'
                      go_simp
                      with_reducible rfl
                     rotate_left
                     ·simp only [Act.put, sia, sc0, scs, i64_w, i32_w]
                      rfl
                     refine take_ (i := 4) (N := some 68) (v := ?_) (a' := ?_) #[true, true, true, true, true, false, false, false, false, false, false, false, false, false, false, false, false, false, false, false, false] rfl rfl (take_ofW HT_.out HW_.out (by kernel_rfl)) (fun _ _ _ h => h) (Or.inl ⟨by rfl, ?_⟩) hHeld ?_ ?_
                     rotate_left
                     ·rintro w' ⟨s0, s1, s2, s3, s4, s5, s6, s7⟩
                      go_simp
                      with_reducible rfl
                     rotate_left
                     ·simp only [Act.put, sia, sc0, scs, i64_w, i32_w]
                      rfl
                     refine pure_ (i := 5) (N := some 69) (v := ?_) (a' := ?_) #[true, true, true, true, true, true, false, false, false, false, false, false, false, false, false, false, false, false, false, false, false] rfl rfl (any_of HT_.out (by kernel_rfl)) (fun _ _ _ h => h) (Or.inl ⟨by rfl, ?_⟩) ?_ ?_
                     rotate_left
                     ·intro w'
                      go_simp
                      with_reducible rfl
                     rotate_left
                     ·simp only [Act.put, sia, sc0, scs, i64_w, i32_w]
                      rfl
                     refine pure_ (i := 6) (N := some 70) (v := ?_) (a' := ?_) #[true, true, true, true, true, true, true, false, false, false, false, false, false, false, false, false, false, false, false, false, false] rfl rfl (any_of HT_.out (by kernel_rfl)) (fun _ _ _ h => h) (Or.inl ⟨by rfl, ?_⟩) ?_ ?_
                     rotate_left
                     ·intro w'
                      go_simp
                      with_reducible rfl
                     rotate_left
                     ·simp only [Act.put, sia, sc0, scs, i64_w, i32_w]
                      rfl
                     refine pure_ (i := 7) (N := some 71) (v := ?_) (a' := ?_) #[true, true, true, true, true, true, true, true, false, false, false, false, false, false, false, false, false, false, false, false, false] rfl rfl (any_of HT_.out (by kernel_rfl)) (fun _ _ _ h => h) (Or.inl ⟨by rfl, ?_⟩) ?_ ?_
                     rotate_left
                     ·intro w'
                      go_simp
                      with_reducible rfl
                     rotate_left
                     ·simp only [Act.put, sia, sc0, scs, i64_w, i32_w]
                      rfl
                     refine pure_ (i := 9) (N := some 73) (v := ?_) (a' := ?_) #[true, true, true, true, true, true, true, true, false, true, false, false, false, false, false, false, false, false, false, false, false] rfl rfl (any_of HT_.out (by kernel_rfl)) (fun _ _ _ h => h) (Or.inl ⟨by rfl, ?_⟩) ?_ ?_
                     rotate_left
                     ·intro w'
                      go_simp
                      with_reducible rfl
                     rotate_left
                     ·simp only [Act.put, sia, sc0, scs, i64_w, i32_w]
                      rfl
                     refine pure_ (i := 12) (N := some 76) (v := ?_) (a' := ?_) #[true, true, true, true, true, true, true, true, false, true, false, false, true, false, false, false, false, false, false, false, false] rfl rfl (any_of HT_.out (by kernel_rfl)) (fun _ _ _ h => h) (Or.inl ⟨by rfl, ?_⟩) ?_ ?_
                     rotate_left
                     ·intro w'
                      go_simp
                      with_reducible rfl
                     rotate_left
                     ·simp only [Act.put, sia, sc0, scs, i64_w, i32_w]
                      rfl
                     refine take_ (i := 8) (N := some 72) (v := ?_) (a' := ?_) #[true, true, true, true, true, true, true, true, true, true, false, false, true, false, false, false, false, false, false, false, false] rfl rfl (take_ofW HT_.out HW_.out (by kernel_rfl)) (fun _ _ _ h => h) (Or.inl ⟨by rfl, ?_⟩) hHeld ?_ ?_
                     rotate_left
                     ·rintro w' ⟨s0, s1, s2, s3, s4, s5, s6, s7⟩
                      go_simp
                      with_reducible rfl
                     rotate_left
                     ·simp only [Act.put, sia, sc0, scs, i64_w, i32_w]
                      rfl
                     refine pure_ (i := 10) (N := some 74) (v := ?_) (a' := ?_) #[true, true, true, true, true, true, true, true, true, true, true, false, true, false, false, false, false, false, false, false, false] rfl rfl (any_of HT_.out (by kernel_rfl)) (fun _ _ _ h => h) (Or.inl ⟨by rfl, ?_⟩) ?_ ?_
                     rotate_left
                     ·intro w'
                      go_simp
                      with_reducible rfl
                     rotate_left
                     ·simp only [Act.put, sia, sc0, scs, i64_w, i32_w]
                      rfl
                     refine take_ (i := 11) (N := some 75) (v := ?_) (a' := ?_) #[true, true, true, true, true, true, true, true, true, true, true, true, true, false, false, false, false, false, false, false, false] rfl rfl (take_ofW HT_.out HW_.out (by kernel_rfl)) (fun _ _ _ h => h) (Or.inl ⟨by rfl, ?_⟩) hHeld ?_ ?_
                     rotate_left
                     ·rintro w' ⟨s0, s1, s2, s3, s4, s5, s6, s7⟩
                      go_simp
                      with_reducible rfl
                     rotate_left
                     ·simp only [Act.put, sia, sc0, scs, i64_w, i32_w]
                      rfl
                     refine take_ (i := 13) (N := some 77) (v := ?_) (a' := ?_) #[true, true, true, true, true, true, true, true, true, true, true, true, true, true, false, false, false, false, false, false, false] rfl rfl (take_ofW HT_.out HW_.out (by kernel_rfl)) (fun _ _ _ h => h) (Or.inl ⟨by rfl, ?_⟩) hHeld ?_ ?_
                     rotate_left
                     ·rintro w' ⟨s0, s1, s2, s3, s4, s5, s6, s7⟩
                      go_simp
                      with_reducible rfl
                     rotate_left
                     ·simp only [Act.put, sia, sc0, scs, i64_w, i32_w]
                      rfl
                     refine pure_ (i := 14) (N := some 78) (v := ?_) (a' := ?_) #[true, true, true, true, true, true, true, true, true, true, true, true, true, true, true, false, false, false, false, false, false] rfl rfl (any_of HT_.out (by kernel_rfl)) (fun _ _ _ h => h) (Or.inl ⟨by rfl, ?_⟩) ?_ ?_
                     rotate_left
                     ·intro w'
                      go_simp
                      with_reducible rfl
                     rotate_left
                     ·simp only [Act.put, sia, sc0, scs, i64_w, i32_w]
                      rfl
                     refine pure_ (i := 15) (N := some 79) (v := ?_) (a' := ?_) #[true, true, true, true, true, true, true, true, true, true, true, true, true, true, true, true, false, false, false, false, false] rfl rfl (any_of HT_.out (by kernel_rfl)) (fun _ _ _ h => h) (Or.inl ⟨by rfl, ?_⟩) ?_ ?_
                     rotate_left
                     ·intro w'
                      go_simp
                      with_reducible rfl
                     rotate_left
                     ·simp only [Act.put, sia, sc0, scs, i64_w, i32_w]
                      rfl
                     refine pure_ (i := 16) (N := some 80) (v := ?_) (a' := ?_) #[true, true, true, true, true, true, true, true, true, true, true, true, true, true, true, true, true, false, false, false, false] rfl rfl (any_of HT_.out (by kernel_rfl)) (fun _ _ _ h => h) (Or.inl ⟨by rfl, ?_⟩) ?_ ?_
                     rotate_left
                     ·intro w'
                      go_simp
                      with_reducible rfl
                     rotate_left
                     ·simp only [Act.put, sia, sc0, scs, i64_w, i32_w]
                      rfl
                     refine take_ (i := 17) (N := some 81) (v := ?_) (a' := ?_) #[true, true, true, true, true, true, true, true, true, true, true, true, true, true, true, true, true, true, false, false, false] rfl rfl (take_ofW HT_.out HW_.out (by kernel_rfl)) (fun _ _ _ h => h) (Or.inl ⟨by rfl, ?_⟩) hHeld ?_ ?_
                     rotate_left
                     ·rintro w' ⟨s0, s1, s2, s3, s4, s5, s6, s7⟩
                      go_simp
                      with_reducible rfl
                     rotate_left
                     ·simp only [Act.put, sia, sc0, scs, i64_w, i32_w]
                      rfl
                     refine take_ (i := 18) (N := some 82) (v := ?_) (a' := ?_) #[true, true, true, true, true, true, true, true, true, true, true, true, true, true, true, true, true, true, true, false, false] rfl rfl (take_ofW HT_.out HW_.out (by kernel_rfl)) (fun _ _ _ h => h) (Or.inl ⟨by rfl, ?_⟩) hHeld ?_ ?_
                     rotate_left
                     ·rintro w' ⟨s0, s1, s2, s3, s4, s5, s6, s7⟩
                      go_simp
                      with_reducible rfl
                     rotate_left
                     ·simp only [Act.put, sia, sc0, scs, i64_w, i32_w]
                      rfl
                     refine one_ (i := 19) (N := some 83) #[true, true, true, true, true, true, true, true, true, true, true, true, true, true, true, true, true, true, true, true, false] rfl rfl (one_of HT_.out (by kernel_rfl)) (by decide) (fun K hK => ?_)
                     refine goes_ Try.func69 (by kernel_rfl) rfl #[.agg #[.int .i64 ((rd_T76 t777 x59_3).f0), .int .i64 ((rd_T76 t777 x59_3).f1)], .agg #[.int .i64 ((rd_T76 t777 x26_1).f0), .int .i64 ((rd_T76 t777 x26_1).f1)]] (by rfl) rfl rfl (by (try simp only [List.map_toArray, List.map_cons, List.map_nil]); first | done | rfl | (simp only [List.length_drop, List.length_take]; rfl)) ?_
                     with_reducible refine (share_point_ahead.calls ((rd_T76 t777 x59_3).f0) ((rd_T76 t777 x59_3).f1) ((rd_T76 t777 x26_1).f0) ((rd_T76 t777 x26_1).f1) false _ A49.out).mono ?_
                     rintro e w64 ⟨rfl, hb⟩
                     refine ⟨_, rfl, ?_⟩
                     have n0_ := Aside0.mk (Kd.R_below (by (with_reducible repeat (first | apply Kd.R_alloc | apply Kd.R_drewN | apply Kd.R_drew)); exact HO_8.out) hb)
                     have n1_ := Aside0.mk (Kd.R_below (by (with_reducible repeat (first | apply Kd.R_alloc | apply Kd.R_drewN | apply Kd.R_drew)); exact HO_24.out) hb)
                     have n2_ := Aside0.mk (Kd.R_below (by (with_reducible repeat (first | apply Kd.R_alloc | apply Kd.R_drewN | apply Kd.R_drew)); exact HO_57.out) hb)
                     have n3_ := Aside0.mk (blk_below (g := gb776) (o := .cells #[.slice (some ad791) l2_0.length c2_0, .int .i64 a2_1] 26 (0, 0)) (by (with_reducible repeat (first | apply kdn | apply kdr | apply kal)); exact BK776.out) hb)
                     have n4_ := Aside0.mk (blk_below (g := gb782) (o := .cells #[.int .i64 ((rd_T76 t777 x26_1).f0), .int .i64 ((rd_T76 t777 x26_1).f1)] 76 (0, 0)) (by (with_reducible repeat (first | apply kdn | apply kdr | apply kal)); exact BK782.out) hb)
                     have n5_ := Aside0.mk (blk_below (g := gb790) (o := .cells #[.int .i64 ((rd_T76 t777 x59_3).f0), .int .i64 ((rd_T76 t777 x59_3).f1)] 76 (0, 0)) (by (with_reducible repeat (first | apply kdn | apply kdr | apply kal)); exact BK790.out) hb)
                     have n6_ := Aside0.mk (below_step (by repeat (first | (with_reducible first | exact HB.out | apply lal | apply ldn | apply ldr | refine below_set ?_ GE776.out | refine below_set ?_ GE782.out | refine below_set ?_ GE790.out) | exact HB.out)) hb)
                     clear HO_8
                     clear HO_24
                     clear HO_57
                     clear BK776
                     clear BK782
                     clear BK790
                     clear HB
                     have HO_8 := n0_
                     have HO_24 := n1_
                     have HO_57 := n2_
                     have BK776 := n3_
                     have BK782 := n4_
                     have BK790 := n5_
                     have HB := n6_
                     clear n0_ n1_ n2_ n3_ n4_ n5_ n6_
                     (try clear hb)
                     (try clear hb2)
                     (try clear hk)
                     (try clear hi)
                     refine hK.out _ _ ⟨(blk_cell BK776.out 0).trans rfl, (blk_cell BK776.out 1).trans rfl, (blk_cell BK790.out 0).trans rfl, (blk_cell BK790.out 1).trans rfl, (blk_cell BK782.out 0).trans rfl, (blk_cell BK782.out 1).trans rfl, ((HB.out.cell (World.block_lt_of_cell? w _ hw791_0)).trans hw791_0), ((HB.out.cell (World.block_lt_of_cell? w _ hw792_0)).trans hw792_0)⟩ (fun hHeld => ?_)
                     clear hK K
                     refine norm_ (a' := ?_) ?_ ?_
                     rotate_left
                     ·show Act.put _ (some 83) _ = _
                      simp only [Act.put, sia, sc0, scs, i64_w, i32_w]
                      rfl
                     refine pure_ (i := 20) (N := some 84) (v := ?_) (a' := ?_) #[true, true, true, true, true, true, true, true, true, true, true, true, true, true, true, true, true, true, true, true, true] rfl rfl (any_of HT_.out (by kernel_rfl)) (fun _ _ _ h => h) (Or.inl ⟨by rfl, ?_⟩) ?_ ?_
                     rotate_left
                     ·intro w'
                      go_simp
                      with_reducible rfl
                     rotate_left
                     ·simp only [Act.put, sia, sc0, scs, i64_w, i32_w]
                      rfl
                     refine done_ (done_of HT_.out (by kernel_rfl)) ?_
                     try go_wp2
                     go_roundg k3
                     case measure => have := HK1.out; have := HJ12.out; have := HK3.out; omega
                     case rel => exact ⟨(wrap64 (x59_3 + 1)), (by first | rfl | (simp; done) | (simp [*]; done)), H', ⟨by have := HK1.out; have := HJ12.out; have := HK3.out; omega⟩, ⟨by (with_reducible repeat (first | apply Kd.R_alloc | apply Kd.R_drewN | apply Kd.R_drew)); exact Kd.R_mono HO_8.out (fun _ hk => hk.1)⟩, ⟨by (with_reducible repeat (first | apply Kd.R_alloc | apply Kd.R_drewN | apply Kd.R_drew)); exact Kd.R_mono HO_24.out (fun _ hk => hk.1)⟩, ⟨by (with_reducible repeat (first | apply Kd.R_alloc | apply Kd.R_drewN | apply Kd.R_drew)); exact Kd.R_mono HO_57.out (fun _ hk => hk.1)⟩, ⟨by (with_reducible repeat (first | apply kdn | apply kdr | apply kal)); exact BK776.out⟩, ⟨by (with_reducible repeat (first | apply kdn | apply kdr | apply kal)); exact BK782.out⟩, ⟨by repeat (first | (with_reducible first | exact HB.out | apply lal | apply ldn | apply ldr | refine below_set ?_ GE776.out | refine below_set ?_ GE782.out | refine below_set ?_ GE790.out) | exact HB.out)⟩⟩
                   ·rw [if_neg c48] at H
                    have c48b0 : decide ((rd l2_0 x59_3) < a2_1) = false := decide_eq_false c48
                    clear c48
                    have H' := Aside0.mk H
                    clear H
                    have p789 : 0 ≤ (x59_3 : Int) := of_decide_eq_true (by first | (with_reducible assumption) | assumption)
                    have q789 : x59_3 < (t777.length : Int) := of_decide_eq_true (by first | (with_reducible assumption) | assumption)
                    obtain ⟨ad789, e789, hx789_0, hx789_1⟩ := at_T76 (Kd.R_reads' HO_57.out).2.2 x59_3 p789 q789
                    obtain rfl : ad781 = ad789 := (by injection e789)
                    replace p789 := eq_true p789
                    replace q789 := eq_true q789
                    try go_wp2_with (first | ((with_reducible refine gate_dst (N := 13) rfl ?_); refine box_event ?hg (N := 13) ?hd (cs := #[.int .i64 0, .int .i64 0]) (t := 76) ?hr ?_; (case hd => rfl); (case hg => rfl); (case hr => first | (go_simp; done) | (go_simp; rfl)); intro gb790 hg w65 hbox hb; have n0_ := Aside0.mk (Kd.R_below (Kd.R_elderB (by (with_reducible repeat (first | apply Kd.R_alloc | apply Kd.R_drewN | apply Kd.R_drew)); exact HO_8.out) gb790 (Nat.le_of_eq hg.symm)) hb); have n1_ := Aside0.mk (Kd.R_below (Kd.R_elderB (by (with_reducible repeat (first | apply Kd.R_alloc | apply Kd.R_drewN | apply Kd.R_drew)); exact HO_24.out) gb790 (Nat.le_of_eq hg.symm)) hb); have n2_ := Aside0.mk (Kd.R_below (Kd.R_elderB (by (with_reducible repeat (first | apply Kd.R_alloc | apply Kd.R_drewN | apply Kd.R_drew)); exact HO_57.out) gb790 (Nat.le_of_eq hg.symm)) hb); have n3_ := Aside0.mk (blk_below (g := gb776) (o := .cells #[.slice A2_0 l2_0.length c2_0, .int .i64 a2_1] 26 (0, 0)) (by (with_reducible repeat (first | apply kdn | apply kdr | apply kal)); exact BK776.out) hb); have n4_ := Aside0.mk (blk_below (g := gb782) (o := .cells #[.int .i64 ((rd_T76 t777 x26_1).f0), .int .i64 ((rd_T76 t777 x26_1).f1)] 76 (0, 0)) (by (with_reducible repeat (first | apply kdn | apply kdr | apply kal)); exact BK782.out) hb); have n5_ := Aside0.mk (below_step (by repeat (first | (with_reducible first | exact HB.out | apply lal | apply ldn | apply ldr | refine below_set ?_ GE776.out | refine below_set ?_ GE782.out) | exact HB.out)) hb); have n6_ := Aside0.mk (hbox); have n7_ := Aside0.mk ((by rw [hg]; exact (below_size (by repeat (first | (with_reducible first | exact HB.out | apply lal | apply ldn | apply ldr | refine below_set ?_ GE776.out | refine below_set ?_ GE782.out) | exact HB.out))) : w.heap.size ≤ gb790)); have n8_ := Aside0.mk ((by rw [hg]; exact (below_size (by repeat (first | (with_reducible first | exact HB.out | apply lal | apply ldn | apply ldr | refine below_set ?_ GE776.out | refine below_set ?_ GE782.out) | exact HB.out))) : w.heap.size ≤ gb790)); have n9_ := Aside0.mk ((by rw [hg]; exact Nat.ne_of_lt (blk_lt (g := gb776) (o := .cells #[.slice A2_0 l2_0.length c2_0, .int .i64 a2_1] 26 (0, 0)) (by (with_reducible repeat (first | apply kdn | apply kdr | apply kal)); exact BK776.out)) : gb776 ≠ gb790)); have n10_ := Aside0.mk ((by rw [hg]; exact Nat.ne_of_gt (blk_lt (g := gb776) (o := .cells #[.slice A2_0 l2_0.length c2_0, .int .i64 a2_1] 26 (0, 0)) (by (with_reducible repeat (first | apply kdn | apply kdr | apply kal)); exact BK776.out)) : gb790 ≠ gb776)); have n11_ := Aside0.mk ((by rw [hg]; exact Nat.ne_of_lt (blk_lt (g := gb782) (o := .cells #[.int .i64 ((rd_T76 t777 x26_1).f0), .int .i64 ((rd_T76 t777 x26_1).f1)] 76 (0, 0)) (by (with_reducible repeat (first | apply kdn | apply kdr | apply kal)); exact BK782.out)) : gb782 ≠ gb790)); have n12_ := Aside0.mk ((by rw [hg]; exact Nat.ne_of_gt (blk_lt (g := gb782) (o := .cells #[.int .i64 ((rd_T76 t777 x26_1).f0), .int .i64 ((rd_T76 t777 x26_1).f1)] 76 (0, 0)) (by (with_reducible repeat (first | apply kdn | apply kdr | apply kal)); exact BK782.out)) : gb790 ≠ gb782)); clear HO_8; clear HO_24; clear HO_57; clear BK776; clear BK782; clear HB; have HO_8 := n0_; have HO_24 := n1_; have HO_57 := n2_; have BK776 := n3_; have BK782 := n4_; have HB := n5_; have BK790 := n6_; have GW790 := n7_; have GE790 := n8_; have NB776_790 := n9_; have NB790_776 := n10_; have NB782_790 := n11_; have NB790_782 := n12_; clear n0_ n1_ n2_ n3_ n4_ n5_ n6_ n7_ n8_ n9_ n10_ n11_ n12_; clear hb hbox hg; have hnb66 := NB790_776.out; have hnc66 := NB776_790.out; have hnb67 := NB790_782.out; have hnc67 := NB782_790.out; have hcz68_0 : w65.cell? ⟨gb790, 0, none⟩ = some (.int .i64 0) := (blk_cell BK790.out 0).trans rfl; have hcz68_1 : w65.cell? ⟨gb790, 1, none⟩ = some (.int .i64 0) := (blk_cell BK790.out 1).trans rfl; have hfz68_0 := blk_frozen BK790.out 0; have hfz68_1 := blk_frozen BK790.out 1))
                    have n0_ : Aside0 (Kd.R k76 76 ((w65.setCell ⟨gb790, 0, none⟩ (.int .i64 ((rd_T76 t777 x59_3).f0))).setCell ⟨gb790, 1, none⟩ (.int .i64 ((rd_T76 t777 x59_3).f1))) w.heap.size (fun k_ => k_ ≠ gb782 ∧ k_ ≠ gb790) (.slice (some ad781) t777.length co9) t777) := ⟨by (with_reducible repeat (first | apply Kd.R_alloc | apply Kd.R_drewN | apply Kd.R_drew)); exact Kd.R_mono (Kd.R_far (p := ⟨gb790, 1, none⟩) (Kd.R_far (p := ⟨gb790, 0, none⟩) (Kd.R_mono HO_8.out (fun k_ hk => (⟨hk, hk.2⟩ : _ ∧ k_ ≠ gb790))) (fun _ hk => hk.2) (.int .i64 ((rd_T76 t777 x59_3).f0))) (fun _ hk => hk.2) (.int .i64 ((rd_T76 t777 x59_3).f1))) (fun _ hk => ⟨hk.1.1, hk.1.2⟩)⟩
                    have n1_ : Aside0 (Kd.R k76 76 ((w65.setCell ⟨gb790, 0, none⟩ (.int .i64 ((rd_T76 t777 x59_3).f0))).setCell ⟨gb790, 1, none⟩ (.int .i64 ((rd_T76 t777 x59_3).f1))) w.heap.size (fun k_ => k_ ≠ gb782 ∧ k_ ≠ gb790) (.slice (some ad781) t777.length co9) t777) := ⟨by (with_reducible repeat (first | apply Kd.R_alloc | apply Kd.R_drewN | apply Kd.R_drew)); exact Kd.R_mono (Kd.R_far (p := ⟨gb790, 1, none⟩) (Kd.R_far (p := ⟨gb790, 0, none⟩) (Kd.R_mono HO_24.out (fun k_ hk => (⟨hk, hk.2⟩ : _ ∧ k_ ≠ gb790))) (fun _ hk => hk.2) (.int .i64 ((rd_T76 t777 x59_3).f0))) (fun _ hk => hk.2) (.int .i64 ((rd_T76 t777 x59_3).f1))) (fun _ hk => ⟨hk.1.1, hk.1.2⟩)⟩
                    have n2_ : Aside0 (Kd.R k76 76 ((w65.setCell ⟨gb790, 0, none⟩ (.int .i64 ((rd_T76 t777 x59_3).f0))).setCell ⟨gb790, 1, none⟩ (.int .i64 ((rd_T76 t777 x59_3).f1))) w.heap.size (fun k_ => k_ ≠ gb782 ∧ k_ ≠ gb790) (.slice (some ad781) t777.length co9) t777) := ⟨by (with_reducible repeat (first | apply Kd.R_alloc | apply Kd.R_drewN | apply Kd.R_drew)); exact Kd.R_mono (Kd.R_far (p := ⟨gb790, 1, none⟩) (Kd.R_far (p := ⟨gb790, 0, none⟩) (Kd.R_mono HO_57.out (fun k_ hk => (⟨hk, hk.2⟩ : _ ∧ k_ ≠ gb790))) (fun _ hk => hk.2) (.int .i64 ((rd_T76 t777 x59_3).f0))) (fun _ hk => hk.2) (.int .i64 ((rd_T76 t777 x59_3).f1))) (fun _ hk => ⟨hk.1.1, hk.1.2⟩)⟩
                    have n3_ : Aside0 (((w65.setCell ⟨gb790, 0, none⟩ (.int .i64 ((rd_T76 t777 x59_3).f0))).setCell ⟨gb790, 1, none⟩ (.int .i64 ((rd_T76 t777 x59_3).f1))).heap[gb776]? = some (.cells #[.slice A2_0 l2_0.length c2_0, .int .i64 a2_1] 26 (0, 0))) := ⟨by (with_reducible repeat (first | apply kdn | apply kdr | apply kal)); refine blk_far ?_ NB776_790.out _; (with_reducible repeat (first | apply kdn | apply kdr | apply kal)); refine blk_far ?_ NB776_790.out _; (with_reducible repeat (first | apply kdn | apply kdr | apply kal)); exact BK776.out⟩
                    have n4_ : Aside0 (((w65.setCell ⟨gb790, 0, none⟩ (.int .i64 ((rd_T76 t777 x59_3).f0))).setCell ⟨gb790, 1, none⟩ (.int .i64 ((rd_T76 t777 x59_3).f1))).heap[gb782]? = some (.cells #[.int .i64 ((rd_T76 t777 x26_1).f0), .int .i64 ((rd_T76 t777 x26_1).f1)] 76 (0, 0))) := ⟨by (with_reducible repeat (first | apply kdn | apply kdr | apply kal)); refine blk_far ?_ NB782_790.out _; (with_reducible repeat (first | apply kdn | apply kdr | apply kal)); refine blk_far ?_ NB782_790.out _; (with_reducible repeat (first | apply kdn | apply kdr | apply kal)); exact BK782.out⟩
                    have n5_ : Aside0 (((w65.setCell ⟨gb790, 0, none⟩ (.int .i64 ((rd_T76 t777 x59_3).f0))).setCell ⟨gb790, 1, none⟩ (.int .i64 ((rd_T76 t777 x59_3).f1))).heap[gb790]? = some (.cells #[.int .i64 ((rd_T76 t777 x59_3).f0), .int .i64 ((rd_T76 t777 x59_3).f1)] 76 (0, 0))) := ⟨by (with_reducible repeat (first | apply kdn | apply kdr | apply kal)); refine blk_put (cs := #[.int .i64 ((rd_T76 t777 x59_3).f0), .int .i64 0]) ?_ 1 _ rfl; (with_reducible repeat (first | apply kdn | apply kdr | apply kal)); refine blk_put (cs := #[.int .i64 0, .int .i64 0]) ?_ 0 _ rfl; (with_reducible repeat (first | apply kdn | apply kdr | apply kal)); exact BK790.out⟩
                    have n6_ : Aside0 (Below w.heap.size w ((w65.setCell ⟨gb790, 0, none⟩ (.int .i64 ((rd_T76 t777 x59_3).f0))).setCell ⟨gb790, 1, none⟩ (.int .i64 ((rd_T76 t777 x59_3).f1)))) := ⟨by repeat (first | (with_reducible first | exact HB.out | apply lal | apply ldn | apply ldr | refine below_set ?_ GE776.out | refine below_set ?_ GE782.out | refine below_set ?_ GE790.out) | exact HB.out)⟩
                    (try clear HO_8)
                    (try clear HO_24)
                    (try clear HO_57)
                    (try clear BK776)
                    (try clear BK782)
                    (try clear BK790)
                    (try clear HB)
                    generalize ((w65.setCell ⟨gb790, 0, none⟩ (.int .i64 ((rd_T76 t777 x59_3).f0))).setCell ⟨gb790, 1, none⟩ (.int .i64 ((rd_T76 t777 x59_3).f1))) = w69 at n0_ n1_ n2_ n3_ n4_ n5_ n6_ ⊢
                    have HO_8 := n0_
                    have HO_24 := n1_
                    have HO_57 := n2_
                    have BK776 := n3_
                    have BK782 := n4_
                    have BK790 := n5_
                    have HB := n6_
                    clear n0_ n1_ n2_ n3_ n4_ n5_ n6_
                    have n0_ := Aside0.mk (Kd.R_drew HO_8.out)
                    have n1_ := Aside0.mk (Kd.R_drew HO_24.out)
                    have n2_ := Aside0.mk (Kd.R_drew HO_57.out)
                    have n3_ := Aside0.mk (blk_drew BK776.out)
                    have n4_ := Aside0.mk (blk_drew BK782.out)
                    have n5_ := Aside0.mk (blk_drew BK790.out)
                    have n6_ := Aside0.mk (below_drew1 HB.out)
                    clear HO_8
                    clear HO_24
                    clear HO_57
                    clear BK776
                    clear BK782
                    clear BK790
                    clear HB
                    have HO_8 := n0_
                    have HO_24 := n1_
                    have HO_57 := n2_
                    have BK776 := n3_
                    have BK782 := n4_
                    have BK790 := n5_
                    have HB := n6_
                    clear n0_ n1_ n2_ n3_ n4_ n5_ n6_
                    have p791 : 0 ≤ (x26_1 : Int) := of_decide_eq_true (by first | (with_reducible assumption) | assumption)
                    have q791 : x26_1 < (l2_0.length : Int) := of_decide_eq_true (by first | (with_reducible assumption) | assumption)
                    obtain ⟨ad791, e791, hx791_0⟩ := Kd.at_int HR2_0.out x26_1 p791 q791
                    have hw791_0 := hx791_0
                    cases e791
                    replace hx791_0 := (HB.out.cell (World.block_lt_of_cell? w _ hx791_0)).trans hx791_0
                    replace p791 := eq_true p791
                    replace q791 := eq_true q791
                    have p792 : 0 ≤ (x59_3 : Int) := of_decide_eq_true (by first | (with_reducible assumption) | assumption)
                    have q792 : x59_3 < (l2_0.length : Int) := of_decide_eq_true (by first | (with_reducible assumption) | assumption)
                    obtain ⟨ad792, e792, hx792_0⟩ := Kd.at_int HR2_0.out x59_3 p792 q792
                    have hw792_0 := hx792_0
                    obtain rfl : ad791 = ad792 := (by injection e792)
                    replace hx792_0 := (HB.out.cell (World.block_lt_of_cell? w _ hx792_0)).trans hx792_0
                    replace p792 := eq_true p792
                    replace q792 := eq_true q792
                    refine start_ (n := 21) (S := fun w' => w'.cell? ⟨gb776, 0, none⟩ = some (.slice (some ad791) l2_0.length c2_0) ∧ w'.cell? ⟨gb776, 1, none⟩ = some (.int .i64 a2_1) ∧ w'.cell? (ad791.add (x26_1).toNat) = some (.int .i64 (rd l2_0 x26_1)) ∧ w'.cell? (ad791.add (x59_3).toNat) = some (.int .i64 (rd l2_0 x59_3))) (ds := []) #[false, false, false, false, false, false, false, false, false, false, false, false, false, false, false, false, false, false, false, false, false] (by kernel_rfl) rfl rfl ⟨(blk_cell BK776.out 0).trans rfl, (blk_cell BK776.out 1).trans rfl, ((HB.out.cell (World.block_lt_of_cell? w _ hw791_0)).trans hw791_0), ((HB.out.cell (World.block_lt_of_cell? w _ hw792_0)).trans hw792_0)⟩ (fun hHeld => ?_); refine with_tabW share_Efficient.tab12 share_Efficient.bits12 (fun HT_ HW_ => ?_)
                    generalize w69.drew = w70 at HO_8 HO_24 HO_57 BK776 BK782 BK790 HB hx791_0 hx792_0 hHeld ⊢
                    refine pure_ (i := 0) (N := some 64) (v := ?_) (a' := ?_) #[true, false, false, false, false, false, false, false, false, false, false, false, false, false, false, false, false, false, false, false, false] rfl rfl (any_of HT_.out (by kernel_rfl)) (fun _ _ _ h => h) (Or.inl ⟨by rfl, ?_⟩) ?_ ?_
                    rotate_left
                    ·intro w'
                     go_simp
                     with_reducible rfl
                    rotate_left
                    ·simp only [Act.put, sia, sc0, scs, i64_w, i32_w]
                     rfl
                    refine pure_ (i := 2) (N := some 66) (v := ?_) (a' := ?_) #[true, false, true, false, false, false, false, false, false, false, false, false, false, false, false, false, false, false, false, false, false] rfl rfl (any_of HT_.out (by kernel_rfl)) (fun _ _ _ h => h) (Or.inl ⟨by rfl, ?_⟩) ?_ ?_
                    rotate_left
                    ·intro w'
                     go_simp
                     with_reducible rfl
                    rotate_left
                    ·simp only [Act.put, sia, sc0, scs, i64_w, i32_w]
                     rfl
                    refine take_ (i := 1) (N := some 65) (v := ?_) (a' := ?_) #[true, true, true, false, false, false, false, false, false, false, false, false, false, false, false, false, false, false, false, false, false] rfl rfl (take_ofW HT_.out HW_.out (by kernel_rfl)) (fun _ _ _ h => h) (Or.inl ⟨by rfl, ?_⟩) hHeld ?_ ?_
                    rotate_left
                    ·rintro w' ⟨s0, s1, s2, s3⟩
                     go_simp
                     with_reducible rfl
                    rotate_left
                    ·simp only [Act.put, sia, sc0, scs, i64_w, i32_w]
                     rfl
                    refine pure_ (i := 3) (N := some 67) (v := ?_) (a' := ?_) #[true, true, true, true, false, false, false, false, false, false, false, false, false, false, false, false, false, false, false, false, false] rfl rfl (any_of HT_.out (by kernel_rfl)) (fun _ _ _ h => h) (Or.inl ⟨by rfl, ?_⟩) ?_ ?_
                    rotate_left
                    ·intro w'
                     go_simp
                     with_reducible rfl
                    rotate_left
                    ·simp only [Act.put, sia, sc0, scs, i64_w, i32_w]
                     rfl
                    refine take_ (i := 4) (N := some 68) (v := ?_) (a' := ?_) #[true, true, true, true, true, false, false, false, false, false, false, false, false, false, false, false, false, false, false, false, false] rfl rfl (take_ofW HT_.out HW_.out (by kernel_rfl)) (fun _ _ _ h => h) (Or.inl ⟨by rfl, ?_⟩) hHeld ?_ ?_
                    rotate_left
                    ·rintro w' ⟨s0, s1, s2, s3⟩
                     go_simp
                     with_reducible rfl
                    rotate_left
                    ·simp only [Act.put, sia, sc0, scs, i64_w, i32_w]
                     rfl
                    refine pure_ (i := 5) (N := some 69) (v := ?_) (a' := ?_) #[true, true, true, true, true, true, false, false, false, false, false, false, false, false, false, false, false, false, false, false, false] rfl rfl (any_of HT_.out (by kernel_rfl)) (fun _ _ _ h => h) (Or.inl ⟨by rfl, ?_⟩) ?_ ?_
                    rotate_left
                    ·intro w'
                     go_simp
                     with_reducible rfl
                    rotate_left
                    ·simp only [Act.put, sia, sc0, scs, i64_w, i32_w]
                     rfl
                    refine pure_ (i := 6) (N := some 70) (v := ?_) (a' := ?_) #[true, true, true, true, true, true, true, false, false, false, false, false, false, false, false, false, false, false, false, false, false] rfl rfl (any_of HT_.out (by kernel_rfl)) (fun _ _ _ h => h) (Or.inl ⟨by rfl, ?_⟩) ?_ ?_
                    rotate_left
                    ·intro w'
                     go_simp
                     with_reducible rfl
                    rotate_left
                    ·simp only [Act.put, sia, sc0, scs, i64_w, i32_w]
                     rfl
                    refine pure_ (i := 7) (N := some 71) (v := ?_) (a' := ?_) #[true, true, true, true, true, true, true, true, false, false, false, false, false, false, false, false, false, false, false, false, false] rfl rfl (any_of HT_.out (by kernel_rfl)) (fun _ _ _ h => h) (Or.inl ⟨by rfl, ?_⟩) ?_ ?_
                    rotate_left
                    ·intro w'
                     go_simp
                     with_reducible rfl
                    rotate_left
                    ·simp only [Act.put, sia, sc0, scs, i64_w, i32_w]
                     rfl
                    refine pure_ (i := 9) (N := some 73) (v := ?_) (a' := ?_) #[true, true, true, true, true, true, true, true, false, true, false, false, false, false, false, false, false, false, false, false, false] rfl rfl (any_of HT_.out (by kernel_rfl)) (fun _ _ _ h => h) (Or.inl ⟨by rfl, ?_⟩) ?_ ?_
                    rotate_left
                    ·intro w'
                     go_simp
                     with_reducible rfl
                    rotate_left
                    ·simp only [Act.put, sia, sc0, scs, i64_w, i32_w]
                     rfl
                    refine pure_ (i := 12) (N := some 76) (v := ?_) (a' := ?_) #[true, true, true, true, true, true, true, true, false, true, false, false, true, false, false, false, false, false, false, false, false] rfl rfl (any_of HT_.out (by kernel_rfl)) (fun _ _ _ h => h) (Or.inl ⟨by rfl, ?_⟩) ?_ ?_
                    rotate_left
                    ·intro w'
                     go_simp
                     with_reducible rfl
                    rotate_left
                    ·simp only [Act.put, sia, sc0, scs, i64_w, i32_w]
                     rfl
                    refine take_ (i := 8) (N := some 72) (v := ?_) (a' := ?_) #[true, true, true, true, true, true, true, true, true, true, false, false, true, false, false, false, false, false, false, false, false] rfl rfl (take_ofW HT_.out HW_.out (by kernel_rfl)) (fun _ _ _ h => h) (Or.inl ⟨by rfl, ?_⟩) hHeld ?_ ?_
                    rotate_left
                    ·rintro w' ⟨s0, s1, s2, s3⟩
                     go_simp
                     with_reducible rfl
                    rotate_left
                    ·simp only [Act.put, sia, sc0, scs, i64_w, i32_w]
                     rfl
                    refine pure_ (i := 10) (N := some 74) (v := ?_) (a' := ?_) #[true, true, true, true, true, true, true, true, true, true, true, false, true, false, false, false, false, false, false, false, false] rfl rfl (any_of HT_.out (by kernel_rfl)) (fun _ _ _ h => h) (Or.inl ⟨by rfl, ?_⟩) ?_ ?_
                    rotate_left
                    ·intro w'
                     go_simp
                     with_reducible rfl
                    rotate_left
                    ·simp only [Act.put, sia, sc0, scs, i64_w, i32_w]
                     rfl
                    refine take_ (i := 11) (N := some 75) (v := ?_) (a' := ?_) #[true, true, true, true, true, true, true, true, true, true, true, true, true, false, false, false, false, false, false, false, false] rfl rfl (take_ofW HT_.out HW_.out (by kernel_rfl)) (fun _ _ _ h => h) (Or.inl ⟨by rfl, ?_⟩) hHeld ?_ ?_
                    rotate_left
                    ·rintro w' ⟨s0, s1, s2, s3⟩
                     go_simp
                     with_reducible rfl
                    rotate_left
                    ·simp only [Act.put, sia, sc0, scs, i64_w, i32_w]
                     rfl
                    refine take_ (i := 13) (N := some 77) (v := ?_) (a' := ?_) #[true, true, true, true, true, true, true, true, true, true, true, true, true, true, false, false, false, false, false, false, false] rfl rfl (take_ofW HT_.out HW_.out (by kernel_rfl)) (fun _ _ _ h => h) (Or.inl ⟨by rfl, ?_⟩) hHeld ?_ ?_
                    rotate_left
                    ·rintro w' ⟨s0, s1, s2, s3⟩
                     go_simp
                     with_reducible rfl
                    rotate_left
                    ·simp only [Act.put, sia, sc0, scs, i64_w, i32_w]
                     rfl
                    refine pure_ (i := 14) (N := some 78) (v := ?_) (a' := ?_) #[true, true, true, true, true, true, true, true, true, true, true, true, true, true, true, false, false, false, false, false, false] rfl rfl (any_of HT_.out (by kernel_rfl)) (fun _ _ _ h => h) (Or.inl ⟨by rfl, ?_⟩) ?_ ?_
                    rotate_left
                    ·intro w'
                     go_simp
                     with_reducible rfl
                    rotate_left
                    ·simp only [Act.put, sia, sc0, scs, i64_w, i32_w]
                     rfl
                    refine pure_ (i := 15) (N := some 79) (v := ?_) (a' := ?_) #[true, true, true, true, true, true, true, true, true, true, true, true, true, true, true, true, false, false, false, false, false] rfl rfl (any_of HT_.out (by kernel_rfl)) (fun _ _ _ h => h) (Or.inl ⟨by rfl, ?_⟩) ?_ ?_
                    rotate_left
                    ·intro w'
                     go_simp
                     with_reducible rfl
                    rotate_left
                    ·simp only [Act.put, sia, sc0, scs, i64_w, i32_w]
                     rfl
                    refine pure_ (i := 16) (N := some 80) (v := ?_) (a' := ?_) #[true, true, true, true, true, true, true, true, true, true, true, true, true, true, true, true, true, false, false, false, false] rfl rfl (any_of HT_.out (by kernel_rfl)) (fun _ _ _ h => h) (Or.inl ⟨by rfl, ?_⟩) ?_ ?_
                    rotate_left
                    ·intro w'
                     go_simp
                     with_reducible rfl
                    rotate_left
                    ·simp only [Act.put, sia, sc0, scs, i64_w, i32_w]
                     rfl
                    refine pure_ (i := 17) (N := some 81) (v := undef) (a' := ?_) #[true, true, true, true, true, true, true, true, true, true, true, true, true, true, true, true, true, true, false, false, false] rfl rfl (any_of HT_.out (by kernel_rfl)) (fun _ _ _ h => h) (Or.inr ⟨by rfl, rfl⟩) ?_ ?_
                    rotate_left
                    ·simp only [Act.put, sia, sc0, scs, i64_w, i32_w]
                     rfl
                    refine pure_ (i := 18) (N := some 82) (v := undef) (a' := ?_) #[true, true, true, true, true, true, true, true, true, true, true, true, true, true, true, true, true, true, true, false, false] rfl rfl (any_of HT_.out (by kernel_rfl)) (fun _ _ _ h => h) (Or.inr ⟨by rfl, rfl⟩) ?_ ?_
                    rotate_left
                    ·simp only [Act.put, sia, sc0, scs, i64_w, i32_w]
                     rfl
                    refine pure_ (i := 19) (N := some 83) (v := undef) (a' := ?_) #[true, true, true, true, true, true, true, true, true, true, true, true, true, true, true, true, true, true, true, true, false] rfl rfl (any_of HT_.out (by kernel_rfl)) (fun _ _ _ h => h) (Or.inr ⟨by rfl, rfl⟩) ?_ ?_
                    rotate_left
                    ·simp only [Act.put, sia, sc0, scs, i64_w, i32_w]
                     rfl
                    refine pure_ (i := 20) (N := some 84) (v := ?_) (a' := ?_) #[true, true, true, true, true, true, true, true, true, true, true, true, true, true, true, true, true, true, true, true, true] rfl rfl (any_of HT_.out (by kernel_rfl)) (fun _ _ _ h => h) (Or.inl ⟨by rfl, ?_⟩) ?_ ?_
                    rotate_left
                    ·intro w'
                     go_simp
                     with_reducible rfl
                    rotate_left
                    ·simp only [Act.put, sia, sc0, scs, i64_w, i32_w]
                     rfl
                    refine done_ (done_of HT_.out (by kernel_rfl)) ?_
                    try go_wp2
                    go_roundg k3
                    case measure => have := HK1.out; have := HJ12.out; have := HK3.out; omega
                    case rel => exact ⟨(wrap64 (x59_3 + 1)), (by first | rfl | (simp; done) | (simp [*]; done)), H', ⟨by have := HK1.out; have := HJ12.out; have := HK3.out; omega⟩, ⟨by (with_reducible repeat (first | apply Kd.R_alloc | apply Kd.R_drewN | apply Kd.R_drew)); exact Kd.R_mono HO_8.out (fun _ hk => hk.1)⟩, ⟨by (with_reducible repeat (first | apply Kd.R_alloc | apply Kd.R_drewN | apply Kd.R_drew)); exact Kd.R_mono HO_24.out (fun _ hk => hk.1)⟩, ⟨by (with_reducible repeat (first | apply Kd.R_alloc | apply Kd.R_drewN | apply Kd.R_drew)); exact Kd.R_mono HO_57.out (fun _ hk => hk.1)⟩, ⟨by (with_reducible repeat (first | apply kdn | apply kdr | apply kal)); exact BK776.out⟩, ⟨by (with_reducible repeat (first | apply kdn | apply kdr | apply kal)); exact BK782.out⟩, ⟨by repeat (first | (with_reducible first | exact HB.out | apply lal | apply ldn | apply ldr | refine below_set ?_ GE776.out | refine below_set ?_ GE782.out | refine below_set ?_ GE790.out) | exact HB.out)⟩⟩
                  ·rw [if_neg c47] at H
                   exact absurd H (by simp)
                 ·rw [if_neg c46] at H
                  have c46b0 : decide (0 < (rd l2_0 x26_1)) = false := decide_eq_false c46
                  clear c46
                  have H' := Aside0.mk H
                  clear H
                  have p789 : 0 ≤ (x59_3 : Int) := of_decide_eq_true (by first | (with_reducible assumption) | assumption)
                  have q789 : x59_3 < (t777.length : Int) := of_decide_eq_true (by first | (with_reducible assumption) | assumption)
                  obtain ⟨ad789, e789, hx789_0, hx789_1⟩ := at_T76 (Kd.R_reads' HO_57.out).2.2 x59_3 p789 q789
                  obtain rfl : ad781 = ad789 := (by injection e789)
                  replace p789 := eq_true p789
                  replace q789 := eq_true q789
                  try go_wp2_with (first | ((with_reducible refine gate_dst (N := 13) rfl ?_); refine box_event ?hg (N := 13) ?hd (cs := #[.int .i64 0, .int .i64 0]) (t := 76) ?hr ?_; (case hd => rfl); (case hg => rfl); (case hr => first | (go_simp; done) | (go_simp; rfl)); intro gb790 hg w71 hbox hb; have n0_ := Aside0.mk (Kd.R_below (Kd.R_elderB (by (with_reducible repeat (first | apply Kd.R_alloc | apply Kd.R_drewN | apply Kd.R_drew)); exact HO_8.out) gb790 (Nat.le_of_eq hg.symm)) hb); have n1_ := Aside0.mk (Kd.R_below (Kd.R_elderB (by (with_reducible repeat (first | apply Kd.R_alloc | apply Kd.R_drewN | apply Kd.R_drew)); exact HO_24.out) gb790 (Nat.le_of_eq hg.symm)) hb); have n2_ := Aside0.mk (Kd.R_below (Kd.R_elderB (by (with_reducible repeat (first | apply Kd.R_alloc | apply Kd.R_drewN | apply Kd.R_drew)); exact HO_57.out) gb790 (Nat.le_of_eq hg.symm)) hb); have n3_ := Aside0.mk (blk_below (g := gb776) (o := .cells #[.slice A2_0 l2_0.length c2_0, .int .i64 a2_1] 26 (0, 0)) (by (with_reducible repeat (first | apply kdn | apply kdr | apply kal)); exact BK776.out) hb); have n4_ := Aside0.mk (blk_below (g := gb782) (o := .cells #[.int .i64 ((rd_T76 t777 x26_1).f0), .int .i64 ((rd_T76 t777 x26_1).f1)] 76 (0, 0)) (by (with_reducible repeat (first | apply kdn | apply kdr | apply kal)); exact BK782.out) hb); have n5_ := Aside0.mk (below_step (by repeat (first | (with_reducible first | exact HB.out | apply lal | apply ldn | apply ldr | refine below_set ?_ GE776.out | refine below_set ?_ GE782.out) | exact HB.out)) hb); have n6_ := Aside0.mk (hbox); have n7_ := Aside0.mk ((by rw [hg]; exact (below_size (by repeat (first | (with_reducible first | exact HB.out | apply lal | apply ldn | apply ldr | refine below_set ?_ GE776.out | refine below_set ?_ GE782.out) | exact HB.out))) : w.heap.size ≤ gb790)); have n8_ := Aside0.mk ((by rw [hg]; exact (below_size (by repeat (first | (with_reducible first | exact HB.out | apply lal | apply ldn | apply ldr | refine below_set ?_ GE776.out | refine below_set ?_ GE782.out) | exact HB.out))) : w.heap.size ≤ gb790)); have n9_ := Aside0.mk ((by rw [hg]; exact Nat.ne_of_lt (blk_lt (g := gb776) (o := .cells #[.slice A2_0 l2_0.length c2_0, .int .i64 a2_1] 26 (0, 0)) (by (with_reducible repeat (first | apply kdn | apply kdr | apply kal)); exact BK776.out)) : gb776 ≠ gb790)); have n10_ := Aside0.mk ((by rw [hg]; exact Nat.ne_of_gt (blk_lt (g := gb776) (o := .cells #[.slice A2_0 l2_0.length c2_0, .int .i64 a2_1] 26 (0, 0)) (by (with_reducible repeat (first | apply kdn | apply kdr | apply kal)); exact BK776.out)) : gb790 ≠ gb776)); have n11_ := Aside0.mk ((by rw [hg]; exact Nat.ne_of_lt (blk_lt (g := gb782) (o := .cells #[.int .i64 ((rd_T76 t777 x26_1).f0), .int .i64 ((rd_T76 t777 x26_1).f1)] 76 (0, 0)) (by (with_reducible repeat (first | apply kdn | apply kdr | apply kal)); exact BK782.out)) : gb782 ≠ gb790)); have n12_ := Aside0.mk ((by rw [hg]; exact Nat.ne_of_gt (blk_lt (g := gb782) (o := .cells #[.int .i64 ((rd_T76 t777 x26_1).f0), .int .i64 ((rd_T76 t777 x26_1).f1)] 76 (0, 0)) (by (with_reducible repeat (first | apply kdn | apply kdr | apply kal)); exact BK782.out)) : gb790 ≠ gb782)); clear HO_8; clear HO_24; clear HO_57; clear BK776; clear BK782; clear HB; have HO_8 := n0_; have HO_24 := n1_; have HO_57 := n2_; have BK776 := n3_; have BK782 := n4_; have HB := n5_; have BK790 := n6_; have GW790 := n7_; have GE790 := n8_; have NB776_790 := n9_; have NB790_776 := n10_; have NB782_790 := n11_; have NB790_782 := n12_; clear n0_ n1_ n2_ n3_ n4_ n5_ n6_ n7_ n8_ n9_ n10_ n11_ n12_; clear hb hbox hg; have hnb72 := NB790_776.out; have hnc72 := NB776_790.out; have hnb73 := NB790_782.out; have hnc73 := NB782_790.out; have hcz74_0 : w71.cell? ⟨gb790, 0, none⟩ = some (.int .i64 0) := (blk_cell BK790.out 0).trans rfl; have hcz74_1 : w71.cell? ⟨gb790, 1, none⟩ = some (.int .i64 0) := (blk_cell BK790.out 1).trans rfl; have hfz74_0 := blk_frozen BK790.out 0; have hfz74_1 := blk_frozen BK790.out 1))
                  have n0_ : Aside0 (Kd.R k76 76 ((w71.setCell ⟨gb790, 0, none⟩ (.int .i64 ((rd_T76 t777 x59_3).f0))).setCell ⟨gb790, 1, none⟩ (.int .i64 ((rd_T76 t777 x59_3).f1))) w.heap.size (fun k_ => k_ ≠ gb782 ∧ k_ ≠ gb790) (.slice (some ad781) t777.length co9) t777) := ⟨by (with_reducible repeat (first | apply Kd.R_alloc | apply Kd.R_drewN | apply Kd.R_drew)); exact Kd.R_mono (Kd.R_far (p := ⟨gb790, 1, none⟩) (Kd.R_far (p := ⟨gb790, 0, none⟩) (Kd.R_mono HO_8.out (fun k_ hk => (⟨hk, hk.2⟩ : _ ∧ k_ ≠ gb790))) (fun _ hk => hk.2) (.int .i64 ((rd_T76 t777 x59_3).f0))) (fun _ hk => hk.2) (.int .i64 ((rd_T76 t777 x59_3).f1))) (fun _ hk => ⟨hk.1.1, hk.1.2⟩)⟩
                  have n1_ : Aside0 (Kd.R k76 76 ((w71.setCell ⟨gb790, 0, none⟩ (.int .i64 ((rd_T76 t777 x59_3).f0))).setCell ⟨gb790, 1, none⟩ (.int .i64 ((rd_T76 t777 x59_3).f1))) w.heap.size (fun k_ => k_ ≠ gb782 ∧ k_ ≠ gb790) (.slice (some ad781) t777.length co9) t777) := ⟨by (with_reducible repeat (first | apply Kd.R_alloc | apply Kd.R_drewN | apply Kd.R_drew)); exact Kd.R_mono (Kd.R_far (p := ⟨gb790, 1, none⟩) (Kd.R_far (p := ⟨gb790, 0, none⟩) (Kd.R_mono HO_24.out (fun k_ hk => (⟨hk, hk.2⟩ : _ ∧ k_ ≠ gb790))) (fun _ hk => hk.2) (.int .i64 ((rd_T76 t777 x59_3).f0))) (fun _ hk => hk.2) (.int .i64 ((rd_T76 t777 x59_3).f1))) (fun _ hk => ⟨hk.1.1, hk.1.2⟩)⟩
                  have n2_ : Aside0 (Kd.R k76 76 ((w71.setCell ⟨gb790, 0, none⟩ (.int .i64 ((rd_T76 t777 x59_3).f0))).setCell ⟨gb790, 1, none⟩ (.int .i64 ((rd_T76 t777 x59_3).f1))) w.heap.size (fun k_ => k_ ≠ gb782 ∧ k_ ≠ gb790) (.slice (some ad781) t777.length co9) t777) := ⟨by (with_reducible repeat (first | apply Kd.R_alloc | apply Kd.R_drewN | apply Kd.R_drew)); exact Kd.R_mono (Kd.R_far (p := ⟨gb790, 1, none⟩) (Kd.R_far (p := ⟨gb790, 0, none⟩) (Kd.R_mono HO_57.out (fun k_ hk => (⟨hk, hk.2⟩ : _ ∧ k_ ≠ gb790))) (fun _ hk => hk.2) (.int .i64 ((rd_T76 t777 x59_3).f0))) (fun _ hk => hk.2) (.int .i64 ((rd_T76 t777 x59_3).f1))) (fun _ hk => ⟨hk.1.1, hk.1.2⟩)⟩
                  have n3_ : Aside0 (((w71.setCell ⟨gb790, 0, none⟩ (.int .i64 ((rd_T76 t777 x59_3).f0))).setCell ⟨gb790, 1, none⟩ (.int .i64 ((rd_T76 t777 x59_3).f1))).heap[gb776]? = some (.cells #[.slice A2_0 l2_0.length c2_0, .int .i64 a2_1] 26 (0, 0))) := ⟨by (with_reducible repeat (first | apply kdn | apply kdr | apply kal)); refine blk_far ?_ NB776_790.out _; (with_reducible repeat (first | apply kdn | apply kdr | apply kal)); refine blk_far ?_ NB776_790.out _; (with_reducible repeat (first | apply kdn | apply kdr | apply kal)); exact BK776.out⟩
                  have n4_ : Aside0 (((w71.setCell ⟨gb790, 0, none⟩ (.int .i64 ((rd_T76 t777 x59_3).f0))).setCell ⟨gb790, 1, none⟩ (.int .i64 ((rd_T76 t777 x59_3).f1))).heap[gb782]? = some (.cells #[.int .i64 ((rd_T76 t777 x26_1).f0), .int .i64 ((rd_T76 t777 x26_1).f1)] 76 (0, 0))) := ⟨by (with_reducible repeat (first | apply kdn | apply kdr | apply kal)); refine blk_far ?_ NB782_790.out _; (with_reducible repeat (first | apply kdn | apply kdr | apply kal)); refine blk_far ?_ NB782_790.out _; (with_reducible repeat (first | apply kdn | apply kdr | apply kal)); exact BK782.out⟩
                  have n5_ : Aside0 (((w71.setCell ⟨gb790, 0, none⟩ (.int .i64 ((rd_T76 t777 x59_3).f0))).setCell ⟨gb790, 1, none⟩ (.int .i64 ((rd_T76 t777 x59_3).f1))).heap[gb790]? = some (.cells #[.int .i64 ((rd_T76 t777 x59_3).f0), .int .i64 ((rd_T76 t777 x59_3).f1)] 76 (0, 0))) := ⟨by (with_reducible repeat (first | apply kdn | apply kdr | apply kal)); refine blk_put (cs := #[.int .i64 ((rd_T76 t777 x59_3).f0), .int .i64 0]) ?_ 1 _ rfl; (with_reducible repeat (first | apply kdn | apply kdr | apply kal)); refine blk_put (cs := #[.int .i64 0, .int .i64 0]) ?_ 0 _ rfl; (with_reducible repeat (first | apply kdn | apply kdr | apply kal)); exact BK790.out⟩
                  have n6_ : Aside0 (Below w.heap.size w ((w71.setCell ⟨gb790, 0, none⟩ (.int .i64 ((rd_T76 t777 x59_3).f0))).setCell ⟨gb790, 1, none⟩ (.int .i64 ((rd_T76 t777 x59_3).f1)))) := ⟨by repeat (first | (with_reducible first | exact HB.out | apply lal | apply ldn | apply ldr | refine below_set ?_ GE776.out | refine below_set ?_ GE782.out | refine below_set ?_ GE790.out) | exact HB.out)⟩
                  (try clear HO_8)
                  (try clear HO_24)
                  (try clear HO_57)
                  (try clear BK776)
                  (try clear BK782)
                  (try clear BK790)
                  (try clear HB)
                  generalize ((w71.setCell ⟨gb790, 0, none⟩ (.int .i64 ((rd_T76 t777 x59_3).f0))).setCell ⟨gb790, 1, none⟩ (.int .i64 ((rd_T76 t777 x59_3).f1))) = w75 at n0_ n1_ n2_ n3_ n4_ n5_ n6_ ⊢
                  have HO_8 := n0_
                  have HO_24 := n1_
                  have HO_57 := n2_
                  have BK776 := n3_
                  have BK782 := n4_
                  have BK790 := n5_
                  have HB := n6_
                  clear n0_ n1_ n2_ n3_ n4_ n5_ n6_
                  have n0_ := Aside0.mk (Kd.R_drew HO_8.out)
                  have n1_ := Aside0.mk (Kd.R_drew HO_24.out)
                  have n2_ := Aside0.mk (Kd.R_drew HO_57.out)
                  have n3_ := Aside0.mk (blk_drew BK776.out)
                  have n4_ := Aside0.mk (blk_drew BK782.out)
                  have n5_ := Aside0.mk (blk_drew BK790.out)
                  have n6_ := Aside0.mk (below_drew1 HB.out)
                  clear HO_8
                  clear HO_24
                  clear HO_57
                  clear BK776
                  clear BK782
                  clear BK790
                  clear HB
                  have HO_8 := n0_
                  have HO_24 := n1_
                  have HO_57 := n2_
                  have BK776 := n3_
                  have BK782 := n4_
                  have BK790 := n5_
                  have HB := n6_
                  clear n0_ n1_ n2_ n3_ n4_ n5_ n6_
                  have p791 : 0 ≤ (x26_1 : Int) := of_decide_eq_true (by first | (with_reducible assumption) | assumption)
                  have q791 : x26_1 < (l2_0.length : Int) := of_decide_eq_true (by first | (with_reducible assumption) | assumption)
                  obtain ⟨ad791, e791, hx791_0⟩ := Kd.at_int HR2_0.out x26_1 p791 q791
                  have hw791_0 := hx791_0
                  cases e791
                  replace hx791_0 := (HB.out.cell (World.block_lt_of_cell? w _ hx791_0)).trans hx791_0
                  replace p791 := eq_true p791
                  replace q791 := eq_true q791
                  refine start_ (n := 21) (S := fun w' => w'.cell? ⟨gb776, 0, none⟩ = some (.slice (some ad791) l2_0.length c2_0) ∧ w'.cell? ⟨gb776, 1, none⟩ = some (.int .i64 a2_1) ∧ w'.cell? (ad791.add (x26_1).toNat) = some (.int .i64 (rd l2_0 x26_1))) (ds := []) #[false, false, false, false, false, false, false, false, false, false, false, false, false, false, false, false, false, false, false, false, false] (by kernel_rfl) rfl rfl ⟨(blk_cell BK776.out 0).trans rfl, (blk_cell BK776.out 1).trans rfl, ((HB.out.cell (World.block_lt_of_cell? w _ hw791_0)).trans hw791_0)⟩ (fun hHeld => ?_); refine with_tabW share_Efficient.tab12 share_Efficient.bits12 (fun HT_ HW_ => ?_)
                  generalize w75.drew = w76 at HO_8 HO_24 HO_57 BK776 BK782 BK790 HB hx791_0 hHeld ⊢
                  refine pure_ (i := 0) (N := some 64) (v := ?_) (a' := ?_) #[true, false, false, false, false, false, false, false, false, false, false, false, false, false, false, false, false, false, false, false, false] rfl rfl (any_of HT_.out (by kernel_rfl)) (fun _ _ _ h => h) (Or.inl ⟨by rfl, ?_⟩) ?_ ?_
                  rotate_left
                  ·intro w'
                   go_simp
                   with_reducible rfl
                  rotate_left
                  ·simp only [Act.put, sia, sc0, scs, i64_w, i32_w]
                   rfl
                  refine pure_ (i := 2) (N := some 66) (v := ?_) (a' := ?_) #[true, false, true, false, false, false, false, false, false, false, false, false, false, false, false, false, false, false, false, false, false] rfl rfl (any_of HT_.out (by kernel_rfl)) (fun _ _ _ h => h) (Or.inl ⟨by rfl, ?_⟩) ?_ ?_
                  rotate_left
                  ·intro w'
                   go_simp
                   with_reducible rfl
                  rotate_left
                  ·simp only [Act.put, sia, sc0, scs, i64_w, i32_w]
                   rfl
                  refine take_ (i := 1) (N := some 65) (v := ?_) (a' := ?_) #[true, true, true, false, false, false, false, false, false, false, false, false, false, false, false, false, false, false, false, false, false] rfl rfl (take_ofW HT_.out HW_.out (by kernel_rfl)) (fun _ _ _ h => h) (Or.inl ⟨by rfl, ?_⟩) hHeld ?_ ?_
                  rotate_left
                  ·rintro w' ⟨s0, s1, s2⟩
                   go_simp
                   with_reducible rfl
                  rotate_left
                  ·simp only [Act.put, sia, sc0, scs, i64_w, i32_w]
                   rfl
                  refine pure_ (i := 3) (N := some 67) (v := ?_) (a' := ?_) #[true, true, true, true, false, false, false, false, false, false, false, false, false, false, false, false, false, false, false, false, false] rfl rfl (any_of HT_.out (by kernel_rfl)) (fun _ _ _ h => h) (Or.inl ⟨by rfl, ?_⟩) ?_ ?_
                  rotate_left
                  ·intro w'
                   go_simp
                   with_reducible rfl
                  rotate_left
                  ·simp only [Act.put, sia, sc0, scs, i64_w, i32_w]
                   rfl
                  refine take_ (i := 4) (N := some 68) (v := ?_) (a' := ?_) #[true, true, true, true, true, false, false, false, false, false, false, false, false, false, false, false, false, false, false, false, false] rfl rfl (take_ofW HT_.out HW_.out (by kernel_rfl)) (fun _ _ _ h => h) (Or.inl ⟨by rfl, ?_⟩) hHeld ?_ ?_
                  rotate_left
                  ·rintro w' ⟨s0, s1, s2⟩
                   go_simp
                   with_reducible rfl
                  rotate_left
                  ·simp only [Act.put, sia, sc0, scs, i64_w, i32_w]
                   rfl
                  refine pure_ (i := 5) (N := some 69) (v := ?_) (a' := ?_) #[true, true, true, true, true, true, false, false, false, false, false, false, false, false, false, false, false, false, false, false, false] rfl rfl (any_of HT_.out (by kernel_rfl)) (fun _ _ _ h => h) (Or.inl ⟨by rfl, ?_⟩) ?_ ?_
                  rotate_left
                  ·intro w'
                   go_simp
                   with_reducible rfl
                  rotate_left
                  ·simp only [Act.put, sia, sc0, scs, i64_w, i32_w]
                   rfl
                  refine pure_ (i := 6) (N := some 70) (v := ?_) (a' := ?_) #[true, true, true, true, true, true, true, false, false, false, false, false, false, false, false, false, false, false, false, false, false] rfl rfl (any_of HT_.out (by kernel_rfl)) (fun _ _ _ h => h) (Or.inl ⟨by rfl, ?_⟩) ?_ ?_
                  rotate_left
                  ·intro w'
                   go_simp
                   with_reducible rfl
                  rotate_left
                  ·simp only [Act.put, sia, sc0, scs, i64_w, i32_w]
                   rfl
                  refine pure_ (i := 7) (N := some 71) (v := undef) (a' := ?_) #[true, true, true, true, true, true, true, true, false, false, false, false, false, false, false, false, false, false, false, false, false] rfl rfl (any_of HT_.out (by kernel_rfl)) (fun _ _ _ h => h) (Or.inr ⟨by rfl, rfl⟩) ?_ ?_
                  rotate_left
                  ·simp only [Act.put, sia, sc0, scs, i64_w, i32_w]
                   rfl
                  refine pure_ (i := 8) (N := some 72) (v := undef) (a' := ?_) #[true, true, true, true, true, true, true, true, true, false, false, false, false, false, false, false, false, false, false, false, false] rfl rfl (any_of HT_.out (by kernel_rfl)) (fun _ _ _ h => h) (Or.inr ⟨by rfl, rfl⟩) ?_ ?_
                  rotate_left
                  ·simp only [Act.put, sia, sc0, scs, i64_w, i32_w]
                   rfl
                  refine pure_ (i := 9) (N := some 73) (v := undef) (a' := ?_) #[true, true, true, true, true, true, true, true, true, true, false, false, false, false, false, false, false, false, false, false, false] rfl rfl (any_of HT_.out (by kernel_rfl)) (fun _ _ _ h => h) (Or.inr ⟨by rfl, rfl⟩) ?_ ?_
                  rotate_left
                  ·simp only [Act.put, sia, sc0, scs, i64_w, i32_w]
                   rfl
                  refine pure_ (i := 10) (N := some 74) (v := undef) (a' := ?_) #[true, true, true, true, true, true, true, true, true, true, true, false, false, false, false, false, false, false, false, false, false] rfl rfl (any_of HT_.out (by kernel_rfl)) (fun _ _ _ h => h) (Or.inr ⟨by rfl, rfl⟩) ?_ ?_
                  rotate_left
                  ·simp only [Act.put, sia, sc0, scs, i64_w, i32_w]
                   rfl
                  refine pure_ (i := 11) (N := some 75) (v := undef) (a' := ?_) #[true, true, true, true, true, true, true, true, true, true, true, true, false, false, false, false, false, false, false, false, false] rfl rfl (any_of HT_.out (by kernel_rfl)) (fun _ _ _ h => h) (Or.inr ⟨by rfl, rfl⟩) ?_ ?_
                  rotate_left
                  ·simp only [Act.put, sia, sc0, scs, i64_w, i32_w]
                   rfl
                  refine pure_ (i := 12) (N := some 76) (v := undef) (a' := ?_) #[true, true, true, true, true, true, true, true, true, true, true, true, true, false, false, false, false, false, false, false, false] rfl rfl (any_of HT_.out (by kernel_rfl)) (fun _ _ _ h => h) (Or.inr ⟨by rfl, rfl⟩) ?_ ?_
                  rotate_left
                  ·simp only [Act.put, sia, sc0, scs, i64_w, i32_w]
                   rfl
                  refine pure_ (i := 13) (N := some 77) (v := undef) (a' := ?_) #[true, true, true, true, true, true, true, true, true, true, true, true, true, true, false, false, false, false, false, false, false] rfl rfl (any_of HT_.out (by kernel_rfl)) (fun _ _ _ h => h) (Or.inr ⟨by rfl, rfl⟩) ?_ ?_
                  rotate_left
                  ·simp only [Act.put, sia, sc0, scs, i64_w, i32_w]
                   rfl
                  refine pure_ (i := 14) (N := some 78) (v := undef) (a' := ?_) #[true, true, true, true, true, true, true, true, true, true, true, true, true, true, true, false, false, false, false, false, false] rfl rfl (any_of HT_.out (by kernel_rfl)) (fun _ _ _ h => h) (Or.inr ⟨by rfl, rfl⟩) ?_ ?_
                  rotate_left
                  ·simp only [Act.put, sia, sc0, scs, i64_w, i32_w]
                   rfl
                  refine pure_ (i := 15) (N := some 79) (v := ?_) (a' := ?_) #[true, true, true, true, true, true, true, true, true, true, true, true, true, true, true, true, false, false, false, false, false] rfl rfl (any_of HT_.out (by kernel_rfl)) (fun _ _ _ h => h) (Or.inl ⟨by rfl, ?_⟩) ?_ ?_
                  rotate_left
                  ·intro w'
                   go_simp
                   with_reducible rfl
                  rotate_left
                  ·simp only [Act.put, sia, sc0, scs, i64_w, i32_w]
                   rfl
                  refine pure_ (i := 16) (N := some 80) (v := ?_) (a' := ?_) #[true, true, true, true, true, true, true, true, true, true, true, true, true, true, true, true, true, false, false, false, false] rfl rfl (any_of HT_.out (by kernel_rfl)) (fun _ _ _ h => h) (Or.inl ⟨by rfl, ?_⟩) ?_ ?_
                  rotate_left
                  ·intro w'
                   go_simp
                   with_reducible rfl
                  rotate_left
                  ·simp only [Act.put, sia, sc0, scs, i64_w, i32_w]
                   rfl
                  refine pure_ (i := 17) (N := some 81) (v := undef) (a' := ?_) #[true, true, true, true, true, true, true, true, true, true, true, true, true, true, true, true, true, true, false, false, false] rfl rfl (any_of HT_.out (by kernel_rfl)) (fun _ _ _ h => h) (Or.inr ⟨by rfl, rfl⟩) ?_ ?_
                  rotate_left
                  ·simp only [Act.put, sia, sc0, scs, i64_w, i32_w]
                   rfl
                  refine pure_ (i := 18) (N := some 82) (v := undef) (a' := ?_) #[true, true, true, true, true, true, true, true, true, true, true, true, true, true, true, true, true, true, true, false, false] rfl rfl (any_of HT_.out (by kernel_rfl)) (fun _ _ _ h => h) (Or.inr ⟨by rfl, rfl⟩) ?_ ?_
                  rotate_left
                  ·simp only [Act.put, sia, sc0, scs, i64_w, i32_w]
                   rfl
                  refine pure_ (i := 19) (N := some 83) (v := undef) (a' := ?_) #[true, true, true, true, true, true, true, true, true, true, true, true, true, true, true, true, true, true, true, true, false] rfl rfl (any_of HT_.out (by kernel_rfl)) (fun _ _ _ h => h) (Or.inr ⟨by rfl, rfl⟩) ?_ ?_
                  rotate_left
                  ·simp only [Act.put, sia, sc0, scs, i64_w, i32_w]
                   rfl
                  refine pure_ (i := 20) (N := some 84) (v := ?_) (a' := ?_) #[true, true, true, true, true, true, true, true, true, true, true, true, true, true, true, true, true, true, true, true, true] rfl rfl (any_of HT_.out (by kernel_rfl)) (fun _ _ _ h => h) (Or.inl ⟨by rfl, ?_⟩) ?_ ?_
                  rotate_left
                  ·intro w'
                   go_simp
                   with_reducible rfl
                  rotate_left
                  ·simp only [Act.put, sia, sc0, scs, i64_w, i32_w]
                   rfl
                  refine done_ (done_of HT_.out (by kernel_rfl)) ?_
                  try go_wp2
                  go_roundg k3
                  case measure => have := HK1.out; have := HJ12.out; have := HK3.out; omega
                  case rel => exact ⟨(wrap64 (x59_3 + 1)), (by first | rfl | (simp; done) | (simp [*]; done)), H', ⟨by have := HK1.out; have := HJ12.out; have := HK3.out; omega⟩, ⟨by (with_reducible repeat (first | apply Kd.R_alloc | apply Kd.R_drewN | apply Kd.R_drew)); exact Kd.R_mono HO_8.out (fun _ hk => hk.1)⟩, ⟨by (with_reducible repeat (first | apply Kd.R_alloc | apply Kd.R_drewN | apply Kd.R_drew)); exact Kd.R_mono HO_24.out (fun _ hk => hk.1)⟩, ⟨by (with_reducible repeat (first | apply Kd.R_alloc | apply Kd.R_drewN | apply Kd.R_drew)); exact Kd.R_mono HO_57.out (fun _ hk => hk.1)⟩, ⟨by (with_reducible repeat (first | apply kdn | apply kdr | apply kal)); exact BK776.out⟩, ⟨by (with_reducible repeat (first | apply kdn | apply kdr | apply kal)); exact BK782.out⟩, ⟨by repeat (first | (with_reducible first | exact HB.out | apply lal | apply ldn | apply ldr | refine below_set ?_ GE776.out | refine below_set ?_ GE782.out | refine below_set ?_ GE790.out) | exact HB.out)⟩⟩
                ·rw [if_neg c45] at H
                 exact absurd H (by simp)
               ·rw [if_neg c44] at H
                exact absurd H (by simp)
              ·rw [if_neg c43] at H
               exact absurd H (by simp)
             ·rw [if_neg c42] at H
              exact absurd H (by simp)
            ·rw [if_neg c41] at H
             have c41b0 : decide (x59_3 < (t777.length : Int)) = false := decide_eq_false c41
             clear c41
             have H' := Aside0.mk H
             clear H
             go_wp2
             go_roundg k3
             case measure => have := HK1.out; have := HJ12.out; have := HK3.out; omega
             case rel => exact ⟨(wrap64 (x26_1 + 1)), (by first | rfl | (simp; done) | (simp [*]; done)), H', ⟨by have := HK1.out; have := HJ12.out; have := HK3.out; omega⟩, ⟨by (with_reducible repeat (first | apply Kd.R_alloc | apply Kd.R_drewN | apply Kd.R_drew)); exact Kd.R_mono HO_8.out (fun _ hk => trivial)⟩, ⟨by (with_reducible repeat (first | apply Kd.R_alloc | apply Kd.R_drewN | apply Kd.R_drew)); exact Kd.R_mono HO_24.out (fun _ hk => trivial)⟩, ⟨by (with_reducible repeat (first | apply kdn | apply kdr | apply kal)); exact BK776.out⟩, ⟨by repeat (first | (with_reducible first | exact HB.out | apply lal | apply ldn | apply ldr | refine below_set ?_ GE776.out | refine below_set ?_ GE782.out) | exact HB.out)⟩⟩
      ·rw [if_neg c12] at H
       exact absurd H (by simp)
     ·rw [if_neg c11] at H
      exact absurd H (by simp)
    ·rw [if_neg c10] at H
     have c10b0 : decide (x26_1 < (t777.length : Int)) = false := decide_eq_false c10
     clear c10
     simp only [Option.some.injEq, Prod.mk.injEq] at H
     obtain ⟨rfl, rfl⟩ := H
     go_wp2
     go_ret2
     exact ⟨by first | rfl | (simp [errW_none, errW_some] <;> rfl) | (simp [*, errW_none, errW_some] <;> rfl), by repeat (first | (with_reducible first | exact HB.out | apply lal | apply ldn | apply ldr | refine below_set ?_ GE776.out) | exact HB.out)⟩
 ·rw [if_neg c5] at H
  have c5b0 : (t780 == 0) = false := beq_eq_false_iff_ne.mpr c5
  have c5b1 : (t780 != 0) = true := bne_iff_ne.mpr c5
  simp only [Option.some.injEq, Prod.mk.injEq] at H
  obtain ⟨rfl, rfl⟩ := H
  go_enter Try.func41, Try.ntmps41
  go_wp2_with (first | ((with_reducible refine gate_dst (N := 5) rfl ?_); refine box_event ?hg (N := 5) ?hd (cs := #[.slice A2_0 l2_0.length c2_0, .int .i64 a2_1]) (t := 26) ?hr ?_; (case hd => rfl); (case hg => rfl); (case hr => first | (go_simp; done) | (go_simp; rfl)); intro gb776 hg w77 hbox hb; have n0_ := Aside0.mk (below_step (by repeat (first | (with_reducible first | exact HB.out | apply lal | apply ldn | apply ldr) | exact HB.out)) hb); have n1_ := Aside0.mk (hbox); have n2_ := Aside0.mk ((by rw [hg]; exact (below_size (by repeat (first | (with_reducible first | exact HB.out | apply lal | apply ldn | apply ldr) | exact HB.out))) : w.heap.size ≤ gb776)); have n3_ := Aside0.mk ((by rw [hg]; exact (below_size (by repeat (first | (with_reducible first | exact HB.out | apply lal | apply ldn | apply ldr) | exact HB.out))) : w.heap.size ≤ gb776)); clear HB; have HB := n0_; have BK776 := n1_; have GW776 := n2_; have GE776 := n3_; clear n0_ n1_ n2_ n3_; clear hb hbox hg; have hcz78_0 : w77.cell? ⟨gb776, 0, none⟩ = some (.slice A2_0 l2_0.length c2_0) := (blk_cell BK776.out 0).trans rfl; have hcz78_1 : w77.cell? ⟨gb776, 1, none⟩ = some (.int .i64 a2_1) := (blk_cell BK776.out 1).trans rfl; have hfz78_0 := blk_frozen BK776.out 0; have hfz78_1 := blk_frozen BK776.out 1) | ((with_reducible refine gate_callee (f := 66) rfl ?_); refine goesL_ (some 18) rfl rfl Try.func66 (by kernel_rfl) rfl #[.slice A0 l0.length c0, .slice A1 l1.length c1, .agg #[.slice A2_0 l2_0.length c2_0, .int .i64 a2_1]] rfl (by (try simp only [List.map_toArray, List.map_cons, List.map_nil]); first | done | rfl | (simp only [List.length_drop, List.length_take]; rfl)) ?_; (with_reducible refine (share_divided.calls k _ _ l0 _ _ l1 _ _ l2_0 a2_1 t777 t780 _ ?side1 ?side2 ?side3 ?side4 ?side5 ?side6 A4.out).mono ?_); (case side1 => repeat (first | exact (Kd.C_below HR0.out HB.out) | (with_reducible refine Kd.C_alloc ?_ _) | (with_reducible refine Kd.C_drewN ?_ _) | (with_reducible refine Kd.C_drew ?_))); (case side2 => exact HC0.out); (case side3 => repeat (first | exact (Kd.C_below HR1.out HB.out) | (with_reducible refine Kd.C_alloc ?_ _) | (with_reducible refine Kd.C_drewN ?_ _) | (with_reducible refine Kd.C_drew ?_))); (case side4 => exact HC1.out); (case side5 => repeat (first | exact (Kd.C_below HR2_0.out HB.out) | (with_reducible refine Kd.C_alloc ?_ _) | (with_reducible refine Kd.C_drewN ?_ _) | (with_reducible refine Kd.C_drew ?_))); (case side6 => exact HC2_0.out); rintro e w79 ⟨v778, rfl, ho0, hb⟩; refine ⟨_, rfl, ?_⟩; have n0_ := Aside0.mk (Kd.R_lower ho0 (below_size (by repeat (first | (with_reducible first | exact HB.out | apply lal | apply ldn | apply ldr | refine below_set ?_ GE776.out) | exact HB.out)))); have n1_ := Aside0.mk (blk_below (g := gb776) (o := .cells #[.slice A2_0 l2_0.length c2_0, .int .i64 a2_1] 26 (0, 0)) (by (with_reducible repeat (first | apply kdn | apply kdr | apply kal)); exact BK776.out) hb); have n2_ := Aside0.mk (below_step (by repeat (first | (with_reducible first | exact HB.out | apply lal | apply ldn | apply ldr | refine below_set ?_ GE776.out) | exact HB.out)) hb); clear BK776; clear HB; have HO779 := n0_; have BK776 := n1_; have HB := n2_; clear n0_ n1_ n2_; (try clear hb); (try clear hb2); (try clear hk); (try clear hi); (try clear ho0)))
  go_ret2
  exact ⟨by first | rfl | (simp [errW_none, errW_some] <;> rfl) | (simp [*, errW_none, errW_some] <;> rfl), by repeat (first | (with_reducible first | exact HB.out | apply lal | apply ldn | apply ldr | refine below_set ?_ GE776.out) | exact HB.out)⟩
end Go.Proofs.Ytiafiebalibkdaa.OAll
