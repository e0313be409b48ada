/- A part of the proof of 'fetchMended_holds', for every input, without a condition. -/
import Derived.Test.YtjbfbdanbpfplaaSEOAllx0
import Derived.Test.YtjbfbdanbpfplaaSEOAllx4
import Derived.Test.YtjbfbdanbpfplaaSEOAllx5
import Derived.Test.YtjbfbdanbpfplaaSEOAllx6
import Derived.Test.YtjbfbdanbpfplaaSEOAllx7
import Derived.Test.YtjbfbdanbpfplaaSEOAllx8
import Derived.Test.YtjbfbdanbpfplaaSEOAllx9
import Derived.Test.YtjbfbdanbpfplaaSEOAllx13
import Derived.Test.YtjbfbdanbpfplaaSEOAllx16
import Derived.Test.YtjbfbdanbpfplaaSEOAllx21
import Derived.Test.YtjbfbdanbpfplaaSEOAllx22
namespace Go.Proofs.Ytjbfbdanbpfplaa.OAll
open Go.RowKit Go.Proofs.YtjbfbdanbpfplaaW.PrintWords Go.Proofs.YtjbfbdanbpfplaaW.PrintLast Go.Proofs.YtjbfbdanbpfplaaW.PrintMore
attribute [local go_sem] max2_int min2_int max_two min_two max_three min_three max_four min_four
set_option linter.unusedVariables false
set_option linter.unusedSimpArgs false
mutual
def trishawref09_Parts.l0 : Nat → Int → List (S34) → List (List Int) → Int → Int → Option ((List (List Int)) × Int)
  | 0, _, _, _, _, _ => none
  | k + 1, x0, x1, x7, x8, x9 => if x9 < x0 then (if 0 ≤ x9 then (if x9 ≤ 64 then (if (Int.tmod (x8 / 2 ^ x9.toNat) 2) = 1 then (trishawref09_Parts.l0 k x0 x1 x7 x8 (wrap64 (x9 + 1))) else (trishawref09_Parts.l1 k x0 x1 x7 x8 x9 0 0)) else (none)) else (none)) else (some (x7, 0))
def trishawref09_Parts.l1 : Nat → Int → List (S34) → List (List Int) → Int → Int → Int → Int → Option ((List (List Int)) × Int)
  | 0, _, _, _, _, _, _, _ => none
  | k + 1, x0, x1, x7, x8, x9, x10, x11 => if x11 < x0 then ((trishawref09_reached.f k x1 x9 false).bind fun t684 => (if 0 ≤ x11 then (if x11 ≤ 64 then (if (Int.tmod (t684 / 2 ^ x11.toNat) 2) = 1 then ((trishawref09_reached.f k x1 x11 false).bind fun t685 => (if 0 ≤ x9 then (if x9 ≤ 64 then (if (Int.tmod (t685 / 2 ^ x9.toNat) 2) = 1 then (trishawref09_Parts.l1 k x0 x1 x7 x8 x9 (wrap64 (x10 + (wrap64 (2 ^ x11.toNat)))) (wrap64 (x11 + 1))) else (trishawref09_Parts.l1 k x0 x1 x7 x8 x9 x10 (wrap64 (x11 + 1)))) else (none)) else (none))) else (trishawref09_Parts.l1 k x0 x1 x7 x8 x9 x10 (wrap64 (x11 + 1)))) else (none)) else (none))) else ((trishawref09_Members.f k x10).bind fun t678 => (if x7.length < 5864062014805 then (trishawref09_Parts.l0 k x0 x1 (x7 ++ [t678]) (Go.bits .or .i64 x8 x10) (wrap64 (x9 + 1))) else (none)))
end
def trishawref09_Parts.f (k : Nat) (a0 : Int) (l1 : List (S34)) : Option ((List (List Int)) × Int) := (trishawref09_Quarter.f k a0 l1).bind fun t677 => (if t677 = 0 then (trishawref09_Parts.l0 k a0 l1 ([] : List (List Int)) 0 0) else (some (([] : List (List Int)), t677)))
theorem trishawref09_Parts.mono_l : ∀ k, (∀ y0 y1 y2 y3 y4, LeO (trishawref09_Parts.l0 k y0 y1 y2 y3 y4) (trishawref09_Parts.l0 (k + 1) y0 y1 y2 y3 y4)) ∧ (∀ y0 y1 y2 y3 y4 y5 y6, LeO (trishawref09_Parts.l1 k y0 y1 y2 y3 y4 y5 y6) (trishawref09_Parts.l1 (k + 1) y0 y1 y2 y3 y4 y5 y6))
  | 0 => ⟨fun _ _ _ _ _ r h => by simp [trishawref09_Parts.l0] at h, fun _ _ _ _ _ _ _ r h => by simp [trishawref09_Parts.l1] at h⟩
  | k + 1 => by
    obtain ⟨ih0, ih1⟩ := trishawref09_Parts.mono_l k
    refine ⟨?_, ?_⟩
    · intro y0 y1 y2 y3 y4
      unfold trishawref09_Parts.l0
      repeat' first
      | (with_reducible exact ih0 _ _ _ _ _)
      | (with_reducible exact ih1 _ _ _ _ _ _ _)
      | (with_reducible exact trishawref09_Members.mono _ _)
      | (with_reducible exact trishawref09_Quarter.mono _ _ _)
      | (with_reducible exact trishawref09_reached.mono _ _ _ _)
      | (with_reducible exact LeO.refl _)
      | (with_reducible exact LeO.none _)
      | (with_reducible refine LeO.ite ?_ ?_)
      | (with_reducible refine LeO.bind ?_ (fun _ => ?_))
      | exact ih0 _ _ _ _ _
      | exact ih1 _ _ _ _ _ _ _
      | exact trishawref09_Members.mono _ _
      | exact trishawref09_Quarter.mono _ _ _
      | exact trishawref09_reached.mono _ _ _ _
      | exact LeO.none _
      | refine LeO.ite ?_ ?_
      | refine LeO.bind ?_ (fun _ => ?_)
    · intro y0 y1 y2 y3 y4 y5 y6
      unfold trishawref09_Parts.l1
      repeat' first
      | (with_reducible exact ih0 _ _ _ _ _)
      | (with_reducible exact ih1 _ _ _ _ _ _ _)
      | (with_reducible exact trishawref09_Members.mono _ _)
      | (with_reducible exact trishawref09_Quarter.mono _ _ _)
      | (with_reducible exact trishawref09_reached.mono _ _ _ _)
      | (with_reducible exact LeO.refl _)
      | (with_reducible exact LeO.none _)
      | (with_reducible refine LeO.ite ?_ ?_)
      | (with_reducible refine LeO.bind ?_ (fun _ => ?_))
      | exact ih0 _ _ _ _ _
      | exact ih1 _ _ _ _ _ _ _
      | exact trishawref09_Members.mono _ _
      | exact trishawref09_Quarter.mono _ _ _
      | exact trishawref09_reached.mono _ _ _ _
      | exact LeO.none _
      | refine LeO.ite ?_ ?_
      | refine LeO.bind ?_ (fun _ => ?_)
theorem trishawref09_Parts.mono : ∀ a0 a1 k, LeO (trishawref09_Parts.f k a0 a1) (trishawref09_Parts.f (k + 1) a0 a1) := by
  intro a0 a1 k
  obtain ⟨ih0, ih1⟩ := trishawref09_Parts.mono_l k
  unfold trishawref09_Parts.f
  repeat' first
      | (with_reducible exact ih0 _ _ _ _ _)
      | (with_reducible exact ih1 _ _ _ _ _ _ _)
      | (with_reducible exact trishawref09_Members.mono _ _)
      | (with_reducible exact trishawref09_Quarter.mono _ _ _)
      | (with_reducible exact trishawref09_reached.mono _ _ _ _)
      | (with_reducible exact LeO.refl _)
      | (with_reducible exact LeO.none _)
      | (with_reducible refine LeO.ite ?_ ?_)
      | (with_reducible refine LeO.bind ?_ (fun _ => ?_))
      | exact ih0 _ _ _ _ _
      | exact ih1 _ _ _ _ _ _ _
      | exact trishawref09_Members.mono _ _
      | exact trishawref09_Quarter.mono _ _ _
      | exact trishawref09_reached.mono _ _ _ _
      | exact LeO.none _
      | refine LeO.ite ?_ ?_
      | refine LeO.bind ?_ (fun _ => ?_)
def fetch_Parts.f (k : Nat) (a0 : Int) (l1 : List (S34)) : Option ((List (List Int)) × Int) := (fetch_read.f k a0 l1).bind fun bt686 => (if bt686.2.2 = 0 then ((fetch_quarter_parts.f k bt686.1 bt686.2.1).bind fun t692 => (some (t692, 0))) else (some (([] : List (List Int)), bt686.2.2)))
theorem fetch_Parts.mono : ∀ a0 a1 k, LeO (fetch_Parts.f k a0 a1) (fetch_Parts.f (k + 1) a0 a1) := by
  intro a0 a1 k
  unfold fetch_Parts.f
  repeat' first
      | (with_reducible exact fetch_quarter_parts.mono _ _ _)
      | (with_reducible exact fetch_read.mono _ _ _)
      | (with_reducible exact LeO.refl _)
      | (with_reducible exact LeO.none _)
      | (with_reducible refine LeO.ite ?_ ?_)
      | (with_reducible refine LeO.bind ?_ (fun _ => ?_))
      | exact fetch_quarter_parts.mono _ _ _
      | exact fetch_read.mono _ _ _
      | exact LeO.none _
      | refine LeO.ite ?_ ?_
      | refine LeO.bind ?_ (fun _ => ?_)
set_option maxHeartbeats 8000000 in
set_option maxRecDepth 100000 in
theorem fetch_Parts.calls (k : Nat) (a0 : Int) (A1 : Option Addr) (c1 : Nat) (l1 : List (S34)) (r1 : List (List Int)) (r2 : Int) (w : World) (hr1 : Kd.C k34 w A1 l1.length l1) (hc1 : l1.length ≤ c1) (h : fetch_Parts.f k a0 l1 = some (r1, r2)) :
    Calls Try.prog 41 #[.int .i64 a0, .slice A1 l1.length c1] w fun e w' => ∃ v0_ : Value, e = .returned (.tuple #[v0_, .int .i64 r2]) ∧ Kd.S (Kd.slice 3 (Kd.int .i64)) 23 w' w.heap.size (fun _ => True) v0_ r1 ∧ Below w.heap.size w w' := by
  have hu58 := Try.underlying58
  have HR1 := Aside0.mk hr1
  have HC1 := Aside0.mk hc1
  clear hr1 hc1
  have HB := Aside0.mk (Below.refl w.heap.size w)
  have H : ((fetch_read.f k a0 l1).bind fun bt686 => (if bt686.2.2 = 0 then ((fetch_quarter_parts.f k bt686.1 bt686.2.1).bind fun t692 => (some (t692, 0))) else (some (([] : List (List Int)), bt686.2.2)))) = some (r1, r2) := h
  clear h
  replace H := Option.bind_eq_some_iff.mp H
  obtain ⟨⟨t686, t687, t690⟩, A30, H⟩ := H
  replace H : (if t690 = 0 then ((fetch_quarter_parts.f k t686 t687).bind fun t692 => (some (t692, 0))) else (some (([] : List (List Int)), t690))) = some (r1, r2) := H
  have A3 := Aside0.mk A30
  clear A30
  by_cases c4 : t690 = 0
  · rw [if_pos c4] at H
    have c4b0 : (t690 == 0) = true := beq_iff_eq.mpr c4
    have c4b1 : (t690 != 0) = false := bne_eq_false_iff_eq.mpr c4
    clear c4
    replace H := Option.bind_eq_some_iff.mp H
    obtain ⟨t692, A50, H⟩ := H
    replace H : (some (t692, 0)) = some (r1, r2) := H
    have A5 := Aside0.mk A50
    clear A50
    simp only [Option.some.injEq, Prod.mk.injEq] at H
    obtain ⟨rfl, rfl⟩ := H
    go_enter Try.func41, Try.ntmps41
    go_wp2_with (first | ((with_reducible refine gate_callee (f := 44) rfl ?_); refine goesL_ (some 11) rfl rfl Try.func44 (by kernel_rfl) rfl #[.int .i64 a0, .slice A1 l1.length c1] rfl (by (try simp only [List.map_toArray, List.map_cons, List.map_nil]); first | done | rfl | (simp only [List.length_drop, List.length_take]; rfl)) ?_; (with_reducible refine (fetch_read.calls k a0 (fun k_ => k_ < w.heap.size) _ _ l1 t686 t687 t690 _ ?side1 A3.out).mono ?_); (case side1 => exact Kd.V_mk HC1.out (Kd.F_below (Kd.C_F k34_heap HR1.out) (by repeat (first | (with_reducible first | exact HB.out | apply below_alloc | apply pw_below_drewN | apply below_drew1) | exact HB.out)))); rintro e w6 ⟨v688, rfl, ho0, hb⟩; refine ⟨_, rfl, ?_⟩; have n0_ := Aside0.mk (Kd.V_lower (Kd.V_mono (ok' := fun k_ => True) ho0 (fun k_ hk_ => trivial)) (below_size (by repeat (first | (with_reducible first | exact HB.out | apply below_alloc | apply pw_below_drewN | apply below_drew1) | exact HB.out)))); have n1_ := Aside0.mk (below_step (by repeat (first | (with_reducible first | exact HB.out | apply below_alloc | apply pw_below_drewN | apply below_drew1) | exact HB.out)) hb); clear HB; have HO689 := n0_; have HB := n1_; clear n0_ n1_; (try clear hb); (try clear hb2); (try clear hk); (try clear hi); (try clear ho0)) | ((with_reducible refine gate_dst (N := 6) rfl ?_); refine box_event ?hg (N := 6) ?hd (cs := #[.int .i64 0, .slice none 0 0]) (t := 58) ?hr ?_; (case hd => rfl); (case hg => rfl); (case hr => first | (go_simp; done) | (go_simp; rfl)); intro gb691 hg w7 hbox hb; have n0_ := Aside0.mk (Kd.V_below (Kd.V_elderB (by (with_reducible repeat (first | apply Kd.V_alloc | apply Kd.V_drewN | apply Kd.V_drew)); exact HO689.out) gb691 (Nat.le_of_eq hg.symm)) hb); have n1_ := Aside0.mk (below_step (by repeat (first | (with_reducible first | exact HB.out | apply below_alloc | apply pw_below_drewN | apply below_drew1) | exact HB.out)) hb); have n2_ := Aside0.mk (hbox); have n3_ := Aside0.mk ((by rw [hg]; exact (below_size (by repeat (first | (with_reducible first | exact HB.out | apply below_alloc | apply pw_below_drewN | apply below_drew1) | exact HB.out))) : w.heap.size ≤ gb691)); have n4_ := Aside0.mk ((by rw [hg]; exact (below_size (by repeat (first | (with_reducible first | exact HB.out | apply below_alloc | apply pw_below_drewN | apply below_drew1) | exact HB.out))) : w.heap.size ≤ gb691)); clear HO689; clear HB; have HO689 := n0_; have HB := n1_; have BK691 := n2_; have GW691 := n3_; have GE691 := n4_; clear n0_ n1_ n2_ n3_ n4_; clear hb hbox hg; have hcz8_0 : w7.cell? ⟨gb691, 0, none⟩ = some (.int .i64 0) := (blk_cell BK691.out 0).trans rfl; have hcz8_1 : w7.cell? ⟨gb691, 1, none⟩ = some (.slice none 0 0) := (blk_cell BK691.out 1).trans rfl; have hfz8_0 := blk_frozen BK691.out 0; have hfz8_1 := blk_frozen BK691.out 1; obtain ⟨Ao9, co9, eo9⟩ := Kd.V_slice HO689.out; subst eo9) | ((with_reducible refine gate_callee (f := 62) rfl ?_); refine goesL_ (some 18) rfl rfl Try.func62 (by kernel_rfl) rfl #[.agg #[.int .i64 t686, .slice Ao9 t687.length co9]] rfl (by (try simp only [List.map_toArray, List.map_cons, List.map_nil]); first | done | rfl | (simp only [List.length_drop, List.length_take]; rfl)) ?_; (with_reducible refine (fetch_quarter_parts.calls k t686 _ _ t687 t692 _ ?side1 ?side2 A5.out).mono ?_); (case side1 => refine (Kd.V_reads' (e := 34) (base := w.heap.size) (ok := fun k_ => (True ∧ k_ ≠ gb691)) (n := t687.length) (c := co9) ?_).2.2; exact (by (with_reducible repeat (first | apply Kd.V_alloc | apply Kd.V_drewN | apply Kd.V_drew)); exact (Kd.V_mono (Kd.V_far (p := ⟨gb691, 1, none⟩) (Kd.V_far (p := ⟨gb691, 0, none⟩) (Kd.V_mono HO689.out (fun k_ hk => (⟨hk, hk.2⟩ : _ ∧ k_ ≠ gb691))) (fun _ hk => hk.2) (.int .i64 t686)) (fun _ hk => hk.2) (.slice Ao9 t687.length co9)) (fun _ h_ => h_.1)))); (case side2 => exact (Kd.V_reads' HO689.out).2.1); rintro e w10 ⟨v693, rfl, ho0, hb⟩; refine ⟨_, rfl, ?_⟩; have n0_ := Aside0.mk (Kd.V_elder' (by (with_reducible repeat (first | apply Kd.V_alloc | apply Kd.V_drewN | apply Kd.V_drew)); exact (Kd.V_mono (Kd.V_far (p := ⟨gb691, 1, none⟩) (Kd.V_far (p := ⟨gb691, 0, none⟩) (Kd.V_mono HO689.out (fun k_ hk => (⟨hk, hk.2⟩ : _ ∧ k_ ≠ gb691))) (fun _ hk => hk.2) (.int .i64 t686)) (fun _ hk => hk.2) (.slice Ao9 t687.length co9)) (fun _ h_ => h_.1))) (Kd.S_base ho0) hb); have n1_ := Aside0.mk (Kd.S_lower ho0 (below_size (by repeat (first | (with_reducible first | exact HB.out | apply below_alloc | apply pw_below_drewN | apply below_drew1 | refine below_set ?_ GE691.out) | exact HB.out)))); have n2_ := Aside0.mk (blk_below (g := gb691) (o := .cells #[.int .i64 t686, .slice Ao9 t687.length co9] 58 (0, 0)) (by (with_reducible repeat (first | refine blk_drewN ?_ _ | refine blk_drew ?_ | refine blk_alloc ?_ _)); refine blk_put (cs := #[.int .i64 t686, .slice none 0 0]) ?_ 1 _ rfl; (with_reducible repeat (first | refine blk_drewN ?_ _ | refine blk_drew ?_ | refine blk_alloc ?_ _)); refine blk_put (cs := #[.int .i64 0, .slice none 0 0]) ?_ 0 _ rfl; (with_reducible repeat (first | refine blk_drewN ?_ _ | refine blk_drew ?_ | refine blk_alloc ?_ _)); exact BK691.out) hb); have n3_ := Aside0.mk (below_step (by repeat (first | (with_reducible first | exact HB.out | apply below_alloc | apply pw_below_drewN | apply below_drew1 | refine below_set ?_ GE691.out) | exact HB.out)) hb); clear HO689; clear BK691; clear HB; have HO689 := n0_; have HO694 := n1_; have BK691 := n2_; have HB := n3_; clear n0_ n1_ n2_ n3_; (try clear hb); (try clear hb2); (try clear hk); (try clear hi); (try clear ho0)))
    go_ret2
    exact ⟨_, by first | rfl | (simp [errW_none, errW_some] <;> rfl) | (simp [*, errW_none, errW_some] <;> rfl), by (with_reducible repeat (first | apply Kd.S_alloc | apply Kd.S_drewN | apply Kd.S_drew)); exact HO694.out, by repeat (first | (with_reducible first | exact HB.out | apply below_alloc | apply pw_below_drewN | apply below_drew1 | refine below_set ?_ GE691.out) | exact HB.out)⟩
  · rw [if_neg c4] at H
    have c4b0 : (t690 == 0) = false := beq_eq_false_iff_ne.mpr c4
    have c4b1 : (t690 != 0) = true := bne_iff_ne.mpr c4
    simp only [Option.some.injEq, Prod.mk.injEq] at H
    obtain ⟨rfl, rfl⟩ := H
    go_enter Try.func41, Try.ntmps41
    go_wp2_with (first | ((with_reducible refine gate_callee (f := 44) rfl ?_); refine goesL_ (some 11) rfl rfl Try.func44 (by kernel_rfl) rfl #[.int .i64 a0, .slice A1 l1.length c1] rfl (by (try simp only [List.map_toArray, List.map_cons, List.map_nil]); first | done | rfl | (simp only [List.length_drop, List.length_take]; rfl)) ?_; (with_reducible refine (fetch_read.calls k a0 (fun k_ => k_ < w.heap.size) _ _ l1 t686 t687 t690 _ ?side1 A3.out).mono ?_); (case side1 => exact Kd.V_mk HC1.out (Kd.F_below (Kd.C_F k34_heap HR1.out) (by repeat (first | (with_reducible first | exact HB.out | apply below_alloc | apply pw_below_drewN | apply below_drew1) | exact HB.out)))); rintro e w11 ⟨v688, rfl, ho0, hb⟩; refine ⟨_, rfl, ?_⟩; have n0_ := Aside0.mk (Kd.V_lower (Kd.V_mono (ok' := fun k_ => True) ho0 (fun k_ hk_ => trivial)) (below_size (by repeat (first | (with_reducible first | exact HB.out | apply below_alloc | apply pw_below_drewN | apply below_drew1) | exact HB.out)))); have n1_ := Aside0.mk (below_step (by repeat (first | (with_reducible first | exact HB.out | apply below_alloc | apply pw_below_drewN | apply below_drew1) | exact HB.out)) hb); clear HB; have HO689 := n0_; have HB := n1_; clear n0_ n1_; (try clear hb); (try clear hb2); (try clear hk); (try clear hi); (try clear ho0)) | ((with_reducible refine gate_dst (N := 6) rfl ?_); refine box_event ?hg (N := 6) ?hd (cs := #[.int .i64 0, .slice none 0 0]) (t := 58) ?hr ?_; (case hd => rfl); (case hg => rfl); (case hr => first | (go_simp; done) | (go_simp; rfl)); intro gb691 hg w12 hbox hb; have n0_ := Aside0.mk (Kd.V_below (Kd.V_elderB (by (with_reducible repeat (first | apply Kd.V_alloc | apply Kd.V_drewN | apply Kd.V_drew)); exact HO689.out) gb691 (Nat.le_of_eq hg.symm)) hb); have n1_ := Aside0.mk (below_step (by repeat (first | (with_reducible first | exact HB.out | apply below_alloc | apply pw_below_drewN | apply below_drew1) | exact HB.out)) hb); have n2_ := Aside0.mk (hbox); have n3_ := Aside0.mk ((by rw [hg]; exact (below_size (by repeat (first | (with_reducible first | exact HB.out | apply below_alloc | apply pw_below_drewN | apply below_drew1) | exact HB.out))) : w.heap.size ≤ gb691)); have n4_ := Aside0.mk ((by rw [hg]; exact (below_size (by repeat (first | (with_reducible first | exact HB.out | apply below_alloc | apply pw_below_drewN | apply below_drew1) | exact HB.out))) : w.heap.size ≤ gb691)); clear HO689; clear HB; have HO689 := n0_; have HB := n1_; have BK691 := n2_; have GW691 := n3_; have GE691 := n4_; clear n0_ n1_ n2_ n3_ n4_; clear hb hbox hg; have hcz13_0 : w12.cell? ⟨gb691, 0, none⟩ = some (.int .i64 0) := (blk_cell BK691.out 0).trans rfl; have hcz13_1 : w12.cell? ⟨gb691, 1, none⟩ = some (.slice none 0 0) := (blk_cell BK691.out 1).trans rfl; have hfz13_0 := blk_frozen BK691.out 0; have hfz13_1 := blk_frozen BK691.out 1; obtain ⟨Ao14, co14, eo14⟩ := Kd.V_slice HO689.out; subst eo14))
    go_ret2
    exact ⟨_, by first | rfl | (simp [errW_none, errW_some] <;> rfl) | (simp [*, errW_none, errW_some] <;> rfl), by first | exact Kd.S_nil _ _ _ _ _ | exact Kd.N_nil _ _ _ _ _ | exact Kd.V_nil _ _ _ _ _ | exact Kd.Q_nil _ _ _ _ _ | exact Kd.R_nil _ _ _ _ _, by repeat (first | (with_reducible first | exact HB.out | apply below_alloc | apply pw_below_drewN | apply below_drew1 | refine below_set ?_ GE691.out) | exact HB.out)⟩
mutual
def trishawlaw09_FetchMended.j0 : Nat → Int → List (S34) → List Int → Bool → Option (Bool)
  | 0, _, _, _, _ => none
  | k + 1, x0, x1, x2, x27 => if x27 = true then ((trishawlaw09_alive.f k).bind fun t730 => (some t730)) else ((fetch_Strong.f k x0 x1).bind fun bt731 => ((fetch_Cuts.f k x0 x1).bind fun bt733 => ((fetch_Mend.f k x0 x1).bind fun bt737 => ((fetch_Parts.f k x0 x1).bind fun bt741 => (if bt731.2 = 0 then (if bt733.2 = 0 then (if bt737.2 = 0 then (if bt741.2 = 0 then (if (bt731.1 != ((bt733.1.length : Int) == 0)) = true then (trishawlaw09_FetchMended.j1 k x0 x1 x2 true) else (if (bt731.1 != ((bt737.1.length : Int) == 0)) = true then (trishawlaw09_FetchMended.j1 k x0 x1 x2 true) else (trishawlaw09_FetchMended.j1 k x0 x1 x2 (bt731.1 != ((bt741.1.length : Int) == 1))))) else (trishawlaw09_FetchMended.j1 k x0 x1 x2 true)) else (trishawlaw09_FetchMended.j1 k x0 x1 x2 true)) else (trishawlaw09_FetchMended.j1 k x0 x1 x2 true)) else (trishawlaw09_FetchMended.j1 k x0 x1 x2 true))))))
def trishawlaw09_FetchMended.j1 : Nat → Int → List (S34) → List Int → Bool → Option (Bool)
  | 0, _, _, _, _ => none
  | k + 1, x0, x1, x2, x87 => if x87 = true then (some false) else ((fetch_Both.f k x0 x1 x2).bind fun bt745 => (if bt745.2 = 0 then ((fetch_IsMend.f k x0 x1 x2).bind fun bt749 => ((fetch_Strong.f k x0 bt745.1).bind fun bt751 => (if bt749.2 = 0 then (if bt751.2 = 0 then (if (bt749.1 == bt751.1) = true then ((trishawlaw09_alive.f k).bind fun t753 => (some t753)) else (some false)) else (some false)) else (some false)))) else (if (bt745.1.length : Int) = 0 then ((trishawlaw09_alive.f k).bind fun t754 => (some t754)) else (some false))))
end
def trishawlaw09_FetchMended.f (k : Nat) (a0 : Int) (l1 : List (S34)) (l2 : List Int) : Option (Bool) := (trishawlaw09_few.f l1 l2).bind fun t728 => (if t728 = true then ((trishawref09_Quarter.f k a0 l1).bind fun t729 => (trishawlaw09_FetchMended.j0 k a0 l1 l2 (t729 != 0))) else (trishawlaw09_FetchMended.j0 k a0 l1 l2 true))
theorem trishawlaw09_FetchMended.mono_l : ∀ k, (∀ y0 y1 y2 y3, LeO (trishawlaw09_FetchMended.j0 k y0 y1 y2 y3) (trishawlaw09_FetchMended.j0 (k + 1) y0 y1 y2 y3)) ∧ (∀ y0 y1 y2 y3, LeO (trishawlaw09_FetchMended.j1 k y0 y1 y2 y3) (trishawlaw09_FetchMended.j1 (k + 1) y0 y1 y2 y3))
  | 0 => ⟨fun _ _ _ _ r h => by simp [trishawlaw09_FetchMended.j0] at h, fun _ _ _ _ r h => by simp [trishawlaw09_FetchMended.j1] at h⟩
  | k + 1 => by
    obtain ⟨ih0, ih1⟩ := trishawlaw09_FetchMended.mono_l k
    refine ⟨?_, ?_⟩
    · intro y0 y1 y2 y3
      unfold trishawlaw09_FetchMended.j0
      repeat' first
      | (with_reducible exact ih0 _ _ _ _)
      | (with_reducible exact ih1 _ _ _ _)
      | (with_reducible exact fetch_Both.mono _ _ _ _)
      | (with_reducible exact fetch_Cuts.mono _ _ _)
      | (with_reducible exact fetch_IsMend.mono _ _ _ _)
      | (with_reducible exact fetch_Mend.mono _ _ _)
      | (with_reducible exact fetch_Parts.mono _ _ _)
      | (with_reducible exact fetch_Strong.mono _ _ _)
      | (with_reducible exact trishawlaw09_alive.mono _)
      | (with_reducible exact trishawref09_Quarter.mono _ _ _)
      | (with_reducible exact LeO.refl _)
      | (with_reducible exact LeO.none _)
      | (with_reducible refine LeO.ite ?_ ?_)
      | (with_reducible refine LeO.bind ?_ (fun _ => ?_))
      | exact ih0 _ _ _ _
      | exact ih1 _ _ _ _
      | exact fetch_Both.mono _ _ _ _
      | exact fetch_Cuts.mono _ _ _
      | exact fetch_IsMend.mono _ _ _ _
      | exact fetch_Mend.mono _ _ _
      | exact fetch_Parts.mono _ _ _
      | exact fetch_Strong.mono _ _ _
      | exact trishawlaw09_alive.mono _
      | exact trishawref09_Quarter.mono _ _ _
      | exact LeO.none _
      | refine LeO.ite ?_ ?_
      | refine LeO.bind ?_ (fun _ => ?_)
    · intro y0 y1 y2 y3
      unfold trishawlaw09_FetchMended.j1
      repeat' first
      | (with_reducible exact ih0 _ _ _ _)
      | (with_reducible exact ih1 _ _ _ _)
      | (with_reducible exact fetch_Both.mono _ _ _ _)
      | (with_reducible exact fetch_Cuts.mono _ _ _)
      | (with_reducible exact fetch_IsMend.mono _ _ _ _)
      | (with_reducible exact fetch_Mend.mono _ _ _)
      | (with_reducible exact fetch_Parts.mono _ _ _)
      | (with_reducible exact fetch_Strong.mono _ _ _)
      | (with_reducible exact trishawlaw09_alive.mono _)
      | (with_reducible exact trishawref09_Quarter.mono _ _ _)
      | (with_reducible exact LeO.refl _)
      | (with_reducible exact LeO.none _)
      | (with_reducible refine LeO.ite ?_ ?_)
      | (with_reducible refine LeO.bind ?_ (fun _ => ?_))
      | exact ih0 _ _ _ _
      | exact ih1 _ _ _ _
      | exact fetch_Both.mono _ _ _ _
      | exact fetch_Cuts.mono _ _ _
      | exact fetch_IsMend.mono _ _ _ _
      | exact fetch_Mend.mono _ _ _
      | exact fetch_Parts.mono _ _ _
      | exact fetch_Strong.mono _ _ _
      | exact trishawlaw09_alive.mono _
      | exact trishawref09_Quarter.mono _ _ _
      | exact LeO.none _
      | refine LeO.ite ?_ ?_
      | refine LeO.bind ?_ (fun _ => ?_)
theorem trishawlaw09_FetchMended.mono : ∀ a0 a1 a2 k, LeO (trishawlaw09_FetchMended.f k a0 a1 a2) (trishawlaw09_FetchMended.f (k + 1) a0 a1 a2) := by
  intro a0 a1 a2 k
  obtain ⟨ih0, ih1⟩ := trishawlaw09_FetchMended.mono_l k
  unfold trishawlaw09_FetchMended.f
  repeat' first
      | (with_reducible exact ih0 _ _ _ _)
      | (with_reducible exact ih1 _ _ _ _)
      | (with_reducible exact fetch_Both.mono _ _ _ _)
      | (with_reducible exact fetch_Cuts.mono _ _ _)
      | (with_reducible exact fetch_IsMend.mono _ _ _ _)
      | (with_reducible exact fetch_Mend.mono _ _ _)
      | (with_reducible exact fetch_Parts.mono _ _ _)
      | (with_reducible exact fetch_Strong.mono _ _ _)
      | (with_reducible exact trishawlaw09_alive.mono _)
      | (with_reducible exact trishawref09_Quarter.mono _ _ _)
      | (with_reducible exact LeO.refl _)
      | (with_reducible exact LeO.none _)
      | (with_reducible refine LeO.ite ?_ ?_)
      | (with_reducible refine LeO.bind ?_ (fun _ => ?_))
      | exact ih0 _ _ _ _
      | exact ih1 _ _ _ _
      | exact fetch_Both.mono _ _ _ _
      | exact fetch_Cuts.mono _ _ _
      | exact fetch_IsMend.mono _ _ _ _
      | exact fetch_Mend.mono _ _ _
      | exact fetch_Parts.mono _ _ _
      | exact fetch_Strong.mono _ _ _
      | exact trishawlaw09_alive.mono _
      | exact trishawref09_Quarter.mono _ _ _
      | exact LeO.none _
      | refine LeO.ite ?_ ?_
      | refine LeO.bind ?_ (fun _ => ?_)
set_option maxHeartbeats 8000000 in
set_option maxRecDepth 100000 in
theorem trishawlaw09_FetchMended.calls (k : Nat) (a0 : Int) (A1 : Option Addr) (c1 : Nat) (l1 : List (S34)) (A2 : Option Addr) (c2 : Nat) (l2 : List Int) (r : Bool) (w : World) (hr1 : Kd.C k34 w A1 l1.length l1) (hc1 : l1.length ≤ c1) (hr2 : Kd.C (Kd.int .i64) w A2 l2.length l2) (hc2 : l2.length ≤ c2) (h : trishawlaw09_FetchMended.f k a0 l1 l2 = some r) :
    Calls Try.prog 14 #[.int .i64 a0, .slice A1 l1.length c1, .slice A2 l2.length c2] w fun e w' => e = .returned (.bool r) ∧ Below w.heap.size w w' := by
  have HR1 := Aside0.mk hr1
  have HC1 := Aside0.mk hc1
  clear hr1 hc1
  have HR2 := Aside0.mk hr2
  have HC2 := Aside0.mk hc2
  clear hr2 hc2
  have HB := Aside0.mk (Below.refl w.heap.size w)
  have H : ((trishawlaw09_few.f l1 l2).bind fun t728 => (if t728 = true then ((trishawref09_Quarter.f k a0 l1).bind fun t729 => (trishawlaw09_FetchMended.j0 k a0 l1 l2 (t729 != 0))) else (trishawlaw09_FetchMended.j0 k a0 l1 l2 true))) = some r := h
  clear h
  have HC4 := Aside0.mk H
  clear H
  go_enter Try.func14, Try.ntmps14
  go_upto_region 1 with (fail)
  go_cut [27] (fun v27 wc => ∃ (kq : Nat) (x27_3 : Bool), v27 = .bool x27_3 ∧ Aside0 (trishawlaw09_FetchMended.j0 kq a0 l1 l2 x27_3 = some r) ∧ Aside0 (kq ≤ k) ∧ Aside0 (Below w.heap.size w wc))
  case first =>
    have H := HC4.out
    clear HC4
    replace H := Option.bind_eq_some_iff.mp H
    obtain ⟨t728, A50, H⟩ := H
    replace H : (if t728 = true then ((trishawref09_Quarter.f k a0 l1).bind fun t729 => (trishawlaw09_FetchMended.j0 k a0 l1 l2 (t729 != 0))) else (trishawlaw09_FetchMended.j0 k a0 l1 l2 true)) = some r := H
    have A5 := Aside0.mk A50
    clear A50
    by_cases c6 : t728 = true
    · subst c6
      have H1 : ((trishawref09_Quarter.f k a0 l1).bind fun t729 => (trishawlaw09_FetchMended.j0 k a0 l1 l2 (t729 != 0))) = some r := by rw [if_pos rfl] at H; exact H
      clear H
      have H := H1
      clear H1
      replace H := Option.bind_eq_some_iff.mp H
      obtain ⟨t729, A70, H⟩ := H
      replace H : (trishawlaw09_FetchMended.j0 k a0 l1 l2 (t729 != 0)) = some r := H
      have A7 := Aside0.mk A70
      clear A70
      have H' := Aside0.mk H
      clear H
      go_wp2_with (first | ((with_reducible refine gate_callee (f := 16) rfl ?_); refine goesL_ (some 20) rfl rfl Try.func16 (by kernel_rfl) rfl #[.slice A1 l1.length c1, .slice A2 l2.length c2] rfl (by (try simp only [List.map_toArray, List.map_cons, List.map_nil]); first | done | rfl | (simp only [List.length_drop, List.length_take]; rfl)) ?_; (with_reducible refine (trishawlaw09_few.calls _ _ l1 _ _ l2 true _ ?side1 ?side2 ?side3 ?side4 A5.out).mono ?_); (case side1 => repeat (first | exact (Kd.C_below HR1.out HB.out) | (with_reducible refine Kd.C_alloc ?_ _) | (with_reducible refine Kd.C_drewN ?_ _) | (with_reducible refine Kd.C_drew ?_))); (case side2 => exact HC1.out); (case side3 => repeat (first | exact (Kd.C_below HR2.out HB.out) | (with_reducible refine Kd.C_alloc ?_ _) | (with_reducible refine Kd.C_drewN ?_ _) | (with_reducible refine Kd.C_drew ?_))); (case side4 => exact HC2.out); rintro e w' ⟨rfl, ⟨nd, rfl⟩⟩; refine ⟨_, rfl, ?_⟩) | (go_at_call 21; (with_reducible refine (trishawref09_Quarter.calls k a0 _ _ l1 t729 _ ?side1 ?side2 A7.out).mono ?_); (case side1 => repeat (first | exact (Kd.C_below HR1.out (by repeat (first | (with_reducible first | exact HB.out | apply below_alloc | apply pw_below_drewN | apply below_drew1) | exact HB.out))) | (with_reducible refine Kd.C_alloc ?_ _) | (with_reducible refine Kd.C_drewN ?_ _) | (with_reducible refine Kd.C_drew ?_))); (case side2 => exact HC1.out); rintro e w' ⟨rfl, ⟨nd, rfl⟩⟩))
      go_meet
      case rel => exact ⟨_, ((t729 != 0)), (by first | rfl | (simp; done) | (simp [*]; done)), H', ⟨by first | omega | exact Nat.le_refl _⟩, ⟨by repeat (first | (with_reducible first | exact HB.out | apply below_alloc | apply pw_below_drewN | apply below_drew1) | exact HB.out)⟩⟩
    · replace c6 := Bool.eq_false_iff.mpr c6
      subst c6
      have H1 : (trishawlaw09_FetchMended.j0 k a0 l1 l2 true) = some r := by rw [if_neg (show ¬ (false = true) by decide)] at H; exact H
      clear H
      have H := H1
      clear H1
      have H' := Aside0.mk H
      clear H
      go_wp2_with (first | ((with_reducible refine gate_callee (f := 16) rfl ?_); refine goesL_ (some 20) rfl rfl Try.func16 (by kernel_rfl) rfl #[.slice A1 l1.length c1, .slice A2 l2.length c2] rfl (by (try simp only [List.map_toArray, List.map_cons, List.map_nil]); first | done | rfl | (simp only [List.length_drop, List.length_take]; rfl)) ?_; (with_reducible refine (trishawlaw09_few.calls _ _ l1 _ _ l2 false _ ?side1 ?side2 ?side3 ?side4 A5.out).mono ?_); (case side1 => repeat (first | exact (Kd.C_below HR1.out HB.out) | (with_reducible refine Kd.C_alloc ?_ _) | (with_reducible refine Kd.C_drewN ?_ _) | (with_reducible refine Kd.C_drew ?_))); (case side2 => exact HC1.out); (case side3 => repeat (first | exact (Kd.C_below HR2.out HB.out) | (with_reducible refine Kd.C_alloc ?_ _) | (with_reducible refine Kd.C_drewN ?_ _) | (with_reducible refine Kd.C_drew ?_))); (case side4 => exact HC2.out); rintro e w' ⟨rfl, ⟨nd, rfl⟩⟩; refine ⟨_, rfl, ?_⟩))
      go_meet
      case rel => exact ⟨_, (true), (by first | rfl | (simp; done) | (simp [*]; done)), H', ⟨by first | omega | exact Nat.le_refl _⟩, ⟨by repeat (first | (with_reducible first | exact HB.out | apply below_alloc | apply pw_below_drewN | apply below_drew1) | exact HB.out)⟩⟩
  case rest =>
    clear HC4
    try clear c1
    try clear c2
    try clear p2
    try clear c6
    obtain ⟨kq, x27_3, rfl, HA, HJ3, HB⟩ := hcut
    cases kq with
    | zero => exact absurd HA.out (by simp [trishawlaw09_FetchMended.j0])
    | succ kj3 =>
      have H := HA.out
      clear HA
      simp only [trishawlaw09_FetchMended.j0] at H
      by_cases c8 : x27_3 = true
      · subst c8
        have H1 : ((trishawlaw09_alive.f kj3).bind fun t730 => (some t730)) = some r := by rw [if_pos rfl] at H; exact H
        clear H
        have H := H1
        clear H1
        replace H := Option.bind_eq_some_iff.mp H
        obtain ⟨t730, A90, H⟩ := H
        replace H : (some t730) = some r := H
        have A9 := Aside0.mk A90
        clear A90
        obtain rfl := Option.some.inj H
        go_wp2_with (first | ((with_reducible refine gate_callee (f := 17) rfl ?_); refine goesL_ (some 28) rfl rfl Try.func17 (by kernel_rfl) rfl #[] rfl (by (try simp only [List.map_toArray, List.map_cons, List.map_nil]); first | done | rfl | (simp only [List.length_drop, List.length_take]; rfl)) ?_; (with_reducible refine (trishawlaw09_alive.calls kj3  t730 _ A9.out).mono ?_); rintro e w10 ⟨rfl, hb⟩; refine ⟨_, rfl, ?_⟩; have n0_ := Aside0.mk (below_step (by repeat (first | (with_reducible first | exact HB.out | apply below_alloc | apply pw_below_drewN | apply below_drew1) | exact HB.out)) hb); clear HB; have HB := n0_; clear n0_; (try clear hb); (try clear hb2); (try clear hk); (try clear hi)))
        go_ret
        exact ⟨by first | rfl | (simp [errW_none, errW_some] <;> rfl) | (simp [*, errW_none, errW_some] <;> rfl), by repeat (first | (with_reducible first | exact HB.out | apply below_alloc | apply pw_below_drewN | apply below_drew1) | exact HB.out)⟩
      · replace c8 := Bool.eq_false_iff.mpr c8
        subst c8
        have H1 : ((fetch_Strong.f kj3 a0 l1).bind fun bt731 => ((fetch_Cuts.f kj3 a0 l1).bind fun bt733 => ((fetch_Mend.f kj3 a0 l1).bind fun bt737 => ((fetch_Parts.f kj3 a0 l1).bind fun bt741 => (if bt731.2 = 0 then (if bt733.2 = 0 then (if bt737.2 = 0 then (if bt741.2 = 0 then (if (bt731.1 != ((bt733.1.length : Int) == 0)) = true then (trishawlaw09_FetchMended.j1 kj3 a0 l1 l2 true) else (if (bt731.1 != ((bt737.1.length : Int) == 0)) = true then (trishawlaw09_FetchMended.j1 kj3 a0 l1 l2 true) else (trishawlaw09_FetchMended.j1 kj3 a0 l1 l2 (bt731.1 != ((bt741.1.length : Int) == 1))))) else (trishawlaw09_FetchMended.j1 kj3 a0 l1 l2 true)) else (trishawlaw09_FetchMended.j1 kj3 a0 l1 l2 true)) else (trishawlaw09_FetchMended.j1 kj3 a0 l1 l2 true)) else (trishawlaw09_FetchMended.j1 kj3 a0 l1 l2 true)))))) = some r := by rw [if_neg (show ¬ (false = true) by decide)] at H; exact H
        clear H
        have H := H1
        clear H1
        replace H := Option.bind_eq_some_iff.mp H
        obtain ⟨⟨t731, t732⟩, A110, H⟩ := H
        replace H : ((fetch_Cuts.f kj3 a0 l1).bind fun bt733 => ((fetch_Mend.f kj3 a0 l1).bind fun bt737 => ((fetch_Parts.f kj3 a0 l1).bind fun bt741 => (if t732 = 0 then (if bt733.2 = 0 then (if bt737.2 = 0 then (if bt741.2 = 0 then (if (t731 != ((bt733.1.length : Int) == 0)) = true then (trishawlaw09_FetchMended.j1 kj3 a0 l1 l2 true) else (if (t731 != ((bt737.1.length : Int) == 0)) = true then (trishawlaw09_FetchMended.j1 kj3 a0 l1 l2 true) else (trishawlaw09_FetchMended.j1 kj3 a0 l1 l2 (t731 != ((bt741.1.length : Int) == 1))))) else (trishawlaw09_FetchMended.j1 kj3 a0 l1 l2 true)) else (trishawlaw09_FetchMended.j1 kj3 a0 l1 l2 true)) else (trishawlaw09_FetchMended.j1 kj3 a0 l1 l2 true)) else (trishawlaw09_FetchMended.j1 kj3 a0 l1 l2 true))))) = some r := H
        have A11 := Aside0.mk A110
        clear A110
        replace H := Option.bind_eq_some_iff.mp H
        obtain ⟨⟨t733, t734⟩, A120, H⟩ := H
        replace H : ((fetch_Mend.f kj3 a0 l1).bind fun bt737 => ((fetch_Parts.f kj3 a0 l1).bind fun bt741 => (if t732 = 0 then (if t734 = 0 then (if bt737.2 = 0 then (if bt741.2 = 0 then (if (t731 != ((t733.length : Int) == 0)) = true then (trishawlaw09_FetchMended.j1 kj3 a0 l1 l2 true) else (if (t731 != ((bt737.1.length : Int) == 0)) = true then (trishawlaw09_FetchMended.j1 kj3 a0 l1 l2 true) else (trishawlaw09_FetchMended.j1 kj3 a0 l1 l2 (t731 != ((bt741.1.length : Int) == 1))))) else (trishawlaw09_FetchMended.j1 kj3 a0 l1 l2 true)) else (trishawlaw09_FetchMended.j1 kj3 a0 l1 l2 true)) else (trishawlaw09_FetchMended.j1 kj3 a0 l1 l2 true)) else (trishawlaw09_FetchMended.j1 kj3 a0 l1 l2 true)))) = some r := H
        have A12 := Aside0.mk A120
        clear A120
        replace H := Option.bind_eq_some_iff.mp H
        obtain ⟨⟨t737, t738⟩, A130, H⟩ := H
        replace H : ((fetch_Parts.f kj3 a0 l1).bind fun bt741 => (if t732 = 0 then (if t734 = 0 then (if t738 = 0 then (if bt741.2 = 0 then (if (t731 != ((t733.length : Int) == 0)) = true then (trishawlaw09_FetchMended.j1 kj3 a0 l1 l2 true) else (if (t731 != ((t737.length : Int) == 0)) = true then (trishawlaw09_FetchMended.j1 kj3 a0 l1 l2 true) else (trishawlaw09_FetchMended.j1 kj3 a0 l1 l2 (t731 != ((bt741.1.length : Int) == 1))))) else (trishawlaw09_FetchMended.j1 kj3 a0 l1 l2 true)) else (trishawlaw09_FetchMended.j1 kj3 a0 l1 l2 true)) else (trishawlaw09_FetchMended.j1 kj3 a0 l1 l2 true)) else (trishawlaw09_FetchMended.j1 kj3 a0 l1 l2 true))) = some r := H
        have A13 := Aside0.mk A130
        clear A130
        replace H := Option.bind_eq_some_iff.mp H
        obtain ⟨⟨t741, t742⟩, A140, H⟩ := H
        replace H : (if t732 = 0 then (if t734 = 0 then (if t738 = 0 then (if t742 = 0 then (if (t731 != ((t733.length : Int) == 0)) = true then (trishawlaw09_FetchMended.j1 kj3 a0 l1 l2 true) else (if (t731 != ((t737.length : Int) == 0)) = true then (trishawlaw09_FetchMended.j1 kj3 a0 l1 l2 true) else (trishawlaw09_FetchMended.j1 kj3 a0 l1 l2 (t731 != ((t741.length : Int) == 1))))) else (trishawlaw09_FetchMended.j1 kj3 a0 l1 l2 true)) else (trishawlaw09_FetchMended.j1 kj3 a0 l1 l2 true)) else (trishawlaw09_FetchMended.j1 kj3 a0 l1 l2 true)) else (trishawlaw09_FetchMended.j1 kj3 a0 l1 l2 true)) = some r := H
        have A14 := Aside0.mk A140
        clear A140
        have HC15 := Aside0.mk H
        clear H
        go_upto_region 7 with (first | ((with_reducible refine gate_callee (f := 36) rfl ?_); refine goesL_ (some 32) rfl rfl Try.func36 (by kernel_rfl) rfl #[.int .i64 a0, .slice A1 l1.length c1] rfl (by (try simp only [List.map_toArray, List.map_cons, List.map_nil]); first | done | rfl | (simp only [List.length_drop, List.length_take]; rfl)) ?_; (with_reducible refine (fetch_Strong.calls kj3 a0 _ _ l1 t731 t732 _ ?side1 ?side2 A11.out).mono ?_); (case side1 => repeat (first | exact (Kd.C_below HR1.out HB.out) | (with_reducible refine Kd.C_alloc ?_ _) | (with_reducible refine Kd.C_drewN ?_ _) | (with_reducible refine Kd.C_drew ?_))); (case side2 => exact HC1.out); rintro e w16 ⟨rfl, hb⟩; refine ⟨_, rfl, ?_⟩; have n0_ := Aside0.mk (below_step (by repeat (first | (with_reducible first | exact HB.out | apply below_alloc | apply pw_below_drewN | apply below_drew1) | exact HB.out)) hb); clear HB; have HB := n0_; clear n0_; (try clear hb); (try clear hb2); (try clear hk); (try clear hi)) | ((with_reducible refine gate_callee (f := 22) rfl ?_); refine goesL_ (some 38) rfl rfl Try.func22 (by kernel_rfl) rfl #[.int .i64 a0, .slice A1 l1.length c1] rfl (by (try simp only [List.map_toArray, List.map_cons, List.map_nil]); first | done | rfl | (simp only [List.length_drop, List.length_take]; rfl)) ?_; (with_reducible refine (fetch_Cuts.calls kj3 a0 _ _ l1 t733 t734 _ ?side1 ?side2 A12.out).mono ?_); (case side1 => repeat (first | exact (Kd.C_below HR1.out HB.out) | (with_reducible refine Kd.C_alloc ?_ _) | (with_reducible refine Kd.C_drewN ?_ _) | (with_reducible refine Kd.C_drew ?_))); (case side2 => exact HC1.out); rintro e w17 ⟨v735, rfl, ho0, hb⟩; refine ⟨_, rfl, ?_⟩; have n0_ := Aside0.mk (Kd.R_lower ho0 (below_size (by repeat (first | (with_reducible first | exact HB.out | apply below_alloc | apply pw_below_drewN | apply below_drew1) | exact HB.out)))); have n1_ := Aside0.mk (below_step (by repeat (first | (with_reducible first | exact HB.out | apply below_alloc | apply pw_below_drewN | apply below_drew1) | exact HB.out)) hb); clear HB; have HO736 := n0_; have HB := n1_; clear n0_ n1_; (try clear hb); (try clear hb2); (try clear hk); (try clear hi); (try clear ho0)) | ((with_reducible refine gate_callee (f := 23) rfl ?_); refine goesL_ (some 44) rfl rfl Try.func23 (by kernel_rfl) rfl #[.int .i64 a0, .slice A1 l1.length c1] rfl (by (try simp only [List.map_toArray, List.map_cons, List.map_nil]); first | done | rfl | (simp only [List.length_drop, List.length_take]; rfl)) ?_; (with_reducible refine (fetch_Mend.calls kj3 a0 _ _ l1 t737 t738 _ ?side1 ?side2 A13.out).mono ?_); (case side1 => repeat (first | exact (Kd.C_below HR1.out HB.out) | (with_reducible refine Kd.C_alloc ?_ _) | (with_reducible refine Kd.C_drewN ?_ _) | (with_reducible refine Kd.C_drew ?_))); (case side2 => exact HC1.out); rintro e w18 ⟨v739, rfl, ho0, hb⟩; refine ⟨_, rfl, ?_⟩; have n0_ := Aside0.mk (Kd.R_elder' (by (with_reducible repeat (first | apply Kd.R_alloc | apply Kd.R_drewN | apply Kd.R_drew)); exact HO736.out) (Kd.R_base ho0) hb); have n1_ := Aside0.mk (Kd.R_lower (Kd.R_new' ho0 (Kd.R_lt (by (with_reducible repeat (first | apply Kd.R_alloc | apply Kd.R_drewN | apply Kd.R_drew)); exact HO736.out))) (below_size (by repeat (first | (with_reducible first | exact HB.out | apply below_alloc | apply pw_below_drewN | apply below_drew1) | exact HB.out)))); have n2_ := Aside0.mk (below_step (by repeat (first | (with_reducible first | exact HB.out | apply below_alloc | apply pw_below_drewN | apply below_drew1) | exact HB.out)) hb); clear HO736; clear HB; have HO736 := n0_; have HO740 := n1_; have HB := n2_; clear n0_ n1_ n2_; (try clear hb); (try clear hb2); (try clear hk); (try clear hi); (try clear ho0)) | ((with_reducible refine gate_callee (f := 41) rfl ?_); refine goesL_ (some 50) rfl rfl Try.func41 (by kernel_rfl) rfl #[.int .i64 a0, .slice A1 l1.length c1] rfl (by (try simp only [List.map_toArray, List.map_cons, List.map_nil]); first | done | rfl | (simp only [List.length_drop, List.length_take]; rfl)) ?_; (with_reducible refine (fetch_Parts.calls kj3 a0 _ _ l1 t741 t742 _ ?side1 ?side2 A14.out).mono ?_); (case side1 => repeat (first | exact (Kd.C_below HR1.out HB.out) | (with_reducible refine Kd.C_alloc ?_ _) | (with_reducible refine Kd.C_drewN ?_ _) | (with_reducible refine Kd.C_drew ?_))); (case side2 => exact HC1.out); rintro e w19 ⟨v743, rfl, ho0, hb⟩; refine ⟨_, rfl, ?_⟩; have n0_ := Aside0.mk (Kd.R_below (by (with_reducible repeat (first | apply Kd.R_alloc | apply Kd.R_drewN | apply Kd.R_drew)); exact HO736.out) hb); have n1_ := Aside0.mk (Kd.R_below (by (with_reducible repeat (first | apply Kd.R_alloc | apply Kd.R_drewN | apply Kd.R_drew)); exact HO740.out) hb); have n2_ := Aside0.mk (Kd.S_lower (Kd.S_new' (Kd.S_new' ho0 (Kd.R_lt (by (with_reducible repeat (first | apply Kd.R_alloc | apply Kd.R_drewN | apply Kd.R_drew)); exact HO736.out))) (Kd.R_lt (by (with_reducible repeat (first | apply Kd.R_alloc | apply Kd.R_drewN | apply Kd.R_drew)); exact HO740.out))) (below_size (by repeat (first | (with_reducible first | exact HB.out | apply below_alloc | apply pw_below_drewN | apply below_drew1) | exact HB.out)))); have n3_ := Aside0.mk (below_step (by repeat (first | (with_reducible first | exact HB.out | apply below_alloc | apply pw_below_drewN | apply below_drew1) | exact HB.out)) hb); clear HO736; clear HO740; clear HB; have HO736 := n0_; have HO740 := n1_; have HO744 := n2_; have HB := n3_; clear n0_ n1_ n2_ n3_; (try clear hb); (try clear hb2); (try clear hk); (try clear hi); (try clear ho0)))
        (try simp only [Act.put, List.setIfInBounds_toArray, List.set_cons_zero, List.set_cons_succ])
        go_cut [87] (fun v87 wc => ∃ (kq : Nat) (x87_14 : Bool), v87 = .bool x87_14 ∧ Aside0 (trishawlaw09_FetchMended.j1 kq a0 l1 l2 x87_14 = some r) ∧ Aside0 (kq ≤ kj3) ∧ Aside0 (Below w.heap.size w wc))
        case first =>
          have H := HC15.out
          clear HC15
          by_cases c20 : t732 = 0
          · rw [if_pos c20] at H
            have c20b0 : (t732 == 0) = true := beq_iff_eq.mpr c20
            have c20b1 : (t732 != 0) = false := bne_eq_false_iff_eq.mpr c20
            clear c20
            (first | rw [c20b0] | (simp only [i64_w, i32_w]; rw [c20b0]) | skip)
            by_cases c21 : t734 = 0
            · rw [if_pos c21] at H
              have c21b0 : (t734 == 0) = true := beq_iff_eq.mpr c21
              have c21b1 : (t734 != 0) = false := bne_eq_false_iff_eq.mpr c21
              clear c21
              by_cases c22 : t738 = 0
              · rw [if_pos c22] at H
                have c22b0 : (t738 == 0) = true := beq_iff_eq.mpr c22
                have c22b1 : (t738 != 0) = false := bne_eq_false_iff_eq.mpr c22
                clear c22
                by_cases c23 : t742 = 0
                · rw [if_pos c23] at H
                  have c23b0 : (t742 == 0) = true := beq_iff_eq.mpr c23
                  have c23b1 : (t742 != 0) = false := bne_eq_false_iff_eq.mpr c23
                  clear c23
                  by_cases c24 : (t731 != ((t733.length : Int) == 0)) = true
                  · rw [if_pos c24] at H
                    have c24b0 : (t731 != ((t733.length : Int) == 0)) = true := c24
                    (try (have c24b1 : decide (t731 = ((t733.length : Int) == 0)) = false := by simpa using c24))
                    (try (have c24b2 : (t731 == ((t733.length : Int) == 0)) = false := by simpa using c24))
                    (try (have c24b3 : ¬ (t731 = ((t733.length : Int) == 0)) := by simpa using c24))
                    clear c24
                    have H' := Aside0.mk H
                    clear H
                    obtain ⟨Ao25, co25, eo25⟩ := Kd.R_slice HO736.out
                    subst eo25
                    go_wp2
                    go_meet
                    case rel => exact ⟨_, (true), (by first | rfl | (simp; done) | (simp [*]; done)), H', ⟨by have := HJ3.out; first | omega | exact Nat.le_refl _⟩, ⟨by repeat (first | (with_reducible first | exact HB.out | apply below_alloc | apply pw_below_drewN | apply below_drew1) | exact HB.out)⟩⟩
                  · rw [if_neg c24] at H
                    have c24b0 : (t731 != ((t733.length : Int) == 0)) = false := by simpa using c24
                    (try (have c24b1 : decide (t731 = ((t733.length : Int) == 0)) = true := by simpa using c24))
                    (try (have c24b2 : (t731 == ((t733.length : Int) == 0)) = true := by simpa using c24))
                    clear c24
                    by_cases c26 : (t731 != ((t737.length : Int) == 0)) = true
                    · rw [if_pos c26] at H
                      have c26b0 : (t731 != ((t737.length : Int) == 0)) = true := c26
                      (try (have c26b1 : decide (t731 = ((t737.length : Int) == 0)) = false := by simpa using c26))
                      (try (have c26b2 : (t731 == ((t737.length : Int) == 0)) = false := by simpa using c26))
                      (try (have c26b3 : ¬ (t731 = ((t737.length : Int) == 0)) := by simpa using c26))
                      clear c26
                      have H' := Aside0.mk H
                      clear H
                      obtain ⟨Ao27, co27, eo27⟩ := Kd.R_slice HO736.out
                      subst eo27
                      obtain ⟨Ao28, co28, eo28⟩ := Kd.R_slice HO740.out
                      subst eo28
                      go_wp2
                      go_meet
                      case rel => exact ⟨_, (true), (by first | rfl | (simp; done) | (simp [*]; done)), H', ⟨by have := HJ3.out; first | omega | exact Nat.le_refl _⟩, ⟨by repeat (first | (with_reducible first | exact HB.out | apply below_alloc | apply pw_below_drewN | apply below_drew1) | exact HB.out)⟩⟩
                    · rw [if_neg c26] at H
                      have c26b0 : (t731 != ((t737.length : Int) == 0)) = false := by simpa using c26
                      (try (have c26b1 : decide (t731 = ((t737.length : Int) == 0)) = true := by simpa using c26))
                      (try (have c26b2 : (t731 == ((t737.length : Int) == 0)) = true := by simpa using c26))
                      clear c26
                      have H' := Aside0.mk H
                      clear H
                      obtain ⟨Ao29, co29, eo29⟩ := Kd.R_slice HO736.out
                      subst eo29
                      obtain ⟨Ao30, co30, eo30⟩ := Kd.R_slice HO740.out
                      subst eo30
                      obtain ⟨Ao31, co31, eo31⟩ := Kd.S_slice HO744.out
                      subst eo31
                      go_wp2
                      go_meet
                      case rel => exact ⟨_, ((t731 != ((t741.length : Int) == 1))), (by first | rfl | (simp; done) | (simp [*]; done)), H', ⟨by have := HJ3.out; first | omega | exact Nat.le_refl _⟩, ⟨by repeat (first | (with_reducible first | exact HB.out | apply below_alloc | apply pw_below_drewN | apply below_drew1) | exact HB.out)⟩⟩
                · rw [if_neg c23] at H
                  have c23b0 : (t742 == 0) = false := beq_eq_false_iff_ne.mpr c23
                  have c23b1 : (t742 != 0) = true := bne_iff_ne.mpr c23
                  have H' := Aside0.mk H
                  clear H
                  go_wp2
                  go_meet
                  case rel => exact ⟨_, (true), (by first | rfl | (simp; done) | (simp [*]; done)), H', ⟨by have := HJ3.out; first | omega | exact Nat.le_refl _⟩, ⟨by repeat (first | (with_reducible first | exact HB.out | apply below_alloc | apply pw_below_drewN | apply below_drew1) | exact HB.out)⟩⟩
              · rw [if_neg c22] at H
                have c22b0 : (t738 == 0) = false := beq_eq_false_iff_ne.mpr c22
                have c22b1 : (t738 != 0) = true := bne_iff_ne.mpr c22
                have H' := Aside0.mk H
                clear H
                go_wp2
                go_meet
                case rel => exact ⟨_, (true), (by first | rfl | (simp; done) | (simp [*]; done)), H', ⟨by have := HJ3.out; first | omega | exact Nat.le_refl _⟩, ⟨by repeat (first | (with_reducible first | exact HB.out | apply below_alloc | apply pw_below_drewN | apply below_drew1) | exact HB.out)⟩⟩
            · rw [if_neg c21] at H
              have c21b0 : (t734 == 0) = false := beq_eq_false_iff_ne.mpr c21
              have c21b1 : (t734 != 0) = true := bne_iff_ne.mpr c21
              have H' := Aside0.mk H
              clear H
              go_wp2
              go_meet
              case rel => exact ⟨_, (true), (by first | rfl | (simp; done) | (simp [*]; done)), H', ⟨by have := HJ3.out; first | omega | exact Nat.le_refl _⟩, ⟨by repeat (first | (with_reducible first | exact HB.out | apply below_alloc | apply pw_below_drewN | apply below_drew1) | exact HB.out)⟩⟩
          · rw [if_neg c20] at H
            have c20b0 : (t732 == 0) = false := beq_eq_false_iff_ne.mpr c20
            have c20b1 : (t732 != 0) = true := bne_iff_ne.mpr c20
            (first | rw [c20b0] | (simp only [i64_w, i32_w]; rw [c20b0]) | skip)
            have H' := Aside0.mk H
            clear H
            go_wp2
            go_meet
            case rel => exact ⟨_, (true), (by first | rfl | (simp; done) | (simp [*]; done)), H', ⟨by have := HJ3.out; first | omega | exact Nat.le_refl _⟩, ⟨by repeat (first | (with_reducible first | exact HB.out | apply below_alloc | apply pw_below_drewN | apply below_drew1) | exact HB.out)⟩⟩
        case rest =>
          clear HC15
          try clear c1
          try clear c2
          try clear p2
          try clear c3
          try clear c4
          try clear c6
          try clear c8
          try clear c14
          try clear c16
          try clear c17
          try clear c20
          try clear c20b0
          try clear c20b1
          try clear c21
          try clear c21b0
          try clear c21b1
          try clear c22
          try clear c22b0
          try clear c22b1
          try clear c23
          try clear c23b0
          try clear c23b1
          try clear c24
          try clear c24b0
          try clear c24b1
          try clear c24b2
          try clear c26
          try clear c26b0
          try clear c26b1
          try clear c26b2
          try clear p2
          obtain ⟨kq, x87_14, rfl, HA, HJ14, HB⟩ := hcut
          cases kq with
          | zero => exact absurd HA.out (by simp [trishawlaw09_FetchMended.j1])
          | succ kj14 =>
            have H := HA.out
            clear HA
            simp only [trishawlaw09_FetchMended.j1] at H
            by_cases c32 : x87_14 = true
            · subst c32
              have H1 : (some false) = some r := by rw [if_pos rfl] at H; exact H
              clear H
              have H := H1
              clear H1
              obtain rfl := Option.some.inj H
              go_wp2
              go_ret
              exact ⟨by first | rfl | (simp [errW_none, errW_some] <;> rfl) | (simp [*, errW_none, errW_some] <;> rfl), by repeat (first | (with_reducible first | exact HB.out | apply below_alloc | apply pw_below_drewN | apply below_drew1) | exact HB.out)⟩
            · replace c32 := Bool.eq_false_iff.mpr c32
              subst c32
              have H1 : ((fetch_Both.f kj14 a0 l1 l2).bind fun bt745 => (if bt745.2 = 0 then ((fetch_IsMend.f kj14 a0 l1 l2).bind fun bt749 => ((fetch_Strong.f kj14 a0 bt745.1).bind fun bt751 => (if bt749.2 = 0 then (if bt751.2 = 0 then (if (bt749.1 == bt751.1) = true then ((trishawlaw09_alive.f kj14).bind fun t753 => (some t753)) else (some false)) else (some false)) else (some false)))) else (if (bt745.1.length : Int) = 0 then ((trishawlaw09_alive.f kj14).bind fun t754 => (some t754)) else (some false)))) = some r := by rw [if_neg (show ¬ (false = true) by decide)] at H; exact H
              clear H
              have H := H1
              clear H1
              replace H := Option.bind_eq_some_iff.mp H
              obtain ⟨⟨t745, t746⟩, A330, H⟩ := H
              replace H : (if t746 = 0 then ((fetch_IsMend.f kj14 a0 l1 l2).bind fun bt749 => ((fetch_Strong.f kj14 a0 t745).bind fun bt751 => (if bt749.2 = 0 then (if bt751.2 = 0 then (if (bt749.1 == bt751.1) = true then ((trishawlaw09_alive.f kj14).bind fun t753 => (some t753)) else (some false)) else (some false)) else (some false)))) else (if (t745.length : Int) = 0 then ((trishawlaw09_alive.f kj14).bind fun t754 => (some t754)) else (some false))) = some r := H
              have A33 := Aside0.mk A330
              clear A330
              by_cases c34 : t746 = 0
              · rw [if_pos c34] at H
                have c34b0 : (t746 == 0) = true := beq_iff_eq.mpr c34
                have c34b1 : (t746 != 0) = false := bne_eq_false_iff_eq.mpr c34
                clear c34
                replace H := Option.bind_eq_some_iff.mp H
                obtain ⟨⟨t749, t750⟩, A350, H⟩ := H
                replace H : ((fetch_Strong.f kj14 a0 t745).bind fun bt751 => (if t750 = 0 then (if bt751.2 = 0 then (if (t749 == bt751.1) = true then ((trishawlaw09_alive.f kj14).bind fun t753 => (some t753)) else (some false)) else (some false)) else (some false))) = some r := H
                have A35 := Aside0.mk A350
                clear A350
                replace H := Option.bind_eq_some_iff.mp H
                obtain ⟨⟨t751, t752⟩, A360, H⟩ := H
                replace H : (if t750 = 0 then (if t752 = 0 then (if (t749 == t751) = true then ((trishawlaw09_alive.f kj14).bind fun t753 => (some t753)) else (some false)) else (some false)) else (some false)) = some r := H
                have A36 := Aside0.mk A360
                clear A360
                by_cases c37 : t750 = 0
                · rw [if_pos c37] at H
                  have c37b0 : (t750 == 0) = true := beq_iff_eq.mpr c37
                  have c37b1 : (t750 != 0) = false := bne_eq_false_iff_eq.mpr c37
                  clear c37
                  by_cases c38 : t752 = 0
                  · rw [if_pos c38] at H
                    have c38b0 : (t752 == 0) = true := beq_iff_eq.mpr c38
                    have c38b1 : (t752 != 0) = false := bne_eq_false_iff_eq.mpr c38
                    clear c38
                    by_cases c39 : (t749 == t751) = true
                    · rw [if_pos c39] at H
                      have c39b0 : (t749 == t751) = true := c39
                      (try (have c39b1 : decide (t749 = t751) = true := by simpa using c39))
                      (try (have c39b2 : (t749 == t751) = true := by simpa using c39))
                      clear c39
                      replace H := Option.bind_eq_some_iff.mp H
                      obtain ⟨t753, A400, H⟩ := H
                      replace H : (some t753) = some r := H
                      have A40 := Aside0.mk A400
                      clear A400
                      obtain rfl := Option.some.inj H
                      go_wp2_with (first | ((with_reducible refine gate_callee (f := 38) rfl ?_); refine goesL_ (some 92) rfl rfl Try.func38 (by kernel_rfl) rfl #[.int .i64 a0, .slice A1 l1.length c1, .slice A2 l2.length c2] rfl (by (try simp only [List.map_toArray, List.map_cons, List.map_nil]); first | done | rfl | (simp only [List.length_drop, List.length_take]; rfl)) ?_; (with_reducible refine (fetch_Both.calls kj14 a0 _ _ l1 _ _ l2 t745 t746 _ ?side1 ?side2 ?side3 ?side4 A33.out).mono ?_); (case side1 => repeat (first | exact (Kd.C_below HR1.out HB.out) | (with_reducible refine Kd.C_alloc ?_ _) | (with_reducible refine Kd.C_drewN ?_ _) | (with_reducible refine Kd.C_drew ?_))); (case side2 => exact HC1.out); (case side3 => repeat (first | exact (Kd.C_below HR2.out HB.out) | (with_reducible refine Kd.C_alloc ?_ _) | (with_reducible refine Kd.C_drewN ?_ _) | (with_reducible refine Kd.C_drew ?_))); (case side4 => exact HC2.out); rintro e w41 ⟨v747, rfl, ho0, hb⟩; refine ⟨_, rfl, ?_⟩; have n0_ := Aside0.mk (Kd.R_lower ho0 (below_size (by repeat (first | (with_reducible first | exact HB.out | apply below_alloc | apply pw_below_drewN | apply below_drew1) | exact HB.out)))); have n1_ := Aside0.mk (below_step (by repeat (first | (with_reducible first | exact HB.out | apply below_alloc | apply pw_below_drewN | apply below_drew1) | exact HB.out)) hb); clear HB; have HO748 := n0_; have HB := n1_; clear n0_ n1_; (try clear hb); (try clear hb2); (try clear hk); (try clear hi); (try clear ho0)) | ((with_reducible refine gate_callee (f := 32) rfl ?_); refine goesL_ (some 107) rfl rfl Try.func32 (by kernel_rfl) rfl #[.int .i64 a0, .slice A1 l1.length c1, .slice A2 l2.length c2] rfl (by (try simp only [List.map_toArray, List.map_cons, List.map_nil]); first | done | rfl | (simp only [List.length_drop, List.length_take]; rfl)) ?_; (with_reducible refine (fetch_IsMend.calls kj14 a0 _ _ l1 _ _ l2 t749 t750 _ ?side1 ?side2 ?side3 ?side4 A35.out).mono ?_); (case side1 => repeat (first | exact (Kd.C_below HR1.out HB.out) | (with_reducible refine Kd.C_alloc ?_ _) | (with_reducible refine Kd.C_drewN ?_ _) | (with_reducible refine Kd.C_drew ?_))); (case side2 => exact HC1.out); (case side3 => repeat (first | exact (Kd.C_below HR2.out HB.out) | (with_reducible refine Kd.C_alloc ?_ _) | (with_reducible refine Kd.C_drewN ?_ _) | (with_reducible refine Kd.C_drew ?_))); (case side4 => exact HC2.out); rintro e w42 ⟨rfl, hb⟩; refine ⟨_, rfl, ?_⟩; have n0_ := Aside0.mk (Kd.R_below (by (with_reducible repeat (first | apply Kd.R_alloc | apply Kd.R_drewN | apply Kd.R_drew)); exact HO748.out) hb); have n1_ := Aside0.mk (below_step (by repeat (first | (with_reducible first | exact HB.out | apply below_alloc | apply pw_below_drewN | apply below_drew1) | exact HB.out)) hb); clear HO748; clear HB; have HO748 := n0_; have HB := n1_; clear n0_ n1_; (try clear hb); (try clear hb2); (try clear hk); (try clear hi); obtain ⟨Ao43, co43, eo43⟩ := Kd.R_slice HO748.out; subst eo43) | ((with_reducible refine gate_callee (f := 36) rfl ?_); refine goesL_ (some 113) rfl rfl Try.func36 (by kernel_rfl) rfl #[.int .i64 a0, .slice Ao43 t745.length co43] rfl (by (try simp only [List.map_toArray, List.map_cons, List.map_nil]); first | done | rfl | (simp only [List.length_drop, List.length_take]; rfl)) ?_; (with_reducible refine (fetch_Strong.calls kj14 a0 _ _ t745 t751 t752 _ ?side1 ?side2 A36.out).mono ?_); (case side1 => repeat (first | exact (Kd.R_reads' HO748.out).2.2 | (with_reducible refine Kd.C_alloc ?_ _) | (with_reducible refine Kd.C_drewN ?_ _) | (with_reducible refine Kd.C_drew ?_))); (case side2 => exact (Kd.R_reads' HO748.out).2.1); rintro e w44 ⟨rfl, hb⟩; refine ⟨_, rfl, ?_⟩; have n0_ := Aside0.mk (Kd.R_below (by (with_reducible repeat (first | apply Kd.R_alloc | apply Kd.R_drewN | apply Kd.R_drew)); exact HO748.out) hb); have n1_ := Aside0.mk (below_step (by repeat (first | (with_reducible first | exact HB.out | apply below_alloc | apply pw_below_drewN | apply below_drew1) | exact HB.out)) hb); clear HO748; clear HB; have HO748 := n0_; have HB := n1_; clear n0_ n1_; (try clear hb); (try clear hb2); (try clear hk); (try clear hi)) | (go_at_call 17; (with_reducible refine (trishawlaw09_alive.calls kj14  t753 _ A40.out).mono ?_); rintro e w45 ⟨rfl, hb⟩; have n0_ := Aside0.mk (Kd.R_below (by (with_reducible repeat (first | apply Kd.R_alloc | apply Kd.R_drewN | apply Kd.R_drew)); exact HO748.out) hb); have n1_ := Aside0.mk (below_step (by repeat (first | (with_reducible first | exact HB.out | apply below_alloc | apply pw_below_drewN | apply below_drew1) | exact HB.out)) hb); clear HO748; clear HB; have HO748 := n0_; have HB := n1_; clear n0_ n1_; (try clear hb); (try clear hb2); (try clear hk); (try clear hi)))
                      go_ret
                      exact ⟨by first | rfl | (simp [errW_none, errW_some] <;> rfl) | (simp [*, errW_none, errW_some] <;> rfl), by repeat (first | (with_reducible first | exact HB.out | apply below_alloc | apply pw_below_drewN | apply below_drew1) | exact HB.out)⟩
                    · rw [if_neg c39] at H
                      have c39b0 : (t749 == t751) = false := by simpa using c39
                      (try (have c39b1 : decide (t749 = t751) = false := by simpa using c39))
                      (try (have c39b2 : (t749 == t751) = false := by simpa using c39))
                      (try (have c39b3 : ¬ (t749 = t751) := by simpa using c39))
                      clear c39
                      obtain rfl := Option.some.inj H
                      go_wp2_with (first | ((with_reducible refine gate_callee (f := 38) rfl ?_); refine goesL_ (some 92) rfl rfl Try.func38 (by kernel_rfl) rfl #[.int .i64 a0, .slice A1 l1.length c1, .slice A2 l2.length c2] rfl (by (try simp only [List.map_toArray, List.map_cons, List.map_nil]); first | done | rfl | (simp only [List.length_drop, List.length_take]; rfl)) ?_; (with_reducible refine (fetch_Both.calls kj14 a0 _ _ l1 _ _ l2 t745 t746 _ ?side1 ?side2 ?side3 ?side4 A33.out).mono ?_); (case side1 => repeat (first | exact (Kd.C_below HR1.out HB.out) | (with_reducible refine Kd.C_alloc ?_ _) | (with_reducible refine Kd.C_drewN ?_ _) | (with_reducible refine Kd.C_drew ?_))); (case side2 => exact HC1.out); (case side3 => repeat (first | exact (Kd.C_below HR2.out HB.out) | (with_reducible refine Kd.C_alloc ?_ _) | (with_reducible refine Kd.C_drewN ?_ _) | (with_reducible refine Kd.C_drew ?_))); (case side4 => exact HC2.out); rintro e w46 ⟨v747, rfl, ho0, hb⟩; refine ⟨_, rfl, ?_⟩; have n0_ := Aside0.mk (Kd.R_lower ho0 (below_size (by repeat (first | (with_reducible first | exact HB.out | apply below_alloc | apply pw_below_drewN | apply below_drew1) | exact HB.out)))); have n1_ := Aside0.mk (below_step (by repeat (first | (with_reducible first | exact HB.out | apply below_alloc | apply pw_below_drewN | apply below_drew1) | exact HB.out)) hb); clear HB; have HO748 := n0_; have HB := n1_; clear n0_ n1_; (try clear hb); (try clear hb2); (try clear hk); (try clear hi); (try clear ho0)) | ((with_reducible refine gate_callee (f := 32) rfl ?_); refine goesL_ (some 107) rfl rfl Try.func32 (by kernel_rfl) rfl #[.int .i64 a0, .slice A1 l1.length c1, .slice A2 l2.length c2] rfl (by (try simp only [List.map_toArray, List.map_cons, List.map_nil]); first | done | rfl | (simp only [List.length_drop, List.length_take]; rfl)) ?_; (with_reducible refine (fetch_IsMend.calls kj14 a0 _ _ l1 _ _ l2 t749 t750 _ ?side1 ?side2 ?side3 ?side4 A35.out).mono ?_); (case side1 => repeat (first | exact (Kd.C_below HR1.out HB.out) | (with_reducible refine Kd.C_alloc ?_ _) | (with_reducible refine Kd.C_drewN ?_ _) | (with_reducible refine Kd.C_drew ?_))); (case side2 => exact HC1.out); (case side3 => repeat (first | exact (Kd.C_below HR2.out HB.out) | (with_reducible refine Kd.C_alloc ?_ _) | (with_reducible refine Kd.C_drewN ?_ _) | (with_reducible refine Kd.C_drew ?_))); (case side4 => exact HC2.out); rintro e w47 ⟨rfl, hb⟩; refine ⟨_, rfl, ?_⟩; have n0_ := Aside0.mk (Kd.R_below (by (with_reducible repeat (first | apply Kd.R_alloc | apply Kd.R_drewN | apply Kd.R_drew)); exact HO748.out) hb); have n1_ := Aside0.mk (below_step (by repeat (first | (with_reducible first | exact HB.out | apply below_alloc | apply pw_below_drewN | apply below_drew1) | exact HB.out)) hb); clear HO748; clear HB; have HO748 := n0_; have HB := n1_; clear n0_ n1_; (try clear hb); (try clear hb2); (try clear hk); (try clear hi); obtain ⟨Ao48, co48, eo48⟩ := Kd.R_slice HO748.out; subst eo48) | ((with_reducible refine gate_callee (f := 36) rfl ?_); refine goesL_ (some 113) rfl rfl Try.func36 (by kernel_rfl) rfl #[.int .i64 a0, .slice Ao48 t745.length co48] rfl (by (try simp only [List.map_toArray, List.map_cons, List.map_nil]); first | done | rfl | (simp only [List.length_drop, List.length_take]; rfl)) ?_; (with_reducible refine (fetch_Strong.calls kj14 a0 _ _ t745 t751 t752 _ ?side1 ?side2 A36.out).mono ?_); (case side1 => repeat (first | exact (Kd.R_reads' HO748.out).2.2 | (with_reducible refine Kd.C_alloc ?_ _) | (with_reducible refine Kd.C_drewN ?_ _) | (with_reducible refine Kd.C_drew ?_))); (case side2 => exact (Kd.R_reads' HO748.out).2.1); rintro e w49 ⟨rfl, hb⟩; refine ⟨_, rfl, ?_⟩; have n0_ := Aside0.mk (Kd.R_below (by (with_reducible repeat (first | apply Kd.R_alloc | apply Kd.R_drewN | apply Kd.R_drew)); exact HO748.out) hb); have n1_ := Aside0.mk (below_step (by repeat (first | (with_reducible first | exact HB.out | apply below_alloc | apply pw_below_drewN | apply below_drew1) | exact HB.out)) hb); clear HO748; clear HB; have HO748 := n0_; have HB := n1_; clear n0_ n1_; (try clear hb); (try clear hb2); (try clear hk); (try clear hi)))
                      go_ret
                      exact ⟨by first | rfl | (simp [errW_none, errW_some] <;> rfl) | (simp [*, errW_none, errW_some] <;> rfl), by repeat (first | (with_reducible first | exact HB.out | apply below_alloc | apply pw_below_drewN | apply below_drew1) | exact HB.out)⟩
                  · rw [if_neg c38] at H
                    have c38b0 : (t752 == 0) = false := beq_eq_false_iff_ne.mpr c38
                    have c38b1 : (t752 != 0) = true := bne_iff_ne.mpr c38
                    obtain rfl := Option.some.inj H
                    go_wp2_with (first | ((with_reducible refine gate_callee (f := 38) rfl ?_); refine goesL_ (some 92) rfl rfl Try.func38 (by kernel_rfl) rfl #[.int .i64 a0, .slice A1 l1.length c1, .slice A2 l2.length c2] rfl (by (try simp only [List.map_toArray, List.map_cons, List.map_nil]); first | done | rfl | (simp only [List.length_drop, List.length_take]; rfl)) ?_; (with_reducible refine (fetch_Both.calls kj14 a0 _ _ l1 _ _ l2 t745 t746 _ ?side1 ?side2 ?side3 ?side4 A33.out).mono ?_); (case side1 => repeat (first | exact (Kd.C_below HR1.out HB.out) | (with_reducible refine Kd.C_alloc ?_ _) | (with_reducible refine Kd.C_drewN ?_ _) | (with_reducible refine Kd.C_drew ?_))); (case side2 => exact HC1.out); (case side3 => repeat (first | exact (Kd.C_below HR2.out HB.out) | (with_reducible refine Kd.C_alloc ?_ _) | (with_reducible refine Kd.C_drewN ?_ _) | (with_reducible refine Kd.C_drew ?_))); (case side4 => exact HC2.out); rintro e w50 ⟨v747, rfl, ho0, hb⟩; refine ⟨_, rfl, ?_⟩; have n0_ := Aside0.mk (Kd.R_lower ho0 (below_size (by repeat (first | (with_reducible first | exact HB.out | apply below_alloc | apply pw_below_drewN | apply below_drew1) | exact HB.out)))); have n1_ := Aside0.mk (below_step (by repeat (first | (with_reducible first | exact HB.out | apply below_alloc | apply pw_below_drewN | apply below_drew1) | exact HB.out)) hb); clear HB; have HO748 := n0_; have HB := n1_; clear n0_ n1_; (try clear hb); (try clear hb2); (try clear hk); (try clear hi); (try clear ho0)) | ((with_reducible refine gate_callee (f := 32) rfl ?_); refine goesL_ (some 107) rfl rfl Try.func32 (by kernel_rfl) rfl #[.int .i64 a0, .slice A1 l1.length c1, .slice A2 l2.length c2] rfl (by (try simp only [List.map_toArray, List.map_cons, List.map_nil]); first | done | rfl | (simp only [List.length_drop, List.length_take]; rfl)) ?_; (with_reducible refine (fetch_IsMend.calls kj14 a0 _ _ l1 _ _ l2 t749 t750 _ ?side1 ?side2 ?side3 ?side4 A35.out).mono ?_); (case side1 => repeat (first | exact (Kd.C_below HR1.out HB.out) | (with_reducible refine Kd.C_alloc ?_ _) | (with_reducible refine Kd.C_drewN ?_ _) | (with_reducible refine Kd.C_drew ?_))); (case side2 => exact HC1.out); (case side3 => repeat (first | exact (Kd.C_below HR2.out HB.out) | (with_reducible refine Kd.C_alloc ?_ _) | (with_reducible refine Kd.C_drewN ?_ _) | (with_reducible refine Kd.C_drew ?_))); (case side4 => exact HC2.out); rintro e w51 ⟨rfl, hb⟩; refine ⟨_, rfl, ?_⟩; have n0_ := Aside0.mk (Kd.R_below (by (with_reducible repeat (first | apply Kd.R_alloc | apply Kd.R_drewN | apply Kd.R_drew)); exact HO748.out) hb); have n1_ := Aside0.mk (below_step (by repeat (first | (with_reducible first | exact HB.out | apply below_alloc | apply pw_below_drewN | apply below_drew1) | exact HB.out)) hb); clear HO748; clear HB; have HO748 := n0_; have HB := n1_; clear n0_ n1_; (try clear hb); (try clear hb2); (try clear hk); (try clear hi); obtain ⟨Ao52, co52, eo52⟩ := Kd.R_slice HO748.out; subst eo52) | ((with_reducible refine gate_callee (f := 36) rfl ?_); refine goesL_ (some 113) rfl rfl Try.func36 (by kernel_rfl) rfl #[.int .i64 a0, .slice Ao52 t745.length co52] rfl (by (try simp only [List.map_toArray, List.map_cons, List.map_nil]); first | done | rfl | (simp only [List.length_drop, List.length_take]; rfl)) ?_; (with_reducible refine (fetch_Strong.calls kj14 a0 _ _ t745 t751 t752 _ ?side1 ?side2 A36.out).mono ?_); (case side1 => repeat (first | exact (Kd.R_reads' HO748.out).2.2 | (with_reducible refine Kd.C_alloc ?_ _) | (with_reducible refine Kd.C_drewN ?_ _) | (with_reducible refine Kd.C_drew ?_))); (case side2 => exact (Kd.R_reads' HO748.out).2.1); rintro e w53 ⟨rfl, hb⟩; refine ⟨_, rfl, ?_⟩; have n0_ := Aside0.mk (Kd.R_below (by (with_reducible repeat (first | apply Kd.R_alloc | apply Kd.R_drewN | apply Kd.R_drew)); exact HO748.out) hb); have n1_ := Aside0.mk (below_step (by repeat (first | (with_reducible first | exact HB.out | apply below_alloc | apply pw_below_drewN | apply below_drew1) | exact HB.out)) hb); clear HO748; clear HB; have HO748 := n0_; have HB := n1_; clear n0_ n1_; (try clear hb); (try clear hb2); (try clear hk); (try clear hi)))
                    go_ret
                    exact ⟨by first | rfl | (simp [errW_none, errW_some] <;> rfl) | (simp [*, errW_none, errW_some] <;> rfl), by repeat (first | (with_reducible first | exact HB.out | apply below_alloc | apply pw_below_drewN | apply below_drew1) | exact HB.out)⟩
                · rw [if_neg c37] at H
                  have c37b0 : (t750 == 0) = false := beq_eq_false_iff_ne.mpr c37
                  have c37b1 : (t750 != 0) = true := bne_iff_ne.mpr c37
                  obtain rfl := Option.some.inj H
                  go_wp2_with (first | ((with_reducible refine gate_callee (f := 38) rfl ?_); refine goesL_ (some 92) rfl rfl Try.func38 (by kernel_rfl) rfl #[.int .i64 a0, .slice A1 l1.length c1, .slice A2 l2.length c2] rfl (by (try simp only [List.map_toArray, List.map_cons, List.map_nil]); first | done | rfl | (simp only [List.length_drop, List.length_take]; rfl)) ?_; (with_reducible refine (fetch_Both.calls kj14 a0 _ _ l1 _ _ l2 t745 t746 _ ?side1 ?side2 ?side3 ?side4 A33.out).mono ?_); (case side1 => repeat (first | exact (Kd.C_below HR1.out HB.out) | (with_reducible refine Kd.C_alloc ?_ _) | (with_reducible refine Kd.C_drewN ?_ _) | (with_reducible refine Kd.C_drew ?_))); (case side2 => exact HC1.out); (case side3 => repeat (first | exact (Kd.C_below HR2.out HB.out) | (with_reducible refine Kd.C_alloc ?_ _) | (with_reducible refine Kd.C_drewN ?_ _) | (with_reducible refine Kd.C_drew ?_))); (case side4 => exact HC2.out); rintro e w54 ⟨v747, rfl, ho0, hb⟩; refine ⟨_, rfl, ?_⟩; have n0_ := Aside0.mk (Kd.R_lower ho0 (below_size (by repeat (first | (with_reducible first | exact HB.out | apply below_alloc | apply pw_below_drewN | apply below_drew1) | exact HB.out)))); have n1_ := Aside0.mk (below_step (by repeat (first | (with_reducible first | exact HB.out | apply below_alloc | apply pw_below_drewN | apply below_drew1) | exact HB.out)) hb); clear HB; have HO748 := n0_; have HB := n1_; clear n0_ n1_; (try clear hb); (try clear hb2); (try clear hk); (try clear hi); (try clear ho0)) | ((with_reducible refine gate_callee (f := 32) rfl ?_); refine goesL_ (some 107) rfl rfl Try.func32 (by kernel_rfl) rfl #[.int .i64 a0, .slice A1 l1.length c1, .slice A2 l2.length c2] rfl (by (try simp only [List.map_toArray, List.map_cons, List.map_nil]); first | done | rfl | (simp only [List.length_drop, List.length_take]; rfl)) ?_; (with_reducible refine (fetch_IsMend.calls kj14 a0 _ _ l1 _ _ l2 t749 t750 _ ?side1 ?side2 ?side3 ?side4 A35.out).mono ?_); (case side1 => repeat (first | exact (Kd.C_below HR1.out HB.out) | (with_reducible refine Kd.C_alloc ?_ _) | (with_reducible refine Kd.C_drewN ?_ _) | (with_reducible refine Kd.C_drew ?_))); (case side2 => exact HC1.out); (case side3 => repeat (first | exact (Kd.C_below HR2.out HB.out) | (with_reducible refine Kd.C_alloc ?_ _) | (with_reducible refine Kd.C_drewN ?_ _) | (with_reducible refine Kd.C_drew ?_))); (case side4 => exact HC2.out); rintro e w55 ⟨rfl, hb⟩; refine ⟨_, rfl, ?_⟩; have n0_ := Aside0.mk (Kd.R_below (by (with_reducible repeat (first | apply Kd.R_alloc | apply Kd.R_drewN | apply Kd.R_drew)); exact HO748.out) hb); have n1_ := Aside0.mk (below_step (by repeat (first | (with_reducible first | exact HB.out | apply below_alloc | apply pw_below_drewN | apply below_drew1) | exact HB.out)) hb); clear HO748; clear HB; have HO748 := n0_; have HB := n1_; clear n0_ n1_; (try clear hb); (try clear hb2); (try clear hk); (try clear hi); obtain ⟨Ao56, co56, eo56⟩ := Kd.R_slice HO748.out; subst eo56) | ((with_reducible refine gate_callee (f := 36) rfl ?_); refine goesL_ (some 113) rfl rfl Try.func36 (by kernel_rfl) rfl #[.int .i64 a0, .slice Ao56 t745.length co56] rfl (by (try simp only [List.map_toArray, List.map_cons, List.map_nil]); first | done | rfl | (simp only [List.length_drop, List.length_take]; rfl)) ?_; (with_reducible refine (fetch_Strong.calls kj14 a0 _ _ t745 t751 t752 _ ?side1 ?side2 A36.out).mono ?_); (case side1 => repeat (first | exact (Kd.R_reads' HO748.out).2.2 | (with_reducible refine Kd.C_alloc ?_ _) | (with_reducible refine Kd.C_drewN ?_ _) | (with_reducible refine Kd.C_drew ?_))); (case side2 => exact (Kd.R_reads' HO748.out).2.1); rintro e w57 ⟨rfl, hb⟩; refine ⟨_, rfl, ?_⟩; have n0_ := Aside0.mk (Kd.R_below (by (with_reducible repeat (first | apply Kd.R_alloc | apply Kd.R_drewN | apply Kd.R_drew)); exact HO748.out) hb); have n1_ := Aside0.mk (below_step (by repeat (first | (with_reducible first | exact HB.out | apply below_alloc | apply pw_below_drewN | apply below_drew1) | exact HB.out)) hb); clear HO748; clear HB; have HO748 := n0_; have HB := n1_; clear n0_ n1_; (try clear hb); (try clear hb2); (try clear hk); (try clear hi)))
                  go_ret
                  exact ⟨by first | rfl | (simp [errW_none, errW_some] <;> rfl) | (simp [*, errW_none, errW_some] <;> rfl), by repeat (first | (with_reducible first | exact HB.out | apply below_alloc | apply pw_below_drewN | apply below_drew1) | exact HB.out)⟩
              · rw [if_neg c34] at H
                have c34b0 : (t746 == 0) = false := beq_eq_false_iff_ne.mpr c34
                have c34b1 : (t746 != 0) = true := bne_iff_ne.mpr c34
                by_cases c58 : (t745.length : Int) = 0
                · rw [if_pos c58] at H
                  have c58b0 : ((t745.length : Int) == 0) = true := beq_iff_eq.mpr c58
                  have c58b1 : ((t745.length : Int) != 0) = false := bne_eq_false_iff_eq.mpr c58
                  clear c58
                  replace H := Option.bind_eq_some_iff.mp H
                  obtain ⟨t754, A590, H⟩ := H
                  replace H : (some t754) = some r := H
                  have A59 := Aside0.mk A590
                  clear A590
                  obtain rfl := Option.some.inj H
                  go_wp2_with (first | ((with_reducible refine gate_callee (f := 38) rfl ?_); refine goesL_ (some 92) rfl rfl Try.func38 (by kernel_rfl) rfl #[.int .i64 a0, .slice A1 l1.length c1, .slice A2 l2.length c2] rfl (by (try simp only [List.map_toArray, List.map_cons, List.map_nil]); first | done | rfl | (simp only [List.length_drop, List.length_take]; rfl)) ?_; (with_reducible refine (fetch_Both.calls kj14 a0 _ _ l1 _ _ l2 t745 t746 _ ?side1 ?side2 ?side3 ?side4 A33.out).mono ?_); (case side1 => repeat (first | exact (Kd.C_below HR1.out HB.out) | (with_reducible refine Kd.C_alloc ?_ _) | (with_reducible refine Kd.C_drewN ?_ _) | (with_reducible refine Kd.C_drew ?_))); (case side2 => exact HC1.out); (case side3 => repeat (first | exact (Kd.C_below HR2.out HB.out) | (with_reducible refine Kd.C_alloc ?_ _) | (with_reducible refine Kd.C_drewN ?_ _) | (with_reducible refine Kd.C_drew ?_))); (case side4 => exact HC2.out); rintro e w60 ⟨v747, rfl, ho0, hb⟩; refine ⟨_, rfl, ?_⟩; have n0_ := Aside0.mk (Kd.R_lower ho0 (below_size (by repeat (first | (with_reducible first | exact HB.out | apply below_alloc | apply pw_below_drewN | apply below_drew1) | exact HB.out)))); have n1_ := Aside0.mk (below_step (by repeat (first | (with_reducible first | exact HB.out | apply below_alloc | apply pw_below_drewN | apply below_drew1) | exact HB.out)) hb); clear HB; have HO748 := n0_; have HB := n1_; clear n0_ n1_; (try clear hb); (try clear hb2); (try clear hk); (try clear hi); (try clear ho0); obtain ⟨Ao61, co61, eo61⟩ := Kd.R_slice HO748.out; subst eo61) | (go_at_call 17; (with_reducible refine (trishawlaw09_alive.calls kj14  t754 _ A59.out).mono ?_); rintro e w62 ⟨rfl, hb⟩; have n0_ := Aside0.mk (Kd.R_below (by (with_reducible repeat (first | apply Kd.R_alloc | apply Kd.R_drewN | apply Kd.R_drew)); exact HO748.out) hb); have n1_ := Aside0.mk (below_step (by repeat (first | (with_reducible first | exact HB.out | apply below_alloc | apply pw_below_drewN | apply below_drew1) | exact HB.out)) hb); clear HO748; clear HB; have HO748 := n0_; have HB := n1_; clear n0_ n1_; (try clear hb); (try clear hb2); (try clear hk); (try clear hi)))
                  go_ret
                  exact ⟨by first | rfl | (simp [errW_none, errW_some] <;> rfl) | (simp [*, errW_none, errW_some] <;> rfl), by repeat (first | (with_reducible first | exact HB.out | apply below_alloc | apply pw_below_drewN | apply below_drew1) | exact HB.out)⟩
                · rw [if_neg c58] at H
                  have c58b0 : ((t745.length : Int) == 0) = false := beq_eq_false_iff_ne.mpr c58
                  have c58b1 : ((t745.length : Int) != 0) = true := bne_iff_ne.mpr c58
                  have c58b2 : ¬ (t745 = []) := fun h_ => c58 (by rw [h_]; rfl)
                  obtain rfl := Option.some.inj H
                  go_wp2_with (first | ((with_reducible refine gate_callee (f := 38) rfl ?_); refine goesL_ (some 92) rfl rfl Try.func38 (by kernel_rfl) rfl #[.int .i64 a0, .slice A1 l1.length c1, .slice A2 l2.length c2] rfl (by (try simp only [List.map_toArray, List.map_cons, List.map_nil]); first | done | rfl | (simp only [List.length_drop, List.length_take]; rfl)) ?_; (with_reducible refine (fetch_Both.calls kj14 a0 _ _ l1 _ _ l2 t745 t746 _ ?side1 ?side2 ?side3 ?side4 A33.out).mono ?_); (case side1 => repeat (first | exact (Kd.C_below HR1.out HB.out) | (with_reducible refine Kd.C_alloc ?_ _) | (with_reducible refine Kd.C_drewN ?_ _) | (with_reducible refine Kd.C_drew ?_))); (case side2 => exact HC1.out); (case side3 => repeat (first | exact (Kd.C_below HR2.out HB.out) | (with_reducible refine Kd.C_alloc ?_ _) | (with_reducible refine Kd.C_drewN ?_ _) | (with_reducible refine Kd.C_drew ?_))); (case side4 => exact HC2.out); rintro e w63 ⟨v747, rfl, ho0, hb⟩; refine ⟨_, rfl, ?_⟩; have n0_ := Aside0.mk (Kd.R_lower ho0 (below_size (by repeat (first | (with_reducible first | exact HB.out | apply below_alloc | apply pw_below_drewN | apply below_drew1) | exact HB.out)))); have n1_ := Aside0.mk (below_step (by repeat (first | (with_reducible first | exact HB.out | apply below_alloc | apply pw_below_drewN | apply below_drew1) | exact HB.out)) hb); clear HB; have HO748 := n0_; have HB := n1_; clear n0_ n1_; (try clear hb); (try clear hb2); (try clear hk); (try clear hi); (try clear ho0); obtain ⟨Ao64, co64, eo64⟩ := Kd.R_slice HO748.out; subst eo64))
                  go_ret
                  exact ⟨by first | rfl | (simp [errW_none, errW_some] <;> rfl) | (simp [*, errW_none, errW_some] <;> rfl), by repeat (first | (with_reducible first | exact HB.out | apply below_alloc | apply pw_below_drewN | apply below_drew1) | exact HB.out)⟩
end Go.Proofs.Ytjbfbdanbpfplaa.OAll
