/- A part of the proof of 'fetchTurned_holds', for every input, without a condition. -/
import Derived.Test.YtjbfbdanbpfplaaSUOAllx0
import Derived.Test.YtjbfbdanbpfplaaSUOAllx4
import Derived.Test.YtjbfbdanbpfplaaSUOAllx6
import Derived.Test.YtjbfbdanbpfplaaSUOAllx8
import Derived.Test.YtjbfbdanbpfplaaSUOAllx9
namespace Go.Proofs.Ytjbfbdanbpfplaa.OAll
open Go.RowKit Go.Proofs.YtjbfbdanbpfplaaW.PrintWords Go.Proofs.YtjbfbdanbpfplaaW.PrintLast Go.Proofs.YtjbfbdanbpfplaaW.PrintMore
attribute [local go_sem] max2_int min2_int max_two min_two max_three min_three max_four min_four
set_option linter.unusedVariables false
set_option linter.unusedSimpArgs false
def trishawref09_Members.l0 : Nat → Int → List Int → Int → Option (List Int)
  | 0, _, _, _ => none
  | k + 1, x0, x3, x4 => if x4 < 30 then (if 0 ≤ x4 then (if x4 ≤ 64 then (if (Int.tmod (x0 / 2 ^ x4.toNat) 2) = 1 then (if x3.length < 17592186044416 then (trishawref09_Members.l0 k x0 (x3 ++ [x4]) (wrap64 (x4 + 1))) else (none)) else (trishawref09_Members.l0 k x0 x3 (wrap64 (x4 + 1)))) else (none)) else (none)) else (some x3)
def trishawref09_Members.f (k : Nat) (a0 : Int) : Option (List Int) := trishawref09_Members.l0 k a0 ([] : List Int) 0
theorem trishawref09_Members.mono_l : ∀ k, (∀ y0 y1 y2, LeO (trishawref09_Members.l0 k y0 y1 y2) (trishawref09_Members.l0 (k + 1) y0 y1 y2))
  | 0 => fun _ _ _ r h => by simp [trishawref09_Members.l0] at h
  | k + 1 => by
    have ih0 := trishawref09_Members.mono_l k
    · intro y0 y1 y2
      unfold trishawref09_Members.l0
      repeat' first
      | (with_reducible exact ih0 _ _ _)
      | (with_reducible exact LeO.refl _)
      | (with_reducible exact LeO.none _)
      | (with_reducible refine LeO.ite ?_ ?_)
      | (with_reducible refine LeO.bind ?_ (fun _ => ?_))
      | exact ih0 _ _ _
      | exact LeO.none _
      | refine LeO.ite ?_ ?_
      | refine LeO.bind ?_ (fun _ => ?_)
theorem trishawref09_Members.mono : ∀ a0 k, LeO (trishawref09_Members.f k a0) (trishawref09_Members.f (k + 1) a0) := by
  intro a0 k
  have ih0 := trishawref09_Members.mono_l k
  unfold trishawref09_Members.f
  repeat' first
      | (with_reducible exact ih0 _ _ _)
      | (with_reducible exact LeO.refl _)
      | (with_reducible exact LeO.none _)
      | (with_reducible refine LeO.ite ?_ ?_)
      | (with_reducible refine LeO.bind ?_ (fun _ => ?_))
      | exact ih0 _ _ _
      | exact LeO.none _
      | refine LeO.ite ?_ ?_
      | refine LeO.bind ?_ (fun _ => ?_)
def trishawref09_mends.l0 : Nat → List (S34) → List Int → Int → Int → Option (Bool)
  | 0, _, _, _, _ => none
  | k + 1, x0, x1, x2, x7 => if x7 < (x1.length : Int) then (if 0 ≤ x7 then ((trishawref09_crossing.f k x0 (rd x1 x7)).bind fun t353 => (if (Go.bits .and .i64 t353 x2) = 0 then (some false) else (trishawref09_mends.l0 k x0 x1 x2 (wrap64 (x7 + 1))))) else (none)) else (some true)
def trishawref09_mends.f (k : Nat) (l0 : List (S34)) (l1 : List Int) (a2 : Int) : Option (Bool) := trishawref09_mends.l0 k l0 l1 a2 0
theorem trishawref09_mends.mono_l : ∀ k, (∀ y0 y1 y2 y3, LeO (trishawref09_mends.l0 k y0 y1 y2 y3) (trishawref09_mends.l0 (k + 1) y0 y1 y2 y3))
  | 0 => fun _ _ _ _ r h => by simp [trishawref09_mends.l0] at h
  | k + 1 => by
    have ih0 := trishawref09_mends.mono_l k
    · intro y0 y1 y2 y3
      unfold trishawref09_mends.l0
      repeat' first
      | (with_reducible exact ih0 _ _ _ _)
      | (with_reducible exact trishawref09_crossing.mono _ _ _)
      | (with_reducible exact LeO.refl _)
      | (with_reducible exact LeO.none _)
      | (with_reducible refine LeO.ite ?_ ?_)
      | (with_reducible refine LeO.bind ?_ (fun _ => ?_))
      | exact ih0 _ _ _ _
      | exact trishawref09_crossing.mono _ _ _
      | exact LeO.none _
      | refine LeO.ite ?_ ?_
      | refine LeO.bind ?_ (fun _ => ?_)
theorem trishawref09_mends.mono : ∀ a0 a1 a2 k, LeO (trishawref09_mends.f k a0 a1 a2) (trishawref09_mends.f (k + 1) a0 a1 a2) := by
  intro a0 a1 a2 k
  have ih0 := trishawref09_mends.mono_l k
  unfold trishawref09_mends.f
  repeat' first
      | (with_reducible exact ih0 _ _ _ _)
      | (with_reducible exact trishawref09_crossing.mono _ _ _)
      | (with_reducible exact LeO.refl _)
      | (with_reducible exact LeO.none _)
      | (with_reducible refine LeO.ite ?_ ?_)
      | (with_reducible refine LeO.bind ?_ (fun _ => ?_))
      | exact ih0 _ _ _ _
      | exact trishawref09_crossing.mono _ _ _
      | exact LeO.none _
      | refine LeO.ite ?_ ?_
      | refine LeO.bind ?_ (fun _ => ?_)
mutual
def trishawref09_less.l0 : Nat → List Int → List Int → Int → Option (Bool)
  | 0, _, _, _ => none
  | k + 1, x0, x1, x5 => if x5 < (x0.length : Int) then (trishawref09_less.j1 k x0 x1 x5 (decide (x5 < (x1.length : Int)))) else (trishawref09_less.j1 k x0 x1 x5 false)
def trishawref09_less.j1 : Nat → List Int → List Int → Int → Bool → Option (Bool)
  | 0, _, _, _, _ => none
  | k + 1, x0, x1, x5, x15 => if x15 = true then (if 0 ≤ x5 then (if x5 < (x0.length : Int) then (if x5 < (x1.length : Int) then (if (rd x0 x5) = (rd x1 x5) then (trishawref09_less.l0 k x0 x1 (wrap64 (x5 + 1))) else (some (decide ((rd x0 x5) < (rd x1 x5))))) else (none)) else (none)) else (none)) else (some (decide ((x0.length : Int) < (x1.length : Int))))
end
def trishawref09_less.f (k : Nat) (l0 : List Int) (l1 : List Int) : Option (Bool) := trishawref09_less.l0 k l0 l1 0
theorem trishawref09_less.mono_l : ∀ k, (∀ y0 y1 y2, LeO (trishawref09_less.l0 k y0 y1 y2) (trishawref09_less.l0 (k + 1) y0 y1 y2)) ∧ (∀ y0 y1 y2 y3, LeO (trishawref09_less.j1 k y0 y1 y2 y3) (trishawref09_less.j1 (k + 1) y0 y1 y2 y3))
  | 0 => ⟨fun _ _ _ r h => by simp [trishawref09_less.l0] at h, fun _ _ _ _ r h => by simp [trishawref09_less.j1] at h⟩
  | k + 1 => by
    obtain ⟨ih0, ih1⟩ := trishawref09_less.mono_l k
    refine ⟨?_, ?_⟩
    · intro y0 y1 y2
      unfold trishawref09_less.l0
      repeat' first
      | (with_reducible exact ih0 _ _ _)
      | (with_reducible exact ih1 _ _ _ _)
      | (with_reducible exact LeO.refl _)
      | (with_reducible exact LeO.none _)
      | (with_reducible refine LeO.ite ?_ ?_)
      | (with_reducible refine LeO.bind ?_ (fun _ => ?_))
      | exact ih0 _ _ _
      | exact ih1 _ _ _ _
      | exact LeO.none _
      | refine LeO.ite ?_ ?_
      | refine LeO.bind ?_ (fun _ => ?_)
    · intro y0 y1 y2 y3
      unfold trishawref09_less.j1
      repeat' first
      | (with_reducible exact ih0 _ _ _)
      | (with_reducible exact ih1 _ _ _ _)
      | (with_reducible exact LeO.refl _)
      | (with_reducible exact LeO.none _)
      | (with_reducible refine LeO.ite ?_ ?_)
      | (with_reducible refine LeO.bind ?_ (fun _ => ?_))
      | exact ih0 _ _ _
      | exact ih1 _ _ _ _
      | exact LeO.none _
      | refine LeO.ite ?_ ?_
      | refine LeO.bind ?_ (fun _ => ?_)
theorem trishawref09_less.mono : ∀ a0 a1 k, LeO (trishawref09_less.f k a0 a1) (trishawref09_less.f (k + 1) a0 a1) := by
  intro a0 a1 k
  obtain ⟨ih0, ih1⟩ := trishawref09_less.mono_l k
  unfold trishawref09_less.f
  repeat' first
      | (with_reducible exact ih0 _ _ _)
      | (with_reducible exact ih1 _ _ _ _)
      | (with_reducible exact LeO.refl _)
      | (with_reducible exact LeO.none _)
      | (with_reducible refine LeO.ite ?_ ?_)
      | (with_reducible refine LeO.bind ?_ (fun _ => ?_))
      | exact ih0 _ _ _
      | exact ih1 _ _ _ _
      | exact LeO.none _
      | refine LeO.ite ?_ ?_
      | refine LeO.bind ?_ (fun _ => ?_)
mutual
def trishawref09_fewest.l0 : Nat → List (S34) → List Int → List Int → Int → Int → Int → Option (List Int × Int)
  | 0, _, _, _, _, _, _ => none
  | k + 1, x1, x6, x7, x8, x9, x10 => if x10 < (shl .i64 1 (x1.length : Int)) then ((trishawref09_Members.f k x10).bind fun t364 => (if (t364.length : Int) > x9 then (trishawref09_fewest.j1 k x1 x6 x7 x8 x9 x10 t364 true) else ((trishawref09_mends.f k x1 x6 x10).bind fun t367 => (trishawref09_fewest.j1 k x1 x6 x7 x8 x9 x10 t364 (!t367))))) else (some (x7, x8))
def trishawref09_fewest.j1 : Nat → List (S34) → List Int → List Int → Int → Int → Int → List Int → Bool → Option (List Int × Int)
  | 0, _, _, _, _, _, _, _, _ => none
  | k + 1, x1, x6, x7, x8, x9, x10, x11, x38 => if x38 = true then (trishawref09_fewest.l0 k x1 x6 x7 x8 x9 (wrap64 (x10 + 1))) else (if (x11.length : Int) < x9 then (trishawref09_fewest.l0 k x1 x6 x11 (0 + 1) (x11.length : Int) (wrap64 (x10 + 1))) else ((trishawref09_less.f k x11 x7).bind fun t368 => (if t368 = true then (trishawref09_fewest.l0 k x1 x6 x11 (wrap64 (x8 + 1)) x9 (wrap64 (x10 + 1))) else (trishawref09_fewest.l0 k x1 x6 x7 (wrap64 (x8 + 1)) x9 (wrap64 (x10 + 1))))))
end
def trishawref09_fewest.f (k : Nat) (a0 : Int) (l1 : List (S34)) : Option (List Int × Int) := (trishawref09_cuts.f k a0 l1).bind fun t358 => (trishawref09_fewest.l0 k l1 t358 (([] : List Int)) 0 (wrap64 ((l1.length : Int) + 1)) 0)
theorem trishawref09_fewest.mono_l : ∀ k, (∀ y0 y1 y2 y3 y4 y5, LeO (trishawref09_fewest.l0 k y0 y1 y2 y3 y4 y5) (trishawref09_fewest.l0 (k + 1) y0 y1 y2 y3 y4 y5)) ∧ (∀ y0 y1 y2 y3 y4 y5 y6 y7, LeO (trishawref09_fewest.j1 k y0 y1 y2 y3 y4 y5 y6 y7) (trishawref09_fewest.j1 (k + 1) y0 y1 y2 y3 y4 y5 y6 y7))
  | 0 => ⟨fun _ _ _ _ _ _ r h => by simp [trishawref09_fewest.l0] at h, fun _ _ _ _ _ _ _ _ r h => by simp [trishawref09_fewest.j1] at h⟩
  | k + 1 => by
    obtain ⟨ih0, ih1⟩ := trishawref09_fewest.mono_l k
    refine ⟨?_, ?_⟩
    · intro y0 y1 y2 y3 y4 y5
      unfold trishawref09_fewest.l0
      repeat' first
      | (with_reducible exact ih0 _ _ _ _ _ _)
      | (with_reducible exact ih1 _ _ _ _ _ _ _ _)
      | (with_reducible exact trishawref09_Members.mono _ _)
      | (with_reducible exact trishawref09_cuts.mono _ _ _)
      | (with_reducible exact trishawref09_less.mono _ _ _)
      | (with_reducible exact trishawref09_mends.mono _ _ _ _)
      | (with_reducible exact LeO.refl _)
      | (with_reducible exact LeO.none _)
      | (with_reducible refine LeO.ite ?_ ?_)
      | (with_reducible refine LeO.bind ?_ (fun _ => ?_))
      | exact ih0 _ _ _ _ _ _
      | exact ih1 _ _ _ _ _ _ _ _
      | exact trishawref09_Members.mono _ _
      | exact trishawref09_cuts.mono _ _ _
      | exact trishawref09_less.mono _ _ _
      | exact trishawref09_mends.mono _ _ _ _
      | exact LeO.none _
      | refine LeO.ite ?_ ?_
      | refine LeO.bind ?_ (fun _ => ?_)
    · intro y0 y1 y2 y3 y4 y5 y6 y7
      unfold trishawref09_fewest.j1
      repeat' first
      | (with_reducible exact ih0 _ _ _ _ _ _)
      | (with_reducible exact ih1 _ _ _ _ _ _ _ _)
      | (with_reducible exact trishawref09_Members.mono _ _)
      | (with_reducible exact trishawref09_cuts.mono _ _ _)
      | (with_reducible exact trishawref09_less.mono _ _ _)
      | (with_reducible exact trishawref09_mends.mono _ _ _ _)
      | (with_reducible exact LeO.refl _)
      | (with_reducible exact LeO.none _)
      | (with_reducible refine LeO.ite ?_ ?_)
      | (with_reducible refine LeO.bind ?_ (fun _ => ?_))
      | exact ih0 _ _ _ _ _ _
      | exact ih1 _ _ _ _ _ _ _ _
      | exact trishawref09_Members.mono _ _
      | exact trishawref09_cuts.mono _ _ _
      | exact trishawref09_less.mono _ _ _
      | exact trishawref09_mends.mono _ _ _ _
      | exact LeO.none _
      | refine LeO.ite ?_ ?_
      | refine LeO.bind ?_ (fun _ => ?_)
theorem trishawref09_fewest.mono : ∀ a0 a1 k, LeO (trishawref09_fewest.f k a0 a1) (trishawref09_fewest.f (k + 1) a0 a1) := by
  intro a0 a1 k
  obtain ⟨ih0, ih1⟩ := trishawref09_fewest.mono_l k
  unfold trishawref09_fewest.f
  repeat' first
      | (with_reducible exact ih0 _ _ _ _ _ _)
      | (with_reducible exact ih1 _ _ _ _ _ _ _ _)
      | (with_reducible exact trishawref09_Members.mono _ _)
      | (with_reducible exact trishawref09_cuts.mono _ _ _)
      | (with_reducible exact trishawref09_less.mono _ _ _)
      | (with_reducible exact trishawref09_mends.mono _ _ _ _)
      | (with_reducible exact LeO.refl _)
      | (with_reducible exact LeO.none _)
      | (with_reducible refine LeO.ite ?_ ?_)
      | (with_reducible refine LeO.bind ?_ (fun _ => ?_))
      | exact ih0 _ _ _ _ _ _
      | exact ih1 _ _ _ _ _ _ _ _
      | exact trishawref09_Members.mono _ _
      | exact trishawref09_cuts.mono _ _ _
      | exact trishawref09_less.mono _ _ _
      | exact trishawref09_mends.mono _ _ _ _
      | exact LeO.none _
      | refine LeO.ite ?_ ?_
      | refine LeO.bind ?_ (fun _ => ?_)
def trishawref09_Mend.f (k : Nat) (a0 : Int) (l1 : List (S34)) : Option (List Int × Int) := (trishawref09_Quarter.f k a0 l1).bind fun t369 => (if t369 = 0 then ((trishawref09_fewest.f k a0 l1).bind fun bt370 => (some (bt370.1, 0))) else (some (([] : List Int), t369)))
theorem trishawref09_Mend.mono : ∀ a0 a1 k, LeO (trishawref09_Mend.f k a0 a1) (trishawref09_Mend.f (k + 1) a0 a1) := by
  intro a0 a1 k
  unfold trishawref09_Mend.f
  repeat' first
      | (with_reducible exact trishawref09_Quarter.mono _ _ _)
      | (with_reducible exact trishawref09_fewest.mono _ _ _)
      | (with_reducible exact LeO.refl _)
      | (with_reducible exact LeO.none _)
      | (with_reducible refine LeO.ite ?_ ?_)
      | (with_reducible refine LeO.bind ?_ (fun _ => ?_))
      | exact trishawref09_Quarter.mono _ _ _
      | exact trishawref09_fewest.mono _ _ _
      | exact LeO.none _
      | refine LeO.ite ?_ ?_
      | refine LeO.bind ?_ (fun _ => ?_)
def fetch_Mends.f (k : Nat) (a0 : Int) (l1 : List (S34)) : Option (Int × Int) := (fetch_read.f k a0 l1).bind fun bt374 => (if bt374.2.2 = 0 then ((fetch_quarter_fewest.f k bt374.1 bt374.2.1).bind fun bt380 => (some (bt380.2, 0))) else (some (0, bt374.2.2)))
theorem fetch_Mends.mono : ∀ a0 a1 k, LeO (fetch_Mends.f k a0 a1) (fetch_Mends.f (k + 1) a0 a1) := by
  intro a0 a1 k
  unfold fetch_Mends.f
  repeat' first
      | (with_reducible exact fetch_quarter_fewest.mono _ _ _)
      | (with_reducible exact fetch_read.mono _ _ _)
      | (with_reducible exact LeO.refl _)
      | (with_reducible exact LeO.none _)
      | (with_reducible refine LeO.ite ?_ ?_)
      | (with_reducible refine LeO.bind ?_ (fun _ => ?_))
      | exact fetch_quarter_fewest.mono _ _ _
      | exact fetch_read.mono _ _ _
      | exact LeO.none _
      | refine LeO.ite ?_ ?_
      | refine LeO.bind ?_ (fun _ => ?_)
set_option maxHeartbeats 8000000 in
set_option maxRecDepth 100000 in
theorem fetch_Mends.calls (k : Nat) (a0 : Int) (A1 : Option Addr) (c1 : Nat) (l1 : List (S34)) (r1 : Int) (r2 : Int) (w : World) (hr1 : Kd.C k34 w A1 l1.length l1) (hc1 : l1.length ≤ c1) (h : fetch_Mends.f k a0 l1 = some (r1, r2)) :
    Calls Try.prog 25 #[.int .i64 a0, .slice A1 l1.length c1] w fun e w' => e = .returned (.tuple #[.int .i64 r1, .int .i64 r2]) ∧ Below w.heap.size w w' := by
  have hu58 := Try.underlying58
  have HR1 := Aside0.mk hr1
  have HC1 := Aside0.mk hc1
  clear hr1 hc1
  have HB := Aside0.mk (Below.refl w.heap.size w)
  have H : ((fetch_read.f k a0 l1).bind fun bt374 => (if bt374.2.2 = 0 then ((fetch_quarter_fewest.f k bt374.1 bt374.2.1).bind fun bt380 => (some (bt380.2, 0))) else (some (0, bt374.2.2)))) = some (r1, r2) := h
  clear h
  replace H := Option.bind_eq_some_iff.mp H
  obtain ⟨⟨t374, t375, t378⟩, A30, H⟩ := H
  replace H : (if t378 = 0 then ((fetch_quarter_fewest.f k t374 t375).bind fun bt380 => (some (bt380.2, 0))) else (some (0, t378))) = some (r1, r2) := H
  have A3 := Aside0.mk A30
  clear A30
  by_cases c4 : t378 = 0
  · rw [if_pos c4] at H
    have c4b0 : (t378 == 0) = true := beq_iff_eq.mpr c4
    have c4b1 : (t378 != 0) = false := bne_eq_false_iff_eq.mpr c4
    clear c4
    replace H := Option.bind_eq_some_iff.mp H
    obtain ⟨⟨t380, t383⟩, A50, H⟩ := H
    replace H : (some (t383, 0)) = some (r1, r2) := H
    have A5 := Aside0.mk A50
    clear A50
    simp only [Option.some.injEq, Prod.mk.injEq] at H
    obtain ⟨rfl, rfl⟩ := H
    go_enter Try.func25, Try.ntmps25
    go_wp2_with (first | ((with_reducible refine gate_callee (f := 44) rfl ?_); refine goesL_ (some 13) rfl rfl Try.func44 (by kernel_rfl) rfl #[.int .i64 a0, .slice A1 l1.length c1] rfl (by (try simp only [List.map_toArray, List.map_cons, List.map_nil]); first | done | rfl | (simp only [List.length_drop, List.length_take]; rfl)) ?_; (with_reducible refine (fetch_read.calls k a0 (fun k_ => k_ < w.heap.size) _ _ l1 t374 t375 t378 _ ?side1 A3.out).mono ?_); (case side1 => exact Kd.V_mk HC1.out (Kd.F_below (Kd.C_F k34_heap HR1.out) (by repeat (first | (with_reducible first | exact HB.out | apply below_alloc | apply pw_below_drewN | apply below_drew1) | exact HB.out)))); rintro e w6 ⟨v376, rfl, ho0, hb⟩; refine ⟨_, rfl, ?_⟩; have n0_ := Aside0.mk (Kd.V_lower (Kd.V_mono (ok' := fun k_ => True) ho0 (fun k_ hk_ => trivial)) (below_size (by repeat (first | (with_reducible first | exact HB.out | apply below_alloc | apply pw_below_drewN | apply below_drew1) | exact HB.out)))); have n1_ := Aside0.mk (below_step (by repeat (first | (with_reducible first | exact HB.out | apply below_alloc | apply pw_below_drewN | apply below_drew1) | exact HB.out)) hb); clear HB; have HO377 := n0_; have HB := n1_; clear n0_ n1_; (try clear hb); (try clear hb2); (try clear hk); (try clear hi); (try clear ho0)) | ((with_reducible refine gate_dst (N := 6) rfl ?_); refine box_event ?hg (N := 6) ?hd (cs := #[.int .i64 0, .slice none 0 0]) (t := 58) ?hr ?_; (case hd => rfl); (case hg => rfl); (case hr => first | (go_simp; done) | (go_simp; rfl)); intro gb379 hg w7 hbox hb; have n0_ := Aside0.mk (Kd.V_below (Kd.V_elderB (by (with_reducible repeat (first | apply Kd.V_alloc | apply Kd.V_drewN | apply Kd.V_drew)); exact HO377.out) gb379 (Nat.le_of_eq hg.symm)) hb); have n1_ := Aside0.mk (below_step (by repeat (first | (with_reducible first | exact HB.out | apply below_alloc | apply pw_below_drewN | apply below_drew1) | exact HB.out)) hb); have n2_ := Aside0.mk (hbox); have n3_ := Aside0.mk ((by rw [hg]; exact (below_size (by repeat (first | (with_reducible first | exact HB.out | apply below_alloc | apply pw_below_drewN | apply below_drew1) | exact HB.out))) : w.heap.size ≤ gb379)); have n4_ := Aside0.mk ((by rw [hg]; exact (below_size (by repeat (first | (with_reducible first | exact HB.out | apply below_alloc | apply pw_below_drewN | apply below_drew1) | exact HB.out))) : w.heap.size ≤ gb379)); clear HO377; clear HB; have HO377 := n0_; have HB := n1_; have BK379 := n2_; have GW379 := n3_; have GE379 := n4_; clear n0_ n1_ n2_ n3_ n4_; clear hb hbox hg; have hcz8_0 : w7.cell? ⟨gb379, 0, none⟩ = some (.int .i64 0) := (blk_cell BK379.out 0).trans rfl; have hcz8_1 : w7.cell? ⟨gb379, 1, none⟩ = some (.slice none 0 0) := (blk_cell BK379.out 1).trans rfl; have hfz8_0 := blk_frozen BK379.out 0; have hfz8_1 := blk_frozen BK379.out 1; obtain ⟨Ao9, co9, eo9⟩ := Kd.V_slice HO377.out; subst eo9) | ((with_reducible refine gate_callee (f := 51) rfl ?_); refine goesL_ (some 21) rfl rfl Try.func51 (by kernel_rfl) rfl #[.agg #[.int .i64 t374, .slice Ao9 t375.length co9]] rfl (by (try simp only [List.map_toArray, List.map_cons, List.map_nil]); first | done | rfl | (simp only [List.length_drop, List.length_take]; rfl)) ?_; (with_reducible refine (fetch_quarter_fewest.calls k t374 _ _ t375 t380 t383 _ ?side1 ?side2 A5.out).mono ?_); (case side1 => refine (Kd.V_reads' (e := 34) (base := w.heap.size) (ok := fun k_ => (True ∧ k_ ≠ gb379)) (n := t375.length) (c := co9) ?_).2.2; exact (by (with_reducible repeat (first | apply Kd.V_alloc | apply Kd.V_drewN | apply Kd.V_drew)); exact (Kd.V_mono (Kd.V_far (p := ⟨gb379, 1, none⟩) (Kd.V_far (p := ⟨gb379, 0, none⟩) (Kd.V_mono HO377.out (fun k_ hk => (⟨hk, hk.2⟩ : _ ∧ k_ ≠ gb379))) (fun _ hk => hk.2) (.int .i64 t374)) (fun _ hk => hk.2) (.slice Ao9 t375.length co9)) (fun _ h_ => h_.1)))); (case side2 => exact (Kd.V_reads' HO377.out).2.1); rintro e w10 ⟨v381, rfl, ho0, hb⟩; refine ⟨_, rfl, ?_⟩; have n0_ := Aside0.mk (Kd.V_elder' (by (with_reducible repeat (first | apply Kd.V_alloc | apply Kd.V_drewN | apply Kd.V_drew)); exact (Kd.V_mono (Kd.V_far (p := ⟨gb379, 1, none⟩) (Kd.V_far (p := ⟨gb379, 0, none⟩) (Kd.V_mono HO377.out (fun k_ hk => (⟨hk, hk.2⟩ : _ ∧ k_ ≠ gb379))) (fun _ hk => hk.2) (.int .i64 t374)) (fun _ hk => hk.2) (.slice Ao9 t375.length co9)) (fun _ h_ => h_.1))) (Kd.R_base ho0) hb); have n1_ := Aside0.mk (Kd.R_lower ho0 (below_size (by repeat (first | (with_reducible first | exact HB.out | apply below_alloc | apply pw_below_drewN | apply below_drew1 | refine below_set ?_ GE379.out) | exact HB.out)))); have n2_ := Aside0.mk (blk_below (g := gb379) (o := .cells #[.int .i64 t374, .slice Ao9 t375.length co9] 58 (0, 0)) (by (with_reducible repeat (first | refine blk_drewN ?_ _ | refine blk_drew ?_ | refine blk_alloc ?_ _)); refine blk_put (cs := #[.int .i64 t374, .slice none 0 0]) ?_ 1 _ rfl; (with_reducible repeat (first | refine blk_drewN ?_ _ | refine blk_drew ?_ | refine blk_alloc ?_ _)); refine blk_put (cs := #[.int .i64 0, .slice none 0 0]) ?_ 0 _ rfl; (with_reducible repeat (first | refine blk_drewN ?_ _ | refine blk_drew ?_ | refine blk_alloc ?_ _)); exact BK379.out) hb); have n3_ := Aside0.mk (below_step (by repeat (first | (with_reducible first | exact HB.out | apply below_alloc | apply pw_below_drewN | apply below_drew1 | refine below_set ?_ GE379.out) | exact HB.out)) hb); clear HO377; clear BK379; clear HB; have HO377 := n0_; have HO382 := n1_; have BK379 := n2_; have HB := n3_; clear n0_ n1_ n2_ n3_; (try clear hb); (try clear hb2); (try clear hk); (try clear hi); (try clear ho0)))
    go_ret2
    exact ⟨by first | rfl | (simp [errW_none, errW_some] <;> rfl) | (simp [*, errW_none, errW_some] <;> rfl), by repeat (first | (with_reducible first | exact HB.out | apply below_alloc | apply pw_below_drewN | apply below_drew1 | refine below_set ?_ GE379.out) | exact HB.out)⟩
  · rw [if_neg c4] at H
    have c4b0 : (t378 == 0) = false := beq_eq_false_iff_ne.mpr c4
    have c4b1 : (t378 != 0) = true := bne_iff_ne.mpr c4
    simp only [Option.some.injEq, Prod.mk.injEq] at H
    obtain ⟨rfl, rfl⟩ := H
    go_enter Try.func25, Try.ntmps25
    go_wp2_with (first | ((with_reducible refine gate_callee (f := 44) rfl ?_); refine goesL_ (some 13) rfl rfl Try.func44 (by kernel_rfl) rfl #[.int .i64 a0, .slice A1 l1.length c1] rfl (by (try simp only [List.map_toArray, List.map_cons, List.map_nil]); first | done | rfl | (simp only [List.length_drop, List.length_take]; rfl)) ?_; (with_reducible refine (fetch_read.calls k a0 (fun k_ => k_ < w.heap.size) _ _ l1 t374 t375 t378 _ ?side1 A3.out).mono ?_); (case side1 => exact Kd.V_mk HC1.out (Kd.F_below (Kd.C_F k34_heap HR1.out) (by repeat (first | (with_reducible first | exact HB.out | apply below_alloc | apply pw_below_drewN | apply below_drew1) | exact HB.out)))); rintro e w11 ⟨v376, rfl, ho0, hb⟩; refine ⟨_, rfl, ?_⟩; have n0_ := Aside0.mk (Kd.V_lower (Kd.V_mono (ok' := fun k_ => True) ho0 (fun k_ hk_ => trivial)) (below_size (by repeat (first | (with_reducible first | exact HB.out | apply below_alloc | apply pw_below_drewN | apply below_drew1) | exact HB.out)))); have n1_ := Aside0.mk (below_step (by repeat (first | (with_reducible first | exact HB.out | apply below_alloc | apply pw_below_drewN | apply below_drew1) | exact HB.out)) hb); clear HB; have HO377 := n0_; have HB := n1_; clear n0_ n1_; (try clear hb); (try clear hb2); (try clear hk); (try clear hi); (try clear ho0)) | ((with_reducible refine gate_dst (N := 6) rfl ?_); refine box_event ?hg (N := 6) ?hd (cs := #[.int .i64 0, .slice none 0 0]) (t := 58) ?hr ?_; (case hd => rfl); (case hg => rfl); (case hr => first | (go_simp; done) | (go_simp; rfl)); intro gb379 hg w12 hbox hb; have n0_ := Aside0.mk (Kd.V_below (Kd.V_elderB (by (with_reducible repeat (first | apply Kd.V_alloc | apply Kd.V_drewN | apply Kd.V_drew)); exact HO377.out) gb379 (Nat.le_of_eq hg.symm)) hb); have n1_ := Aside0.mk (below_step (by repeat (first | (with_reducible first | exact HB.out | apply below_alloc | apply pw_below_drewN | apply below_drew1) | exact HB.out)) hb); have n2_ := Aside0.mk (hbox); have n3_ := Aside0.mk ((by rw [hg]; exact (below_size (by repeat (first | (with_reducible first | exact HB.out | apply below_alloc | apply pw_below_drewN | apply below_drew1) | exact HB.out))) : w.heap.size ≤ gb379)); have n4_ := Aside0.mk ((by rw [hg]; exact (below_size (by repeat (first | (with_reducible first | exact HB.out | apply below_alloc | apply pw_below_drewN | apply below_drew1) | exact HB.out))) : w.heap.size ≤ gb379)); clear HO377; clear HB; have HO377 := n0_; have HB := n1_; have BK379 := n2_; have GW379 := n3_; have GE379 := n4_; clear n0_ n1_ n2_ n3_ n4_; clear hb hbox hg; have hcz13_0 : w12.cell? ⟨gb379, 0, none⟩ = some (.int .i64 0) := (blk_cell BK379.out 0).trans rfl; have hcz13_1 : w12.cell? ⟨gb379, 1, none⟩ = some (.slice none 0 0) := (blk_cell BK379.out 1).trans rfl; have hfz13_0 := blk_frozen BK379.out 0; have hfz13_1 := blk_frozen BK379.out 1; obtain ⟨Ao14, co14, eo14⟩ := Kd.V_slice HO377.out; subst eo14))
    go_ret2
    exact ⟨by first | rfl | (simp [errW_none, errW_some] <;> rfl) | (simp [*, errW_none, errW_some] <;> rfl), by repeat (first | (with_reducible first | exact HB.out | apply below_alloc | apply pw_below_drewN | apply below_drew1 | refine below_set ?_ GE379.out) | exact HB.out)⟩
end Go.Proofs.Ytjbfbdanbpfplaa.OAll
