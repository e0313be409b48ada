/- A part of the proof of 'fetchCuts_holds', for every input, without a condition. -/
import Derived.Test.YtjbfbdanbpfplaaSCOAllx0
import Derived.Test.YtjbfbdanbpfplaaSCOAllx4
import Derived.Test.YtjbfbdanbpfplaaSCOAllx6
import Derived.Test.YtjbfbdanbpfplaaSCOAllx8
import Derived.Test.YtjbfbdanbpfplaaSCOAllx9
namespace Go.Proofs.Ytjbfbdanbpfplaa.OAll
open Go.RowKit Go.Proofs.YtjbfbdanbpfplaaW.PrintWords Go.Proofs.YtjbfbdanbpfplaaW.PrintLast Go.Proofs.YtjbfbdanbpfplaaW.PrintMore
attribute [local go_sem] max2_int min2_int max_two min_two max_three min_three max_four min_four
set_option linter.unusedVariables false
set_option linter.unusedSimpArgs false
def trishawref09_Members.l0 : Nat → Int → List Int → Int → Option (List Int)
  | 0, _, _, _ => none
  | k + 1, x0, x3, x4 => if x4 < 30 then (if 0 ≤ x4 then (if x4 ≤ 64 then (if (Int.tmod (x0 / 2 ^ x4.toNat) 2) = 1 then (if x3.length < 17592186044416 then (trishawref09_Members.l0 k x0 (x3 ++ [x4]) (wrap64 (x4 + 1))) else (none)) else (trishawref09_Members.l0 k x0 x3 (wrap64 (x4 + 1)))) else (none)) else (none)) else (some x3)
def trishawref09_Members.f (k : Nat) (a0 : Int) : Option (List Int) := trishawref09_Members.l0 k a0 ([] : List Int) 0
theorem trishawref09_Members.mono_l : ∀ k, (∀ y0 y1 y2, LeO (trishawref09_Members.l0 k y0 y1 y2) (trishawref09_Members.l0 (k + 1) y0 y1 y2))
  | 0 => fun _ _ _ r h => by simp [trishawref09_Members.l0] at h
  | k + 1 => by
    have ih0 := trishawref09_Members.mono_l k
    · intro y0 y1 y2
      unfold trishawref09_Members.l0
      repeat' first
      | (with_reducible exact ih0 _ _ _)
      | (with_reducible exact LeO.refl _)
      | (with_reducible exact LeO.none _)
      | (with_reducible refine LeO.ite ?_ ?_)
      | (with_reducible refine LeO.bind ?_ (fun _ => ?_))
      | exact ih0 _ _ _
      | exact LeO.none _
      | refine LeO.ite ?_ ?_
      | refine LeO.bind ?_ (fun _ => ?_)
theorem trishawref09_Members.mono : ∀ a0 k, LeO (trishawref09_Members.f k a0) (trishawref09_Members.f (k + 1) a0) := by
  intro a0 k
  have ih0 := trishawref09_Members.mono_l k
  unfold trishawref09_Members.f
  repeat' first
      | (with_reducible exact ih0 _ _ _)
      | (with_reducible exact LeO.refl _)
      | (with_reducible exact LeO.none _)
      | (with_reducible refine LeO.ite ?_ ?_)
      | (with_reducible refine LeO.bind ?_ (fun _ => ?_))
      | exact ih0 _ _ _
      | exact LeO.none _
      | refine LeO.ite ?_ ?_
      | refine LeO.bind ?_ (fun _ => ?_)
set_option maxHeartbeats 8000000 in
set_option maxRecDepth 100000 in
theorem trishawref09_Members.calls (k : Nat) (a0 : Int) (r : List Int) (w : World) (h : trishawref09_Members.f k a0 = some r) :
    Calls Try.prog 56 #[.int .i64 a0] w fun e w' => ∃ v0_ : Value, e = .returned (v0_) ∧ Kd.R (Kd.int .i64) 3 w' w.heap.size (fun _ => True) v0_ r ∧ Below w.heap.size w w' := by
  have HB := Aside0.mk (Below.refl w.heap.size w)
  have H : (trishawref09_Members.l0 k a0 ([] : List Int) 0) = some r := h
  clear h
  have H' := Aside0.mk H
  clear H
  go_enter Try.func56, Try.ntmps56
  go_wp2
  go_loopg [3, 4] k (fun kq v3 v4 w' => ∃ (x3_1 : List Int) (x4_1 : Int), v4 = .int .i64 x4_1 ∧ Aside0 (trishawref09_Members.l0 kq a0 x3_1 x4_1 = some r) ∧ Aside0 (kq ≤ k) ∧ Aside0 (Kd.R (Kd.int .i64) 3 w' w.heap.size (fun _ => True) v3 x3_1) ∧ Aside0 (Below w.heap.size w w'))
  case atStart => exact ⟨(([] : List Int)), (0), (by first | rfl | (simp; done) | (simp [*]; done)), H', ⟨Nat.le_refl _⟩, ⟨by first | exact Kd.R_nil _ _ _ _ _ | exact Kd.N_nil _ _ _ _ _ | exact Kd.V_nil _ _ _ _ _ | exact Kd.Q_nil _ _ _ _ _ | exact Kd.S_nil _ _ _ _ _⟩, ⟨by repeat (first | (with_reducible first | exact HB.out | apply below_alloc | apply pw_below_drewN | apply below_drew1) | exact HB.out)⟩⟩
  case round =>
    clear H'
    obtain ⟨x3_1, x4_1, rfl, HA, HK1, HO_3, HB⟩ := hrel
    cases gk with
    | zero => exact absurd HA.out (by simp [trishawref09_Members.l0])
    | succ k1 =>
      have H := HA.out
      clear HA
      simp only [trishawref09_Members.l0] at H
      by_cases c2 : x4_1 < 30
      · rw [if_pos c2] at H
        have c2b0 : decide (x4_1 < 30) = true := decide_eq_true c2
        clear c2
        by_cases c3 : 0 ≤ x4_1
        · rw [if_pos c3] at H
          have c3b0 := eq_true c3
          have c3b1 : decide (0 ≤ x4_1) = true := decide_eq_true c3
          clear c3
          by_cases c4 : x4_1 ≤ 64
          · rw [if_pos c4] at H
            have c4b0 := eq_true c4
            have c4b1 : decide (x4_1 ≤ 64) = true := decide_eq_true c4
            clear c4
            by_cases c5 : (Int.tmod (a0 / 2 ^ x4_1.toNat) 2) = 1
            · rw [if_pos c5] at H
              have c5b0 : ((Int.tmod (a0 / 2 ^ x4_1.toNat) 2) == 1) = true := beq_iff_eq.mpr c5
              have c5b1 : ((Int.tmod (a0 / 2 ^ x4_1.toNat) 2) != 1) = false := bne_eq_false_iff_eq.mpr c5
              clear c5
              by_cases c6 : x3_1.length < 17592186044416
              · rw [if_pos c6] at H
                have LMc6 := Aside0.mk c6
                clear c6
                obtain ⟨y349, hy349⟩ : ∃ y_ : List Int, y_ = (x3_1 ++ [x4_1]) := ⟨_, rfl⟩
                replace H : (trishawref09_Members.l0 k1 a0 y349 (wrap64 (x4_1 + 1))) = some r := by first | (rw [hy349]; with_reducible exact H) | (have H2_ := (Option.bind_some _ _).symm.trans H; rw [hy349]; with_reducible exact H2_) | (have H2_ := (Option.bind_some _ _).symm.trans H; with_reducible exact H2_) | with_reducible exact H | (rw [hy349]; exact H) | exact H
                have Ny349 := Aside0.mk hy349
                clear hy349
                have H' := Aside0.mk H
                clear H
                go_wp2_with (first | ((with_reducible refine gate_builtin (b := .append) (xs := #[.tmp 14, .tmp 16]) rfl ?_); at_builtin; refine Kd.R_append (Kd.int .i64) (w0 := w) w.heap.size rfl (.tmp 14) (.tmp 16) 23 3 (.int .i64 0) 8 rfl Try.underlying23 info3 rfl (by decide) (by omega) u3 x3_1 x4_1 [.int .i64 x4_1] (fun _ => True) (fun _ => False) rfl rfl ?aP (fun _ hk => hk.elim) ?aF ?aO ?aB ?aS ?aL ?_; (case aP => exact rfl); (case aB => exact (by repeat (first | (with_reducible first | exact HB.out | apply below_alloc | apply pw_below_drewN | apply below_drew1) | exact HB.out))); (case aF => exact (fun _ _ => trivial)); (case aO => exact (by (with_reducible repeat (first | apply Kd.R_alloc | apply Kd.R_drewN | apply Kd.R_drew)); exact HO_3.out)); (case aS => exact (below_size (by repeat (first | (with_reducible first | exact HB.out | apply below_alloc | apply pw_below_drewN | apply below_drew1) | exact HB.out)))); (case aL => have := LMc6.out; omega); intro v350 w7 ho hb hg hat; rw [← Ny349.out] at ho; have n0_ := Aside0.mk (hb); have n1_ := Aside0.mk (ho); clear HB; clear HO_3; have HB := n0_; have HO351 := n1_; clear n0_ n1_; clear ho hb hg hat))
                go_roundg k1
                case measure => have := HK1.out; omega
                case rel => exact ⟨(y349), (wrap64 (x4_1 + 1)), (by first | rfl | (simp; done) | (simp [*]; done)), H', ⟨by have := HK1.out; omega⟩, ⟨by (with_reducible repeat (first | apply Kd.R_alloc | apply Kd.R_drewN | apply Kd.R_drew)); exact HO351.out⟩, ⟨by repeat (first | (with_reducible first | exact HB.out | apply below_alloc | apply pw_below_drewN | apply below_drew1) | exact HB.out)⟩⟩
              · rw [if_neg c6] at H
                exact absurd H (by simp)
            · rw [if_neg c5] at H
              have c5b0 : ((Int.tmod (a0 / 2 ^ x4_1.toNat) 2) == 1) = false := beq_eq_false_iff_ne.mpr c5
              have c5b1 : ((Int.tmod (a0 / 2 ^ x4_1.toNat) 2) != 1) = true := bne_iff_ne.mpr c5
              have H' := Aside0.mk H
              clear H
              go_wp2
              go_roundg k1
              case measure => have := HK1.out; omega
              case rel => exact ⟨(x3_1), (wrap64 (x4_1 + 1)), (by first | rfl | (simp; done) | (simp [*]; done)), H', ⟨by have := HK1.out; omega⟩, ⟨by (with_reducible repeat (first | apply Kd.R_alloc | apply Kd.R_drewN | apply Kd.R_drew)); exact HO_3.out⟩, ⟨by repeat (first | (with_reducible first | exact HB.out | apply below_alloc | apply pw_below_drewN | apply below_drew1) | exact HB.out)⟩⟩
          · rw [if_neg c4] at H
            exact absurd H (by simp)
        · rw [if_neg c3] at H
          exact absurd H (by simp)
      · rw [if_neg c2] at H
        have c2b0 : decide (x4_1 < 30) = false := decide_eq_false c2
        clear c2
        obtain rfl := Option.some.inj H
        go_wp2
        go_ret
        exact ⟨_, by first | rfl | (simp [errW_none, errW_some] <;> rfl) | (simp [*, errW_none, errW_some] <;> rfl), by (with_reducible repeat (first | apply Kd.R_alloc | apply Kd.R_drewN | apply Kd.R_drew)); exact HO_3.out, by repeat (first | (with_reducible first | exact HB.out | apply below_alloc | apply pw_below_drewN | apply below_drew1) | exact HB.out)⟩
def trishawref09_mends.l0 : Nat → List (S34) → List Int → Int → Int → Option (Bool)
  | 0, _, _, _, _ => none
  | k + 1, x0, x1, x2, x7 => if x7 < (x1.length : Int) then (if 0 ≤ x7 then ((trishawref09_crossing.f k x0 (rd x1 x7)).bind fun t353 => (if (Go.bits .and .i64 t353 x2) = 0 then (some false) else (trishawref09_mends.l0 k x0 x1 x2 (wrap64 (x7 + 1))))) else (none)) else (some true)
def trishawref09_mends.f (k : Nat) (l0 : List (S34)) (l1 : List Int) (a2 : Int) : Option (Bool) := trishawref09_mends.l0 k l0 l1 a2 0
theorem trishawref09_mends.mono_l : ∀ k, (∀ y0 y1 y2 y3, LeO (trishawref09_mends.l0 k y0 y1 y2 y3) (trishawref09_mends.l0 (k + 1) y0 y1 y2 y3))
  | 0 => fun _ _ _ _ r h => by simp [trishawref09_mends.l0] at h
  | k + 1 => by
    have ih0 := trishawref09_mends.mono_l k
    · intro y0 y1 y2 y3
      unfold trishawref09_mends.l0
      repeat' first
      | (with_reducible exact ih0 _ _ _ _)
      | (with_reducible exact trishawref09_crossing.mono _ _ _)
      | (with_reducible exact LeO.refl _)
      | (with_reducible exact LeO.none _)
      | (with_reducible refine LeO.ite ?_ ?_)
      | (with_reducible refine LeO.bind ?_ (fun _ => ?_))
      | exact ih0 _ _ _ _
      | exact trishawref09_crossing.mono _ _ _
      | exact LeO.none _
      | refine LeO.ite ?_ ?_
      | refine LeO.bind ?_ (fun _ => ?_)
theorem trishawref09_mends.mono : ∀ a0 a1 a2 k, LeO (trishawref09_mends.f k a0 a1 a2) (trishawref09_mends.f (k + 1) a0 a1 a2) := by
  intro a0 a1 a2 k
  have ih0 := trishawref09_mends.mono_l k
  unfold trishawref09_mends.f
  repeat' first
      | (with_reducible exact ih0 _ _ _ _)
      | (with_reducible exact trishawref09_crossing.mono _ _ _)
      | (with_reducible exact LeO.refl _)
      | (with_reducible exact LeO.none _)
      | (with_reducible refine LeO.ite ?_ ?_)
      | (with_reducible refine LeO.bind ?_ (fun _ => ?_))
      | exact ih0 _ _ _ _
      | exact trishawref09_crossing.mono _ _ _
      | exact LeO.none _
      | refine LeO.ite ?_ ?_
      | refine LeO.bind ?_ (fun _ => ?_)
mutual
def trishawref09_less.l0 : Nat → List Int → List Int → Int → Option (Bool)
  | 0, _, _, _ => none
  | k + 1, x0, x1, x5 => if x5 < (x0.length : Int) then (trishawref09_less.j1 k x0 x1 x5 (decide (x5 < (x1.length : Int)))) else (trishawref09_less.j1 k x0 x1 x5 false)
def trishawref09_less.j1 : Nat → List Int → List Int → Int → Bool → Option (Bool)
  | 0, _, _, _, _ => none
  | k + 1, x0, x1, x5, x15 => if x15 = true then (if 0 ≤ x5 then (if x5 < (x0.length : Int) then (if x5 < (x1.length : Int) then (if (rd x0 x5) = (rd x1 x5) then (trishawref09_less.l0 k x0 x1 (wrap64 (x5 + 1))) else (some (decide ((rd x0 x5) < (rd x1 x5))))) else (none)) else (none)) else (none)) else (some (decide ((x0.length : Int) < (x1.length : Int))))
end
def trishawref09_less.f (k : Nat) (l0 : List Int) (l1 : List Int) : Option (Bool) := trishawref09_less.l0 k l0 l1 0
theorem trishawref09_less.mono_l : ∀ k, (∀ y0 y1 y2, LeO (trishawref09_less.l0 k y0 y1 y2) (trishawref09_less.l0 (k + 1) y0 y1 y2)) ∧ (∀ y0 y1 y2 y3, LeO (trishawref09_less.j1 k y0 y1 y2 y3) (trishawref09_less.j1 (k + 1) y0 y1 y2 y3))
  | 0 => ⟨fun _ _ _ r h => by simp [trishawref09_less.l0] at h, fun _ _ _ _ r h => by simp [trishawref09_less.j1] at h⟩
  | k + 1 => by
    obtain ⟨ih0, ih1⟩ := trishawref09_less.mono_l k
    refine ⟨?_, ?_⟩
    · intro y0 y1 y2
      unfold trishawref09_less.l0
      repeat' first
      | (with_reducible exact ih0 _ _ _)
      | (with_reducible exact ih1 _ _ _ _)
      | (with_reducible exact LeO.refl _)
      | (with_reducible exact LeO.none _)
      | (with_reducible refine LeO.ite ?_ ?_)
      | (with_reducible refine LeO.bind ?_ (fun _ => ?_))
      | exact ih0 _ _ _
      | exact ih1 _ _ _ _
      | exact LeO.none _
      | refine LeO.ite ?_ ?_
      | refine LeO.bind ?_ (fun _ => ?_)
    · intro y0 y1 y2 y3
      unfold trishawref09_less.j1
      repeat' first
      | (with_reducible exact ih0 _ _ _)
      | (with_reducible exact ih1 _ _ _ _)
      | (with_reducible exact LeO.refl _)
      | (with_reducible exact LeO.none _)
      | (with_reducible refine LeO.ite ?_ ?_)
      | (with_reducible refine LeO.bind ?_ (fun _ => ?_))
      | exact ih0 _ _ _
      | exact ih1 _ _ _ _
      | exact LeO.none _
      | refine LeO.ite ?_ ?_
      | refine LeO.bind ?_ (fun _ => ?_)
theorem trishawref09_less.mono : ∀ a0 a1 k, LeO (trishawref09_less.f k a0 a1) (trishawref09_less.f (k + 1) a0 a1) := by
  intro a0 a1 k
  obtain ⟨ih0, ih1⟩ := trishawref09_less.mono_l k
  unfold trishawref09_less.f
  repeat' first
      | (with_reducible exact ih0 _ _ _)
      | (with_reducible exact ih1 _ _ _ _)
      | (with_reducible exact LeO.refl _)
      | (with_reducible exact LeO.none _)
      | (with_reducible refine LeO.ite ?_ ?_)
      | (with_reducible refine LeO.bind ?_ (fun _ => ?_))
      | exact ih0 _ _ _
      | exact ih1 _ _ _ _
      | exact LeO.none _
      | refine LeO.ite ?_ ?_
      | refine LeO.bind ?_ (fun _ => ?_)
mutual
def trishawref09_fewest.l0 : Nat → List (S34) → List Int → List Int → Int → Int → Int → Option (List Int × Int)
  | 0, _, _, _, _, _, _ => none
  | k + 1, x1, x6, x7, x8, x9, x10 => if x10 < (shl .i64 1 (x1.length : Int)) then ((trishawref09_Members.f k x10).bind fun t364 => (if (t364.length : Int) > x9 then (trishawref09_fewest.j1 k x1 x6 x7 x8 x9 x10 t364 true) else ((trishawref09_mends.f k x1 x6 x10).bind fun t367 => (trishawref09_fewest.j1 k x1 x6 x7 x8 x9 x10 t364 (!t367))))) else (some (x7, x8))
def trishawref09_fewest.j1 : Nat → List (S34) → List Int → List Int → Int → Int → Int → List Int → Bool → Option (List Int × Int)
  | 0, _, _, _, _, _, _, _, _ => none
  | k + 1, x1, x6, x7, x8, x9, x10, x11, x38 => if x38 = true then (trishawref09_fewest.l0 k x1 x6 x7 x8 x9 (wrap64 (x10 + 1))) else (if (x11.length : Int) < x9 then (trishawref09_fewest.l0 k x1 x6 x11 (0 + 1) (x11.length : Int) (wrap64 (x10 + 1))) else ((trishawref09_less.f k x11 x7).bind fun t368 => (if t368 = true then (trishawref09_fewest.l0 k x1 x6 x11 (wrap64 (x8 + 1)) x9 (wrap64 (x10 + 1))) else (trishawref09_fewest.l0 k x1 x6 x7 (wrap64 (x8 + 1)) x9 (wrap64 (x10 + 1))))))
end
def trishawref09_fewest.f (k : Nat) (a0 : Int) (l1 : List (S34)) : Option (List Int × Int) := (trishawref09_cuts.f k a0 l1).bind fun t358 => (trishawref09_fewest.l0 k l1 t358 (([] : List Int)) 0 (wrap64 ((l1.length : Int) + 1)) 0)
theorem trishawref09_fewest.mono_l : ∀ k, (∀ y0 y1 y2 y3 y4 y5, LeO (trishawref09_fewest.l0 k y0 y1 y2 y3 y4 y5) (trishawref09_fewest.l0 (k + 1) y0 y1 y2 y3 y4 y5)) ∧ (∀ y0 y1 y2 y3 y4 y5 y6 y7, LeO (trishawref09_fewest.j1 k y0 y1 y2 y3 y4 y5 y6 y7) (trishawref09_fewest.j1 (k + 1) y0 y1 y2 y3 y4 y5 y6 y7))
  | 0 => ⟨fun _ _ _ _ _ _ r h => by simp [trishawref09_fewest.l0] at h, fun _ _ _ _ _ _ _ _ r h => by simp [trishawref09_fewest.j1] at h⟩
  | k + 1 => by
    obtain ⟨ih0, ih1⟩ := trishawref09_fewest.mono_l k
    refine ⟨?_, ?_⟩
    · intro y0 y1 y2 y3 y4 y5
      unfold trishawref09_fewest.l0
      repeat' first
      | (with_reducible exact ih0 _ _ _ _ _ _)
      | (with_reducible exact ih1 _ _ _ _ _ _ _ _)
      | (with_reducible exact trishawref09_Members.mono _ _)
      | (with_reducible exact trishawref09_cuts.mono _ _ _)
      | (with_reducible exact trishawref09_less.mono _ _ _)
      | (with_reducible exact trishawref09_mends.mono _ _ _ _)
      | (with_reducible exact LeO.refl _)
      | (with_reducible exact LeO.none _)
      | (with_reducible refine LeO.ite ?_ ?_)
      | (with_reducible refine LeO.bind ?_ (fun _ => ?_))
      | exact ih0 _ _ _ _ _ _
      | exact ih1 _ _ _ _ _ _ _ _
      | exact trishawref09_Members.mono _ _
      | exact trishawref09_cuts.mono _ _ _
      | exact trishawref09_less.mono _ _ _
      | exact trishawref09_mends.mono _ _ _ _
      | exact LeO.none _
      | refine LeO.ite ?_ ?_
      | refine LeO.bind ?_ (fun _ => ?_)
    · intro y0 y1 y2 y3 y4 y5 y6 y7
      unfold trishawref09_fewest.j1
      repeat' first
      | (with_reducible exact ih0 _ _ _ _ _ _)
      | (with_reducible exact ih1 _ _ _ _ _ _ _ _)
      | (with_reducible exact trishawref09_Members.mono _ _)
      | (with_reducible exact trishawref09_cuts.mono _ _ _)
      | (with_reducible exact trishawref09_less.mono _ _ _)
      | (with_reducible exact trishawref09_mends.mono _ _ _ _)
      | (with_reducible exact LeO.refl _)
      | (with_reducible exact LeO.none _)
      | (with_reducible refine LeO.ite ?_ ?_)
      | (with_reducible refine LeO.bind ?_ (fun _ => ?_))
      | exact ih0 _ _ _ _ _ _
      | exact ih1 _ _ _ _ _ _ _ _
      | exact trishawref09_Members.mono _ _
      | exact trishawref09_cuts.mono _ _ _
      | exact trishawref09_less.mono _ _ _
      | exact trishawref09_mends.mono _ _ _ _
      | exact LeO.none _
      | refine LeO.ite ?_ ?_
      | refine LeO.bind ?_ (fun _ => ?_)
theorem trishawref09_fewest.mono : ∀ a0 a1 k, LeO (trishawref09_fewest.f k a0 a1) (trishawref09_fewest.f (k + 1) a0 a1) := by
  intro a0 a1 k
  obtain ⟨ih0, ih1⟩ := trishawref09_fewest.mono_l k
  unfold trishawref09_fewest.f
  repeat' first
      | (with_reducible exact ih0 _ _ _ _ _ _)
      | (with_reducible exact ih1 _ _ _ _ _ _ _ _)
      | (with_reducible exact trishawref09_Members.mono _ _)
      | (with_reducible exact trishawref09_cuts.mono _ _ _)
      | (with_reducible exact trishawref09_less.mono _ _ _)
      | (with_reducible exact trishawref09_mends.mono _ _ _ _)
      | (with_reducible exact LeO.refl _)
      | (with_reducible exact LeO.none _)
      | (with_reducible refine LeO.ite ?_ ?_)
      | (with_reducible refine LeO.bind ?_ (fun _ => ?_))
      | exact ih0 _ _ _ _ _ _
      | exact ih1 _ _ _ _ _ _ _ _
      | exact trishawref09_Members.mono _ _
      | exact trishawref09_cuts.mono _ _ _
      | exact trishawref09_less.mono _ _ _
      | exact trishawref09_mends.mono _ _ _ _
      | exact LeO.none _
      | refine LeO.ite ?_ ?_
      | refine LeO.bind ?_ (fun _ => ?_)
def trishawref09_Mend.f (k : Nat) (a0 : Int) (l1 : List (S34)) : Option (List Int × Int) := (trishawref09_Quarter.f k a0 l1).bind fun t369 => (if t369 = 0 then ((trishawref09_fewest.f k a0 l1).bind fun bt370 => (some (bt370.1, 0))) else (some (([] : List Int), t369)))
theorem trishawref09_Mend.mono : ∀ a0 a1 k, LeO (trishawref09_Mend.f k a0 a1) (trishawref09_Mend.f (k + 1) a0 a1) := by
  intro a0 a1 k
  unfold trishawref09_Mend.f
  repeat' first
      | (with_reducible exact trishawref09_Quarter.mono _ _ _)
      | (with_reducible exact trishawref09_fewest.mono _ _ _)
      | (with_reducible exact LeO.refl _)
      | (with_reducible exact LeO.none _)
      | (with_reducible refine LeO.ite ?_ ?_)
      | (with_reducible refine LeO.bind ?_ (fun _ => ?_))
      | exact trishawref09_Quarter.mono _ _ _
      | exact trishawref09_fewest.mono _ _ _
      | exact LeO.none _
      | refine LeO.ite ?_ ?_
      | refine LeO.bind ?_ (fun _ => ?_)
def fetch_Mends.f (k : Nat) (a0 : Int) (l1 : List (S34)) : Option (Int × Int) := (fetch_read.f k a0 l1).bind fun bt374 => (if bt374.2.2 = 0 then ((fetch_quarter_fewest.f k bt374.1 bt374.2.1).bind fun bt380 => (some (bt380.2, 0))) else (some (0, bt374.2.2)))
theorem fetch_Mends.mono : ∀ a0 a1 k, LeO (fetch_Mends.f k a0 a1) (fetch_Mends.f (k + 1) a0 a1) := by
  intro a0 a1 k
  unfold fetch_Mends.f
  repeat' first
      | (with_reducible exact fetch_quarter_fewest.mono _ _ _)
      | (with_reducible exact fetch_read.mono _ _ _)
      | (with_reducible exact LeO.refl _)
      | (with_reducible exact LeO.none _)
      | (with_reducible refine LeO.ite ?_ ?_)
      | (with_reducible refine LeO.bind ?_ (fun _ => ?_))
      | exact fetch_quarter_fewest.mono _ _ _
      | exact fetch_read.mono _ _ _
      | exact LeO.none _
      | refine LeO.ite ?_ ?_
      | refine LeO.bind ?_ (fun _ => ?_)
end Go.Proofs.Ytjbfbdanbpfplaa.OAll
