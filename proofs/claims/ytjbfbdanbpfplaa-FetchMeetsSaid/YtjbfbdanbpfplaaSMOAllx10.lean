/- A part of the proof of 'fetchMeets_holds', for every input, without a condition. -/
import Derived.Test.YtjbfbdanbpfplaaSMOAllx0
import Derived.Test.YtjbfbdanbpfplaaSMOAllx6
import Derived.Test.YtjbfbdanbpfplaaSMOAllx7
import Derived.Test.YtjbfbdanbpfplaaSMOAllx9
namespace Go.Proofs.Ytjbfbdanbpfplaa.OAll
open Go.RowKit Go.Proofs.YtjbfbdanbpfplaaW.PrintWords Go.Proofs.YtjbfbdanbpfplaaW.PrintLast Go.Proofs.YtjbfbdanbpfplaaW.PrintMore
attribute [local go_sem] max2_int min2_int max_two min_two max_three min_three max_four min_four
set_option linter.unusedVariables false
set_option linter.unusedSimpArgs false
mutual
def trishawlaw09_FetchMeets.j0 : Nat → Int → List (S34) → Int → Int → Bool → Option (Bool)
  | 0, _, _, _, _, _ => none
  | k + 1, x0, x1, x2, x3, x24 => if x24 = true then ((trishawlaw09_alive.f k).bind fun t259 => (some t259)) else ((fetch_Cuts.f k x0 x1).bind fun bt260 => (if bt260.2 = 0 then (trishawlaw09_FetchMeets.j1 k x0 x2 x3 bt260.1 bt260.2 ((bt260.1.length : Int) == 0)) else (trishawlaw09_FetchMeets.j1 k x0 x2 x3 bt260.1 bt260.2 true)))
def trishawlaw09_FetchMeets.j1 : Nat → Int → Int → Int → List Int → Int → Bool → Option (Bool)
  | 0, _, _, _, _, _, _ => none
  | k + 1, x0, x2, x3, x9, x10, x38 => if x38 = true then (if x10 = 0 then ((trishawlaw09_alive.f k).bind fun t264 => (some t264)) else (some false)) else (if (x9.length : Int) = 0 then (none) else (if 0 ≤ (Int.tmod (wrap64 (x2)) (x9.length : Int)) then (if (Int.tmod (wrap64 (x2)) (x9.length : Int)) < (x9.length : Int) then (if 0 ≤ (Int.tmod (wrap64 (x3)) (x9.length : Int)) then (if (Int.tmod (wrap64 (x3)) (x9.length : Int)) < (x9.length : Int) then (if 0 ≤ x0 then (if x0 ≤ 64 then (trishawlaw09_FetchMeets.l0 k x0 x9 (rd x9 (Int.tmod (wrap64 (x2)) (x9.length : Int))) (rd x9 (Int.tmod (wrap64 (x3)) (x9.length : Int))) ((Go.bits .and .i64 (rd x9 (Int.tmod (wrap64 (x2)) (x9.length : Int))) (rd x9 (Int.tmod (wrap64 (x3)) (x9.length : Int)))) == 0) ((Go.bits .or .i64 (rd x9 (Int.tmod (wrap64 (x2)) (x9.length : Int))) (rd x9 (Int.tmod (wrap64 (x3)) (x9.length : Int)))) == (wrap64 ((wrap64 (2 ^ x0.toNat)) - 1))) 0) else (none)) else (none)) else (none)) else (none)) else (none)) else (none)))
def trishawlaw09_FetchMeets.l0 : Nat → Int → List Int → Int → Int → Bool → Bool → Int → Option (Bool)
  | 0, _, _, _, _, _, _, _ => none
  | k + 1, x0, x9, x11, x12, x13, x14, x15 => if x15 < (x9.length : Int) then (if 0 ≤ x15 then (if (rd x9 x15) < 1 then (some false) else (if 0 ≤ x0 then (if x0 ≤ 64 then (if (rd x9 x15) ≥ (wrap64 ((wrap64 (2 ^ x0.toNat)) - 1)) then (some false) else (if x15 > 0 then (if 0 ≤ (wrap64 (x15 - 1)) then (if (wrap64 (x15 - 1)) < (x9.length : Int) then (if (rd x9 x15) ≤ (rd x9 (wrap64 (x15 - 1))) then (some false) else (if x13 = true then (if x14 = true then (trishawlaw09_FetchMeets.l0 k x0 x9 x11 x12 true true (wrap64 (x15 + 1))) else (trishawlaw09_FetchMeets.l0 k x0 x9 x11 x12 true ((rd x9 x15) == (Go.bits .or .i64 x11 x12)) (wrap64 (x15 + 1)))) else (if x14 = true then (trishawlaw09_FetchMeets.l0 k x0 x9 x11 x12 ((rd x9 x15) == (Go.bits .and .i64 x11 x12)) true (wrap64 (x15 + 1))) else (trishawlaw09_FetchMeets.l0 k x0 x9 x11 x12 ((rd x9 x15) == (Go.bits .and .i64 x11 x12)) ((rd x9 x15) == (Go.bits .or .i64 x11 x12)) (wrap64 (x15 + 1)))))) else (none)) else (none)) else (if x13 = true then (if x14 = true then (trishawlaw09_FetchMeets.l0 k x0 x9 x11 x12 true true (wrap64 (x15 + 1))) else (trishawlaw09_FetchMeets.l0 k x0 x9 x11 x12 true ((rd x9 x15) == (Go.bits .or .i64 x11 x12)) (wrap64 (x15 + 1)))) else (if x14 = true then (trishawlaw09_FetchMeets.l0 k x0 x9 x11 x12 ((rd x9 x15) == (Go.bits .and .i64 x11 x12)) true (wrap64 (x15 + 1))) else (trishawlaw09_FetchMeets.l0 k x0 x9 x11 x12 ((rd x9 x15) == (Go.bits .and .i64 x11 x12)) ((rd x9 x15) == (Go.bits .or .i64 x11 x12)) (wrap64 (x15 + 1))))))) else (none)) else (none))) else (none)) else (if x13 = true then (if x14 = true then ((trishawlaw09_alive.f k).bind fun t277 => (some t277)) else (some false)) else (some false))
end
def trishawlaw09_FetchMeets.f (k : Nat) (a0 : Int) (l1 : List (S34)) (a2 : Int) (a3 : Int) : Option (Bool) := (trishawlaw09_few.f l1 ([] : List Int)).bind fun t257 => (if t257 = true then ((trishawref09_Quarter.f k a0 l1).bind fun t258 => (trishawlaw09_FetchMeets.j0 k a0 l1 a2 a3 (t258 != 0))) else (trishawlaw09_FetchMeets.j0 k a0 l1 a2 a3 true))
theorem trishawlaw09_FetchMeets.mono_l : ∀ k, (∀ y0 y1 y2 y3 y4, LeO (trishawlaw09_FetchMeets.j0 k y0 y1 y2 y3 y4) (trishawlaw09_FetchMeets.j0 (k + 1) y0 y1 y2 y3 y4)) ∧ (∀ y0 y1 y2 y3 y4 y5, LeO (trishawlaw09_FetchMeets.j1 k y0 y1 y2 y3 y4 y5) (trishawlaw09_FetchMeets.j1 (k + 1) y0 y1 y2 y3 y4 y5)) ∧ (∀ y0 y1 y2 y3 y4 y5 y6, LeO (trishawlaw09_FetchMeets.l0 k y0 y1 y2 y3 y4 y5 y6) (trishawlaw09_FetchMeets.l0 (k + 1) y0 y1 y2 y3 y4 y5 y6))
  | 0 => ⟨fun _ _ _ _ _ r h => by simp [trishawlaw09_FetchMeets.j0] at h, fun _ _ _ _ _ _ r h => by simp [trishawlaw09_FetchMeets.j1] at h, fun _ _ _ _ _ _ _ r h => by simp [trishawlaw09_FetchMeets.l0] at h⟩
  | k + 1 => by
    obtain ⟨ih0, ih1, ih2⟩ := trishawlaw09_FetchMeets.mono_l k
    refine ⟨?_, ?_, ?_⟩
    · intro y0 y1 y2 y3 y4
      unfold trishawlaw09_FetchMeets.j0
      repeat' first
      | (with_reducible exact ih0 _ _ _ _ _)
      | (with_reducible exact ih1 _ _ _ _ _ _)
      | (with_reducible exact ih2 _ _ _ _ _ _ _)
      | (with_reducible exact fetch_Cuts.mono _ _ _)
      | (with_reducible exact trishawlaw09_alive.mono _)
      | (with_reducible exact trishawref09_Quarter.mono _ _ _)
      | (with_reducible exact LeO.refl _)
      | (with_reducible exact LeO.none _)
      | (with_reducible refine LeO.ite ?_ ?_)
      | (with_reducible refine LeO.bind ?_ (fun _ => ?_))
      | exact ih0 _ _ _ _ _
      | exact ih1 _ _ _ _ _ _
      | exact ih2 _ _ _ _ _ _ _
      | exact fetch_Cuts.mono _ _ _
      | exact trishawlaw09_alive.mono _
      | exact trishawref09_Quarter.mono _ _ _
      | exact LeO.none _
      | refine LeO.ite ?_ ?_
      | refine LeO.bind ?_ (fun _ => ?_)
    · intro y0 y1 y2 y3 y4 y5
      unfold trishawlaw09_FetchMeets.j1
      repeat' first
      | (with_reducible exact ih0 _ _ _ _ _)
      | (with_reducible exact ih1 _ _ _ _ _ _)
      | (with_reducible exact ih2 _ _ _ _ _ _ _)
      | (with_reducible exact fetch_Cuts.mono _ _ _)
      | (with_reducible exact trishawlaw09_alive.mono _)
      | (with_reducible exact trishawref09_Quarter.mono _ _ _)
      | (with_reducible exact LeO.refl _)
      | (with_reducible exact LeO.none _)
      | (with_reducible refine LeO.ite ?_ ?_)
      | (with_reducible refine LeO.bind ?_ (fun _ => ?_))
      | exact ih0 _ _ _ _ _
      | exact ih1 _ _ _ _ _ _
      | exact ih2 _ _ _ _ _ _ _
      | exact fetch_Cuts.mono _ _ _
      | exact trishawlaw09_alive.mono _
      | exact trishawref09_Quarter.mono _ _ _
      | exact LeO.none _
      | refine LeO.ite ?_ ?_
      | refine LeO.bind ?_ (fun _ => ?_)
    · intro y0 y1 y2 y3 y4 y5 y6
      unfold trishawlaw09_FetchMeets.l0
      repeat' first
      | (with_reducible exact ih0 _ _ _ _ _)
      | (with_reducible exact ih1 _ _ _ _ _ _)
      | (with_reducible exact ih2 _ _ _ _ _ _ _)
      | (with_reducible exact fetch_Cuts.mono _ _ _)
      | (with_reducible exact trishawlaw09_alive.mono _)
      | (with_reducible exact trishawref09_Quarter.mono _ _ _)
      | (with_reducible exact LeO.refl _)
      | (with_reducible exact LeO.none _)
      | (with_reducible refine LeO.ite ?_ ?_)
      | (with_reducible refine LeO.bind ?_ (fun _ => ?_))
      | exact ih0 _ _ _ _ _
      | exact ih1 _ _ _ _ _ _
      | exact ih2 _ _ _ _ _ _ _
      | exact fetch_Cuts.mono _ _ _
      | exact trishawlaw09_alive.mono _
      | exact trishawref09_Quarter.mono _ _ _
      | exact LeO.none _
      | refine LeO.ite ?_ ?_
      | refine LeO.bind ?_ (fun _ => ?_)
theorem trishawlaw09_FetchMeets.mono : ∀ a0 a1 a2 a3 k, LeO (trishawlaw09_FetchMeets.f k a0 a1 a2 a3) (trishawlaw09_FetchMeets.f (k + 1) a0 a1 a2 a3) := by
  intro a0 a1 a2 a3 k
  obtain ⟨ih0, ih1, ih2⟩ := trishawlaw09_FetchMeets.mono_l k
  unfold trishawlaw09_FetchMeets.f
  repeat' first
      | (with_reducible exact ih0 _ _ _ _ _)
      | (with_reducible exact ih1 _ _ _ _ _ _)
      | (with_reducible exact ih2 _ _ _ _ _ _ _)
      | (with_reducible exact fetch_Cuts.mono _ _ _)
      | (with_reducible exact trishawlaw09_alive.mono _)
      | (with_reducible exact trishawref09_Quarter.mono _ _ _)
      | (with_reducible exact LeO.refl _)
      | (with_reducible exact LeO.none _)
      | (with_reducible refine LeO.ite ?_ ?_)
      | (with_reducible refine LeO.bind ?_ (fun _ => ?_))
      | exact ih0 _ _ _ _ _
      | exact ih1 _ _ _ _ _ _
      | exact ih2 _ _ _ _ _ _ _
      | exact fetch_Cuts.mono _ _ _
      | exact trishawlaw09_alive.mono _
      | exact trishawref09_Quarter.mono _ _ _
      | exact LeO.none _
      | refine LeO.ite ?_ ?_
      | refine LeO.bind ?_ (fun _ => ?_)
set_option maxHeartbeats 8000000 in
set_option maxRecDepth 100000 in
theorem trishawlaw09_FetchMeets.calls (k : Nat) (a0 : Int) (A1 : Option Addr) (c1 : Nat) (l1 : List (S34)) (a2 : Int) (a3 : Int) (r : Bool) (w : World) (hr1 : Kd.C k34 w A1 l1.length l1) (hc1 : l1.length ≤ c1) (h : trishawlaw09_FetchMeets.f k a0 l1 a2 a3 = some r) :
    Calls Try.prog 4 #[.int .i64 a0, .slice A1 l1.length c1, .int .u8 a2, .int .u8 a3] w fun e w' => e = .returned (.bool r) ∧ Below w.heap.size w w' := by
  have HR1 := Aside0.mk hr1
  have HC1 := Aside0.mk hc1
  clear hr1 hc1
  have HB := Aside0.mk (Below.refl w.heap.size w)
  have H : ((trishawlaw09_few.f l1 ([] : List Int)).bind fun t257 => (if t257 = true then ((trishawref09_Quarter.f k a0 l1).bind fun t258 => (trishawlaw09_FetchMeets.j0 k a0 l1 a2 a3 (t258 != 0))) else (trishawlaw09_FetchMeets.j0 k a0 l1 a2 a3 true))) = some r := h
  clear h
  have HC5 := Aside0.mk H
  clear H
  go_enter Try.func4, Try.ntmps4
  go_upto_region 1 with (fail)
  repeat (go_quiet (fail); go_upto_region 1 with (fail))
  go_cut [24] (fun v24 wc => ∃ (kq : Nat) (x24_4 : Bool), v24 = .bool x24_4 ∧ Aside0 (trishawlaw09_FetchMeets.j0 kq a0 l1 a2 a3 x24_4 = some r) ∧ Aside0 (kq ≤ k) ∧ Aside0 (Below w.heap.size w wc))
  case first =>
    have H := HC5.out
    clear HC5
    replace H := Option.bind_eq_some_iff.mp H
    obtain ⟨t257, A60, H⟩ := H
    replace H : (if t257 = true then ((trishawref09_Quarter.f k a0 l1).bind fun t258 => (trishawlaw09_FetchMeets.j0 k a0 l1 a2 a3 (t258 != 0))) else (trishawlaw09_FetchMeets.j0 k a0 l1 a2 a3 true)) = some r := H
    have A6 := Aside0.mk A60
    clear A60
    by_cases c7 : t257 = true
    · subst c7
      have H1 : ((trishawref09_Quarter.f k a0 l1).bind fun t258 => (trishawlaw09_FetchMeets.j0 k a0 l1 a2 a3 (t258 != 0))) = some r := by rw [if_pos rfl] at H; exact H
      clear H
      have H := H1
      clear H1
      replace H := Option.bind_eq_some_iff.mp H
      obtain ⟨t258, A80, H⟩ := H
      replace H : (trishawlaw09_FetchMeets.j0 k a0 l1 a2 a3 (t258 != 0)) = some r := H
      have A8 := Aside0.mk A80
      clear A80
      have H' := Aside0.mk H
      clear H
      go_wp2_with (first | (go_at_call 16; (refine (trishawlaw09_few.calls _ _ l1 _ _ ([] : List Int) true _ ?side1 ?side2 ?side3 ?side4 A6.out).mono ?_); (case side1 => repeat (first | exact (Kd.C_below HR1.out HB.out) | (with_reducible refine Kd.C_alloc ?_ _) | (with_reducible refine Kd.C_drewN ?_ _) | (with_reducible refine Kd.C_drew ?_))); (case side2 => exact HC1.out); (case side3 => exact Kd.C_nil _ _); (case side4 => exact Nat.le_refl _); rintro e w' ⟨rfl, ⟨nd, rfl⟩⟩; (try first | exact ⟨rfl, _, World.drewN_drewN _ _ _⟩ | exact ⟨rfl, _, Eq.trans (World.drewN_drewN _ _ _) (congrArg (World.drewN _) (Nat.add_assoc _ _ _))⟩)) | (go_at_call 21; (with_reducible refine (trishawref09_Quarter.calls k a0 _ _ l1 t258 _ ?side1 ?side2 A8.out).mono ?_); (case side1 => repeat (first | exact (Kd.C_below HR1.out (by repeat (first | (with_reducible first | exact HB.out | apply below_alloc | apply pw_below_drewN | apply below_drew1) | exact HB.out))) | (with_reducible refine Kd.C_alloc ?_ _) | (with_reducible refine Kd.C_drewN ?_ _) | (with_reducible refine Kd.C_drew ?_))); (case side2 => exact HC1.out); rintro e w' ⟨rfl, ⟨nd, rfl⟩⟩; (try first | exact ⟨rfl, _, World.drewN_drewN _ _ _⟩ | exact ⟨rfl, _, Eq.trans (World.drewN_drewN _ _ _) (congrArg (World.drewN _) (Nat.add_assoc _ _ _))⟩)))
      repeat (go_quiet (first | (go_at_call 16; (refine (trishawlaw09_few.calls _ _ l1 _ _ ([] : List Int) true _ ?side1 ?side2 ?side3 ?side4 A6.out).mono ?_); (case side1 => repeat (first | exact (Kd.C_below HR1.out HB.out) | (with_reducible refine Kd.C_alloc ?_ _) | (with_reducible refine Kd.C_drewN ?_ _) | (with_reducible refine Kd.C_drew ?_))); (case side2 => exact HC1.out); (case side3 => exact Kd.C_nil _ _); (case side4 => exact Nat.le_refl _); rintro e w' ⟨rfl, ⟨nd, rfl⟩⟩; (try first | exact ⟨rfl, _, World.drewN_drewN _ _ _⟩ | exact ⟨rfl, _, Eq.trans (World.drewN_drewN _ _ _) (congrArg (World.drewN _) (Nat.add_assoc _ _ _))⟩)) | (go_at_call 21; (with_reducible refine (trishawref09_Quarter.calls k a0 _ _ l1 t258 _ ?side1 ?side2 A8.out).mono ?_); (case side1 => repeat (first | exact (Kd.C_below HR1.out (by repeat (first | (with_reducible first | exact HB.out | apply below_alloc | apply pw_below_drewN | apply below_drew1) | exact HB.out))) | (with_reducible refine Kd.C_alloc ?_ _) | (with_reducible refine Kd.C_drewN ?_ _) | (with_reducible refine Kd.C_drew ?_))); (case side2 => exact HC1.out); rintro e w' ⟨rfl, ⟨nd, rfl⟩⟩; (try first | exact ⟨rfl, _, World.drewN_drewN _ _ _⟩ | exact ⟨rfl, _, Eq.trans (World.drewN_drewN _ _ _) (congrArg (World.drewN _) (Nat.add_assoc _ _ _))⟩))); try go_wp2_with (first | (go_at_call 16; (refine (trishawlaw09_few.calls _ _ l1 _ _ ([] : List Int) true _ ?side1 ?side2 ?side3 ?side4 A6.out).mono ?_); (case side1 => repeat (first | exact (Kd.C_below HR1.out HB.out) | (with_reducible refine Kd.C_alloc ?_ _) | (with_reducible refine Kd.C_drewN ?_ _) | (with_reducible refine Kd.C_drew ?_))); (case side2 => exact HC1.out); (case side3 => exact Kd.C_nil _ _); (case side4 => exact Nat.le_refl _); rintro e w' ⟨rfl, ⟨nd, rfl⟩⟩; (try first | exact ⟨rfl, _, World.drewN_drewN _ _ _⟩ | exact ⟨rfl, _, Eq.trans (World.drewN_drewN _ _ _) (congrArg (World.drewN _) (Nat.add_assoc _ _ _))⟩)) | (go_at_call 21; (with_reducible refine (trishawref09_Quarter.calls k a0 _ _ l1 t258 _ ?side1 ?side2 A8.out).mono ?_); (case side1 => repeat (first | exact (Kd.C_below HR1.out (by repeat (first | (with_reducible first | exact HB.out | apply below_alloc | apply pw_below_drewN | apply below_drew1) | exact HB.out))) | (with_reducible refine Kd.C_alloc ?_ _) | (with_reducible refine Kd.C_drewN ?_ _) | (with_reducible refine Kd.C_drew ?_))); (case side2 => exact HC1.out); rintro e w' ⟨rfl, ⟨nd, rfl⟩⟩; (try first | exact ⟨rfl, _, World.drewN_drewN _ _ _⟩ | exact ⟨rfl, _, Eq.trans (World.drewN_drewN _ _ _) (congrArg (World.drewN _) (Nat.add_assoc _ _ _))⟩))))
      go_meet
      case rel => exact ⟨_, ((t258 != 0)), (by first | rfl | (simp; done) | (simp [*]; done)), H', ⟨by first | omega | exact Nat.le_refl _⟩, ⟨by repeat (first | (with_reducible first | exact HB.out | apply below_alloc | apply pw_below_drewN | apply below_drew1) | exact HB.out)⟩⟩
    · replace c7 := Bool.eq_false_iff.mpr c7
      subst c7
      have H1 : (trishawlaw09_FetchMeets.j0 k a0 l1 a2 a3 true) = some r := by rw [if_neg (show ¬ (false = true) by decide)] at H; exact H
      clear H
      have H := H1
      clear H1
      have H' := Aside0.mk H
      clear H
      go_wp2_with (first | (go_at_call 16; (refine (trishawlaw09_few.calls _ _ l1 _ _ ([] : List Int) false _ ?side1 ?side2 ?side3 ?side4 A6.out).mono ?_); (case side1 => repeat (first | exact (Kd.C_below HR1.out HB.out) | (with_reducible refine Kd.C_alloc ?_ _) | (with_reducible refine Kd.C_drewN ?_ _) | (with_reducible refine Kd.C_drew ?_))); (case side2 => exact HC1.out); (case side3 => exact Kd.C_nil _ _); (case side4 => exact Nat.le_refl _); rintro e w' ⟨rfl, ⟨nd, rfl⟩⟩; (try first | exact ⟨rfl, _, World.drewN_drewN _ _ _⟩ | exact ⟨rfl, _, Eq.trans (World.drewN_drewN _ _ _) (congrArg (World.drewN _) (Nat.add_assoc _ _ _))⟩)))
      repeat (go_quiet (first | (go_at_call 16; (refine (trishawlaw09_few.calls _ _ l1 _ _ ([] : List Int) false _ ?side1 ?side2 ?side3 ?side4 A6.out).mono ?_); (case side1 => repeat (first | exact (Kd.C_below HR1.out HB.out) | (with_reducible refine Kd.C_alloc ?_ _) | (with_reducible refine Kd.C_drewN ?_ _) | (with_reducible refine Kd.C_drew ?_))); (case side2 => exact HC1.out); (case side3 => exact Kd.C_nil _ _); (case side4 => exact Nat.le_refl _); rintro e w' ⟨rfl, ⟨nd, rfl⟩⟩; (try first | exact ⟨rfl, _, World.drewN_drewN _ _ _⟩ | exact ⟨rfl, _, Eq.trans (World.drewN_drewN _ _ _) (congrArg (World.drewN _) (Nat.add_assoc _ _ _))⟩))); try go_wp2_with (first | (go_at_call 16; (refine (trishawlaw09_few.calls _ _ l1 _ _ ([] : List Int) false _ ?side1 ?side2 ?side3 ?side4 A6.out).mono ?_); (case side1 => repeat (first | exact (Kd.C_below HR1.out HB.out) | (with_reducible refine Kd.C_alloc ?_ _) | (with_reducible refine Kd.C_drewN ?_ _) | (with_reducible refine Kd.C_drew ?_))); (case side2 => exact HC1.out); (case side3 => exact Kd.C_nil _ _); (case side4 => exact Nat.le_refl _); rintro e w' ⟨rfl, ⟨nd, rfl⟩⟩; (try first | exact ⟨rfl, _, World.drewN_drewN _ _ _⟩ | exact ⟨rfl, _, Eq.trans (World.drewN_drewN _ _ _) (congrArg (World.drewN _) (Nat.add_assoc _ _ _))⟩))))
      go_meet
      case rel => exact ⟨_, (true), (by first | rfl | (simp; done) | (simp [*]; done)), H', ⟨by first | omega | exact Nat.le_refl _⟩, ⟨by repeat (first | (with_reducible first | exact HB.out | apply below_alloc | apply pw_below_drewN | apply below_drew1) | exact HB.out)⟩⟩
  case rest =>
    clear HC5
    try clear c1
    try clear p2
    try clear c4
    try clear c7
    obtain ⟨kq, x24_4, rfl, HA, HJ4, HB⟩ := hcut
    cases kq with
    | zero => exact absurd HA.out (by simp [trishawlaw09_FetchMeets.j0])
    | succ kj4 =>
      have H := HA.out
      clear HA
      simp only [trishawlaw09_FetchMeets.j0] at H
      by_cases c9 : x24_4 = true
      · subst c9
        have H1 : ((trishawlaw09_alive.f kj4).bind fun t259 => (some t259)) = some r := by rw [if_pos rfl] at H; exact H
        clear H
        have H := H1
        clear H1
        replace H := Option.bind_eq_some_iff.mp H
        obtain ⟨t259, A100, H⟩ := H
        replace H : (some t259) = some r := H
        have A10 := Aside0.mk A100
        clear A100
        obtain rfl := Option.some.inj H
        go_wp2_with (first | (go_at_call 17; (with_reducible refine (trishawlaw09_alive.calls kj4  t259 _ A10.out).mono ?_); rintro e w11 ⟨rfl, hb⟩; have n0_ := Aside0.mk (below_step (by repeat (first | (with_reducible first | exact HB.out | apply below_alloc | apply pw_below_drewN | apply below_drew1) | exact HB.out)) hb); clear HB; have HB := n0_; clear n0_; (try clear hb); (try clear hb2); (try clear hk); (try clear hi)))
        repeat (go_quiet (first | (go_at_call 17; (with_reducible refine (trishawlaw09_alive.calls kj4  t259 _ A10.out).mono ?_); rintro e w11 ⟨rfl, hb⟩; have n0_ := Aside0.mk (below_step (by repeat (first | (with_reducible first | exact HB.out | apply below_alloc | apply pw_below_drewN | apply below_drew1) | exact HB.out)) hb); clear HB; have HB := n0_; clear n0_; (try clear hb); (try clear hb2); (try clear hk); (try clear hi))); try go_wp2_with (first | (go_at_call 17; (with_reducible refine (trishawlaw09_alive.calls kj4  t259 _ A10.out).mono ?_); rintro e w11 ⟨rfl, hb⟩; have n0_ := Aside0.mk (below_step (by repeat (first | (with_reducible first | exact HB.out | apply below_alloc | apply pw_below_drewN | apply below_drew1) | exact HB.out)) hb); clear HB; have HB := n0_; clear n0_; (try clear hb); (try clear hb2); (try clear hk); (try clear hi))))
        go_ret
        exact ⟨by first | rfl | (simp [errW_none, errW_some] <;> rfl) | (simp [*, errW_none, errW_some] <;> rfl), by repeat (first | (with_reducible first | exact HB.out | apply below_alloc | apply pw_below_drewN | apply below_drew1) | exact HB.out)⟩
      · replace c9 := Bool.eq_false_iff.mpr c9
        subst c9
        have H1 : ((fetch_Cuts.f kj4 a0 l1).bind fun bt260 => (if bt260.2 = 0 then (trishawlaw09_FetchMeets.j1 kj4 a0 a2 a3 bt260.1 bt260.2 ((bt260.1.length : Int) == 0)) else (trishawlaw09_FetchMeets.j1 kj4 a0 a2 a3 bt260.1 bt260.2 true))) = some r := by rw [if_neg (show ¬ (false = true) by decide)] at H; exact H
        clear H
        have H := H1
        clear H1
        replace H := Option.bind_eq_some_iff.mp H
        obtain ⟨⟨t260, t261⟩, A120, H⟩ := H
        replace H : (if t261 = 0 then (trishawlaw09_FetchMeets.j1 kj4 a0 a2 a3 t260 t261 ((t260.length : Int) == 0)) else (trishawlaw09_FetchMeets.j1 kj4 a0 a2 a3 t260 t261 true)) = some r := H
        have A12 := Aside0.mk A120
        clear A120
        have HC13 := Aside0.mk H
        clear H
        go_upto_region 4 with (first | (go_at_call 22; (with_reducible refine (fetch_Cuts.calls kj4 a0 _ _ l1 t260 t261 _ ?side1 ?side2 A12.out).mono ?_); (case side1 => repeat (first | exact (Kd.C_below HR1.out HB.out) | (with_reducible refine Kd.C_alloc ?_ _) | (with_reducible refine Kd.C_drewN ?_ _) | (with_reducible refine Kd.C_drew ?_))); (case side2 => exact HC1.out); rintro e w14 ⟨v262, rfl, ho0, hb⟩; have n0_ := Aside0.mk (Kd.R_lower ho0 (below_size (by repeat (first | (with_reducible first | exact HB.out | apply below_alloc | apply pw_below_drewN | apply below_drew1) | exact HB.out)))); have n1_ := Aside0.mk (below_step (by repeat (first | (with_reducible first | exact HB.out | apply below_alloc | apply pw_below_drewN | apply below_drew1) | exact HB.out)) hb); clear HB; have HO263 := n0_; have HB := n1_; clear n0_ n1_; (try clear hb); (try clear hb2); (try clear hk); (try clear hi); (try clear ho0)))
        repeat (go_quiet (first | (go_at_call 22; (with_reducible refine (fetch_Cuts.calls kj4 a0 _ _ l1 t260 t261 _ ?side1 ?side2 A12.out).mono ?_); (case side1 => repeat (first | exact (Kd.C_below HR1.out HB.out) | (with_reducible refine Kd.C_alloc ?_ _) | (with_reducible refine Kd.C_drewN ?_ _) | (with_reducible refine Kd.C_drew ?_))); (case side2 => exact HC1.out); rintro e w14 ⟨v262, rfl, ho0, hb⟩; have n0_ := Aside0.mk (Kd.R_lower ho0 (below_size (by repeat (first | (with_reducible first | exact HB.out | apply below_alloc | apply pw_below_drewN | apply below_drew1) | exact HB.out)))); have n1_ := Aside0.mk (below_step (by repeat (first | (with_reducible first | exact HB.out | apply below_alloc | apply pw_below_drewN | apply below_drew1) | exact HB.out)) hb); clear HB; have HO263 := n0_; have HB := n1_; clear n0_ n1_; (try clear hb); (try clear hb2); (try clear hk); (try clear hi); (try clear ho0))); go_upto_region 4 with (first | (go_at_call 22; (with_reducible refine (fetch_Cuts.calls kj4 a0 _ _ l1 t260 t261 _ ?side1 ?side2 A12.out).mono ?_); (case side1 => repeat (first | exact (Kd.C_below HR1.out HB.out) | (with_reducible refine Kd.C_alloc ?_ _) | (with_reducible refine Kd.C_drewN ?_ _) | (with_reducible refine Kd.C_drew ?_))); (case side2 => exact HC1.out); rintro e w14 ⟨v262, rfl, ho0, hb⟩; have n0_ := Aside0.mk (Kd.R_lower ho0 (below_size (by repeat (first | (with_reducible first | exact HB.out | apply below_alloc | apply pw_below_drewN | apply below_drew1) | exact HB.out)))); have n1_ := Aside0.mk (below_step (by repeat (first | (with_reducible first | exact HB.out | apply below_alloc | apply pw_below_drewN | apply below_drew1) | exact HB.out)) hb); clear HB; have HO263 := n0_; have HB := n1_; clear n0_ n1_; (try clear hb); (try clear hb2); (try clear hk); (try clear hi); (try clear ho0))))
        (try simp only [Act.put, List.setIfInBounds_toArray, List.set_cons_zero, List.set_cons_succ])
        go_cut [38] (fun v38 wc => ∃ (kq : Nat) (x38_12 : Bool), v38 = .bool x38_12 ∧ Aside0 (trishawlaw09_FetchMeets.j1 kq a0 a2 a3 t260 t261 x38_12 = some r) ∧ Aside0 (kq ≤ kj4) ∧ Aside0 (Kd.R (Kd.int .i64) 3 wc w.heap.size (fun _ => True) v262 t260) ∧ Aside0 (Below w.heap.size w wc))
        case first =>
          have H := HC13.out
          clear HC13
          by_cases c15 : t261 = 0
          · rw [if_pos c15] at H
            have c15b0 : (t261 == 0) = true := beq_iff_eq.mpr c15
            have c15b1 : (t261 != 0) = false := bne_eq_false_iff_eq.mpr c15
            clear c15
            (first | rw [c15b0] | (simp only [i64_w, i32_w]; rw [c15b0]) | skip)
            have H' := Aside0.mk H
            clear H
            obtain ⟨Ao16, co16, eo16⟩ := Kd.R_slice HO263.out
            subst eo16
            go_wp2
            repeat (go_quiet (fail); try go_wp2)
            go_meet
            case rel => exact ⟨_, (((t260.length : Int) == 0)), (by first | rfl | (simp; done) | (simp [*]; done)), H', ⟨by have := HJ4.out; first | omega | exact Nat.le_refl _⟩, ⟨by (with_reducible repeat (first | apply Kd.R_alloc | apply Kd.R_drewN | apply Kd.R_drew)); exact HO263.out⟩, ⟨by repeat (first | (with_reducible first | exact HB.out | apply below_alloc | apply pw_below_drewN | apply below_drew1) | exact HB.out)⟩⟩
          · rw [if_neg c15] at H
            have c15b0 : (t261 == 0) = false := beq_eq_false_iff_ne.mpr c15
            have c15b1 : (t261 != 0) = true := bne_iff_ne.mpr c15
            (first | rw [c15b0] | (simp only [i64_w, i32_w]; rw [c15b0]) | skip)
            have H' := Aside0.mk H
            clear H
            go_wp2
            repeat (go_quiet (fail); try go_wp2)
            go_meet
            case rel => exact ⟨_, (true), (by first | rfl | (simp; done) | (simp [*]; done)), H', ⟨by have := HJ4.out; first | omega | exact Nat.le_refl _⟩, ⟨by (with_reducible repeat (first | apply Kd.R_alloc | apply Kd.R_drewN | apply Kd.R_drew)); exact HO263.out⟩, ⟨by repeat (first | (with_reducible first | exact HB.out | apply below_alloc | apply pw_below_drewN | apply below_drew1) | exact HB.out)⟩⟩
        case rest =>
          clear HC13
          try clear c1
          try clear p2
          try clear c4
          try clear c7
          try clear c9
          try clear c15
          try clear c15b0
          try clear c15b1
          try clear p2
          obtain ⟨kq, x38_12, rfl, HA, HJ12, HO_9, HB⟩ := hcut
          cases kq with
          | zero => exact absurd HA.out (by simp [trishawlaw09_FetchMeets.j1])
          | succ kj12 =>
            have H := HA.out
            clear HA
            simp only [trishawlaw09_FetchMeets.j1] at H
            by_cases c17 : x38_12 = true
            · subst c17
              have H1 : (if t261 = 0 then ((trishawlaw09_alive.f kj12).bind fun t264 => (some t264)) else (some false)) = some r := by rw [if_pos rfl] at H; exact H
              clear H
              have H := H1
              clear H1
              by_cases c18 : t261 = 0
              · rw [if_pos c18] at H
                have c18b0 : (t261 == 0) = true := beq_iff_eq.mpr c18
                have c18b1 : (t261 != 0) = false := bne_eq_false_iff_eq.mpr c18
                clear c18
                replace H := Option.bind_eq_some_iff.mp H
                obtain ⟨t264, A190, H⟩ := H
                replace H : (some t264) = some r := H
                have A19 := Aside0.mk A190
                clear A190
                obtain rfl := Option.some.inj H
                go_wp2_with (first | (go_at_call 17; (with_reducible refine (trishawlaw09_alive.calls kj12  t264 _ A19.out).mono ?_); rintro e w20 ⟨rfl, hb⟩; have n0_ := Aside0.mk (Kd.R_below (by (with_reducible repeat (first | apply Kd.R_alloc | apply Kd.R_drewN | apply Kd.R_drew)); exact HO_9.out) hb); have n1_ := Aside0.mk (below_step (by repeat (first | (with_reducible first | exact HB.out | apply below_alloc | apply pw_below_drewN | apply below_drew1) | exact HB.out)) hb); clear HO_9; clear HB; have HO_9 := n0_; have HB := n1_; clear n0_ n1_; (try clear hb); (try clear hb2); (try clear hk); (try clear hi)))
                repeat (go_quiet (first | (go_at_call 17; (with_reducible refine (trishawlaw09_alive.calls kj12  t264 _ A19.out).mono ?_); rintro e w20 ⟨rfl, hb⟩; have n0_ := Aside0.mk (Kd.R_below (by (with_reducible repeat (first | apply Kd.R_alloc | apply Kd.R_drewN | apply Kd.R_drew)); exact HO_9.out) hb); have n1_ := Aside0.mk (below_step (by repeat (first | (with_reducible first | exact HB.out | apply below_alloc | apply pw_below_drewN | apply below_drew1) | exact HB.out)) hb); clear HO_9; clear HB; have HO_9 := n0_; have HB := n1_; clear n0_ n1_; (try clear hb); (try clear hb2); (try clear hk); (try clear hi))); try go_wp2_with (first | (go_at_call 17; (with_reducible refine (trishawlaw09_alive.calls kj12  t264 _ A19.out).mono ?_); rintro e w20 ⟨rfl, hb⟩; have n0_ := Aside0.mk (Kd.R_below (by (with_reducible repeat (first | apply Kd.R_alloc | apply Kd.R_drewN | apply Kd.R_drew)); exact HO_9.out) hb); have n1_ := Aside0.mk (below_step (by repeat (first | (with_reducible first | exact HB.out | apply below_alloc | apply pw_below_drewN | apply below_drew1) | exact HB.out)) hb); clear HO_9; clear HB; have HO_9 := n0_; have HB := n1_; clear n0_ n1_; (try clear hb); (try clear hb2); (try clear hk); (try clear hi))))
                go_ret
                exact ⟨by first | rfl | (simp [errW_none, errW_some] <;> rfl) | (simp [*, errW_none, errW_some] <;> rfl), by repeat (first | (with_reducible first | exact HB.out | apply below_alloc | apply pw_below_drewN | apply below_drew1) | exact HB.out)⟩
              · rw [if_neg c18] at H
                have c18b0 : (t261 == 0) = false := beq_eq_false_iff_ne.mpr c18
                have c18b1 : (t261 != 0) = true := bne_iff_ne.mpr c18
                obtain rfl := Option.some.inj H
                go_wp2
                repeat (go_quiet (fail); try go_wp2)
                go_ret
                exact ⟨by first | rfl | (simp [errW_none, errW_some] <;> rfl) | (simp [*, errW_none, errW_some] <;> rfl), by repeat (first | (with_reducible first | exact HB.out | apply below_alloc | apply pw_below_drewN | apply below_drew1) | exact HB.out)⟩
            · replace c17 := Bool.eq_false_iff.mpr c17
              subst c17
              have H1 : (if (t260.length : Int) = 0 then (none) else (if 0 ≤ (Int.tmod (wrap64 (a2)) (t260.length : Int)) then (if (Int.tmod (wrap64 (a2)) (t260.length : Int)) < (t260.length : Int) then (if 0 ≤ (Int.tmod (wrap64 (a3)) (t260.length : Int)) then (if (Int.tmod (wrap64 (a3)) (t260.length : Int)) < (t260.length : Int) then (if 0 ≤ a0 then (if a0 ≤ 64 then (trishawlaw09_FetchMeets.l0 kj12 a0 t260 (rd t260 (Int.tmod (wrap64 (a2)) (t260.length : Int))) (rd t260 (Int.tmod (wrap64 (a3)) (t260.length : Int))) ((Go.bits .and .i64 (rd t260 (Int.tmod (wrap64 (a2)) (t260.length : Int))) (rd t260 (Int.tmod (wrap64 (a3)) (t260.length : Int)))) == 0) ((Go.bits .or .i64 (rd t260 (Int.tmod (wrap64 (a2)) (t260.length : Int))) (rd t260 (Int.tmod (wrap64 (a3)) (t260.length : Int)))) == (wrap64 ((wrap64 (2 ^ a0.toNat)) - 1))) 0) else (none)) else (none)) else (none)) else (none)) else (none)) else (none))) = some r := by rw [if_neg (show ¬ (false = true) by decide)] at H; exact H
              clear H
              have H := H1
              clear H1
              by_cases c21 : (t260.length : Int) = 0
              · rw [if_pos c21] at H
                exact absurd H (by simp)
              · rw [if_neg c21] at H
                have c21b0 : ((t260.length : Int) == 0) = false := beq_eq_false_iff_ne.mpr c21
                have c21b1 : ((t260.length : Int) != 0) = true := bne_iff_ne.mpr c21
                have c21b2 : ¬ (t260 = []) := fun h_ => c21 (by rw [h_]; rfl)
                obtain ⟨ji22, hji22⟩ : ∃ j_ : Int, (Int.tmod (wrap64 (a2)) (t260.length : Int)) = j_ := ⟨_, rfl⟩
                replace H : (if 0 ≤ (ji22) then (if (ji22) < (t260.length : Int) then (if 0 ≤ (Int.tmod (wrap64 (a3)) (t260.length : Int)) then (if (Int.tmod (wrap64 (a3)) (t260.length : Int)) < (t260.length : Int) then (if 0 ≤ a0 then (if a0 ≤ 64 then (trishawlaw09_FetchMeets.l0 kj12 a0 t260 (rd t260 (ji22)) (rd t260 (Int.tmod (wrap64 (a3)) (t260.length : Int))) ((Go.bits .and .i64 (rd t260 (ji22)) (rd t260 (Int.tmod (wrap64 (a3)) (t260.length : Int)))) == 0) ((Go.bits .or .i64 (rd t260 (ji22)) (rd t260 (Int.tmod (wrap64 (a3)) (t260.length : Int)))) == (wrap64 ((wrap64 (2 ^ a0.toNat)) - 1))) 0) else (none)) else (none)) else (none)) else (none)) else (none)) else (none)) = some r := by first | (rw [hji22] at H; exact H) | (simp only [hji22] at H ⊢; exact H)
                by_cases c23 : 0 ≤ (ji22)
                · rw [if_pos c23] at H
                  have c23b0 : decide (0 ≤ (ji22)) = true := decide_eq_true c23
                  clear c23
                  by_cases c24 : (ji22) < (t260.length : Int)
                  · rw [if_pos c24] at H
                    have c24b0 : decide ((ji22) < (t260.length : Int)) = true := decide_eq_true c24
                    clear c24
                    obtain ⟨ji25, hji25⟩ : ∃ j_ : Int, (Int.tmod (wrap64 (a3)) (t260.length : Int)) = j_ := ⟨_, rfl⟩
                    replace H : (if 0 ≤ (ji25) then (if (ji25) < (t260.length : Int) then (if 0 ≤ a0 then (if a0 ≤ 64 then (trishawlaw09_FetchMeets.l0 kj12 a0 t260 (rd t260 (ji22)) (rd t260 (ji25)) ((Go.bits .and .i64 (rd t260 (ji22)) (rd t260 (ji25))) == 0) ((Go.bits .or .i64 (rd t260 (ji22)) (rd t260 (ji25))) == (wrap64 ((wrap64 (2 ^ a0.toNat)) - 1))) 0) else (none)) else (none)) else (none)) else (none)) = some r := by first | (rw [hji25] at H; exact H) | (simp only [hji25] at H ⊢; exact H)
                    by_cases c26 : 0 ≤ (ji25)
                    · rw [if_pos c26] at H
                      have c26b0 : decide (0 ≤ (ji25)) = true := decide_eq_true c26
                      clear c26
                      by_cases c27 : (ji25) < (t260.length : Int)
                      · rw [if_pos c27] at H
                        have c27b0 : decide ((ji25) < (t260.length : Int)) = true := decide_eq_true c27
                        clear c27
                        by_cases c28 : 0 ≤ a0
                        · rw [if_pos c28] at H
                          have c28b0 := eq_true c28
                          have c28b1 : decide (0 ≤ a0) = true := decide_eq_true c28
                          clear c28
                          by_cases c29 : a0 ≤ 64
                          · rw [if_pos c29] at H
                            have c29b0 := eq_true c29
                            have c29b1 : decide (a0 ≤ 64) = true := decide_eq_true c29
                            clear c29
                            have H' := Aside0.mk H
                            clear H
                            obtain ⟨Ao30, co30, eo30⟩ := Kd.R_slice HO_9.out
                            subst eo30
                            have p265 : 0 ≤ ((ji22) : Int) := of_decide_eq_true (by first | (with_reducible assumption) | assumption)
                            have q265 : (ji22) < (t260.length : Int) := of_decide_eq_true (by first | (with_reducible assumption) | assumption)
                            obtain ⟨ad265, e265, hx265_0⟩ := Kd.at_int (Kd.R_reads' HO_9.out).2.2 (ji22) p265 q265
                            cases e265
                            replace p265 := eq_true p265
                            replace q265 := eq_true q265
                            have p266 : 0 ≤ ((ji25) : Int) := of_decide_eq_true (by first | (with_reducible assumption) | assumption)
                            have q266 : (ji25) < (t260.length : Int) := of_decide_eq_true (by first | (with_reducible assumption) | assumption)
                            obtain ⟨ad266, e266, hx266_0⟩ := Kd.at_int (Kd.R_reads' HO_9.out).2.2 (ji25) p266 q266
                            obtain rfl : ad265 = ad266 := (by injection e266)
                            replace p266 := eq_true p266
                            replace q266 := eq_true q266
                            go_wp2
                            repeat (go_quiet (fail); try go_wp2)
                            go_loopg [13, 14, 15] kj12 (fun kq v13 v14 v15 w' => ∃ (x13_3 : Bool) (x14_3 : Bool) (x15_3 : Int), v13 = .bool x13_3 ∧ v14 = .bool x14_3 ∧ v15 = .int .i64 x15_3 ∧ Aside0 (trishawlaw09_FetchMeets.l0 kq a0 t260 (rd t260 (ji22)) (rd t260 (ji25)) x13_3 x14_3 x15_3 = some r) ∧ Aside0 (kq ≤ kj12) ∧ Aside0 (Kd.R (Kd.int .i64) 3 w' w.heap.size (fun _ => True) (.slice (some ad265) t260.length co30) t260) ∧ Aside0 (Below w.heap.size w w'))
                            case atStart => exact ⟨(((Go.bits .and .i64 (rd t260 (ji22)) (rd t260 (ji25))) == 0)), (((Go.bits .or .i64 (rd t260 (ji22)) (rd t260 (ji25))) == (wrap64 ((wrap64 (2 ^ a0.toNat)) - 1)))), (0), (by first | rfl | (simp; done) | (simp only [← hji22, ← hji25] <;> (first | rfl | simp)) | (simp [*]; done)), (by first | rfl | (simp; done) | (simp only [← hji22, ← hji25] <;> (first | rfl | simp)) | (simp [*]; done)), (by first | rfl | (simp; done) | (simp [*]; done)), H', ⟨Nat.le_refl _⟩, ⟨by (with_reducible repeat (first | apply Kd.R_alloc | apply Kd.R_drewN | apply Kd.R_drew)); exact HO_9.out⟩, ⟨by repeat (first | (with_reducible first | exact HB.out | apply below_alloc | apply pw_below_drewN | apply below_drew1) | exact HB.out)⟩⟩
                            case round =>
                              clear H'
                              try clear c1
                              try clear c2
                              try clear p2
                              try clear q2
                              try clear hx2
                              try clear c4
                              try clear p6
                              try clear c7
                              try clear c9
                              try clear c15
                              try clear c15b0
                              try clear c15b1
                              try clear c17
                              try clear c18
                              try clear c18b0
                              try clear c18b1
                              try clear c21
                              try clear c21b0
                              try clear c21b1
                              try clear c21b2
                              try clear c23
                              try clear c23b0
                              try clear c24
                              try clear c24b0
                              try clear c26
                              try clear c26b0
                              try clear p26
                              try clear q26
                              try clear hx26
                              try clear c27
                              try clear c27b0
                              try clear c28
                              try clear c28b0
                              try clear c28b1
                              try clear c29
                              try clear c29b0
                              try clear c29b1
                              try clear hx265_0
                              try clear hx266_0
                              try clear p2
                              try clear p265
                              try clear p266
                              try clear q265
                              try clear q266
                              obtain ⟨x13_3, x14_3, x15_3, rfl, rfl, rfl, HA, HK3, HO_9, HB⟩ := hrel
                              cases gk with
                              | zero => exact absurd HA.out (by simp [trishawlaw09_FetchMeets.l0])
                              | succ k3 =>
                                have H := HA.out
                                clear HA
                                simp only [trishawlaw09_FetchMeets.l0] at H
                                by_cases c31 : x15_3 < (t260.length : Int)
                                · rw [if_pos c31] at H
                                  have c31b0 : decide (x15_3 < (t260.length : Int)) = true := decide_eq_true c31
                                  clear c31
                                  by_cases c32 : 0 ≤ x15_3
                                  · rw [if_pos c32] at H
                                    have c32b0 : decide (0 ≤ x15_3) = true := decide_eq_true c32
                                    clear c32
                                    by_cases c33 : (rd t260 x15_3) < 1
                                    · rw [if_pos c33] at H
                                      have c33b0 : decide ((rd t260 x15_3) < 1) = true := decide_eq_true c33
                                      clear c33
                                      obtain rfl := Option.some.inj H
                                      have p267 : 0 ≤ (x15_3 : Int) := of_decide_eq_true (by first | (with_reducible assumption) | assumption)
                                      have q267 : x15_3 < (t260.length : Int) := of_decide_eq_true (by first | (with_reducible assumption) | assumption)
                                      obtain ⟨ad267, e267, hx267_0⟩ := Kd.at_int (Kd.R_reads' HO_9.out).2.2 x15_3 p267 q267
                                      obtain rfl : ad265 = ad267 := (by injection e267)
                                      replace p267 := eq_true p267
                                      replace q267 := eq_true q267
                                      go_wp2
                                      repeat (go_quiet (fail); try go_wp2)
                                      go_ret
                                      exact ⟨by first | rfl | (simp [errW_none, errW_some] <;> rfl) | (simp only [← hji22, ← hji25]; first | rfl | (simp [errW_none, errW_some] <;> rfl)) | (simp [*, errW_none, errW_some] <;> rfl), by repeat (first | (with_reducible first | exact HB.out | apply below_alloc | apply pw_below_drewN | apply below_drew1) | exact HB.out)⟩
                                    · rw [if_neg c33] at H
                                      have c33b0 : decide ((rd t260 x15_3) < 1) = false := decide_eq_false c33
                                      clear c33
                                      by_cases c34 : 0 ≤ a0
                                      · rw [if_pos c34] at H
                                        have c34b0 := eq_true c34
                                        have c34b1 : decide (0 ≤ a0) = true := decide_eq_true c34
                                        clear c34
                                        by_cases c35 : a0 ≤ 64
                                        · rw [if_pos c35] at H
                                          have c35b0 := eq_true c35
                                          have c35b1 : decide (a0 ≤ 64) = true := decide_eq_true c35
                                          clear c35
                                          by_cases c36 : (rd t260 x15_3) ≥ (wrap64 ((wrap64 (2 ^ a0.toNat)) - 1))
                                          · rw [if_pos c36] at H
                                            have c36b0 : decide ((wrap64 ((wrap64 (2 ^ a0.toNat)) - 1)) ≤ (rd t260 x15_3)) = true := decide_eq_true c36
                                            clear c36
                                            obtain rfl := Option.some.inj H
                                            have p267 : 0 ≤ (x15_3 : Int) := of_decide_eq_true (by first | (with_reducible assumption) | assumption)
                                            have q267 : x15_3 < (t260.length : Int) := of_decide_eq_true (by first | (with_reducible assumption) | assumption)
                                            obtain ⟨ad267, e267, hx267_0⟩ := Kd.at_int (Kd.R_reads' HO_9.out).2.2 x15_3 p267 q267
                                            obtain rfl : ad265 = ad267 := (by injection e267)
                                            replace p267 := eq_true p267
                                            replace q267 := eq_true q267
                                            have p268 : 0 ≤ (x15_3 : Int) := of_decide_eq_true (by first | (with_reducible assumption) | assumption)
                                            have q268 : x15_3 < (t260.length : Int) := of_decide_eq_true (by first | (with_reducible assumption) | assumption)
                                            obtain ⟨ad268, e268, hx268_0⟩ := Kd.at_int (Kd.R_reads' HO_9.out).2.2 x15_3 p268 q268
                                            obtain rfl : ad265 = ad268 := (by injection e268)
                                            replace p268 := eq_true p268
                                            replace q268 := eq_true q268
                                            go_wp2
                                            repeat (go_quiet (fail); try go_wp2)
                                            go_ret
                                            exact ⟨by first | rfl | (simp [errW_none, errW_some] <;> rfl) | (simp only [← hji22, ← hji25]; first | rfl | (simp [errW_none, errW_some] <;> rfl)) | (simp [*, errW_none, errW_some] <;> rfl), by repeat (first | (with_reducible first | exact HB.out | apply below_alloc | apply pw_below_drewN | apply below_drew1) | exact HB.out)⟩
                                          · rw [if_neg c36] at H
                                            have c36b0 : decide ((wrap64 ((wrap64 (2 ^ a0.toNat)) - 1)) ≤ (rd t260 x15_3)) = false := decide_eq_false c36
                                            clear c36
                                            by_cases c37 : x15_3 > 0
                                            · rw [if_pos c37] at H
                                              have c37b0 : decide (0 < x15_3) = true := decide_eq_true c37
                                              clear c37
                                              obtain ⟨ji38, hji38⟩ : ∃ j_ : Int, (wrap64 (x15_3 - 1)) = j_ := ⟨_, rfl⟩
                                              replace H : (if 0 ≤ (ji38) then (if (ji38) < (t260.length : Int) then (if (rd t260 x15_3) ≤ (rd t260 (ji38)) then (some false) else (if x13_3 = true then (if x14_3 = true then (trishawlaw09_FetchMeets.l0 k3 a0 t260 (rd t260 (ji22)) (rd t260 (ji25)) true true (wrap64 (x15_3 + 1))) else (trishawlaw09_FetchMeets.l0 k3 a0 t260 (rd t260 (ji22)) (rd t260 (ji25)) true ((rd t260 x15_3) == (Go.bits .or .i64 (rd t260 (ji22)) (rd t260 (ji25)))) (wrap64 (x15_3 + 1)))) else (if x14_3 = true then (trishawlaw09_FetchMeets.l0 k3 a0 t260 (rd t260 (ji22)) (rd t260 (ji25)) ((rd t260 x15_3) == (Go.bits .and .i64 (rd t260 (ji22)) (rd t260 (ji25)))) true (wrap64 (x15_3 + 1))) else (trishawlaw09_FetchMeets.l0 k3 a0 t260 (rd t260 (ji22)) (rd t260 (ji25)) ((rd t260 x15_3) == (Go.bits .and .i64 (rd t260 (ji22)) (rd t260 (ji25)))) ((rd t260 x15_3) == (Go.bits .or .i64 (rd t260 (ji22)) (rd t260 (ji25)))) (wrap64 (x15_3 + 1)))))) else (none)) else (none)) = some r := by first | (rw [hji38] at H; exact H) | (simp only [hji38] at H ⊢; exact H)
                                              have hji38w : (IntKind.i64.wrap (x15_3 - 1)) = ji38 := (i64_w _).trans hji38
                                              by_cases c39 : 0 ≤ (ji38)
                                              · rw [if_pos c39] at H
                                                have c39b0 : decide (0 ≤ (ji38)) = true := decide_eq_true c39
                                                clear c39
                                                by_cases c40 : (ji38) < (t260.length : Int)
                                                · rw [if_pos c40] at H
                                                  have c40b0 : decide ((ji38) < (t260.length : Int)) = true := decide_eq_true c40
                                                  clear c40
                                                  by_cases c41 : (rd t260 x15_3) ≤ (rd t260 (ji38))
                                                  · rw [if_pos c41] at H
                                                    have c41b0 : decide ((rd t260 x15_3) ≤ (rd t260 (ji38))) = true := decide_eq_true c41
                                                    clear c41
                                                    obtain rfl := Option.some.inj H
                                                    have p267 : 0 ≤ (x15_3 : Int) := of_decide_eq_true (by first | (with_reducible assumption) | assumption)
                                                    have q267 : x15_3 < (t260.length : Int) := of_decide_eq_true (by first | (with_reducible assumption) | assumption)
                                                    obtain ⟨ad267, e267, hx267_0⟩ := Kd.at_int (Kd.R_reads' HO_9.out).2.2 x15_3 p267 q267
                                                    obtain rfl : ad265 = ad267 := (by injection e267)
                                                    replace p267 := eq_true p267
                                                    replace q267 := eq_true q267
                                                    have p268 : 0 ≤ (x15_3 : Int) := of_decide_eq_true (by first | (with_reducible assumption) | assumption)
                                                    have q268 : x15_3 < (t260.length : Int) := of_decide_eq_true (by first | (with_reducible assumption) | assumption)
                                                    obtain ⟨ad268, e268, hx268_0⟩ := Kd.at_int (Kd.R_reads' HO_9.out).2.2 x15_3 p268 q268
                                                    obtain rfl : ad265 = ad268 := (by injection e268)
                                                    replace p268 := eq_true p268
                                                    replace q268 := eq_true q268
                                                    have p269 : 0 ≤ (x15_3 : Int) := of_decide_eq_true (by first | (with_reducible assumption) | assumption)
                                                    have q269 : x15_3 < (t260.length : Int) := of_decide_eq_true (by first | (with_reducible assumption) | assumption)
                                                    obtain ⟨ad269, e269, hx269_0⟩ := Kd.at_int (Kd.R_reads' HO_9.out).2.2 x15_3 p269 q269
                                                    obtain rfl : ad265 = ad269 := (by injection e269)
                                                    replace p269 := eq_true p269
                                                    replace q269 := eq_true q269
                                                    have p270 : 0 ≤ ((ji38) : Int) := of_decide_eq_true (by first | (with_reducible assumption) | assumption)
                                                    have q270 : (ji38) < (t260.length : Int) := of_decide_eq_true (by first | (with_reducible assumption) | assumption)
                                                    obtain ⟨ad270, e270, hx270_0⟩ := Kd.at_int (Kd.R_reads' HO_9.out).2.2 (ji38) p270 q270
                                                    obtain rfl : ad265 = ad270 := (by injection e270)
                                                    replace p270 := eq_true p270
                                                    replace q270 := eq_true q270
                                                    go_wp2
                                                    repeat (go_quiet (fail); try go_wp2)
                                                    go_ret
                                                    exact ⟨by first | rfl | (simp [errW_none, errW_some] <;> rfl) | (simp only [← hji22, ← hji25, ← hji38]; first | rfl | (simp [errW_none, errW_some] <;> rfl)) | (simp [*, errW_none, errW_some] <;> rfl), by repeat (first | (with_reducible first | exact HB.out | apply below_alloc | apply pw_below_drewN | apply below_drew1) | exact HB.out)⟩
                                                  · rw [if_neg c41] at H
                                                    have c41b0 : decide ((rd t260 x15_3) ≤ (rd t260 (ji38))) = false := decide_eq_false c41
                                                    clear c41
                                                    by_cases c42 : x13_3 = true
                                                    · subst c42
                                                      have H1 : (if x14_3 = true then (trishawlaw09_FetchMeets.l0 k3 a0 t260 (rd t260 (ji22)) (rd t260 (ji25)) true true (wrap64 (x15_3 + 1))) else (trishawlaw09_FetchMeets.l0 k3 a0 t260 (rd t260 (ji22)) (rd t260 (ji25)) true ((rd t260 x15_3) == (Go.bits .or .i64 (rd t260 (ji22)) (rd t260 (ji25)))) (wrap64 (x15_3 + 1)))) = some r := by rw [if_pos rfl] at H; exact H
                                                      clear H
                                                      have H := H1
                                                      clear H1
                                                      by_cases c43 : x14_3 = true
                                                      · subst c43
                                                        have H1 : (trishawlaw09_FetchMeets.l0 k3 a0 t260 (rd t260 (ji22)) (rd t260 (ji25)) true true (wrap64 (x15_3 + 1))) = some r := by rw [if_pos rfl] at H; exact H
                                                        clear H
                                                        have H := H1
                                                        clear H1
                                                        have H' := Aside0.mk H
                                                        clear H
                                                        have p267 : 0 ≤ (x15_3 : Int) := of_decide_eq_true (by first | (with_reducible assumption) | assumption)
                                                        have q267 : x15_3 < (t260.length : Int) := of_decide_eq_true (by first | (with_reducible assumption) | assumption)
                                                        obtain ⟨ad267, e267, hx267_0⟩ := Kd.at_int (Kd.R_reads' HO_9.out).2.2 x15_3 p267 q267
                                                        obtain rfl : ad265 = ad267 := (by injection e267)
                                                        replace p267 := eq_true p267
                                                        replace q267 := eq_true q267
                                                        have p268 : 0 ≤ (x15_3 : Int) := of_decide_eq_true (by first | (with_reducible assumption) | assumption)
                                                        have q268 : x15_3 < (t260.length : Int) := of_decide_eq_true (by first | (with_reducible assumption) | assumption)
                                                        obtain ⟨ad268, e268, hx268_0⟩ := Kd.at_int (Kd.R_reads' HO_9.out).2.2 x15_3 p268 q268
                                                        obtain rfl : ad265 = ad268 := (by injection e268)
                                                        replace p268 := eq_true p268
                                                        replace q268 := eq_true q268
                                                        have p269 : 0 ≤ (x15_3 : Int) := of_decide_eq_true (by first | (with_reducible assumption) | assumption)
                                                        have q269 : x15_3 < (t260.length : Int) := of_decide_eq_true (by first | (with_reducible assumption) | assumption)
                                                        obtain ⟨ad269, e269, hx269_0⟩ := Kd.at_int (Kd.R_reads' HO_9.out).2.2 x15_3 p269 q269
                                                        obtain rfl : ad265 = ad269 := (by injection e269)
                                                        replace p269 := eq_true p269
                                                        replace q269 := eq_true q269
                                                        have p270 : 0 ≤ ((ji38) : Int) := of_decide_eq_true (by first | (with_reducible assumption) | assumption)
                                                        have q270 : (ji38) < (t260.length : Int) := of_decide_eq_true (by first | (with_reducible assumption) | assumption)
                                                        obtain ⟨ad270, e270, hx270_0⟩ := Kd.at_int (Kd.R_reads' HO_9.out).2.2 (ji38) p270 q270
                                                        obtain rfl : ad265 = ad270 := (by injection e270)
                                                        replace p270 := eq_true p270
                                                        replace q270 := eq_true q270
                                                        go_wp2
                                                        repeat (go_quiet (fail); try go_wp2)
                                                        go_roundg k3
                                                        case measure => have := HJ4.out; have := HJ12.out; have := HK3.out; omega
                                                        case rel => exact ⟨(true), (true), (wrap64 (x15_3 + 1)), (by first | rfl | (simp; done) | (simp [*]; done)), (by first | rfl | (simp; done) | (simp [*]; done)), (by first | rfl | (simp; done) | (simp [*]; done)), H', ⟨by have := HJ4.out; have := HJ12.out; have := HK3.out; omega⟩, ⟨by (with_reducible repeat (first | apply Kd.R_alloc | apply Kd.R_drewN | apply Kd.R_drew)); exact HO_9.out⟩, ⟨by repeat (first | (with_reducible first | exact HB.out | apply below_alloc | apply pw_below_drewN | apply below_drew1) | exact HB.out)⟩⟩
                                                      · replace c43 := Bool.eq_false_iff.mpr c43
                                                        subst c43
                                                        have H1 : (trishawlaw09_FetchMeets.l0 k3 a0 t260 (rd t260 (ji22)) (rd t260 (ji25)) true ((rd t260 x15_3) == (Go.bits .or .i64 (rd t260 (ji22)) (rd t260 (ji25)))) (wrap64 (x15_3 + 1))) = some r := by rw [if_neg (show ¬ (false = true) by decide)] at H; exact H
                                                        clear H
                                                        have H := H1
                                                        clear H1
                                                        have H' := Aside0.mk H
                                                        clear H
                                                        have p267 : 0 ≤ (x15_3 : Int) := of_decide_eq_true (by first | (with_reducible assumption) | assumption)
                                                        have q267 : x15_3 < (t260.length : Int) := of_decide_eq_true (by first | (with_reducible assumption) | assumption)
                                                        obtain ⟨ad267, e267, hx267_0⟩ := Kd.at_int (Kd.R_reads' HO_9.out).2.2 x15_3 p267 q267
                                                        obtain rfl : ad265 = ad267 := (by injection e267)
                                                        replace p267 := eq_true p267
                                                        replace q267 := eq_true q267
                                                        have p268 : 0 ≤ (x15_3 : Int) := of_decide_eq_true (by first | (with_reducible assumption) | assumption)
                                                        have q268 : x15_3 < (t260.length : Int) := of_decide_eq_true (by first | (with_reducible assumption) | assumption)
                                                        obtain ⟨ad268, e268, hx268_0⟩ := Kd.at_int (Kd.R_reads' HO_9.out).2.2 x15_3 p268 q268
                                                        obtain rfl : ad265 = ad268 := (by injection e268)
                                                        replace p268 := eq_true p268
                                                        replace q268 := eq_true q268
                                                        have p269 : 0 ≤ (x15_3 : Int) := of_decide_eq_true (by first | (with_reducible assumption) | assumption)
                                                        have q269 : x15_3 < (t260.length : Int) := of_decide_eq_true (by first | (with_reducible assumption) | assumption)
                                                        obtain ⟨ad269, e269, hx269_0⟩ := Kd.at_int (Kd.R_reads' HO_9.out).2.2 x15_3 p269 q269
                                                        obtain rfl : ad265 = ad269 := (by injection e269)
                                                        replace p269 := eq_true p269
                                                        replace q269 := eq_true q269
                                                        have p270 : 0 ≤ ((ji38) : Int) := of_decide_eq_true (by first | (with_reducible assumption) | assumption)
                                                        have q270 : (ji38) < (t260.length : Int) := of_decide_eq_true (by first | (with_reducible assumption) | assumption)
                                                        obtain ⟨ad270, e270, hx270_0⟩ := Kd.at_int (Kd.R_reads' HO_9.out).2.2 (ji38) p270 q270
                                                        obtain rfl : ad265 = ad270 := (by injection e270)
                                                        replace p270 := eq_true p270
                                                        replace q270 := eq_true q270
                                                        have p271 : 0 ≤ (x15_3 : Int) := of_decide_eq_true (by first | (with_reducible assumption) | assumption)
                                                        have q271 : x15_3 < (t260.length : Int) := of_decide_eq_true (by first | (with_reducible assumption) | assumption)
                                                        obtain ⟨ad271, e271, hx271_0⟩ := Kd.at_int (Kd.R_reads' HO_9.out).2.2 x15_3 p271 q271
                                                        obtain rfl : ad265 = ad271 := (by injection e271)
                                                        replace p271 := eq_true p271
                                                        replace q271 := eq_true q271
                                                        go_wp2
                                                        repeat (go_quiet (fail); try go_wp2)
                                                        go_roundg k3
                                                        case measure => have := HJ4.out; have := HJ12.out; have := HK3.out; omega
                                                        case rel => exact ⟨(true), (((rd t260 x15_3) == (Go.bits .or .i64 (rd t260 (ji22)) (rd t260 (ji25))))), (wrap64 (x15_3 + 1)), (by first | rfl | (simp; done) | (simp [*]; done)), (by first | rfl | (simp; done) | (simp only [← hji22, ← hji25] <;> (first | rfl | simp)) | (simp [*]; done)), (by first | rfl | (simp; done) | (simp [*]; done)), H', ⟨by have := HJ4.out; have := HJ12.out; have := HK3.out; omega⟩, ⟨by (with_reducible repeat (first | apply Kd.R_alloc | apply Kd.R_drewN | apply Kd.R_drew)); exact HO_9.out⟩, ⟨by repeat (first | (with_reducible first | exact HB.out | apply below_alloc | apply pw_below_drewN | apply below_drew1) | exact HB.out)⟩⟩
                                                    · replace c42 := Bool.eq_false_iff.mpr c42
                                                      subst c42
                                                      have H1 : (if x14_3 = true then (trishawlaw09_FetchMeets.l0 k3 a0 t260 (rd t260 (ji22)) (rd t260 (ji25)) ((rd t260 x15_3) == (Go.bits .and .i64 (rd t260 (ji22)) (rd t260 (ji25)))) true (wrap64 (x15_3 + 1))) else (trishawlaw09_FetchMeets.l0 k3 a0 t260 (rd t260 (ji22)) (rd t260 (ji25)) ((rd t260 x15_3) == (Go.bits .and .i64 (rd t260 (ji22)) (rd t260 (ji25)))) ((rd t260 x15_3) == (Go.bits .or .i64 (rd t260 (ji22)) (rd t260 (ji25)))) (wrap64 (x15_3 + 1)))) = some r := by rw [if_neg (show ¬ (false = true) by decide)] at H; exact H
                                                      clear H
                                                      have H := H1
                                                      clear H1
                                                      by_cases c44 : x14_3 = true
                                                      · subst c44
                                                        have H1 : (trishawlaw09_FetchMeets.l0 k3 a0 t260 (rd t260 (ji22)) (rd t260 (ji25)) ((rd t260 x15_3) == (Go.bits .and .i64 (rd t260 (ji22)) (rd t260 (ji25)))) true (wrap64 (x15_3 + 1))) = some r := by rw [if_pos rfl] at H; exact H
                                                        clear H
                                                        have H := H1
                                                        clear H1
                                                        have H' := Aside0.mk H
                                                        clear H
                                                        have p267 : 0 ≤ (x15_3 : Int) := of_decide_eq_true (by first | (with_reducible assumption) | assumption)
                                                        have q267 : x15_3 < (t260.length : Int) := of_decide_eq_true (by first | (with_reducible assumption) | assumption)
                                                        obtain ⟨ad267, e267, hx267_0⟩ := Kd.at_int (Kd.R_reads' HO_9.out).2.2 x15_3 p267 q267
                                                        obtain rfl : ad265 = ad267 := (by injection e267)
                                                        replace p267 := eq_true p267
                                                        replace q267 := eq_true q267
                                                        have p268 : 0 ≤ (x15_3 : Int) := of_decide_eq_true (by first | (with_reducible assumption) | assumption)
                                                        have q268 : x15_3 < (t260.length : Int) := of_decide_eq_true (by first | (with_reducible assumption) | assumption)
                                                        obtain ⟨ad268, e268, hx268_0⟩ := Kd.at_int (Kd.R_reads' HO_9.out).2.2 x15_3 p268 q268
                                                        obtain rfl : ad265 = ad268 := (by injection e268)
                                                        replace p268 := eq_true p268
                                                        replace q268 := eq_true q268
                                                        have p269 : 0 ≤ (x15_3 : Int) := of_decide_eq_true (by first | (with_reducible assumption) | assumption)
                                                        have q269 : x15_3 < (t260.length : Int) := of_decide_eq_true (by first | (with_reducible assumption) | assumption)
                                                        obtain ⟨ad269, e269, hx269_0⟩ := Kd.at_int (Kd.R_reads' HO_9.out).2.2 x15_3 p269 q269
                                                        obtain rfl : ad265 = ad269 := (by injection e269)
                                                        replace p269 := eq_true p269
                                                        replace q269 := eq_true q269
                                                        have p270 : 0 ≤ ((ji38) : Int) := of_decide_eq_true (by first | (with_reducible assumption) | assumption)
                                                        have q270 : (ji38) < (t260.length : Int) := of_decide_eq_true (by first | (with_reducible assumption) | assumption)
                                                        obtain ⟨ad270, e270, hx270_0⟩ := Kd.at_int (Kd.R_reads' HO_9.out).2.2 (ji38) p270 q270
                                                        obtain rfl : ad265 = ad270 := (by injection e270)
                                                        replace p270 := eq_true p270
                                                        replace q270 := eq_true q270
                                                        have p272 : 0 ≤ (x15_3 : Int) := of_decide_eq_true (by first | (with_reducible assumption) | assumption)
                                                        have q272 : x15_3 < (t260.length : Int) := of_decide_eq_true (by first | (with_reducible assumption) | assumption)
                                                        obtain ⟨ad272, e272, hx272_0⟩ := Kd.at_int (Kd.R_reads' HO_9.out).2.2 x15_3 p272 q272
                                                        obtain rfl : ad265 = ad272 := (by injection e272)
                                                        replace p272 := eq_true p272
                                                        replace q272 := eq_true q272
                                                        go_wp2
                                                        repeat (go_quiet (fail); try go_wp2)
                                                        go_roundg k3
                                                        case measure => have := HJ4.out; have := HJ12.out; have := HK3.out; omega
                                                        case rel => exact ⟨(((rd t260 x15_3) == (Go.bits .and .i64 (rd t260 (ji22)) (rd t260 (ji25))))), (true), (wrap64 (x15_3 + 1)), (by first | rfl | (simp; done) | (simp only [← hji22, ← hji25] <;> (first | rfl | simp)) | (simp [*]; done)), (by first | rfl | (simp; done) | (simp [*]; done)), (by first | rfl | (simp; done) | (simp [*]; done)), H', ⟨by have := HJ4.out; have := HJ12.out; have := HK3.out; omega⟩, ⟨by (with_reducible repeat (first | apply Kd.R_alloc | apply Kd.R_drewN | apply Kd.R_drew)); exact HO_9.out⟩, ⟨by repeat (first | (with_reducible first | exact HB.out | apply below_alloc | apply pw_below_drewN | apply below_drew1) | exact HB.out)⟩⟩
                                                      · replace c44 := Bool.eq_false_iff.mpr c44
                                                        subst c44
                                                        have H1 : (trishawlaw09_FetchMeets.l0 k3 a0 t260 (rd t260 (ji22)) (rd t260 (ji25)) ((rd t260 x15_3) == (Go.bits .and .i64 (rd t260 (ji22)) (rd t260 (ji25)))) ((rd t260 x15_3) == (Go.bits .or .i64 (rd t260 (ji22)) (rd t260 (ji25)))) (wrap64 (x15_3 + 1))) = some r := by rw [if_neg (show ¬ (false = true) by decide)] at H; exact H
                                                        clear H
                                                        have H := H1
                                                        clear H1
                                                        have H' := Aside0.mk H
                                                        clear H
                                                        have p267 : 0 ≤ (x15_3 : Int) := of_decide_eq_true (by first | (with_reducible assumption) | assumption)
                                                        have q267 : x15_3 < (t260.length : Int) := of_decide_eq_true (by first | (with_reducible assumption) | assumption)
                                                        obtain ⟨ad267, e267, hx267_0⟩ := Kd.at_int (Kd.R_reads' HO_9.out).2.2 x15_3 p267 q267
                                                        obtain rfl : ad265 = ad267 := (by injection e267)
                                                        replace p267 := eq_true p267
                                                        replace q267 := eq_true q267
                                                        have p268 : 0 ≤ (x15_3 : Int) := of_decide_eq_true (by first | (with_reducible assumption) | assumption)
                                                        have q268 : x15_3 < (t260.length : Int) := of_decide_eq_true (by first | (with_reducible assumption) | assumption)
                                                        obtain ⟨ad268, e268, hx268_0⟩ := Kd.at_int (Kd.R_reads' HO_9.out).2.2 x15_3 p268 q268
                                                        obtain rfl : ad265 = ad268 := (by injection e268)
                                                        replace p268 := eq_true p268
                                                        replace q268 := eq_true q268
                                                        have p269 : 0 ≤ (x15_3 : Int) := of_decide_eq_true (by first | (with_reducible assumption) | assumption)
                                                        have q269 : x15_3 < (t260.length : Int) := of_decide_eq_true (by first | (with_reducible assumption) | assumption)
                                                        obtain ⟨ad269, e269, hx269_0⟩ := Kd.at_int (Kd.R_reads' HO_9.out).2.2 x15_3 p269 q269
                                                        obtain rfl : ad265 = ad269 := (by injection e269)
                                                        replace p269 := eq_true p269
                                                        replace q269 := eq_true q269
                                                        have p270 : 0 ≤ ((ji38) : Int) := of_decide_eq_true (by first | (with_reducible assumption) | assumption)
                                                        have q270 : (ji38) < (t260.length : Int) := of_decide_eq_true (by first | (with_reducible assumption) | assumption)
                                                        obtain ⟨ad270, e270, hx270_0⟩ := Kd.at_int (Kd.R_reads' HO_9.out).2.2 (ji38) p270 q270
                                                        obtain rfl : ad265 = ad270 := (by injection e270)
                                                        replace p270 := eq_true p270
                                                        replace q270 := eq_true q270
                                                        have p272 : 0 ≤ (x15_3 : Int) := of_decide_eq_true (by first | (with_reducible assumption) | assumption)
                                                        have q272 : x15_3 < (t260.length : Int) := of_decide_eq_true (by first | (with_reducible assumption) | assumption)
                                                        obtain ⟨ad272, e272, hx272_0⟩ := Kd.at_int (Kd.R_reads' HO_9.out).2.2 x15_3 p272 q272
                                                        obtain rfl : ad265 = ad272 := (by injection e272)
                                                        replace p272 := eq_true p272
                                                        replace q272 := eq_true q272
                                                        have p273 : 0 ≤ (x15_3 : Int) := of_decide_eq_true (by first | (with_reducible assumption) | assumption)
                                                        have q273 : x15_3 < (t260.length : Int) := of_decide_eq_true (by first | (with_reducible assumption) | assumption)
                                                        obtain ⟨ad273, e273, hx273_0⟩ := Kd.at_int (Kd.R_reads' HO_9.out).2.2 x15_3 p273 q273
                                                        obtain rfl : ad265 = ad273 := (by injection e273)
                                                        replace p273 := eq_true p273
                                                        replace q273 := eq_true q273
                                                        go_wp2
                                                        repeat (go_quiet (fail); try go_wp2)
                                                        go_roundg k3
                                                        case measure => have := HJ4.out; have := HJ12.out; have := HK3.out; omega
                                                        case rel => exact ⟨(((rd t260 x15_3) == (Go.bits .and .i64 (rd t260 (ji22)) (rd t260 (ji25))))), (((rd t260 x15_3) == (Go.bits .or .i64 (rd t260 (ji22)) (rd t260 (ji25))))), (wrap64 (x15_3 + 1)), (by first | rfl | (simp; done) | (simp only [← hji22, ← hji25] <;> (first | rfl | simp)) | (simp [*]; done)), (by first | rfl | (simp; done) | (simp only [← hji22, ← hji25] <;> (first | rfl | simp)) | (simp [*]; done)), (by first | rfl | (simp; done) | (simp [*]; done)), H', ⟨by have := HJ4.out; have := HJ12.out; have := HK3.out; omega⟩, ⟨by (with_reducible repeat (first | apply Kd.R_alloc | apply Kd.R_drewN | apply Kd.R_drew)); exact HO_9.out⟩, ⟨by repeat (first | (with_reducible first | exact HB.out | apply below_alloc | apply pw_below_drewN | apply below_drew1) | exact HB.out)⟩⟩
                                                · rw [if_neg c40] at H
                                                  exact absurd H (by simp)
                                              · rw [if_neg c39] at H
                                                exact absurd H (by simp)
                                            · rw [if_neg c37] at H
                                              have c37b0 : decide (0 < x15_3) = false := decide_eq_false c37
                                              clear c37
                                              by_cases c45 : x13_3 = true
                                              · subst c45
                                                have H1 : (if x14_3 = true then (trishawlaw09_FetchMeets.l0 k3 a0 t260 (rd t260 (ji22)) (rd t260 (ji25)) true true (wrap64 (x15_3 + 1))) else (trishawlaw09_FetchMeets.l0 k3 a0 t260 (rd t260 (ji22)) (rd t260 (ji25)) true ((rd t260 x15_3) == (Go.bits .or .i64 (rd t260 (ji22)) (rd t260 (ji25)))) (wrap64 (x15_3 + 1)))) = some r := by rw [if_pos rfl] at H; exact H
                                                clear H
                                                have H := H1
                                                clear H1
                                                by_cases c46 : x14_3 = true
                                                · subst c46
                                                  have H1 : (trishawlaw09_FetchMeets.l0 k3 a0 t260 (rd t260 (ji22)) (rd t260 (ji25)) true true (wrap64 (x15_3 + 1))) = some r := by rw [if_pos rfl] at H; exact H
                                                  clear H
                                                  have H := H1
                                                  clear H1
                                                  have H' := Aside0.mk H
                                                  clear H
                                                  have p267 : 0 ≤ (x15_3 : Int) := of_decide_eq_true (by first | (with_reducible assumption) | assumption)
                                                  have q267 : x15_3 < (t260.length : Int) := of_decide_eq_true (by first | (with_reducible assumption) | assumption)
                                                  obtain ⟨ad267, e267, hx267_0⟩ := Kd.at_int (Kd.R_reads' HO_9.out).2.2 x15_3 p267 q267
                                                  obtain rfl : ad265 = ad267 := (by injection e267)
                                                  replace p267 := eq_true p267
                                                  replace q267 := eq_true q267
                                                  have p268 : 0 ≤ (x15_3 : Int) := of_decide_eq_true (by first | (with_reducible assumption) | assumption)
                                                  have q268 : x15_3 < (t260.length : Int) := of_decide_eq_true (by first | (with_reducible assumption) | assumption)
                                                  obtain ⟨ad268, e268, hx268_0⟩ := Kd.at_int (Kd.R_reads' HO_9.out).2.2 x15_3 p268 q268
                                                  obtain rfl : ad265 = ad268 := (by injection e268)
                                                  replace p268 := eq_true p268
                                                  replace q268 := eq_true q268
                                                  go_wp2
                                                  repeat (go_quiet (fail); try go_wp2)
                                                  go_roundg k3
                                                  case measure => have := HJ4.out; have := HJ12.out; have := HK3.out; omega
                                                  case rel => exact ⟨(true), (true), (wrap64 (x15_3 + 1)), (by first | rfl | (simp; done) | (simp [*]; done)), (by first | rfl | (simp; done) | (simp [*]; done)), (by first | rfl | (simp; done) | (simp [*]; done)), H', ⟨by have := HJ4.out; have := HJ12.out; have := HK3.out; omega⟩, ⟨by (with_reducible repeat (first | apply Kd.R_alloc | apply Kd.R_drewN | apply Kd.R_drew)); exact HO_9.out⟩, ⟨by repeat (first | (with_reducible first | exact HB.out | apply below_alloc | apply pw_below_drewN | apply below_drew1) | exact HB.out)⟩⟩
                                                · replace c46 := Bool.eq_false_iff.mpr c46
                                                  subst c46
                                                  have H1 : (trishawlaw09_FetchMeets.l0 k3 a0 t260 (rd t260 (ji22)) (rd t260 (ji25)) true ((rd t260 x15_3) == (Go.bits .or .i64 (rd t260 (ji22)) (rd t260 (ji25)))) (wrap64 (x15_3 + 1))) = some r := by rw [if_neg (show ¬ (false = true) by decide)] at H; exact H
                                                  clear H
                                                  have H := H1
                                                  clear H1
                                                  have H' := Aside0.mk H
                                                  clear H
                                                  have p267 : 0 ≤ (x15_3 : Int) := of_decide_eq_true (by first | (with_reducible assumption) | assumption)
                                                  have q267 : x15_3 < (t260.length : Int) := of_decide_eq_true (by first | (with_reducible assumption) | assumption)
                                                  obtain ⟨ad267, e267, hx267_0⟩ := Kd.at_int (Kd.R_reads' HO_9.out).2.2 x15_3 p267 q267
                                                  obtain rfl : ad265 = ad267 := (by injection e267)
                                                  replace p267 := eq_true p267
                                                  replace q267 := eq_true q267
                                                  have p268 : 0 ≤ (x15_3 : Int) := of_decide_eq_true (by first | (with_reducible assumption) | assumption)
                                                  have q268 : x15_3 < (t260.length : Int) := of_decide_eq_true (by first | (with_reducible assumption) | assumption)
                                                  obtain ⟨ad268, e268, hx268_0⟩ := Kd.at_int (Kd.R_reads' HO_9.out).2.2 x15_3 p268 q268
                                                  obtain rfl : ad265 = ad268 := (by injection e268)
                                                  replace p268 := eq_true p268
                                                  replace q268 := eq_true q268
                                                  have p274 : 0 ≤ (x15_3 : Int) := of_decide_eq_true (by first | (with_reducible assumption) | assumption)
                                                  have q274 : x15_3 < (t260.length : Int) := of_decide_eq_true (by first | (with_reducible assumption) | assumption)
                                                  obtain ⟨ad274, e274, hx274_0⟩ := Kd.at_int (Kd.R_reads' HO_9.out).2.2 x15_3 p274 q274
                                                  obtain rfl : ad265 = ad274 := (by injection e274)
                                                  replace p274 := eq_true p274
                                                  replace q274 := eq_true q274
                                                  go_wp2
                                                  repeat (go_quiet (fail); try go_wp2)
                                                  go_roundg k3
                                                  case measure => have := HJ4.out; have := HJ12.out; have := HK3.out; omega
                                                  case rel => exact ⟨(true), (((rd t260 x15_3) == (Go.bits .or .i64 (rd t260 (ji22)) (rd t260 (ji25))))), (wrap64 (x15_3 + 1)), (by first | rfl | (simp; done) | (simp [*]; done)), (by first | rfl | (simp; done) | (simp only [← hji22, ← hji25] <;> (first | rfl | simp)) | (simp [*]; done)), (by first | rfl | (simp; done) | (simp [*]; done)), H', ⟨by have := HJ4.out; have := HJ12.out; have := HK3.out; omega⟩, ⟨by (with_reducible repeat (first | apply Kd.R_alloc | apply Kd.R_drewN | apply Kd.R_drew)); exact HO_9.out⟩, ⟨by repeat (first | (with_reducible first | exact HB.out | apply below_alloc | apply pw_below_drewN | apply below_drew1) | exact HB.out)⟩⟩
                                              · replace c45 := Bool.eq_false_iff.mpr c45
                                                subst c45
                                                have H1 : (if x14_3 = true then (trishawlaw09_FetchMeets.l0 k3 a0 t260 (rd t260 (ji22)) (rd t260 (ji25)) ((rd t260 x15_3) == (Go.bits .and .i64 (rd t260 (ji22)) (rd t260 (ji25)))) true (wrap64 (x15_3 + 1))) else (trishawlaw09_FetchMeets.l0 k3 a0 t260 (rd t260 (ji22)) (rd t260 (ji25)) ((rd t260 x15_3) == (Go.bits .and .i64 (rd t260 (ji22)) (rd t260 (ji25)))) ((rd t260 x15_3) == (Go.bits .or .i64 (rd t260 (ji22)) (rd t260 (ji25)))) (wrap64 (x15_3 + 1)))) = some r := by rw [if_neg (show ¬ (false = true) by decide)] at H; exact H
                                                clear H
                                                have H := H1
                                                clear H1
                                                by_cases c47 : x14_3 = true
                                                · subst c47
                                                  have H1 : (trishawlaw09_FetchMeets.l0 k3 a0 t260 (rd t260 (ji22)) (rd t260 (ji25)) ((rd t260 x15_3) == (Go.bits .and .i64 (rd t260 (ji22)) (rd t260 (ji25)))) true (wrap64 (x15_3 + 1))) = some r := by rw [if_pos rfl] at H; exact H
                                                  clear H
                                                  have H := H1
                                                  clear H1
                                                  have H' := Aside0.mk H
                                                  clear H
                                                  have p267 : 0 ≤ (x15_3 : Int) := of_decide_eq_true (by first | (with_reducible assumption) | assumption)
                                                  have q267 : x15_3 < (t260.length : Int) := of_decide_eq_true (by first | (with_reducible assumption) | assumption)
                                                  obtain ⟨ad267, e267, hx267_0⟩ := Kd.at_int (Kd.R_reads' HO_9.out).2.2 x15_3 p267 q267
                                                  obtain rfl : ad265 = ad267 := (by injection e267)
                                                  replace p267 := eq_true p267
                                                  replace q267 := eq_true q267
                                                  have p268 : 0 ≤ (x15_3 : Int) := of_decide_eq_true (by first | (with_reducible assumption) | assumption)
                                                  have q268 : x15_3 < (t260.length : Int) := of_decide_eq_true (by first | (with_reducible assumption) | assumption)
                                                  obtain ⟨ad268, e268, hx268_0⟩ := Kd.at_int (Kd.R_reads' HO_9.out).2.2 x15_3 p268 q268
                                                  obtain rfl : ad265 = ad268 := (by injection e268)
                                                  replace p268 := eq_true p268
                                                  replace q268 := eq_true q268
                                                  have p275 : 0 ≤ (x15_3 : Int) := of_decide_eq_true (by first | (with_reducible assumption) | assumption)
                                                  have q275 : x15_3 < (t260.length : Int) := of_decide_eq_true (by first | (with_reducible assumption) | assumption)
                                                  obtain ⟨ad275, e275, hx275_0⟩ := Kd.at_int (Kd.R_reads' HO_9.out).2.2 x15_3 p275 q275
                                                  obtain rfl : ad265 = ad275 := (by injection e275)
                                                  replace p275 := eq_true p275
                                                  replace q275 := eq_true q275
                                                  go_wp2
                                                  repeat (go_quiet (fail); try go_wp2)
                                                  go_roundg k3
                                                  case measure => have := HJ4.out; have := HJ12.out; have := HK3.out; omega
                                                  case rel => exact ⟨(((rd t260 x15_3) == (Go.bits .and .i64 (rd t260 (ji22)) (rd t260 (ji25))))), (true), (wrap64 (x15_3 + 1)), (by first | rfl | (simp; done) | (simp only [← hji22, ← hji25] <;> (first | rfl | simp)) | (simp [*]; done)), (by first | rfl | (simp; done) | (simp [*]; done)), (by first | rfl | (simp; done) | (simp [*]; done)), H', ⟨by have := HJ4.out; have := HJ12.out; have := HK3.out; omega⟩, ⟨by (with_reducible repeat (first | apply Kd.R_alloc | apply Kd.R_drewN | apply Kd.R_drew)); exact HO_9.out⟩, ⟨by repeat (first | (with_reducible first | exact HB.out | apply below_alloc | apply pw_below_drewN | apply below_drew1) | exact HB.out)⟩⟩
                                                · replace c47 := Bool.eq_false_iff.mpr c47
                                                  subst c47
                                                  have H1 : (trishawlaw09_FetchMeets.l0 k3 a0 t260 (rd t260 (ji22)) (rd t260 (ji25)) ((rd t260 x15_3) == (Go.bits .and .i64 (rd t260 (ji22)) (rd t260 (ji25)))) ((rd t260 x15_3) == (Go.bits .or .i64 (rd t260 (ji22)) (rd t260 (ji25)))) (wrap64 (x15_3 + 1))) = some r := by rw [if_neg (show ¬ (false = true) by decide)] at H; exact H
                                                  clear H
                                                  have H := H1
                                                  clear H1
                                                  have H' := Aside0.mk H
                                                  clear H
                                                  have p267 : 0 ≤ (x15_3 : Int) := of_decide_eq_true (by first | (with_reducible assumption) | assumption)
                                                  have q267 : x15_3 < (t260.length : Int) := of_decide_eq_true (by first | (with_reducible assumption) | assumption)
                                                  obtain ⟨ad267, e267, hx267_0⟩ := Kd.at_int (Kd.R_reads' HO_9.out).2.2 x15_3 p267 q267
                                                  obtain rfl : ad265 = ad267 := (by injection e267)
                                                  replace p267 := eq_true p267
                                                  replace q267 := eq_true q267
                                                  have p268 : 0 ≤ (x15_3 : Int) := of_decide_eq_true (by first | (with_reducible assumption) | assumption)
                                                  have q268 : x15_3 < (t260.length : Int) := of_decide_eq_true (by first | (with_reducible assumption) | assumption)
                                                  obtain ⟨ad268, e268, hx268_0⟩ := Kd.at_int (Kd.R_reads' HO_9.out).2.2 x15_3 p268 q268
                                                  obtain rfl : ad265 = ad268 := (by injection e268)
                                                  replace p268 := eq_true p268
                                                  replace q268 := eq_true q268
                                                  have p275 : 0 ≤ (x15_3 : Int) := of_decide_eq_true (by first | (with_reducible assumption) | assumption)
                                                  have q275 : x15_3 < (t260.length : Int) := of_decide_eq_true (by first | (with_reducible assumption) | assumption)
                                                  obtain ⟨ad275, e275, hx275_0⟩ := Kd.at_int (Kd.R_reads' HO_9.out).2.2 x15_3 p275 q275
                                                  obtain rfl : ad265 = ad275 := (by injection e275)
                                                  replace p275 := eq_true p275
                                                  replace q275 := eq_true q275
                                                  have p276 : 0 ≤ (x15_3 : Int) := of_decide_eq_true (by first | (with_reducible assumption) | assumption)
                                                  have q276 : x15_3 < (t260.length : Int) := of_decide_eq_true (by first | (with_reducible assumption) | assumption)
                                                  obtain ⟨ad276, e276, hx276_0⟩ := Kd.at_int (Kd.R_reads' HO_9.out).2.2 x15_3 p276 q276
                                                  obtain rfl : ad265 = ad276 := (by injection e276)
                                                  replace p276 := eq_true p276
                                                  replace q276 := eq_true q276
                                                  go_wp2
                                                  repeat (go_quiet (fail); try go_wp2)
                                                  go_roundg k3
                                                  case measure => have := HJ4.out; have := HJ12.out; have := HK3.out; omega
                                                  case rel => exact ⟨(((rd t260 x15_3) == (Go.bits .and .i64 (rd t260 (ji22)) (rd t260 (ji25))))), (((rd t260 x15_3) == (Go.bits .or .i64 (rd t260 (ji22)) (rd t260 (ji25))))), (wrap64 (x15_3 + 1)), (by first | rfl | (simp; done) | (simp only [← hji22, ← hji25] <;> (first | rfl | simp)) | (simp [*]; done)), (by first | rfl | (simp; done) | (simp only [← hji22, ← hji25] <;> (first | rfl | simp)) | (simp [*]; done)), (by first | rfl | (simp; done) | (simp [*]; done)), H', ⟨by have := HJ4.out; have := HJ12.out; have := HK3.out; omega⟩, ⟨by (with_reducible repeat (first | apply Kd.R_alloc | apply Kd.R_drewN | apply Kd.R_drew)); exact HO_9.out⟩, ⟨by repeat (first | (with_reducible first | exact HB.out | apply below_alloc | apply pw_below_drewN | apply below_drew1) | exact HB.out)⟩⟩
                                        · rw [if_neg c35] at H
                                          exact absurd H (by simp)
                                      · rw [if_neg c34] at H
                                        exact absurd H (by simp)
                                  · rw [if_neg c32] at H
                                    exact absurd H (by simp)
                                · rw [if_neg c31] at H
                                  have c31b0 : decide (x15_3 < (t260.length : Int)) = false := decide_eq_false c31
                                  clear c31
                                  by_cases c48 : x13_3 = true
                                  · subst c48
                                    have H1 : (if x14_3 = true then ((trishawlaw09_alive.f k3).bind fun t277 => (some t277)) else (some false)) = some r := by rw [if_pos rfl] at H; exact H
                                    clear H
                                    have H := H1
                                    clear H1
                                    by_cases c49 : x14_3 = true
                                    · subst c49
                                      have H1 : ((trishawlaw09_alive.f k3).bind fun t277 => (some t277)) = some r := by rw [if_pos rfl] at H; exact H
                                      clear H
                                      have H := H1
                                      clear H1
                                      replace H := Option.bind_eq_some_iff.mp H
                                      obtain ⟨t277, A500, H⟩ := H
                                      replace H : (some t277) = some r := H
                                      have A50 := Aside0.mk A500
                                      clear A500
                                      obtain rfl := Option.some.inj H
                                      go_wp2_with (first | (go_at_call 17; (with_reducible refine (trishawlaw09_alive.calls k3  t277 _ A50.out).mono ?_); rintro e w51 ⟨rfl, hb⟩; have n0_ := Aside0.mk (Kd.R_below (by (with_reducible repeat (first | apply Kd.R_alloc | apply Kd.R_drewN | apply Kd.R_drew)); exact HO_9.out) hb); have n1_ := Aside0.mk (below_step (by repeat (first | (with_reducible first | exact HB.out | apply below_alloc | apply pw_below_drewN | apply below_drew1) | exact HB.out)) hb); clear HO_9; clear HB; have HO_9 := n0_; have HB := n1_; clear n0_ n1_; (try clear hb); (try clear hb2); (try clear hk); (try clear hi)))
                                      repeat (go_quiet (first | (go_at_call 17; (with_reducible refine (trishawlaw09_alive.calls k3  t277 _ A50.out).mono ?_); rintro e w51 ⟨rfl, hb⟩; have n0_ := Aside0.mk (Kd.R_below (by (with_reducible repeat (first | apply Kd.R_alloc | apply Kd.R_drewN | apply Kd.R_drew)); exact HO_9.out) hb); have n1_ := Aside0.mk (below_step (by repeat (first | (with_reducible first | exact HB.out | apply below_alloc | apply pw_below_drewN | apply below_drew1) | exact HB.out)) hb); clear HO_9; clear HB; have HO_9 := n0_; have HB := n1_; clear n0_ n1_; (try clear hb); (try clear hb2); (try clear hk); (try clear hi))); try go_wp2_with (first | (go_at_call 17; (with_reducible refine (trishawlaw09_alive.calls k3  t277 _ A50.out).mono ?_); rintro e w51 ⟨rfl, hb⟩; have n0_ := Aside0.mk (Kd.R_below (by (with_reducible repeat (first | apply Kd.R_alloc | apply Kd.R_drewN | apply Kd.R_drew)); exact HO_9.out) hb); have n1_ := Aside0.mk (below_step (by repeat (first | (with_reducible first | exact HB.out | apply below_alloc | apply pw_below_drewN | apply below_drew1) | exact HB.out)) hb); clear HO_9; clear HB; have HO_9 := n0_; have HB := n1_; clear n0_ n1_; (try clear hb); (try clear hb2); (try clear hk); (try clear hi))))
                                      go_ret
                                      exact ⟨by first | rfl | (simp [errW_none, errW_some] <;> rfl) | (simp only [← hji22, ← hji25]; first | rfl | (simp [errW_none, errW_some] <;> rfl)) | (simp [*, errW_none, errW_some] <;> rfl), by repeat (first | (with_reducible first | exact HB.out | apply below_alloc | apply pw_below_drewN | apply below_drew1) | exact HB.out)⟩
                                    · replace c49 := Bool.eq_false_iff.mpr c49
                                      subst c49
                                      have H1 : (some false) = some r := by rw [if_neg (show ¬ (false = true) by decide)] at H; exact H
                                      clear H
                                      have H := H1
                                      clear H1
                                      obtain rfl := Option.some.inj H
                                      go_wp2
                                      repeat (go_quiet (fail); try go_wp2)
                                      go_ret
                                      exact ⟨by first | rfl | (simp [errW_none, errW_some] <;> rfl) | (simp only [← hji22, ← hji25]; first | rfl | (simp [errW_none, errW_some] <;> rfl)) | (simp [*, errW_none, errW_some] <;> rfl), by repeat (first | (with_reducible first | exact HB.out | apply below_alloc | apply pw_below_drewN | apply below_drew1) | exact HB.out)⟩
                                  · replace c48 := Bool.eq_false_iff.mpr c48
                                    subst c48
                                    have H1 : (some false) = some r := by rw [if_neg (show ¬ (false = true) by decide)] at H; exact H
                                    clear H
                                    have H := H1
                                    clear H1
                                    obtain rfl := Option.some.inj H
                                    go_wp2
                                    repeat (go_quiet (fail); try go_wp2)
                                    go_ret
                                    exact ⟨by first | rfl | (simp [errW_none, errW_some] <;> rfl) | (simp only [← hji22, ← hji25]; first | rfl | (simp [errW_none, errW_some] <;> rfl)) | (simp [*, errW_none, errW_some] <;> rfl), by repeat (first | (with_reducible first | exact HB.out | apply below_alloc | apply pw_below_drewN | apply below_drew1) | exact HB.out)⟩
                          · rw [if_neg c29] at H
                            exact absurd H (by simp)
                        · rw [if_neg c28] at H
                          exact absurd H (by simp)
                      · rw [if_neg c27] at H
                        exact absurd H (by simp)
                    · rw [if_neg c26] at H
                      exact absurd H (by simp)
                  · rw [if_neg c24] at H
                    exact absurd H (by simp)
                · rw [if_neg c23] at H
                  exact absurd H (by simp)
end Go.Proofs.Ytjbfbdanbpfplaa.OAll
