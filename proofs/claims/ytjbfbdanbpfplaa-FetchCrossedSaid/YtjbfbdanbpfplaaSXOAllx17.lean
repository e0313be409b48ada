/- A part of the proof of 'fetchCrossed_holds', for every input, without a condition. -/
import Derived.Test.YtjbfbdanbpfplaaSXOAllx0
import Derived.Test.YtjbfbdanbpfplaaSXOAllx6
import Derived.Test.YtjbfbdanbpfplaaSXOAllx7
import Derived.Test.YtjbfbdanbpfplaaSXOAllx8
import Derived.Test.YtjbfbdanbpfplaaSXOAllx9
import Derived.Test.YtjbfbdanbpfplaaSXOAllx14
import Derived.Test.YtjbfbdanbpfplaaSXOAllx16
namespace Go.Proofs.Ytjbfbdanbpfplaa.OAll
open Go.RowKit Go.Proofs.YtjbfbdanbpfplaaW.PrintWords Go.Proofs.YtjbfbdanbpfplaaW.PrintLast Go.Proofs.YtjbfbdanbpfplaaW.PrintMore
attribute [local go_sem] max2_int min2_int max_two min_two max_three min_three max_four min_four
set_option linter.unusedVariables false
set_option linter.unusedSimpArgs false
mutual
def trishawlaw09_FetchCrossed.j0 : Nat → Int → List (S34) → List Int → Int → Bool → Option (Bool)
  | 0, _, _, _, _, _ => none
  | k + 1, x0, x1, x2, x3, x31 => if x31 = true then ((trishawlaw09_alive.f k).bind fun t524 => (some t524)) else ((fetch_Smallest.f k x0 x1).bind fun bt525 => ((fetch_Cuts.f k x0 x1).bind fun bt528 => ((fetch_IsMend.f k x0 x1 x2).bind fun bt532 => (if bt528.2 = 0 then (if bt532.2 = 0 then (if ((bt525.2.2 == 0) != (decide ((bt528.1.length : Int) > 0))) = true then (trishawlaw09_FetchCrossed.j1 k x0 x1 x2 x3 bt525.1 bt525.2.1 bt525.2.2 bt528.1 bt532.1 true) else (if bt525.2.2 = 0 then (trishawlaw09_FetchCrossed.j1 k x0 x1 x2 x3 bt525.1 bt525.2.1 bt525.2.2 bt528.1 bt532.1 false) else (trishawlaw09_FetchCrossed.j1 k x0 x1 x2 x3 bt525.1 bt525.2.1 bt525.2.2 bt528.1 bt532.1 (bt525.2.2 != 10)))) else (trishawlaw09_FetchCrossed.j1 k x0 x1 x2 x3 bt525.1 bt525.2.1 bt525.2.2 bt528.1 bt532.1 true)) else (trishawlaw09_FetchCrossed.j1 k x0 x1 x2 x3 bt525.1 bt525.2.1 bt525.2.2 bt528.1 bt532.1 true)))))
def trishawlaw09_FetchCrossed.j1 : Nat → Int → List (S34) → List Int → Int → Int → Int → Int → List Int → Bool → Bool → Option (Bool)
  | 0, _, _, _, _, _, _, _, _, _, _ => none
  | k + 1, x0, x1, x2, x3, x9, x10, x11, x12, x14, x74 => if x74 = true then (some false) else (if x11 = 0 then (if (x12.length : Int) = 0 then (none) else (if 0 ≤ (Int.tmod (wrap64 (x3)) (x12.length : Int)) then (if (Int.tmod (wrap64 (x3)) (x12.length : Int)) < (x12.length : Int) then ((fetch_Crossing.f k x0 x1 x10).bind fun bt536 => ((fetch_Crossing.f k x0 x1 (rd x12 (Int.tmod (wrap64 (x3)) (x12.length : Int)))).bind fun bt540 => (if bt536.2 = 0 then (if bt540.2 = 0 then (if (bt536.1.length : Int) = x9 then (if x9 < 1 then (trishawlaw09_FetchCrossed.j2 k x1 x2 x14 (rd x12 (Int.tmod (wrap64 (x3)) (x12.length : Int))) bt540.1 true) else (if (bt540.1.length : Int) < x9 then (trishawlaw09_FetchCrossed.j2 k x1 x2 x14 (rd x12 (Int.tmod (wrap64 (x3)) (x12.length : Int))) bt540.1 true) else (if (bt540.1.length : Int) = x9 then (trishawlaw09_FetchCrossed.j2 k x1 x2 x14 (rd x12 (Int.tmod (wrap64 (x3)) (x12.length : Int))) bt540.1 (decide ((rd x12 (Int.tmod (wrap64 (x3)) (x12.length : Int))) < x10))) else (trishawlaw09_FetchCrossed.j2 k x1 x2 x14 (rd x12 (Int.tmod (wrap64 (x3)) (x12.length : Int))) bt540.1 false)))) else (trishawlaw09_FetchCrossed.j2 k x1 x2 x14 (rd x12 (Int.tmod (wrap64 (x3)) (x12.length : Int))) bt540.1 true)) else (trishawlaw09_FetchCrossed.j2 k x1 x2 x14 (rd x12 (Int.tmod (wrap64 (x3)) (x12.length : Int))) bt540.1 true)) else (trishawlaw09_FetchCrossed.j2 k x1 x2 x14 (rd x12 (Int.tmod (wrap64 (x3)) (x12.length : Int))) bt540.1 true)))) else (none)) else (none))) else (if (wrap64 (x9 + x10)) = 0 then ((trishawlaw09_alive.f k).bind fun t534 => (some t534)) else (some false)))
def trishawlaw09_FetchCrossed.j2 : Nat → List (S34) → List Int → Bool → Int → List Int → Bool → Option (Bool)
  | 0, _, _, _, _, _, _ => none
  | k + 1, x1, x2, x14, x16, x18, x138 => if x138 = true then (some false) else (trishawlaw09_FetchCrossed.l0 k x1 x2 x14 x16 x18 0)
def trishawlaw09_FetchCrossed.l0 : Nat → List (S34) → List Int → Bool → Int → List Int → Int → Option (Bool)
  | 0, _, _, _, _, _, _ => none
  | k + 1, x1, x2, x14, x16, x18, x19 => if x19 < (x18.length : Int) then (if 0 ≤ x19 then (if (rd x18 x19) < 0 then (some false) else (if (rd x18 x19) ≥ (x1.length : Int) then (some false) else (if 0 ≤ (rd x18 x19) then (if (rd x18 x19) < (x1.length : Int) then (if 0 ≤ ((rd_T34 x1 (rd x18 x19)).f0) then (if ((rd_T34 x1 (rd x18 x19)).f0) ≤ 64 then (if (Int.tmod (x16 / 2 ^ ((rd_T34 x1 (rd x18 x19)).f0).toNat) 2) = 1 then (if 0 ≤ ((rd_T34 x1 (rd x18 x19)).f1) then (if ((rd_T34 x1 (rd x18 x19)).f1) ≤ 64 then (if (Int.tmod (x16 / 2 ^ ((rd_T34 x1 (rd x18 x19)).f1).toNat) 2) = 0 then (trishawlaw09_FetchCrossed.l0 k x1 x2 x14 x16 x18 (wrap64 (x19 + 1))) else (some false)) else (none)) else (none)) else (some false)) else (none)) else (none)) else (none)) else (none)))) else (none)) else (if x14 = true then (trishawlaw09_FetchCrossed.l1 k x2 x18 0) else ((trishawlaw09_alive.f k).bind fun t550 => (some t550)))
def trishawlaw09_FetchCrossed.l1 : Nat → List Int → List Int → Int → Option (Bool)
  | 0, _, _, _ => none
  | k + 1, x2, x18, x20 => if x20 < (x18.length : Int) then (trishawlaw09_FetchCrossed.l2 k x2 x18 x20 0) else (some false)
def trishawlaw09_FetchCrossed.l2 : Nat → List Int → List Int → Int → Int → Option (Bool)
  | 0, _, _, _, _ => none
  | k + 1, x2, x18, x20, x21 => if x21 < (x2.length : Int) then (if 0 ≤ x21 then (if 0 ≤ x20 then (if x20 < (x18.length : Int) then (if (rd x2 x21) = (rd x18 x20) then ((trishawlaw09_alive.f k).bind fun t553 => (some t553)) else (trishawlaw09_FetchCrossed.l2 k x2 x18 x20 (wrap64 (x21 + 1)))) else (none)) else (none)) else (none)) else (trishawlaw09_FetchCrossed.l1 k x2 x18 (wrap64 (x20 + 1)))
end
def trishawlaw09_FetchCrossed.f (k : Nat) (a0 : Int) (l1 : List (S34)) (l2 : List Int) (a3 : Int) : Option (Bool) := (trishawlaw09_few.f l1 l2).bind fun t522 => (if t522 = true then ((trishawref09_Quarter.f k a0 l1).bind fun t523 => (trishawlaw09_FetchCrossed.j0 k a0 l1 l2 a3 (t523 != 0))) else (trishawlaw09_FetchCrossed.j0 k a0 l1 l2 a3 true))
theorem trishawlaw09_FetchCrossed.mono_l : ∀ k, (∀ y0 y1 y2 y3 y4, LeO (trishawlaw09_FetchCrossed.j0 k y0 y1 y2 y3 y4) (trishawlaw09_FetchCrossed.j0 (k + 1) y0 y1 y2 y3 y4)) ∧ (∀ y0 y1 y2 y3 y4 y5 y6 y7 y8 y9, LeO (trishawlaw09_FetchCrossed.j1 k y0 y1 y2 y3 y4 y5 y6 y7 y8 y9) (trishawlaw09_FetchCrossed.j1 (k + 1) y0 y1 y2 y3 y4 y5 y6 y7 y8 y9)) ∧ (∀ y0 y1 y2 y3 y4 y5, LeO (trishawlaw09_FetchCrossed.j2 k y0 y1 y2 y3 y4 y5) (trishawlaw09_FetchCrossed.j2 (k + 1) y0 y1 y2 y3 y4 y5)) ∧ (∀ y0 y1 y2 y3 y4 y5, LeO (trishawlaw09_FetchCrossed.l0 k y0 y1 y2 y3 y4 y5) (trishawlaw09_FetchCrossed.l0 (k + 1) y0 y1 y2 y3 y4 y5)) ∧ (∀ y0 y1 y2, LeO (trishawlaw09_FetchCrossed.l1 k y0 y1 y2) (trishawlaw09_FetchCrossed.l1 (k + 1) y0 y1 y2)) ∧ (∀ y0 y1 y2 y3, LeO (trishawlaw09_FetchCrossed.l2 k y0 y1 y2 y3) (trishawlaw09_FetchCrossed.l2 (k + 1) y0 y1 y2 y3))
  | 0 => ⟨fun _ _ _ _ _ r h => by simp [trishawlaw09_FetchCrossed.j0] at h, fun _ _ _ _ _ _ _ _ _ _ r h => by simp [trishawlaw09_FetchCrossed.j1] at h, fun _ _ _ _ _ _ r h => by simp [trishawlaw09_FetchCrossed.j2] at h, fun _ _ _ _ _ _ r h => by simp [trishawlaw09_FetchCrossed.l0] at h, fun _ _ _ r h => by simp [trishawlaw09_FetchCrossed.l1] at h, fun _ _ _ _ r h => by simp [trishawlaw09_FetchCrossed.l2] at h⟩
  | k + 1 => by
    obtain ⟨ih0, ih1, ih2, ih3, ih4, ih5⟩ := trishawlaw09_FetchCrossed.mono_l k
    refine ⟨?_, ?_, ?_, ?_, ?_, ?_⟩
    · intro y0 y1 y2 y3 y4
      unfold trishawlaw09_FetchCrossed.j0
      repeat' first
      | (with_reducible exact ih0 _ _ _ _ _)
      | (with_reducible exact ih1 _ _ _ _ _ _ _ _ _ _)
      | (with_reducible exact ih2 _ _ _ _ _ _)
      | (with_reducible exact ih3 _ _ _ _ _ _)
      | (with_reducible exact ih4 _ _ _)
      | (with_reducible exact ih5 _ _ _ _)
      | (with_reducible exact fetch_Crossing.mono _ _ _ _)
      | (with_reducible exact fetch_Cuts.mono _ _ _)
      | (with_reducible exact fetch_IsMend.mono _ _ _ _)
      | (with_reducible exact fetch_Smallest.mono _ _ _)
      | (with_reducible exact trishawlaw09_alive.mono _)
      | (with_reducible exact trishawref09_Quarter.mono _ _ _)
      | (with_reducible exact LeO.refl _)
      | (with_reducible exact LeO.none _)
      | (with_reducible refine LeO.ite ?_ ?_)
      | (with_reducible refine LeO.bind ?_ (fun _ => ?_))
      | exact ih0 _ _ _ _ _
      | exact ih1 _ _ _ _ _ _ _ _ _ _
      | exact ih2 _ _ _ _ _ _
      | exact ih3 _ _ _ _ _ _
      | exact ih4 _ _ _
      | exact ih5 _ _ _ _
      | exact fetch_Crossing.mono _ _ _ _
      | exact fetch_Cuts.mono _ _ _
      | exact fetch_IsMend.mono _ _ _ _
      | exact fetch_Smallest.mono _ _ _
      | exact trishawlaw09_alive.mono _
      | exact trishawref09_Quarter.mono _ _ _
      | exact LeO.none _
      | refine LeO.ite ?_ ?_
      | refine LeO.bind ?_ (fun _ => ?_)
    · intro y0 y1 y2 y3 y4 y5 y6 y7 y8 y9
      unfold trishawlaw09_FetchCrossed.j1
      repeat' first
      | (with_reducible exact ih0 _ _ _ _ _)
      | (with_reducible exact ih1 _ _ _ _ _ _ _ _ _ _)
      | (with_reducible exact ih2 _ _ _ _ _ _)
      | (with_reducible exact ih3 _ _ _ _ _ _)
      | (with_reducible exact ih4 _ _ _)
      | (with_reducible exact ih5 _ _ _ _)
      | (with_reducible exact fetch_Crossing.mono _ _ _ _)
      | (with_reducible exact fetch_Cuts.mono _ _ _)
      | (with_reducible exact fetch_IsMend.mono _ _ _ _)
      | (with_reducible exact fetch_Smallest.mono _ _ _)
      | (with_reducible exact trishawlaw09_alive.mono _)
      | (with_reducible exact trishawref09_Quarter.mono _ _ _)
      | (with_reducible exact LeO.refl _)
      | (with_reducible exact LeO.none _)
      | (with_reducible refine LeO.ite ?_ ?_)
      | (with_reducible refine LeO.bind ?_ (fun _ => ?_))
      | exact ih0 _ _ _ _ _
      | exact ih1 _ _ _ _ _ _ _ _ _ _
      | exact ih2 _ _ _ _ _ _
      | exact ih3 _ _ _ _ _ _
      | exact ih4 _ _ _
      | exact ih5 _ _ _ _
      | exact fetch_Crossing.mono _ _ _ _
      | exact fetch_Cuts.mono _ _ _
      | exact fetch_IsMend.mono _ _ _ _
      | exact fetch_Smallest.mono _ _ _
      | exact trishawlaw09_alive.mono _
      | exact trishawref09_Quarter.mono _ _ _
      | exact LeO.none _
      | refine LeO.ite ?_ ?_
      | refine LeO.bind ?_ (fun _ => ?_)
    · intro y0 y1 y2 y3 y4 y5
      unfold trishawlaw09_FetchCrossed.j2
      repeat' first
      | (with_reducible exact ih0 _ _ _ _ _)
      | (with_reducible exact ih1 _ _ _ _ _ _ _ _ _ _)
      | (with_reducible exact ih2 _ _ _ _ _ _)
      | (with_reducible exact ih3 _ _ _ _ _ _)
      | (with_reducible exact ih4 _ _ _)
      | (with_reducible exact ih5 _ _ _ _)
      | (with_reducible exact fetch_Crossing.mono _ _ _ _)
      | (with_reducible exact fetch_Cuts.mono _ _ _)
      | (with_reducible exact fetch_IsMend.mono _ _ _ _)
      | (with_reducible exact fetch_Smallest.mono _ _ _)
      | (with_reducible exact trishawlaw09_alive.mono _)
      | (with_reducible exact trishawref09_Quarter.mono _ _ _)
      | (with_reducible exact LeO.refl _)
      | (with_reducible exact LeO.none _)
      | (with_reducible refine LeO.ite ?_ ?_)
      | (with_reducible refine LeO.bind ?_ (fun _ => ?_))
      | exact ih0 _ _ _ _ _
      | exact ih1 _ _ _ _ _ _ _ _ _ _
      | exact ih2 _ _ _ _ _ _
      | exact ih3 _ _ _ _ _ _
      | exact ih4 _ _ _
      | exact ih5 _ _ _ _
      | exact fetch_Crossing.mono _ _ _ _
      | exact fetch_Cuts.mono _ _ _
      | exact fetch_IsMend.mono _ _ _ _
      | exact fetch_Smallest.mono _ _ _
      | exact trishawlaw09_alive.mono _
      | exact trishawref09_Quarter.mono _ _ _
      | exact LeO.none _
      | refine LeO.ite ?_ ?_
      | refine LeO.bind ?_ (fun _ => ?_)
    · intro y0 y1 y2 y3 y4 y5
      unfold trishawlaw09_FetchCrossed.l0
      repeat' first
      | (with_reducible exact ih0 _ _ _ _ _)
      | (with_reducible exact ih1 _ _ _ _ _ _ _ _ _ _)
      | (with_reducible exact ih2 _ _ _ _ _ _)
      | (with_reducible exact ih3 _ _ _ _ _ _)
      | (with_reducible exact ih4 _ _ _)
      | (with_reducible exact ih5 _ _ _ _)
      | (with_reducible exact fetch_Crossing.mono _ _ _ _)
      | (with_reducible exact fetch_Cuts.mono _ _ _)
      | (with_reducible exact fetch_IsMend.mono _ _ _ _)
      | (with_reducible exact fetch_Smallest.mono _ _ _)
      | (with_reducible exact trishawlaw09_alive.mono _)
      | (with_reducible exact trishawref09_Quarter.mono _ _ _)
      | (with_reducible exact LeO.refl _)
      | (with_reducible exact LeO.none _)
      | (with_reducible refine LeO.ite ?_ ?_)
      | (with_reducible refine LeO.bind ?_ (fun _ => ?_))
      | exact ih0 _ _ _ _ _
      | exact ih1 _ _ _ _ _ _ _ _ _ _
      | exact ih2 _ _ _ _ _ _
      | exact ih3 _ _ _ _ _ _
      | exact ih4 _ _ _
      | exact ih5 _ _ _ _
      | exact fetch_Crossing.mono _ _ _ _
      | exact fetch_Cuts.mono _ _ _
      | exact fetch_IsMend.mono _ _ _ _
      | exact fetch_Smallest.mono _ _ _
      | exact trishawlaw09_alive.mono _
      | exact trishawref09_Quarter.mono _ _ _
      | exact LeO.none _
      | refine LeO.ite ?_ ?_
      | refine LeO.bind ?_ (fun _ => ?_)
    · intro y0 y1 y2
      unfold trishawlaw09_FetchCrossed.l1
      repeat' first
      | (with_reducible exact ih0 _ _ _ _ _)
      | (with_reducible exact ih1 _ _ _ _ _ _ _ _ _ _)
      | (with_reducible exact ih2 _ _ _ _ _ _)
      | (with_reducible exact ih3 _ _ _ _ _ _)
      | (with_reducible exact ih4 _ _ _)
      | (with_reducible exact ih5 _ _ _ _)
      | (with_reducible exact fetch_Crossing.mono _ _ _ _)
      | (with_reducible exact fetch_Cuts.mono _ _ _)
      | (with_reducible exact fetch_IsMend.mono _ _ _ _)
      | (with_reducible exact fetch_Smallest.mono _ _ _)
      | (with_reducible exact trishawlaw09_alive.mono _)
      | (with_reducible exact trishawref09_Quarter.mono _ _ _)
      | (with_reducible exact LeO.refl _)
      | (with_reducible exact LeO.none _)
      | (with_reducible refine LeO.ite ?_ ?_)
      | (with_reducible refine LeO.bind ?_ (fun _ => ?_))
      | exact ih0 _ _ _ _ _
      | exact ih1 _ _ _ _ _ _ _ _ _ _
      | exact ih2 _ _ _ _ _ _
      | exact ih3 _ _ _ _ _ _
      | exact ih4 _ _ _
      | exact ih5 _ _ _ _
      | exact fetch_Crossing.mono _ _ _ _
      | exact fetch_Cuts.mono _ _ _
      | exact fetch_IsMend.mono _ _ _ _
      | exact fetch_Smallest.mono _ _ _
      | exact trishawlaw09_alive.mono _
      | exact trishawref09_Quarter.mono _ _ _
      | exact LeO.none _
      | refine LeO.ite ?_ ?_
      | refine LeO.bind ?_ (fun _ => ?_)
    · intro y0 y1 y2 y3
      unfold trishawlaw09_FetchCrossed.l2
      repeat' first
      | (with_reducible exact ih0 _ _ _ _ _)
      | (with_reducible exact ih1 _ _ _ _ _ _ _ _ _ _)
      | (with_reducible exact ih2 _ _ _ _ _ _)
      | (with_reducible exact ih3 _ _ _ _ _ _)
      | (with_reducible exact ih4 _ _ _)
      | (with_reducible exact ih5 _ _ _ _)
      | (with_reducible exact fetch_Crossing.mono _ _ _ _)
      | (with_reducible exact fetch_Cuts.mono _ _ _)
      | (with_reducible exact fetch_IsMend.mono _ _ _ _)
      | (with_reducible exact fetch_Smallest.mono _ _ _)
      | (with_reducible exact trishawlaw09_alive.mono _)
      | (with_reducible exact trishawref09_Quarter.mono _ _ _)
      | (with_reducible exact LeO.refl _)
      | (with_reducible exact LeO.none _)
      | (with_reducible refine LeO.ite ?_ ?_)
      | (with_reducible refine LeO.bind ?_ (fun _ => ?_))
      | exact ih0 _ _ _ _ _
      | exact ih1 _ _ _ _ _ _ _ _ _ _
      | exact ih2 _ _ _ _ _ _
      | exact ih3 _ _ _ _ _ _
      | exact ih4 _ _ _
      | exact ih5 _ _ _ _
      | exact fetch_Crossing.mono _ _ _ _
      | exact fetch_Cuts.mono _ _ _
      | exact fetch_IsMend.mono _ _ _ _
      | exact fetch_Smallest.mono _ _ _
      | exact trishawlaw09_alive.mono _
      | exact trishawref09_Quarter.mono _ _ _
      | exact LeO.none _
      | refine LeO.ite ?_ ?_
      | refine LeO.bind ?_ (fun _ => ?_)
theorem trishawlaw09_FetchCrossed.mono : ∀ a0 a1 a2 a3 k, LeO (trishawlaw09_FetchCrossed.f k a0 a1 a2 a3) (trishawlaw09_FetchCrossed.f (k + 1) a0 a1 a2 a3) := by
  intro a0 a1 a2 a3 k
  obtain ⟨ih0, ih1, ih2, ih3, ih4, ih5⟩ := trishawlaw09_FetchCrossed.mono_l k
  unfold trishawlaw09_FetchCrossed.f
  repeat' first
      | (with_reducible exact ih0 _ _ _ _ _)
      | (with_reducible exact ih1 _ _ _ _ _ _ _ _ _ _)
      | (with_reducible exact ih2 _ _ _ _ _ _)
      | (with_reducible exact ih3 _ _ _ _ _ _)
      | (with_reducible exact ih4 _ _ _)
      | (with_reducible exact ih5 _ _ _ _)
      | (with_reducible exact fetch_Crossing.mono _ _ _ _)
      | (with_reducible exact fetch_Cuts.mono _ _ _)
      | (with_reducible exact fetch_IsMend.mono _ _ _ _)
      | (with_reducible exact fetch_Smallest.mono _ _ _)
      | (with_reducible exact trishawlaw09_alive.mono _)
      | (with_reducible exact trishawref09_Quarter.mono _ _ _)
      | (with_reducible exact LeO.refl _)
      | (with_reducible exact LeO.none _)
      | (with_reducible refine LeO.ite ?_ ?_)
      | (with_reducible refine LeO.bind ?_ (fun _ => ?_))
      | exact ih0 _ _ _ _ _
      | exact ih1 _ _ _ _ _ _ _ _ _ _
      | exact ih2 _ _ _ _ _ _
      | exact ih3 _ _ _ _ _ _
      | exact ih4 _ _ _
      | exact ih5 _ _ _ _
      | exact fetch_Crossing.mono _ _ _ _
      | exact fetch_Cuts.mono _ _ _
      | exact fetch_IsMend.mono _ _ _ _
      | exact fetch_Smallest.mono _ _ _
      | exact trishawlaw09_alive.mono _
      | exact trishawref09_Quarter.mono _ _ _
      | exact LeO.none _
      | refine LeO.ite ?_ ?_
      | refine LeO.bind ?_ (fun _ => ?_)
set_option maxHeartbeats 8000000 in
set_option maxRecDepth 100000 in
theorem trishawlaw09_FetchCrossed.calls (k : Nat) (a0 : Int) (A1 : Option Addr) (c1 : Nat) (l1 : List (S34)) (A2 : Option Addr) (c2 : Nat) (l2 : List Int) (a3 : Int) (r : Bool) (w : World) (hr1 : Kd.C k34 w A1 l1.length l1) (hc1 : l1.length ≤ c1) (hr2 : Kd.C (Kd.int .i64) w A2 l2.length l2) (hc2 : l2.length ≤ c2) (h : trishawlaw09_FetchCrossed.f k a0 l1 l2 a3 = some r) :
    Calls Try.prog 10 #[.int .i64 a0, .slice A1 l1.length c1, .slice A2 l2.length c2, .int .u8 a3] w fun e w' => e = .returned (.bool r) ∧ Below w.heap.size w w' := by
  have HR1 := Aside0.mk hr1
  have HC1 := Aside0.mk hc1
  clear hr1 hc1
  have HR2 := Aside0.mk hr2
  have HC2 := Aside0.mk hc2
  clear hr2 hc2
  have HB := Aside0.mk (Below.refl w.heap.size w)
  have H : ((trishawlaw09_few.f l1 l2).bind fun t522 => (if t522 = true then ((trishawref09_Quarter.f k a0 l1).bind fun t523 => (trishawlaw09_FetchCrossed.j0 k a0 l1 l2 a3 (t523 != 0))) else (trishawlaw09_FetchCrossed.j0 k a0 l1 l2 a3 true))) = some r := h
  clear h
  have HC5 := Aside0.mk H
  clear H
  go_enter Try.func10, Try.ntmps10
  go_upto_region 1 with (fail)
  repeat (go_quiet (fail); go_upto_region 1 with (fail))
  go_cut [31] (fun v31 wc => ∃ (kq : Nat) (x31_4 : Bool), v31 = .bool x31_4 ∧ Aside0 (trishawlaw09_FetchCrossed.j0 kq a0 l1 l2 a3 x31_4 = some r) ∧ Aside0 (kq ≤ k) ∧ Aside0 (Below w.heap.size w wc))
  case first =>
    have H := HC5.out
    clear HC5
    replace H := Option.bind_eq_some_iff.mp H
    obtain ⟨t522, A60, H⟩ := H
    replace H : (if t522 = true then ((trishawref09_Quarter.f k a0 l1).bind fun t523 => (trishawlaw09_FetchCrossed.j0 k a0 l1 l2 a3 (t523 != 0))) else (trishawlaw09_FetchCrossed.j0 k a0 l1 l2 a3 true)) = some r := H
    have A6 := Aside0.mk A60
    clear A60
    by_cases c7 : t522 = true
    · subst c7
      have H1 : ((trishawref09_Quarter.f k a0 l1).bind fun t523 => (trishawlaw09_FetchCrossed.j0 k a0 l1 l2 a3 (t523 != 0))) = some r := by rw [if_pos rfl] at H; exact H
      clear H
      have H := H1
      clear H1
      replace H := Option.bind_eq_some_iff.mp H
      obtain ⟨t523, A80, H⟩ := H
      replace H : (trishawlaw09_FetchCrossed.j0 k a0 l1 l2 a3 (t523 != 0)) = some r := H
      have A8 := Aside0.mk A80
      clear A80
      have H' := Aside0.mk H
      clear H
      go_wp2_with (first | (go_at_call 16; (with_reducible refine (trishawlaw09_few.calls _ _ l1 _ _ l2 true _ ?side1 ?side2 ?side3 ?side4 A6.out).mono ?_); (case side1 => repeat (first | exact (Kd.C_below HR1.out HB.out) | (with_reducible refine Kd.C_alloc ?_ _) | (with_reducible refine Kd.C_drewN ?_ _) | (with_reducible refine Kd.C_drew ?_))); (case side2 => exact HC1.out); (case side3 => repeat (first | exact (Kd.C_below HR2.out HB.out) | (with_reducible refine Kd.C_alloc ?_ _) | (with_reducible refine Kd.C_drewN ?_ _) | (with_reducible refine Kd.C_drew ?_))); (case side4 => exact HC2.out); rintro e w' ⟨rfl, ⟨nd, rfl⟩⟩; (try first | exact ⟨rfl, _, World.drewN_drewN _ _ _⟩ | exact ⟨rfl, _, Eq.trans (World.drewN_drewN _ _ _) (congrArg (World.drewN _) (Nat.add_assoc _ _ _))⟩)) | (go_at_call 21; (with_reducible refine (trishawref09_Quarter.calls k a0 _ _ l1 t523 _ ?side1 ?side2 A8.out).mono ?_); (case side1 => repeat (first | exact (Kd.C_below HR1.out (by repeat (first | (with_reducible first | exact HB.out | apply below_alloc | apply pw_below_drewN | apply below_drew1) | exact HB.out))) | (with_reducible refine Kd.C_alloc ?_ _) | (with_reducible refine Kd.C_drewN ?_ _) | (with_reducible refine Kd.C_drew ?_))); (case side2 => exact HC1.out); rintro e w' ⟨rfl, ⟨nd, rfl⟩⟩; (try first | exact ⟨rfl, _, World.drewN_drewN _ _ _⟩ | exact ⟨rfl, _, Eq.trans (World.drewN_drewN _ _ _) (congrArg (World.drewN _) (Nat.add_assoc _ _ _))⟩)))
      repeat (go_quiet (first | (go_at_call 16; (with_reducible refine (trishawlaw09_few.calls _ _ l1 _ _ l2 true _ ?side1 ?side2 ?side3 ?side4 A6.out).mono ?_); (case side1 => repeat (first | exact (Kd.C_below HR1.out HB.out) | (with_reducible refine Kd.C_alloc ?_ _) | (with_reducible refine Kd.C_drewN ?_ _) | (with_reducible refine Kd.C_drew ?_))); (case side2 => exact HC1.out); (case side3 => repeat (first | exact (Kd.C_below HR2.out HB.out) | (with_reducible refine Kd.C_alloc ?_ _) | (with_reducible refine Kd.C_drewN ?_ _) | (with_reducible refine Kd.C_drew ?_))); (case side4 => exact HC2.out); rintro e w' ⟨rfl, ⟨nd, rfl⟩⟩; (try first | exact ⟨rfl, _, World.drewN_drewN _ _ _⟩ | exact ⟨rfl, _, Eq.trans (World.drewN_drewN _ _ _) (congrArg (World.drewN _) (Nat.add_assoc _ _ _))⟩)) | (go_at_call 21; (with_reducible refine (trishawref09_Quarter.calls k a0 _ _ l1 t523 _ ?side1 ?side2 A8.out).mono ?_); (case side1 => repeat (first | exact (Kd.C_below HR1.out (by repeat (first | (with_reducible first | exact HB.out | apply below_alloc | apply pw_below_drewN | apply below_drew1) | exact HB.out))) | (with_reducible refine Kd.C_alloc ?_ _) | (with_reducible refine Kd.C_drewN ?_ _) | (with_reducible refine Kd.C_drew ?_))); (case side2 => exact HC1.out); rintro e w' ⟨rfl, ⟨nd, rfl⟩⟩; (try first | exact ⟨rfl, _, World.drewN_drewN _ _ _⟩ | exact ⟨rfl, _, Eq.trans (World.drewN_drewN _ _ _) (congrArg (World.drewN _) (Nat.add_assoc _ _ _))⟩))); try go_wp2_with (first | (go_at_call 16; (with_reducible refine (trishawlaw09_few.calls _ _ l1 _ _ l2 true _ ?side1 ?side2 ?side3 ?side4 A6.out).mono ?_); (case side1 => repeat (first | exact (Kd.C_below HR1.out HB.out) | (with_reducible refine Kd.C_alloc ?_ _) | (with_reducible refine Kd.C_drewN ?_ _) | (with_reducible refine Kd.C_drew ?_))); (case side2 => exact HC1.out); (case side3 => repeat (first | exact (Kd.C_below HR2.out HB.out) | (with_reducible refine Kd.C_alloc ?_ _) | (with_reducible refine Kd.C_drewN ?_ _) | (with_reducible refine Kd.C_drew ?_))); (case side4 => exact HC2.out); rintro e w' ⟨rfl, ⟨nd, rfl⟩⟩; (try first | exact ⟨rfl, _, World.drewN_drewN _ _ _⟩ | exact ⟨rfl, _, Eq.trans (World.drewN_drewN _ _ _) (congrArg (World.drewN _) (Nat.add_assoc _ _ _))⟩)) | (go_at_call 21; (with_reducible refine (trishawref09_Quarter.calls k a0 _ _ l1 t523 _ ?side1 ?side2 A8.out).mono ?_); (case side1 => repeat (first | exact (Kd.C_below HR1.out (by repeat (first | (with_reducible first | exact HB.out | apply below_alloc | apply pw_below_drewN | apply below_drew1) | exact HB.out))) | (with_reducible refine Kd.C_alloc ?_ _) | (with_reducible refine Kd.C_drewN ?_ _) | (with_reducible refine Kd.C_drew ?_))); (case side2 => exact HC1.out); rintro e w' ⟨rfl, ⟨nd, rfl⟩⟩; (try first | exact ⟨rfl, _, World.drewN_drewN _ _ _⟩ | exact ⟨rfl, _, Eq.trans (World.drewN_drewN _ _ _) (congrArg (World.drewN _) (Nat.add_assoc _ _ _))⟩))))
      go_meet
      case rel => exact ⟨_, ((t523 != 0)), (by first | rfl | (simp; done) | (simp [*]; done)), H', ⟨by first | omega | exact Nat.le_refl _⟩, ⟨by repeat (first | (with_reducible first | exact HB.out | apply below_alloc | apply pw_below_drewN | apply below_drew1) | exact HB.out)⟩⟩
    · replace c7 := Bool.eq_false_iff.mpr c7
      subst c7
      have H1 : (trishawlaw09_FetchCrossed.j0 k a0 l1 l2 a3 true) = some r := by rw [if_neg (show ¬ (false = true) by decide)] at H; exact H
      clear H
      have H := H1
      clear H1
      have H' := Aside0.mk H
      clear H
      go_wp2_with (first | (go_at_call 16; (with_reducible refine (trishawlaw09_few.calls _ _ l1 _ _ l2 false _ ?side1 ?side2 ?side3 ?side4 A6.out).mono ?_); (case side1 => repeat (first | exact (Kd.C_below HR1.out HB.out) | (with_reducible refine Kd.C_alloc ?_ _) | (with_reducible refine Kd.C_drewN ?_ _) | (with_reducible refine Kd.C_drew ?_))); (case side2 => exact HC1.out); (case side3 => repeat (first | exact (Kd.C_below HR2.out HB.out) | (with_reducible refine Kd.C_alloc ?_ _) | (with_reducible refine Kd.C_drewN ?_ _) | (with_reducible refine Kd.C_drew ?_))); (case side4 => exact HC2.out); rintro e w' ⟨rfl, ⟨nd, rfl⟩⟩; (try first | exact ⟨rfl, _, World.drewN_drewN _ _ _⟩ | exact ⟨rfl, _, Eq.trans (World.drewN_drewN _ _ _) (congrArg (World.drewN _) (Nat.add_assoc _ _ _))⟩)))
      repeat (go_quiet (first | (go_at_call 16; (with_reducible refine (trishawlaw09_few.calls _ _ l1 _ _ l2 false _ ?side1 ?side2 ?side3 ?side4 A6.out).mono ?_); (case side1 => repeat (first | exact (Kd.C_below HR1.out HB.out) | (with_reducible refine Kd.C_alloc ?_ _) | (with_reducible refine Kd.C_drewN ?_ _) | (with_reducible refine Kd.C_drew ?_))); (case side2 => exact HC1.out); (case side3 => repeat (first | exact (Kd.C_below HR2.out HB.out) | (with_reducible refine Kd.C_alloc ?_ _) | (with_reducible refine Kd.C_drewN ?_ _) | (with_reducible refine Kd.C_drew ?_))); (case side4 => exact HC2.out); rintro e w' ⟨rfl, ⟨nd, rfl⟩⟩; (try first | exact ⟨rfl, _, World.drewN_drewN _ _ _⟩ | exact ⟨rfl, _, Eq.trans (World.drewN_drewN _ _ _) (congrArg (World.drewN _) (Nat.add_assoc _ _ _))⟩))); try go_wp2_with (first | (go_at_call 16; (with_reducible refine (trishawlaw09_few.calls _ _ l1 _ _ l2 false _ ?side1 ?side2 ?side3 ?side4 A6.out).mono ?_); (case side1 => repeat (first | exact (Kd.C_below HR1.out HB.out) | (with_reducible refine Kd.C_alloc ?_ _) | (with_reducible refine Kd.C_drewN ?_ _) | (with_reducible refine Kd.C_drew ?_))); (case side2 => exact HC1.out); (case side3 => repeat (first | exact (Kd.C_below HR2.out HB.out) | (with_reducible refine Kd.C_alloc ?_ _) | (with_reducible refine Kd.C_drewN ?_ _) | (with_reducible refine Kd.C_drew ?_))); (case side4 => exact HC2.out); rintro e w' ⟨rfl, ⟨nd, rfl⟩⟩; (try first | exact ⟨rfl, _, World.drewN_drewN _ _ _⟩ | exact ⟨rfl, _, Eq.trans (World.drewN_drewN _ _ _) (congrArg (World.drewN _) (Nat.add_assoc _ _ _))⟩))))
      go_meet
      case rel => exact ⟨_, (true), (by first | rfl | (simp; done) | (simp [*]; done)), H', ⟨by first | omega | exact Nat.le_refl _⟩, ⟨by repeat (first | (with_reducible first | exact HB.out | apply below_alloc | apply pw_below_drewN | apply below_drew1) | exact HB.out)⟩⟩
  case rest =>
    clear HC5
    try clear c1
    try clear c2
    try clear p2
    try clear c7
    obtain ⟨kq, x31_4, rfl, HA, HJ4, HB⟩ := hcut
    cases kq with
    | zero => exact absurd HA.out (by simp [trishawlaw09_FetchCrossed.j0])
    | succ kj4 =>
      have H := HA.out
      clear HA
      simp only [trishawlaw09_FetchCrossed.j0] at H
      by_cases c9 : x31_4 = true
      · subst c9
        have H1 : ((trishawlaw09_alive.f kj4).bind fun t524 => (some t524)) = some r := by rw [if_pos rfl] at H; exact H
        clear H
        have H := H1
        clear H1
        replace H := Option.bind_eq_some_iff.mp H
        obtain ⟨t524, A100, H⟩ := H
        replace H : (some t524) = some r := H
        have A10 := Aside0.mk A100
        clear A100
        obtain rfl := Option.some.inj H
        go_wp2_with (first | (go_at_call 17; (with_reducible refine (trishawlaw09_alive.calls kj4  t524 _ A10.out).mono ?_); rintro e w11 ⟨rfl, hb⟩; have n0_ := Aside0.mk (below_step (by repeat (first | (with_reducible first | exact HB.out | apply below_alloc | apply pw_below_drewN | apply below_drew1) | exact HB.out)) hb); clear HB; have HB := n0_; clear n0_; (try clear hb); (try clear hb2); (try clear hk); (try clear hi)))
        repeat (go_quiet (first | (go_at_call 17; (with_reducible refine (trishawlaw09_alive.calls kj4  t524 _ A10.out).mono ?_); rintro e w11 ⟨rfl, hb⟩; have n0_ := Aside0.mk (below_step (by repeat (first | (with_reducible first | exact HB.out | apply below_alloc | apply pw_below_drewN | apply below_drew1) | exact HB.out)) hb); clear HB; have HB := n0_; clear n0_; (try clear hb); (try clear hb2); (try clear hk); (try clear hi))); try go_wp2_with (first | (go_at_call 17; (with_reducible refine (trishawlaw09_alive.calls kj4  t524 _ A10.out).mono ?_); rintro e w11 ⟨rfl, hb⟩; have n0_ := Aside0.mk (below_step (by repeat (first | (with_reducible first | exact HB.out | apply below_alloc | apply pw_below_drewN | apply below_drew1) | exact HB.out)) hb); clear HB; have HB := n0_; clear n0_; (try clear hb); (try clear hb2); (try clear hk); (try clear hi))))
        go_ret
        exact ⟨by first | rfl | (simp [errW_none, errW_some] <;> rfl) | (simp [*, errW_none, errW_some] <;> rfl), by repeat (first | (with_reducible first | exact HB.out | apply below_alloc | apply pw_below_drewN | apply below_drew1) | exact HB.out)⟩
      · replace c9 := Bool.eq_false_iff.mpr c9
        subst c9
        have H1 : ((fetch_Smallest.f kj4 a0 l1).bind fun bt525 => ((fetch_Cuts.f kj4 a0 l1).bind fun bt528 => ((fetch_IsMend.f kj4 a0 l1 l2).bind fun bt532 => (if bt528.2 = 0 then (if bt532.2 = 0 then (if ((bt525.2.2 == 0) != (decide ((bt528.1.length : Int) > 0))) = true then (trishawlaw09_FetchCrossed.j1 kj4 a0 l1 l2 a3 bt525.1 bt525.2.1 bt525.2.2 bt528.1 bt532.1 true) else (if bt525.2.2 = 0 then (trishawlaw09_FetchCrossed.j1 kj4 a0 l1 l2 a3 bt525.1 bt525.2.1 bt525.2.2 bt528.1 bt532.1 false) else (trishawlaw09_FetchCrossed.j1 kj4 a0 l1 l2 a3 bt525.1 bt525.2.1 bt525.2.2 bt528.1 bt532.1 (bt525.2.2 != 10)))) else (trishawlaw09_FetchCrossed.j1 kj4 a0 l1 l2 a3 bt525.1 bt525.2.1 bt525.2.2 bt528.1 bt532.1 true)) else (trishawlaw09_FetchCrossed.j1 kj4 a0 l1 l2 a3 bt525.1 bt525.2.1 bt525.2.2 bt528.1 bt532.1 true))))) = some r := by rw [if_neg (show ¬ (false = true) by decide)] at H; exact H
        clear H
        have H := H1
        clear H1
        replace H := Option.bind_eq_some_iff.mp H
        obtain ⟨⟨t525, t526, t527⟩, A120, H⟩ := H
        replace H : ((fetch_Cuts.f kj4 a0 l1).bind fun bt528 => ((fetch_IsMend.f kj4 a0 l1 l2).bind fun bt532 => (if bt528.2 = 0 then (if bt532.2 = 0 then (if ((t527 == 0) != (decide ((bt528.1.length : Int) > 0))) = true then (trishawlaw09_FetchCrossed.j1 kj4 a0 l1 l2 a3 t525 t526 t527 bt528.1 bt532.1 true) else (if t527 = 0 then (trishawlaw09_FetchCrossed.j1 kj4 a0 l1 l2 a3 t525 t526 t527 bt528.1 bt532.1 false) else (trishawlaw09_FetchCrossed.j1 kj4 a0 l1 l2 a3 t525 t526 t527 bt528.1 bt532.1 (t527 != 10)))) else (trishawlaw09_FetchCrossed.j1 kj4 a0 l1 l2 a3 t525 t526 t527 bt528.1 bt532.1 true)) else (trishawlaw09_FetchCrossed.j1 kj4 a0 l1 l2 a3 t525 t526 t527 bt528.1 bt532.1 true)))) = some r := H
        have A12 := Aside0.mk A120
        clear A120
        replace H := Option.bind_eq_some_iff.mp H
        obtain ⟨⟨t528, t529⟩, A130, H⟩ := H
        replace H : ((fetch_IsMend.f kj4 a0 l1 l2).bind fun bt532 => (if t529 = 0 then (if bt532.2 = 0 then (if ((t527 == 0) != (decide ((t528.length : Int) > 0))) = true then (trishawlaw09_FetchCrossed.j1 kj4 a0 l1 l2 a3 t525 t526 t527 t528 bt532.1 true) else (if t527 = 0 then (trishawlaw09_FetchCrossed.j1 kj4 a0 l1 l2 a3 t525 t526 t527 t528 bt532.1 false) else (trishawlaw09_FetchCrossed.j1 kj4 a0 l1 l2 a3 t525 t526 t527 t528 bt532.1 (t527 != 10)))) else (trishawlaw09_FetchCrossed.j1 kj4 a0 l1 l2 a3 t525 t526 t527 t528 bt532.1 true)) else (trishawlaw09_FetchCrossed.j1 kj4 a0 l1 l2 a3 t525 t526 t527 t528 bt532.1 true))) = some r := H
        have A13 := Aside0.mk A130
        clear A130
        replace H := Option.bind_eq_some_iff.mp H
        obtain ⟨⟨t532, t533⟩, A140, H⟩ := H
        replace H : (if t529 = 0 then (if t533 = 0 then (if ((t527 == 0) != (decide ((t528.length : Int) > 0))) = true then (trishawlaw09_FetchCrossed.j1 kj4 a0 l1 l2 a3 t525 t526 t527 t528 t532 true) else (if t527 = 0 then (trishawlaw09_FetchCrossed.j1 kj4 a0 l1 l2 a3 t525 t526 t527 t528 t532 false) else (trishawlaw09_FetchCrossed.j1 kj4 a0 l1 l2 a3 t525 t526 t527 t528 t532 (t527 != 10)))) else (trishawlaw09_FetchCrossed.j1 kj4 a0 l1 l2 a3 t525 t526 t527 t528 t532 true)) else (trishawlaw09_FetchCrossed.j1 kj4 a0 l1 l2 a3 t525 t526 t527 t528 t532 true)) = some r := H
        have A14 := Aside0.mk A140
        clear A140
        have HC15 := Aside0.mk H
        clear H
        go_upto_region 6 with (first | (go_at_call 30; (with_reducible refine (fetch_Smallest.calls kj4 a0 _ _ l1 t525 t526 t527 _ ?side1 ?side2 A12.out).mono ?_); (case side1 => repeat (first | exact (Kd.C_below HR1.out HB.out) | (with_reducible refine Kd.C_alloc ?_ _) | (with_reducible refine Kd.C_drewN ?_ _) | (with_reducible refine Kd.C_drew ?_))); (case side2 => exact HC1.out); rintro e w16 ⟨rfl, hb⟩; have n0_ := Aside0.mk (below_step (by repeat (first | (with_reducible first | exact HB.out | apply below_alloc | apply pw_below_drewN | apply below_drew1) | exact HB.out)) hb); clear HB; have HB := n0_; clear n0_; (try clear hb); (try clear hb2); (try clear hk); (try clear hi)) | (go_at_call 22; (with_reducible refine (fetch_Cuts.calls kj4 a0 _ _ l1 t528 t529 _ ?side1 ?side2 A13.out).mono ?_); (case side1 => repeat (first | exact (Kd.C_below HR1.out HB.out) | (with_reducible refine Kd.C_alloc ?_ _) | (with_reducible refine Kd.C_drewN ?_ _) | (with_reducible refine Kd.C_drew ?_))); (case side2 => exact HC1.out); rintro e w17 ⟨v530, rfl, ho0, hb⟩; have n0_ := Aside0.mk (Kd.R_lower ho0 (below_size (by repeat (first | (with_reducible first | exact HB.out | apply below_alloc | apply pw_below_drewN | apply below_drew1) | exact HB.out)))); have n1_ := Aside0.mk (below_step (by repeat (first | (with_reducible first | exact HB.out | apply below_alloc | apply pw_below_drewN | apply below_drew1) | exact HB.out)) hb); clear HB; have HO531 := n0_; have HB := n1_; clear n0_ n1_; (try clear hb); (try clear hb2); (try clear hk); (try clear hi); (try clear ho0)) | (go_at_call 32; (with_reducible refine (fetch_IsMend.calls kj4 a0 _ _ l1 _ _ l2 t532 t533 _ ?side1 ?side2 ?side3 ?side4 A14.out).mono ?_); (case side1 => repeat (first | exact (Kd.C_below HR1.out HB.out) | (with_reducible refine Kd.C_alloc ?_ _) | (with_reducible refine Kd.C_drewN ?_ _) | (with_reducible refine Kd.C_drew ?_))); (case side2 => exact HC1.out); (case side3 => repeat (first | exact (Kd.C_below HR2.out HB.out) | (with_reducible refine Kd.C_alloc ?_ _) | (with_reducible refine Kd.C_drewN ?_ _) | (with_reducible refine Kd.C_drew ?_))); (case side4 => exact HC2.out); rintro e w18 ⟨rfl, hb⟩; have n0_ := Aside0.mk (Kd.R_below (by (with_reducible repeat (first | apply Kd.R_alloc | apply Kd.R_drewN | apply Kd.R_drew)); exact HO531.out) hb); have n1_ := Aside0.mk (below_step (by repeat (first | (with_reducible first | exact HB.out | apply below_alloc | apply pw_below_drewN | apply below_drew1) | exact HB.out)) hb); clear HO531; clear HB; have HO531 := n0_; have HB := n1_; clear n0_ n1_; (try clear hb); (try clear hb2); (try clear hk); (try clear hi)))
        repeat (go_quiet (first | (go_at_call 30; (with_reducible refine (fetch_Smallest.calls kj4 a0 _ _ l1 t525 t526 t527 _ ?side1 ?side2 A12.out).mono ?_); (case side1 => repeat (first | exact (Kd.C_below HR1.out HB.out) | (with_reducible refine Kd.C_alloc ?_ _) | (with_reducible refine Kd.C_drewN ?_ _) | (with_reducible refine Kd.C_drew ?_))); (case side2 => exact HC1.out); rintro e w16 ⟨rfl, hb⟩; have n0_ := Aside0.mk (below_step (by repeat (first | (with_reducible first | exact HB.out | apply below_alloc | apply pw_below_drewN | apply below_drew1) | exact HB.out)) hb); clear HB; have HB := n0_; clear n0_; (try clear hb); (try clear hb2); (try clear hk); (try clear hi)) | (go_at_call 22; (with_reducible refine (fetch_Cuts.calls kj4 a0 _ _ l1 t528 t529 _ ?side1 ?side2 A13.out).mono ?_); (case side1 => repeat (first | exact (Kd.C_below HR1.out HB.out) | (with_reducible refine Kd.C_alloc ?_ _) | (with_reducible refine Kd.C_drewN ?_ _) | (with_reducible refine Kd.C_drew ?_))); (case side2 => exact HC1.out); rintro e w17 ⟨v530, rfl, ho0, hb⟩; have n0_ := Aside0.mk (Kd.R_lower ho0 (below_size (by repeat (first | (with_reducible first | exact HB.out | apply below_alloc | apply pw_below_drewN | apply below_drew1) | exact HB.out)))); have n1_ := Aside0.mk (below_step (by repeat (first | (with_reducible first | exact HB.out | apply below_alloc | apply pw_below_drewN | apply below_drew1) | exact HB.out)) hb); clear HB; have HO531 := n0_; have HB := n1_; clear n0_ n1_; (try clear hb); (try clear hb2); (try clear hk); (try clear hi); (try clear ho0)) | (go_at_call 32; (with_reducible refine (fetch_IsMend.calls kj4 a0 _ _ l1 _ _ l2 t532 t533 _ ?side1 ?side2 ?side3 ?side4 A14.out).mono ?_); (case side1 => repeat (first | exact (Kd.C_below HR1.out HB.out) | (with_reducible refine Kd.C_alloc ?_ _) | (with_reducible refine Kd.C_drewN ?_ _) | (with_reducible refine Kd.C_drew ?_))); (case side2 => exact HC1.out); (case side3 => repeat (first | exact (Kd.C_below HR2.out HB.out) | (with_reducible refine Kd.C_alloc ?_ _) | (with_reducible refine Kd.C_drewN ?_ _) | (with_reducible refine Kd.C_drew ?_))); (case side4 => exact HC2.out); rintro e w18 ⟨rfl, hb⟩; have n0_ := Aside0.mk (Kd.R_below (by (with_reducible repeat (first | apply Kd.R_alloc | apply Kd.R_drewN | apply Kd.R_drew)); exact HO531.out) hb); have n1_ := Aside0.mk (below_step (by repeat (first | (with_reducible first | exact HB.out | apply below_alloc | apply pw_below_drewN | apply below_drew1) | exact HB.out)) hb); clear HO531; clear HB; have HO531 := n0_; have HB := n1_; clear n0_ n1_; (try clear hb); (try clear hb2); (try clear hk); (try clear hi))); go_upto_region 6 with (first | (go_at_call 30; (with_reducible refine (fetch_Smallest.calls kj4 a0 _ _ l1 t525 t526 t527 _ ?side1 ?side2 A12.out).mono ?_); (case side1 => repeat (first | exact (Kd.C_below HR1.out HB.out) | (with_reducible refine Kd.C_alloc ?_ _) | (with_reducible refine Kd.C_drewN ?_ _) | (with_reducible refine Kd.C_drew ?_))); (case side2 => exact HC1.out); rintro e w16 ⟨rfl, hb⟩; have n0_ := Aside0.mk (below_step (by repeat (first | (with_reducible first | exact HB.out | apply below_alloc | apply pw_below_drewN | apply below_drew1) | exact HB.out)) hb); clear HB; have HB := n0_; clear n0_; (try clear hb); (try clear hb2); (try clear hk); (try clear hi)) | (go_at_call 22; (with_reducible refine (fetch_Cuts.calls kj4 a0 _ _ l1 t528 t529 _ ?side1 ?side2 A13.out).mono ?_); (case side1 => repeat (first | exact (Kd.C_below HR1.out HB.out) | (with_reducible refine Kd.C_alloc ?_ _) | (with_reducible refine Kd.C_drewN ?_ _) | (with_reducible refine Kd.C_drew ?_))); (case side2 => exact HC1.out); rintro e w17 ⟨v530, rfl, ho0, hb⟩; have n0_ := Aside0.mk (Kd.R_lower ho0 (below_size (by repeat (first | (with_reducible first | exact HB.out | apply below_alloc | apply pw_below_drewN | apply below_drew1) | exact HB.out)))); have n1_ := Aside0.mk (below_step (by repeat (first | (with_reducible first | exact HB.out | apply below_alloc | apply pw_below_drewN | apply below_drew1) | exact HB.out)) hb); clear HB; have HO531 := n0_; have HB := n1_; clear n0_ n1_; (try clear hb); (try clear hb2); (try clear hk); (try clear hi); (try clear ho0)) | (go_at_call 32; (with_reducible refine (fetch_IsMend.calls kj4 a0 _ _ l1 _ _ l2 t532 t533 _ ?side1 ?side2 ?side3 ?side4 A14.out).mono ?_); (case side1 => repeat (first | exact (Kd.C_below HR1.out HB.out) | (with_reducible refine Kd.C_alloc ?_ _) | (with_reducible refine Kd.C_drewN ?_ _) | (with_reducible refine Kd.C_drew ?_))); (case side2 => exact HC1.out); (case side3 => repeat (first | exact (Kd.C_below HR2.out HB.out) | (with_reducible refine Kd.C_alloc ?_ _) | (with_reducible refine Kd.C_drewN ?_ _) | (with_reducible refine Kd.C_drew ?_))); (case side4 => exact HC2.out); rintro e w18 ⟨rfl, hb⟩; have n0_ := Aside0.mk (Kd.R_below (by (with_reducible repeat (first | apply Kd.R_alloc | apply Kd.R_drewN | apply Kd.R_drew)); exact HO531.out) hb); have n1_ := Aside0.mk (below_step (by repeat (first | (with_reducible first | exact HB.out | apply below_alloc | apply pw_below_drewN | apply below_drew1) | exact HB.out)) hb); clear HO531; clear HB; have HO531 := n0_; have HB := n1_; clear n0_ n1_; (try clear hb); (try clear hb2); (try clear hk); (try clear hi))))
        (try simp only [Act.put, List.setIfInBounds_toArray, List.set_cons_zero, List.set_cons_succ])
        go_cut [74] (fun v74 wc => ∃ (kq : Nat) (x74_14 : Bool), v74 = .bool x74_14 ∧ Aside0 (trishawlaw09_FetchCrossed.j1 kq a0 l1 l2 a3 t525 t526 t527 t528 t532 x74_14 = some r) ∧ Aside0 (kq ≤ kj4) ∧ Aside0 (Kd.R (Kd.int .i64) 3 wc w.heap.size (fun _ => True) v530 t528) ∧ Aside0 (Below w.heap.size w wc))
        case first =>
          have H := HC15.out
          clear HC15
          by_cases c19 : t529 = 0
          · as_aux_lemma =>
            rw [if_pos c19] at H
            have c19b0 : (t529 == 0) = true := beq_iff_eq.mpr c19
            have c19b1 : (t529 != 0) = false := bne_eq_false_iff_eq.mpr c19
            clear c19
            (first | rw [c19b0] | (simp only [i64_w, i32_w]; rw [c19b0]) | skip)
            by_cases c20 : t533 = 0
            · as_aux_lemma =>
              rw [if_pos c20] at H
              have c20b0 : (t533 == 0) = true := beq_iff_eq.mpr c20
              have c20b1 : (t533 != 0) = false := bne_eq_false_iff_eq.mpr c20
              clear c20
              by_cases c18d : t527 = 0
              · have d1b0 : (t527 == 0) = true := beq_iff_eq.mpr c18d
                have d1b1 : (t527 != 0) = false := bne_eq_false_iff_eq.mpr c18d
                clear c18d
                by_cases c21 : ((t527 == 0) != (decide ((t528.length : Int) > 0))) = true
                · as_aux_lemma =>
                  rw [if_pos c21] at H
                  have d2b0 : decide ((t528.length : Int) > 0) = false := by revert c21; rw [d1b0]; cases decide ((t528.length : Int) > 0) <;> simp
                  have d2f : (0 < t528.length) = False := by have h := of_decide_eq_false d2b0; exact eq_false (by omega)
                  have c21b0 : ((t527 == 0) != (decide ((t528.length : Int) > 0))) = true := c21
                  (try (have c21b1 : decide ((t527 == 0) = (decide ((t528.length : Int) > 0))) = false := by simpa using c21))
                  (try (have c21b2 : ((t527 == 0) == (decide ((t528.length : Int) > 0))) = false := by simpa using c21))
                  (try (have c21b3 : ¬ ((t527 == 0) = (decide ((t528.length : Int) > 0))) := by simpa using c21))
                  clear c21
                  have H' := Aside0.mk H
                  clear H
                  obtain ⟨Ao22, co22, eo22⟩ := Kd.R_slice HO531.out
                  subst eo22
                  go_wp2
                  repeat (go_quiet (fail); try go_wp2)
                  go_meet
                  case rel => exact ⟨_, (true), (by first | rfl | (simp; done) | (simp [*]; done)), H', ⟨by have := HJ4.out; first | omega | exact Nat.le_refl _⟩, ⟨by (with_reducible repeat (first | apply Kd.R_alloc | apply Kd.R_drewN | apply Kd.R_drew)); exact HO531.out⟩, ⟨by repeat (first | (with_reducible first | exact HB.out | apply below_alloc | apply pw_below_drewN | apply below_drew1) | exact HB.out)⟩⟩
                · as_aux_lemma =>
                  rw [if_neg c21] at H
                  have d2b0 : decide ((t528.length : Int) > 0) = true := by revert c21; rw [d1b0]; cases decide ((t528.length : Int) > 0) <;> simp
                  have d2f : (0 < t528.length) = True := by have h := of_decide_eq_true d2b0; exact eq_true (by omega)
                  have c21b0 : ((t527 == 0) != (decide ((t528.length : Int) > 0))) = false := by simpa using c21
                  (try (have c21b1 : decide ((t527 == 0) = (decide ((t528.length : Int) > 0))) = true := by simpa using c21))
                  (try (have c21b2 : ((t527 == 0) == (decide ((t528.length : Int) > 0))) = true := by simpa using c21))
                  clear c21
                  have c23 : t527 = 0 := beq_iff_eq.mp d1b0
                  rw [if_pos c23] at H
                  have c23b0 : (t527 == 0) = true := beq_iff_eq.mpr c23
                  have c23b1 : (t527 != 0) = false := bne_eq_false_iff_eq.mpr c23
                  clear c23
                  have H' := Aside0.mk H
                  clear H
                  obtain ⟨Ao24, co24, eo24⟩ := Kd.R_slice HO531.out
                  subst eo24
                  go_wp2
                  repeat (go_quiet (fail); try go_wp2)
                  go_meet
                  case rel => exact ⟨_, (false), (by first | rfl | (simp; done) | (simp [*]; done)), H', ⟨by have := HJ4.out; first | omega | exact Nat.le_refl _⟩, ⟨by (with_reducible repeat (first | apply Kd.R_alloc | apply Kd.R_drewN | apply Kd.R_drew)); exact HO531.out⟩, ⟨by repeat (first | (with_reducible first | exact HB.out | apply below_alloc | apply pw_below_drewN | apply below_drew1) | exact HB.out)⟩⟩
              · have d1b0 : (t527 == 0) = false := beq_eq_false_iff_ne.mpr c18d
                have d1b1 : (t527 != 0) = true := bne_iff_ne.mpr c18d
                clear c18d
                by_cases c21 : ((t527 == 0) != (decide ((t528.length : Int) > 0))) = true
                · as_aux_lemma =>
                  rw [if_pos c21] at H
                  have d2b0 : decide ((t528.length : Int) > 0) = true := by revert c21; rw [d1b0]; cases decide ((t528.length : Int) > 0) <;> simp
                  have d2f : (0 < t528.length) = True := by have h := of_decide_eq_true d2b0; exact eq_true (by omega)
                  have c21b0 : ((t527 == 0) != (decide ((t528.length : Int) > 0))) = true := c21
                  (try (have c21b1 : decide ((t527 == 0) = (decide ((t528.length : Int) > 0))) = false := by simpa using c21))
                  (try (have c21b2 : ((t527 == 0) == (decide ((t528.length : Int) > 0))) = false := by simpa using c21))
                  (try (have c21b3 : ¬ ((t527 == 0) = (decide ((t528.length : Int) > 0))) := by simpa using c21))
                  clear c21
                  have H' := Aside0.mk H
                  clear H
                  obtain ⟨Ao22, co22, eo22⟩ := Kd.R_slice HO531.out
                  subst eo22
                  go_wp2
                  repeat (go_quiet (fail); try go_wp2)
                  go_meet
                  case rel => exact ⟨_, (true), (by first | rfl | (simp; done) | (simp [*]; done)), H', ⟨by have := HJ4.out; first | omega | exact Nat.le_refl _⟩, ⟨by (with_reducible repeat (first | apply Kd.R_alloc | apply Kd.R_drewN | apply Kd.R_drew)); exact HO531.out⟩, ⟨by repeat (first | (with_reducible first | exact HB.out | apply below_alloc | apply pw_below_drewN | apply below_drew1) | exact HB.out)⟩⟩
                · as_aux_lemma =>
                  rw [if_neg c21] at H
                  have d2b0 : decide ((t528.length : Int) > 0) = false := by revert c21; rw [d1b0]; cases decide ((t528.length : Int) > 0) <;> simp
                  have d2f : (0 < t528.length) = False := by have h := of_decide_eq_false d2b0; exact eq_false (by omega)
                  have c21b0 : ((t527 == 0) != (decide ((t528.length : Int) > 0))) = false := by simpa using c21
                  (try (have c21b1 : decide ((t527 == 0) = (decide ((t528.length : Int) > 0))) = true := by simpa using c21))
                  (try (have c21b2 : ((t527 == 0) == (decide ((t528.length : Int) > 0))) = true := by simpa using c21))
                  clear c21
                  have c23 : ¬ (t527 = 0) := beq_eq_false_iff_ne.mp d1b0
                  rw [if_neg c23] at H
                  have c23b0 : (t527 == 0) = false := beq_eq_false_iff_ne.mpr c23
                  have c23b1 : (t527 != 0) = true := bne_iff_ne.mpr c23
                  have H' := Aside0.mk H
                  clear H
                  obtain ⟨Ao25, co25, eo25⟩ := Kd.R_slice HO531.out
                  subst eo25
                  go_wp2
                  repeat (go_quiet (fail); try go_wp2)
                  go_meet
                  case rel => exact ⟨_, ((t527 != 10)), (by first | rfl | (simp; done) | (simp [*]; done)), H', ⟨by have := HJ4.out; first | omega | exact Nat.le_refl _⟩, ⟨by (with_reducible repeat (first | apply Kd.R_alloc | apply Kd.R_drewN | apply Kd.R_drew)); exact HO531.out⟩, ⟨by repeat (first | (with_reducible first | exact HB.out | apply below_alloc | apply pw_below_drewN | apply below_drew1) | exact HB.out)⟩⟩
            · rw [if_neg c20] at H
              have c20b0 : (t533 == 0) = false := beq_eq_false_iff_ne.mpr c20
              have c20b1 : (t533 != 0) = true := bne_iff_ne.mpr c20
              have H' := Aside0.mk H
              clear H
              go_wp2
              repeat (go_quiet (fail); try go_wp2)
              go_meet
              case rel => exact ⟨_, (true), (by first | rfl | (simp; done) | (simp [*]; done)), H', ⟨by have := HJ4.out; first | omega | exact Nat.le_refl _⟩, ⟨by (with_reducible repeat (first | apply Kd.R_alloc | apply Kd.R_drewN | apply Kd.R_drew)); exact HO531.out⟩, ⟨by repeat (first | (with_reducible first | exact HB.out | apply below_alloc | apply pw_below_drewN | apply below_drew1) | exact HB.out)⟩⟩
          · rw [if_neg c19] at H
            have c19b0 : (t529 == 0) = false := beq_eq_false_iff_ne.mpr c19
            have c19b1 : (t529 != 0) = true := bne_iff_ne.mpr c19
            (first | rw [c19b0] | (simp only [i64_w, i32_w]; rw [c19b0]) | skip)
            have H' := Aside0.mk H
            clear H
            go_wp2
            repeat (go_quiet (fail); try go_wp2)
            go_meet
            case rel => exact ⟨_, (true), (by first | rfl | (simp; done) | (simp [*]; done)), H', ⟨by have := HJ4.out; first | omega | exact Nat.le_refl _⟩, ⟨by (with_reducible repeat (first | apply Kd.R_alloc | apply Kd.R_drewN | apply Kd.R_drew)); exact HO531.out⟩, ⟨by repeat (first | (with_reducible first | exact HB.out | apply below_alloc | apply pw_below_drewN | apply below_drew1) | exact HB.out)⟩⟩
        case rest =>
          clear HC15
          try clear c1
          try clear c2
          try clear p2
          try clear c7
          try clear c9
          try clear c10
          try clear c19
          try clear c19b0
          try clear c19b1
          try clear c20
          try clear c20b0
          try clear c20b1
          try clear c21
          try clear c21b0
          try clear c21b1
          try clear c21b2
          try clear c23
          try clear c23b0
          try clear c23b1
          try clear p2
          obtain ⟨kq, x74_14, rfl, HA, HJ14, HO_12, HB⟩ := hcut
          cases kq with
          | zero => exact absurd HA.out (by simp [trishawlaw09_FetchCrossed.j1])
          | succ kj14 =>
            have H := HA.out
            clear HA
            simp only [trishawlaw09_FetchCrossed.j1] at H
            by_cases c26 : x74_14 = true
            · subst c26
              have H1 : (some false) = some r := by rw [if_pos rfl] at H; exact H
              clear H
              have H := H1
              clear H1
              obtain rfl := Option.some.inj H
              go_wp2
              repeat (go_quiet (fail); try go_wp2)
              go_ret
              exact ⟨by first | rfl | (simp [errW_none, errW_some] <;> rfl) | (simp [*, errW_none, errW_some] <;> rfl), by repeat (first | (with_reducible first | exact HB.out | apply below_alloc | apply pw_below_drewN | apply below_drew1) | exact HB.out)⟩
            · replace c26 := Bool.eq_false_iff.mpr c26
              subst c26
              have H1 : (if t527 = 0 then (if (t528.length : Int) = 0 then (none) else (if 0 ≤ (Int.tmod (wrap64 (a3)) (t528.length : Int)) then (if (Int.tmod (wrap64 (a3)) (t528.length : Int)) < (t528.length : Int) then ((fetch_Crossing.f kj14 a0 l1 t526).bind fun bt536 => ((fetch_Crossing.f kj14 a0 l1 (rd t528 (Int.tmod (wrap64 (a3)) (t528.length : Int)))).bind fun bt540 => (if bt536.2 = 0 then (if bt540.2 = 0 then (if (bt536.1.length : Int) = t525 then (if t525 < 1 then (trishawlaw09_FetchCrossed.j2 kj14 l1 l2 t532 (rd t528 (Int.tmod (wrap64 (a3)) (t528.length : Int))) bt540.1 true) else (if (bt540.1.length : Int) < t525 then (trishawlaw09_FetchCrossed.j2 kj14 l1 l2 t532 (rd t528 (Int.tmod (wrap64 (a3)) (t528.length : Int))) bt540.1 true) else (if (bt540.1.length : Int) = t525 then (trishawlaw09_FetchCrossed.j2 kj14 l1 l2 t532 (rd t528 (Int.tmod (wrap64 (a3)) (t528.length : Int))) bt540.1 (decide ((rd t528 (Int.tmod (wrap64 (a3)) (t528.length : Int))) < t526))) else (trishawlaw09_FetchCrossed.j2 kj14 l1 l2 t532 (rd t528 (Int.tmod (wrap64 (a3)) (t528.length : Int))) bt540.1 false)))) else (trishawlaw09_FetchCrossed.j2 kj14 l1 l2 t532 (rd t528 (Int.tmod (wrap64 (a3)) (t528.length : Int))) bt540.1 true)) else (trishawlaw09_FetchCrossed.j2 kj14 l1 l2 t532 (rd t528 (Int.tmod (wrap64 (a3)) (t528.length : Int))) bt540.1 true)) else (trishawlaw09_FetchCrossed.j2 kj14 l1 l2 t532 (rd t528 (Int.tmod (wrap64 (a3)) (t528.length : Int))) bt540.1 true)))) else (none)) else (none))) else (if (wrap64 (t525 + t526)) = 0 then ((trishawlaw09_alive.f kj14).bind fun t534 => (some t534)) else (some false))) = some r := by rw [if_neg (show ¬ (false = true) by decide)] at H; exact H
              clear H
              have H := H1
              clear H1
              by_cases c27 : t527 = 0
              · as_aux_lemma =>
                rw [if_pos c27] at H
                have c27b0 : (t527 == 0) = true := beq_iff_eq.mpr c27
                have c27b1 : (t527 != 0) = false := bne_eq_false_iff_eq.mpr c27
                clear c27
                by_cases c28 : (t528.length : Int) = 0
                · rw [if_pos c28] at H
                  exact absurd H (by simp)
                · as_aux_lemma =>
                  rw [if_neg c28] at H
                  have c28b0 : ((t528.length : Int) == 0) = false := beq_eq_false_iff_ne.mpr c28
                  have c28b1 : ((t528.length : Int) != 0) = true := bne_iff_ne.mpr c28
                  have c28b2 : ¬ (t528 = []) := fun h_ => c28 (by rw [h_]; rfl)
                  obtain ⟨ji29, hji29⟩ : ∃ j_ : Int, (Int.tmod (wrap64 (a3)) (t528.length : Int)) = j_ := ⟨_, rfl⟩
                  replace H : (if 0 ≤ (ji29) then (if (ji29) < (t528.length : Int) then ((fetch_Crossing.f kj14 a0 l1 t526).bind fun bt536 => ((fetch_Crossing.f kj14 a0 l1 (rd t528 (ji29))).bind fun bt540 => (if bt536.2 = 0 then (if bt540.2 = 0 then (if (bt536.1.length : Int) = t525 then (if t525 < 1 then (trishawlaw09_FetchCrossed.j2 kj14 l1 l2 t532 (rd t528 (ji29)) bt540.1 true) else (if (bt540.1.length : Int) < t525 then (trishawlaw09_FetchCrossed.j2 kj14 l1 l2 t532 (rd t528 (ji29)) bt540.1 true) else (if (bt540.1.length : Int) = t525 then (trishawlaw09_FetchCrossed.j2 kj14 l1 l2 t532 (rd t528 (ji29)) bt540.1 (decide ((rd t528 (ji29)) < t526))) else (trishawlaw09_FetchCrossed.j2 kj14 l1 l2 t532 (rd t528 (ji29)) bt540.1 false)))) else (trishawlaw09_FetchCrossed.j2 kj14 l1 l2 t532 (rd t528 (ji29)) bt540.1 true)) else (trishawlaw09_FetchCrossed.j2 kj14 l1 l2 t532 (rd t528 (ji29)) bt540.1 true)) else (trishawlaw09_FetchCrossed.j2 kj14 l1 l2 t532 (rd t528 (ji29)) bt540.1 true)))) else (none)) else (none)) = some r := by first | (rw [hji29] at H; exact H) | (simp only [hji29] at H ⊢; exact H)
                  by_cases c30 : 0 ≤ (ji29)
                  · as_aux_lemma =>
                    rw [if_pos c30] at H
                    have c30b0 : decide (0 ≤ (ji29)) = true := decide_eq_true c30
                    clear c30
                    by_cases c31 : (ji29) < (t528.length : Int)
                    · as_aux_lemma =>
                      rw [if_pos c31] at H
                      have c31b0 : decide ((ji29) < (t528.length : Int)) = true := decide_eq_true c31
                      clear c31
                      replace H := Option.bind_eq_some_iff.mp H
                      obtain ⟨⟨t536, t537⟩, A320, H⟩ := H
                      replace H : ((fetch_Crossing.f kj14 a0 l1 (rd t528 (ji29))).bind fun bt540 => (if t537 = 0 then (if bt540.2 = 0 then (if (t536.length : Int) = t525 then (if t525 < 1 then (trishawlaw09_FetchCrossed.j2 kj14 l1 l2 t532 (rd t528 (ji29)) bt540.1 true) else (if (bt540.1.length : Int) < t525 then (trishawlaw09_FetchCrossed.j2 kj14 l1 l2 t532 (rd t528 (ji29)) bt540.1 true) else (if (bt540.1.length : Int) = t525 then (trishawlaw09_FetchCrossed.j2 kj14 l1 l2 t532 (rd t528 (ji29)) bt540.1 (decide ((rd t528 (ji29)) < t526))) else (trishawlaw09_FetchCrossed.j2 kj14 l1 l2 t532 (rd t528 (ji29)) bt540.1 false)))) else (trishawlaw09_FetchCrossed.j2 kj14 l1 l2 t532 (rd t528 (ji29)) bt540.1 true)) else (trishawlaw09_FetchCrossed.j2 kj14 l1 l2 t532 (rd t528 (ji29)) bt540.1 true)) else (trishawlaw09_FetchCrossed.j2 kj14 l1 l2 t532 (rd t528 (ji29)) bt540.1 true))) = some r := H
                      have A32 := Aside0.mk A320
                      clear A320
                      replace H := Option.bind_eq_some_iff.mp H
                      obtain ⟨⟨t540, t541⟩, A330, H⟩ := H
                      replace H : (if t537 = 0 then (if t541 = 0 then (if (t536.length : Int) = t525 then (if t525 < 1 then (trishawlaw09_FetchCrossed.j2 kj14 l1 l2 t532 (rd t528 (ji29)) t540 true) else (if (t540.length : Int) < t525 then (trishawlaw09_FetchCrossed.j2 kj14 l1 l2 t532 (rd t528 (ji29)) t540 true) else (if (t540.length : Int) = t525 then (trishawlaw09_FetchCrossed.j2 kj14 l1 l2 t532 (rd t528 (ji29)) t540 (decide ((rd t528 (ji29)) < t526))) else (trishawlaw09_FetchCrossed.j2 kj14 l1 l2 t532 (rd t528 (ji29)) t540 false)))) else (trishawlaw09_FetchCrossed.j2 kj14 l1 l2 t532 (rd t528 (ji29)) t540 true)) else (trishawlaw09_FetchCrossed.j2 kj14 l1 l2 t532 (rd t528 (ji29)) t540 true)) else (trishawlaw09_FetchCrossed.j2 kj14 l1 l2 t532 (rd t528 (ji29)) t540 true)) = some r := H
                      have A33 := Aside0.mk A330
                      clear A330
                      have HC34 := Aside0.mk H
                      clear H
                      obtain ⟨Ao35, co35, eo35⟩ := Kd.R_slice HO_12.out
                      subst eo35
                      have p535 : 0 ≤ ((ji29) : Int) := of_decide_eq_true (by first | (with_reducible assumption) | assumption)
                      have q535 : (ji29) < (t528.length : Int) := of_decide_eq_true (by first | (with_reducible assumption) | assumption)
                      obtain ⟨ad535, e535, hx535_0⟩ := Kd.at_int (Kd.R_reads' HO_12.out).2.2 (ji29) p535 q535
                      cases e535
                      replace p535 := eq_true p535
                      replace q535 := eq_true q535
                      go_upto_region 13 with (first | (go_at_call 28; (with_reducible refine (fetch_Crossing.calls kj14 a0 _ _ l1 t526 t536 t537 _ ?side1 ?side2 A32.out).mono ?_); (case side1 => repeat (first | exact (Kd.C_below HR1.out HB.out) | (with_reducible refine Kd.C_alloc ?_ _) | (with_reducible refine Kd.C_drewN ?_ _) | (with_reducible refine Kd.C_drew ?_))); (case side2 => exact HC1.out); rintro e w36 ⟨v538, rfl, ho0, hb⟩; have n0_ := Aside0.mk (Kd.R_elder' (by (with_reducible repeat (first | apply Kd.R_alloc | apply Kd.R_drewN | apply Kd.R_drew)); exact HO_12.out) (Kd.R_base ho0) hb); have n1_ := Aside0.mk (Kd.R_lower (Kd.R_new' ho0 (Kd.R_lt (by (with_reducible repeat (first | apply Kd.R_alloc | apply Kd.R_drewN | apply Kd.R_drew)); exact HO_12.out))) (below_size (by repeat (first | (with_reducible first | exact HB.out | apply below_alloc | apply pw_below_drewN | apply below_drew1) | exact HB.out)))); have n2_ := Aside0.mk (below_step (by repeat (first | (with_reducible first | exact HB.out | apply below_alloc | apply pw_below_drewN | apply below_drew1) | exact HB.out)) hb); clear HO_12; clear HB; have HO_12 := n0_; have HO539 := n1_; have HB := n2_; clear n0_ n1_ n2_; (try clear hb); (try clear hb2); (try clear hk); (try clear hi); (try clear ho0)) | (go_at_call 28; (with_reducible refine (fetch_Crossing.calls kj14 a0 _ _ l1 (rd t528 (ji29)) t540 t541 _ ?side1 ?side2 A33.out).mono ?_); (case side1 => repeat (first | exact (Kd.C_below HR1.out HB.out) | (with_reducible refine Kd.C_alloc ?_ _) | (with_reducible refine Kd.C_drewN ?_ _) | (with_reducible refine Kd.C_drew ?_))); (case side2 => exact HC1.out); rintro e w37 ⟨v542, rfl, ho0, hb⟩; have n0_ := Aside0.mk (Kd.R_elder' (by (with_reducible repeat (first | apply Kd.R_alloc | apply Kd.R_drewN | apply Kd.R_drew)); exact HO_12.out) (Kd.R_base ho0) hb); have n1_ := Aside0.mk (Kd.R_elder' (by (with_reducible repeat (first | apply Kd.R_alloc | apply Kd.R_drewN | apply Kd.R_drew)); exact HO539.out) (Kd.R_base ho0) hb); have n2_ := Aside0.mk (Kd.R_lower (Kd.R_new' (Kd.R_new' ho0 (Kd.R_lt (by (with_reducible repeat (first | apply Kd.R_alloc | apply Kd.R_drewN | apply Kd.R_drew)); exact HO_12.out))) (Kd.R_lt (by (with_reducible repeat (first | apply Kd.R_alloc | apply Kd.R_drewN | apply Kd.R_drew)); exact HO539.out))) (below_size (by repeat (first | (with_reducible first | exact HB.out | apply below_alloc | apply pw_below_drewN | apply below_drew1) | exact HB.out)))); have n3_ := Aside0.mk (below_step (by repeat (first | (with_reducible first | exact HB.out | apply below_alloc | apply pw_below_drewN | apply below_drew1) | exact HB.out)) hb); clear HO_12; clear HO539; clear HB; have HO_12 := n0_; have HO539 := n1_; have HO543 := n2_; have HB := n3_; clear n0_ n1_ n2_ n3_; (try clear hb); (try clear hb2); (try clear hk); (try clear hi); (try clear ho0)))
                      repeat (go_quiet (first | (go_at_call 28; (with_reducible refine (fetch_Crossing.calls kj14 a0 _ _ l1 t526 t536 t537 _ ?side1 ?side2 A32.out).mono ?_); (case side1 => repeat (first | exact (Kd.C_below HR1.out HB.out) | (with_reducible refine Kd.C_alloc ?_ _) | (with_reducible refine Kd.C_drewN ?_ _) | (with_reducible refine Kd.C_drew ?_))); (case side2 => exact HC1.out); rintro e w36 ⟨v538, rfl, ho0, hb⟩; have n0_ := Aside0.mk (Kd.R_elder' (by (with_reducible repeat (first | apply Kd.R_alloc | apply Kd.R_drewN | apply Kd.R_drew)); exact HO_12.out) (Kd.R_base ho0) hb); have n1_ := Aside0.mk (Kd.R_lower (Kd.R_new' ho0 (Kd.R_lt (by (with_reducible repeat (first | apply Kd.R_alloc | apply Kd.R_drewN | apply Kd.R_drew)); exact HO_12.out))) (below_size (by repeat (first | (with_reducible first | exact HB.out | apply below_alloc | apply pw_below_drewN | apply below_drew1) | exact HB.out)))); have n2_ := Aside0.mk (below_step (by repeat (first | (with_reducible first | exact HB.out | apply below_alloc | apply pw_below_drewN | apply below_drew1) | exact HB.out)) hb); clear HO_12; clear HB; have HO_12 := n0_; have HO539 := n1_; have HB := n2_; clear n0_ n1_ n2_; (try clear hb); (try clear hb2); (try clear hk); (try clear hi); (try clear ho0)) | (go_at_call 28; (with_reducible refine (fetch_Crossing.calls kj14 a0 _ _ l1 (rd t528 (ji29)) t540 t541 _ ?side1 ?side2 A33.out).mono ?_); (case side1 => repeat (first | exact (Kd.C_below HR1.out HB.out) | (with_reducible refine Kd.C_alloc ?_ _) | (with_reducible refine Kd.C_drewN ?_ _) | (with_reducible refine Kd.C_drew ?_))); (case side2 => exact HC1.out); rintro e w37 ⟨v542, rfl, ho0, hb⟩; have n0_ := Aside0.mk (Kd.R_elder' (by (with_reducible repeat (first | apply Kd.R_alloc | apply Kd.R_drewN | apply Kd.R_drew)); exact HO_12.out) (Kd.R_base ho0) hb); have n1_ := Aside0.mk (Kd.R_elder' (by (with_reducible repeat (first | apply Kd.R_alloc | apply Kd.R_drewN | apply Kd.R_drew)); exact HO539.out) (Kd.R_base ho0) hb); have n2_ := Aside0.mk (Kd.R_lower (Kd.R_new' (Kd.R_new' ho0 (Kd.R_lt (by (with_reducible repeat (first | apply Kd.R_alloc | apply Kd.R_drewN | apply Kd.R_drew)); exact HO_12.out))) (Kd.R_lt (by (with_reducible repeat (first | apply Kd.R_alloc | apply Kd.R_drewN | apply Kd.R_drew)); exact HO539.out))) (below_size (by repeat (first | (with_reducible first | exact HB.out | apply below_alloc | apply pw_below_drewN | apply below_drew1) | exact HB.out)))); have n3_ := Aside0.mk (below_step (by repeat (first | (with_reducible first | exact HB.out | apply below_alloc | apply pw_below_drewN | apply below_drew1) | exact HB.out)) hb); clear HO_12; clear HO539; clear HB; have HO_12 := n0_; have HO539 := n1_; have HO543 := n2_; have HB := n3_; clear n0_ n1_ n2_ n3_; (try clear hb); (try clear hb2); (try clear hk); (try clear hi); (try clear ho0))); go_upto_region 13 with (first | (go_at_call 28; (with_reducible refine (fetch_Crossing.calls kj14 a0 _ _ l1 t526 t536 t537 _ ?side1 ?side2 A32.out).mono ?_); (case side1 => repeat (first | exact (Kd.C_below HR1.out HB.out) | (with_reducible refine Kd.C_alloc ?_ _) | (with_reducible refine Kd.C_drewN ?_ _) | (with_reducible refine Kd.C_drew ?_))); (case side2 => exact HC1.out); rintro e w36 ⟨v538, rfl, ho0, hb⟩; have n0_ := Aside0.mk (Kd.R_elder' (by (with_reducible repeat (first | apply Kd.R_alloc | apply Kd.R_drewN | apply Kd.R_drew)); exact HO_12.out) (Kd.R_base ho0) hb); have n1_ := Aside0.mk (Kd.R_lower (Kd.R_new' ho0 (Kd.R_lt (by (with_reducible repeat (first | apply Kd.R_alloc | apply Kd.R_drewN | apply Kd.R_drew)); exact HO_12.out))) (below_size (by repeat (first | (with_reducible first | exact HB.out | apply below_alloc | apply pw_below_drewN | apply below_drew1) | exact HB.out)))); have n2_ := Aside0.mk (below_step (by repeat (first | (with_reducible first | exact HB.out | apply below_alloc | apply pw_below_drewN | apply below_drew1) | exact HB.out)) hb); clear HO_12; clear HB; have HO_12 := n0_; have HO539 := n1_; have HB := n2_; clear n0_ n1_ n2_; (try clear hb); (try clear hb2); (try clear hk); (try clear hi); (try clear ho0)) | (go_at_call 28; (with_reducible refine (fetch_Crossing.calls kj14 a0 _ _ l1 (rd t528 (ji29)) t540 t541 _ ?side1 ?side2 A33.out).mono ?_); (case side1 => repeat (first | exact (Kd.C_below HR1.out HB.out) | (with_reducible refine Kd.C_alloc ?_ _) | (with_reducible refine Kd.C_drewN ?_ _) | (with_reducible refine Kd.C_drew ?_))); (case side2 => exact HC1.out); rintro e w37 ⟨v542, rfl, ho0, hb⟩; have n0_ := Aside0.mk (Kd.R_elder' (by (with_reducible repeat (first | apply Kd.R_alloc | apply Kd.R_drewN | apply Kd.R_drew)); exact HO_12.out) (Kd.R_base ho0) hb); have n1_ := Aside0.mk (Kd.R_elder' (by (with_reducible repeat (first | apply Kd.R_alloc | apply Kd.R_drewN | apply Kd.R_drew)); exact HO539.out) (Kd.R_base ho0) hb); have n2_ := Aside0.mk (Kd.R_lower (Kd.R_new' (Kd.R_new' ho0 (Kd.R_lt (by (with_reducible repeat (first | apply Kd.R_alloc | apply Kd.R_drewN | apply Kd.R_drew)); exact HO_12.out))) (Kd.R_lt (by (with_reducible repeat (first | apply Kd.R_alloc | apply Kd.R_drewN | apply Kd.R_drew)); exact HO539.out))) (below_size (by repeat (first | (with_reducible first | exact HB.out | apply below_alloc | apply pw_below_drewN | apply below_drew1) | exact HB.out)))); have n3_ := Aside0.mk (below_step (by repeat (first | (with_reducible first | exact HB.out | apply below_alloc | apply pw_below_drewN | apply below_drew1) | exact HB.out)) hb); clear HO_12; clear HO539; clear HB; have HO_12 := n0_; have HO539 := n1_; have HO543 := n2_; have HB := n3_; clear n0_ n1_ n2_ n3_; (try clear hb); (try clear hb2); (try clear hk); (try clear hi); (try clear ho0))))
                      (try simp only [Act.put, List.setIfInBounds_toArray, List.set_cons_zero, List.set_cons_succ])
                      go_cut [138] (fun v138 wc => ∃ (kq : Nat) (x138_33 : Bool), v138 = .bool x138_33 ∧ Aside0 (trishawlaw09_FetchCrossed.j2 kq l1 l2 t532 (rd t528 (ji29)) t540 x138_33 = some r) ∧ Aside0 (kq ≤ kj14) ∧ Aside0 (Kd.R (Kd.int .i64) 3 wc w.heap.size (fun _ => True) v542 t540) ∧ Aside0 (Below w.heap.size w wc))
                      case first =>
                        have H := HC34.out
                        clear HC34
                        by_cases c38 : t537 = 0
                        · as_aux_lemma =>
                          rw [if_pos c38] at H
                          have c38b0 : (t537 == 0) = true := beq_iff_eq.mpr c38
                          have c38b1 : (t537 != 0) = false := bne_eq_false_iff_eq.mpr c38
                          clear c38
                          (first | rw [c38b0] | (simp only [i64_w, i32_w]; rw [c38b0]) | skip)
                          by_cases c39 : t541 = 0
                          · as_aux_lemma =>
                            rw [if_pos c39] at H
                            have c39b0 : (t541 == 0) = true := beq_iff_eq.mpr c39
                            have c39b1 : (t541 != 0) = false := bne_eq_false_iff_eq.mpr c39
                            clear c39
                            by_cases c40 : (t536.length : Int) = t525
                            · as_aux_lemma =>
                              rw [if_pos c40] at H
                              have c40b0 : ((t536.length : Int) == t525) = true := beq_iff_eq.mpr c40
                              have c40b1 : ((t536.length : Int) != t525) = false := bne_eq_false_iff_eq.mpr c40
                              clear c40
                              by_cases c41 : t525 < 1
                              · rw [if_pos c41] at H
                                have c41b0 : decide (t525 < 1) = true := decide_eq_true c41
                                clear c41
                                have H' := Aside0.mk H
                                clear H
                                obtain ⟨Ao42, co42, eo42⟩ := Kd.R_slice HO539.out
                                subst eo42
                                go_wp2
                                repeat (go_quiet (fail); try go_wp2)
                                go_meet
                                case rel => exact ⟨_, (true), (by first | rfl | (simp; done) | (simp [*]; done)), H', ⟨by have := HJ4.out; have := HJ14.out; first | omega | exact Nat.le_refl _⟩, ⟨by (with_reducible repeat (first | apply Kd.R_alloc | apply Kd.R_drewN | apply Kd.R_drew)); exact Kd.R_mono HO543.out (fun _ hk => trivial)⟩, ⟨by repeat (first | (with_reducible first | exact HB.out | apply below_alloc | apply pw_below_drewN | apply below_drew1) | exact HB.out)⟩⟩
                              · as_aux_lemma =>
                                rw [if_neg c41] at H
                                have c41b0 : decide (t525 < 1) = false := decide_eq_false c41
                                clear c41
                                by_cases c43 : (t540.length : Int) < t525
                                · rw [if_pos c43] at H
                                  have c43b0 : decide ((t540.length : Int) < t525) = true := decide_eq_true c43
                                  clear c43
                                  have H' := Aside0.mk H
                                  clear H
                                  obtain ⟨Ao44, co44, eo44⟩ := Kd.R_slice HO539.out
                                  subst eo44
                                  obtain ⟨Ao45, co45, eo45⟩ := Kd.R_slice HO543.out
                                  subst eo45
                                  go_wp2
                                  repeat (go_quiet (fail); try go_wp2)
                                  go_meet
                                  case rel => exact ⟨_, (true), (by first | rfl | (simp; done) | (simp [*]; done)), H', ⟨by have := HJ4.out; have := HJ14.out; first | omega | exact Nat.le_refl _⟩, ⟨by (with_reducible repeat (first | apply Kd.R_alloc | apply Kd.R_drewN | apply Kd.R_drew)); exact Kd.R_mono HO543.out (fun _ hk => trivial)⟩, ⟨by repeat (first | (with_reducible first | exact HB.out | apply below_alloc | apply pw_below_drewN | apply below_drew1) | exact HB.out)⟩⟩
                                · as_aux_lemma =>
                                  rw [if_neg c43] at H
                                  have c43b0 : decide ((t540.length : Int) < t525) = false := decide_eq_false c43
                                  clear c43
                                  by_cases c46 : (t540.length : Int) = t525
                                  · rw [if_pos c46] at H
                                    have c46b0 : ((t540.length : Int) == t525) = true := beq_iff_eq.mpr c46
                                    have c46b1 : ((t540.length : Int) != t525) = false := bne_eq_false_iff_eq.mpr c46
                                    clear c46
                                    have H' := Aside0.mk H
                                    clear H
                                    obtain ⟨Ao47, co47, eo47⟩ := Kd.R_slice HO539.out
                                    subst eo47
                                    obtain ⟨Ao48, co48, eo48⟩ := Kd.R_slice HO543.out
                                    subst eo48
                                    go_wp2
                                    repeat (go_quiet (fail); try go_wp2)
                                    go_meet
                                    case rel => exact ⟨_, (decide ((rd t528 (ji29)) < t526)), (by first | rfl | (simp; done) | (simp only [← hji29] <;> (first | rfl | simp)) | (simp [*]; done)), H', ⟨by have := HJ4.out; have := HJ14.out; first | omega | exact Nat.le_refl _⟩, ⟨by (with_reducible repeat (first | apply Kd.R_alloc | apply Kd.R_drewN | apply Kd.R_drew)); exact Kd.R_mono HO543.out (fun _ hk => trivial)⟩, ⟨by repeat (first | (with_reducible first | exact HB.out | apply below_alloc | apply pw_below_drewN | apply below_drew1) | exact HB.out)⟩⟩
                                  · rw [if_neg c46] at H
                                    have c46b0 : ((t540.length : Int) == t525) = false := beq_eq_false_iff_ne.mpr c46
                                    have c46b1 : ((t540.length : Int) != t525) = true := bne_iff_ne.mpr c46
                                    have H' := Aside0.mk H
                                    clear H
                                    obtain ⟨Ao49, co49, eo49⟩ := Kd.R_slice HO539.out
                                    subst eo49
                                    obtain ⟨Ao50, co50, eo50⟩ := Kd.R_slice HO543.out
                                    subst eo50
                                    go_wp2
                                    repeat (go_quiet (fail); try go_wp2)
                                    go_meet
                                    case rel => exact ⟨_, (false), (by first | rfl | (simp; done) | (simp [*]; done)), H', ⟨by have := HJ4.out; have := HJ14.out; first | omega | exact Nat.le_refl _⟩, ⟨by (with_reducible repeat (first | apply Kd.R_alloc | apply Kd.R_drewN | apply Kd.R_drew)); exact Kd.R_mono HO543.out (fun _ hk => trivial)⟩, ⟨by repeat (first | (with_reducible first | exact HB.out | apply below_alloc | apply pw_below_drewN | apply below_drew1) | exact HB.out)⟩⟩
                            · rw [if_neg c40] at H
                              have c40b0 : ((t536.length : Int) == t525) = false := beq_eq_false_iff_ne.mpr c40
                              have c40b1 : ((t536.length : Int) != t525) = true := bne_iff_ne.mpr c40
                              have H' := Aside0.mk H
                              clear H
                              obtain ⟨Ao51, co51, eo51⟩ := Kd.R_slice HO539.out
                              subst eo51
                              go_wp2
                              repeat (go_quiet (fail); try go_wp2)
                              go_meet
                              case rel => exact ⟨_, (true), (by first | rfl | (simp; done) | (simp [*]; done)), H', ⟨by have := HJ4.out; have := HJ14.out; first | omega | exact Nat.le_refl _⟩, ⟨by (with_reducible repeat (first | apply Kd.R_alloc | apply Kd.R_drewN | apply Kd.R_drew)); exact Kd.R_mono HO543.out (fun _ hk => trivial)⟩, ⟨by repeat (first | (with_reducible first | exact HB.out | apply below_alloc | apply pw_below_drewN | apply below_drew1) | exact HB.out)⟩⟩
                          · rw [if_neg c39] at H
                            have c39b0 : (t541 == 0) = false := beq_eq_false_iff_ne.mpr c39
                            have c39b1 : (t541 != 0) = true := bne_iff_ne.mpr c39
                            have H' := Aside0.mk H
                            clear H
                            go_wp2
                            repeat (go_quiet (fail); try go_wp2)
                            go_meet
                            case rel => exact ⟨_, (true), (by first | rfl | (simp; done) | (simp [*]; done)), H', ⟨by have := HJ4.out; have := HJ14.out; first | omega | exact Nat.le_refl _⟩, ⟨by (with_reducible repeat (first | apply Kd.R_alloc | apply Kd.R_drewN | apply Kd.R_drew)); exact Kd.R_mono HO543.out (fun _ hk => trivial)⟩, ⟨by repeat (first | (with_reducible first | exact HB.out | apply below_alloc | apply pw_below_drewN | apply below_drew1) | exact HB.out)⟩⟩
                        · rw [if_neg c38] at H
                          have c38b0 : (t537 == 0) = false := beq_eq_false_iff_ne.mpr c38
                          have c38b1 : (t537 != 0) = true := bne_iff_ne.mpr c38
                          (first | rw [c38b0] | (simp only [i64_w, i32_w]; rw [c38b0]) | skip)
                          have H' := Aside0.mk H
                          clear H
                          go_wp2
                          repeat (go_quiet (fail); try go_wp2)
                          go_meet
                          case rel => exact ⟨_, (true), (by first | rfl | (simp; done) | (simp [*]; done)), H', ⟨by have := HJ4.out; have := HJ14.out; first | omega | exact Nat.le_refl _⟩, ⟨by (with_reducible repeat (first | apply Kd.R_alloc | apply Kd.R_drewN | apply Kd.R_drew)); exact Kd.R_mono HO543.out (fun _ hk => trivial)⟩, ⟨by repeat (first | (with_reducible first | exact HB.out | apply below_alloc | apply pw_below_drewN | apply below_drew1) | exact HB.out)⟩⟩
                      case rest =>
                        clear HC34
                        try clear c1
                        try clear c2
                        try clear p2
                        try clear c3
                        try clear c4
                        try clear p5
                        try clear q5
                        try clear hx5
                        try clear p6
                        try clear c7
                        try clear c9
                        try clear c10
                        try clear c19
                        try clear c19b0
                        try clear c19b1
                        try clear c20
                        try clear c20b0
                        try clear c20b1
                        try clear c21
                        try clear c21b0
                        try clear c21b1
                        try clear c21b2
                        try clear c23
                        try clear c23b0
                        try clear c23b1
                        try clear c26
                        try clear c27
                        try clear c27b0
                        try clear c27b1
                        try clear c28
                        try clear c28b0
                        try clear c28b1
                        try clear c28b2
                        try clear c30
                        try clear c30b0
                        try clear c31
                        try clear c31b0
                        try clear c38
                        try clear c38b0
                        try clear c38b1
                        try clear c39
                        try clear c39b0
                        try clear c39b1
                        try clear c40
                        try clear c40b0
                        try clear c40b1
                        try clear c41
                        try clear c41b0
                        try clear c43
                        try clear c43b0
                        try clear c46
                        try clear c46b0
                        try clear c46b1
                        try clear hx535_0
                        try clear p2
                        try clear p535
                        try clear q535
                        obtain ⟨kq, x138_33, rfl, HA, HJ33, HO_18, HB⟩ := hcut
                        cases kq with
                        | zero => exact absurd HA.out (by simp [trishawlaw09_FetchCrossed.j2])
                        | succ kj33 =>
                          have H := HA.out
                          clear HA
                          simp only [trishawlaw09_FetchCrossed.j2] at H
                          by_cases c52 : x138_33 = true
                          · subst c52
                            have H1 : (some false) = some r := by rw [if_pos rfl] at H; exact H
                            clear H
                            have H := H1
                            clear H1
                            obtain rfl := Option.some.inj H
                            go_wp2
                            repeat (go_quiet (fail); try go_wp2)
                            go_ret
                            exact ⟨by first | rfl | (simp [errW_none, errW_some] <;> rfl) | (simp only [← hji29]; first | rfl | (simp [errW_none, errW_some] <;> rfl)) | (simp [*, errW_none, errW_some] <;> rfl), by repeat (first | (with_reducible first | exact HB.out | apply below_alloc | apply pw_below_drewN | apply below_drew1) | exact HB.out)⟩
                          · replace c52 := Bool.eq_false_iff.mpr c52
                            subst c52
                            have H1 : (trishawlaw09_FetchCrossed.l0 kj33 l1 l2 t532 (rd t528 (ji29)) t540 0) = some r := by rw [if_neg (show ¬ (false = true) by decide)] at H; exact H
                            clear H
                            have H := H1
                            clear H1
                            have H' := Aside0.mk H
                            clear H
                            go_wp2
                            repeat (go_quiet (fail); try go_wp2)
                            go_loopg [19] kj33 (fun kq v19 w' => ∃ (x19_4 : Int), v19 = .int .i64 x19_4 ∧ Aside0 (trishawlaw09_FetchCrossed.l0 kq l1 l2 t532 (rd t528 (ji29)) t540 x19_4 = some r) ∧ Aside0 (kq ≤ kj33) ∧ Aside0 (Kd.R (Kd.int .i64) 3 w' w.heap.size (fun _ => True) v542 t540) ∧ Aside0 (Below w.heap.size w w'))
                            case atStart => exact ⟨(0), (by first | rfl | (simp; done) | (simp [*]; done)), H', ⟨Nat.le_refl _⟩, ⟨by (with_reducible repeat (first | apply Kd.R_alloc | apply Kd.R_drewN | apply Kd.R_drew)); exact HO_18.out⟩, ⟨by repeat (first | (with_reducible first | exact HB.out | apply below_alloc | apply pw_below_drewN | apply below_drew1) | exact HB.out)⟩⟩
                            case round =>
                              clear H'
                              try clear c1
                              try clear c2
                              try clear p2
                              try clear c3
                              try clear c4
                              try clear c5
                              try clear p5
                              try clear q5
                              try clear hx5
                              try clear p6
                              try clear c7
                              try clear c9
                              try clear c10
                              try clear c19
                              try clear c19b0
                              try clear c19b1
                              try clear c20
                              try clear c20b0
                              try clear c20b1
                              try clear c21
                              try clear c21b0
                              try clear c21b1
                              try clear c21b2
                              try clear c23
                              try clear c23b0
                              try clear c23b1
                              try clear c26
                              try clear c27
                              try clear c27b0
                              try clear c27b1
                              try clear c28
                              try clear c28b0
                              try clear c28b1
                              try clear c28b2
                              try clear c30
                              try clear c30b0
                              try clear c31
                              try clear c31b0
                              try clear c38
                              try clear c38b0
                              try clear c38b1
                              try clear c39
                              try clear c39b0
                              try clear c39b1
                              try clear c40
                              try clear c40b0
                              try clear c40b1
                              try clear c41
                              try clear c41b0
                              try clear c43
                              try clear c43b0
                              try clear c46
                              try clear c46b0
                              try clear c46b1
                              try clear c52
                              try clear hx535_0
                              try clear p2
                              try clear p5
                              try clear p535
                              try clear p6
                              try clear q5
                              try clear q535
                              obtain ⟨x19_4, rfl, HA, HK4, HO_18, HB⟩ := hrel
                              cases gk with
                              | zero => exact absurd HA.out (by simp [trishawlaw09_FetchCrossed.l0])
                              | succ k4 =>
                                have H := HA.out
                                clear HA
                                simp only [trishawlaw09_FetchCrossed.l0] at H
                                by_cases c53 : x19_4 < (t540.length : Int)
                                · as_aux_lemma =>
                                  rw [if_pos c53] at H
                                  have c53b0 : decide (x19_4 < (t540.length : Int)) = true := decide_eq_true c53
                                  clear c53
                                  by_cases c54 : 0 ≤ x19_4
                                  · as_aux_lemma =>
                                    rw [if_pos c54] at H
                                    have c54b0 : decide (0 ≤ x19_4) = true := decide_eq_true c54
                                    clear c54
                                    by_cases c55 : (rd t540 x19_4) < 0
                                    · as_aux_lemma =>
                                      rw [if_pos c55] at H
                                      have c55b0 : decide ((rd t540 x19_4) < 0) = true := decide_eq_true c55
                                      clear c55
                                      obtain rfl := Option.some.inj H
                                      obtain ⟨Ao56, co56, eo56⟩ := Kd.R_slice HO_18.out
                                      subst eo56
                                      have p544 : 0 ≤ (x19_4 : Int) := of_decide_eq_true (by first | (with_reducible assumption) | assumption)
                                      have q544 : x19_4 < (t540.length : Int) := of_decide_eq_true (by first | (with_reducible assumption) | assumption)
                                      obtain ⟨ad544, e544, hx544_0⟩ := Kd.at_int (Kd.R_reads' HO_18.out).2.2 x19_4 p544 q544
                                      cases e544
                                      replace p544 := eq_true p544
                                      replace q544 := eq_true q544
                                      go_wp2
                                      repeat (go_quiet (fail); try go_wp2)
                                      go_ret
                                      exact ⟨by first | rfl | (simp [errW_none, errW_some] <;> rfl) | (simp only [← hji29]; first | rfl | (simp [errW_none, errW_some] <;> rfl)) | (simp [*, errW_none, errW_some] <;> rfl), by repeat (first | (with_reducible first | exact HB.out | apply below_alloc | apply pw_below_drewN | apply below_drew1) | exact HB.out)⟩
                                    · as_aux_lemma =>
                                      rw [if_neg c55] at H
                                      have c55b0 : decide ((rd t540 x19_4) < 0) = false := decide_eq_false c55
                                      clear c55
                                      by_cases c57 : (rd t540 x19_4) ≥ (l1.length : Int)
                                      · as_aux_lemma =>
                                        rw [if_pos c57] at H
                                        have c57b0 : decide ((l1.length : Int) ≤ (rd t540 x19_4)) = true := decide_eq_true c57
                                        clear c57
                                        obtain rfl := Option.some.inj H
                                        obtain ⟨Ao58, co58, eo58⟩ := Kd.R_slice HO_18.out
                                        subst eo58
                                        have p544 : 0 ≤ (x19_4 : Int) := of_decide_eq_true (by first | (with_reducible assumption) | assumption)
                                        have q544 : x19_4 < (t540.length : Int) := of_decide_eq_true (by first | (with_reducible assumption) | assumption)
                                        obtain ⟨ad544, e544, hx544_0⟩ := Kd.at_int (Kd.R_reads' HO_18.out).2.2 x19_4 p544 q544
                                        cases e544
                                        replace p544 := eq_true p544
                                        replace q544 := eq_true q544
                                        have p545 : 0 ≤ (x19_4 : Int) := of_decide_eq_true (by first | (with_reducible assumption) | assumption)
                                        have q545 : x19_4 < (t540.length : Int) := of_decide_eq_true (by first | (with_reducible assumption) | assumption)
                                        obtain ⟨ad545, e545, hx545_0⟩ := Kd.at_int (Kd.R_reads' HO_18.out).2.2 x19_4 p545 q545
                                        obtain rfl : ad544 = ad545 := (by injection e545)
                                        replace p545 := eq_true p545
                                        replace q545 := eq_true q545
                                        go_wp2
                                        repeat (go_quiet (fail); try go_wp2)
                                        go_ret
                                        exact ⟨by first | rfl | (simp [errW_none, errW_some] <;> rfl) | (simp only [← hji29]; first | rfl | (simp [errW_none, errW_some] <;> rfl)) | (simp [*, errW_none, errW_some] <;> rfl), by repeat (first | (with_reducible first | exact HB.out | apply below_alloc | apply pw_below_drewN | apply below_drew1) | exact HB.out)⟩
                                      · as_aux_lemma =>
                                        rw [if_neg c57] at H
                                        have c57b0 : decide ((l1.length : Int) ≤ (rd t540 x19_4)) = false := decide_eq_false c57
                                        clear c57
                                        by_cases c59 : 0 ≤ (rd t540 x19_4)
                                        · as_aux_lemma =>
                                          rw [if_pos c59] at H
                                          have c59b0 : decide (0 ≤ (rd t540 x19_4)) = true := decide_eq_true c59
                                          clear c59
                                          by_cases c60 : (rd t540 x19_4) < (l1.length : Int)
                                          · as_aux_lemma =>
                                            rw [if_pos c60] at H
                                            have c60b0 : decide ((rd t540 x19_4) < (l1.length : Int)) = true := decide_eq_true c60
                                            clear c60
                                            by_cases c61 : 0 ≤ ((rd_T34 l1 (rd t540 x19_4)).f0)
                                            · as_aux_lemma =>
                                              rw [if_pos c61] at H
                                              have c61b0 := eq_true c61
                                              have c61b1 : decide (0 ≤ ((rd_T34 l1 (rd t540 x19_4)).f0)) = true := decide_eq_true c61
                                              clear c61
                                              by_cases c62 : ((rd_T34 l1 (rd t540 x19_4)).f0) ≤ 64
                                              · as_aux_lemma =>
                                                rw [if_pos c62] at H
                                                have c62b0 := eq_true c62
                                                have c62b1 : decide (((rd_T34 l1 (rd t540 x19_4)).f0) ≤ 64) = true := decide_eq_true c62
                                                clear c62
                                                by_cases c63 : (Int.tmod ((rd t528 (ji29)) / 2 ^ ((rd_T34 l1 (rd t540 x19_4)).f0).toNat) 2) = 1
                                                · as_aux_lemma =>
                                                  rw [if_pos c63] at H
                                                  have c63b0 : ((Int.tmod ((rd t528 (ji29)) / 2 ^ ((rd_T34 l1 (rd t540 x19_4)).f0).toNat) 2) == 1) = true := beq_iff_eq.mpr c63
                                                  have c63b1 : ((Int.tmod ((rd t528 (ji29)) / 2 ^ ((rd_T34 l1 (rd t540 x19_4)).f0).toNat) 2) != 1) = false := bne_eq_false_iff_eq.mpr c63
                                                  clear c63
                                                  by_cases c64 : 0 ≤ ((rd_T34 l1 (rd t540 x19_4)).f1)
                                                  · as_aux_lemma =>
                                                    rw [if_pos c64] at H
                                                    have c64b0 := eq_true c64
                                                    have c64b1 : decide (0 ≤ ((rd_T34 l1 (rd t540 x19_4)).f1)) = true := decide_eq_true c64
                                                    clear c64
                                                    by_cases c65 : ((rd_T34 l1 (rd t540 x19_4)).f1) ≤ 64
                                                    · as_aux_lemma =>
                                                      rw [if_pos c65] at H
                                                      have c65b0 := eq_true c65
                                                      have c65b1 : decide (((rd_T34 l1 (rd t540 x19_4)).f1) ≤ 64) = true := decide_eq_true c65
                                                      clear c65
                                                      by_cases c66 : (Int.tmod ((rd t528 (ji29)) / 2 ^ ((rd_T34 l1 (rd t540 x19_4)).f1).toNat) 2) = 0
                                                      · as_aux_lemma =>
                                                        rw [if_pos c66] at H
                                                        have c66b0 : ((Int.tmod ((rd t528 (ji29)) / 2 ^ ((rd_T34 l1 (rd t540 x19_4)).f1).toNat) 2) == 0) = true := beq_iff_eq.mpr c66
                                                        have c66b1 : ((Int.tmod ((rd t528 (ji29)) / 2 ^ ((rd_T34 l1 (rd t540 x19_4)).f1).toNat) 2) != 0) = false := bne_eq_false_iff_eq.mpr c66
                                                        clear c66
                                                        have H' := Aside0.mk H
                                                        clear H
                                                        obtain ⟨Ao67, co67, eo67⟩ := Kd.R_slice HO_18.out
                                                        subst eo67
                                                        have p544 : 0 ≤ (x19_4 : Int) := of_decide_eq_true (by first | (with_reducible assumption) | assumption)
                                                        have q544 : x19_4 < (t540.length : Int) := of_decide_eq_true (by first | (with_reducible assumption) | assumption)
                                                        obtain ⟨ad544, e544, hx544_0⟩ := Kd.at_int (Kd.R_reads' HO_18.out).2.2 x19_4 p544 q544
                                                        cases e544
                                                        replace p544 := eq_true p544
                                                        replace q544 := eq_true q544
                                                        have p545 : 0 ≤ (x19_4 : Int) := of_decide_eq_true (by first | (with_reducible assumption) | assumption)
                                                        have q545 : x19_4 < (t540.length : Int) := of_decide_eq_true (by first | (with_reducible assumption) | assumption)
                                                        obtain ⟨ad545, e545, hx545_0⟩ := Kd.at_int (Kd.R_reads' HO_18.out).2.2 x19_4 p545 q545
                                                        obtain rfl : ad544 = ad545 := (by injection e545)
                                                        replace p545 := eq_true p545
                                                        replace q545 := eq_true q545
                                                        have p546 : 0 ≤ (x19_4 : Int) := of_decide_eq_true (by first | (with_reducible assumption) | assumption)
                                                        have q546 : x19_4 < (t540.length : Int) := of_decide_eq_true (by first | (with_reducible assumption) | assumption)
                                                        obtain ⟨ad546, e546, hx546_0⟩ := Kd.at_int (Kd.R_reads' HO_18.out).2.2 x19_4 p546 q546
                                                        obtain rfl : ad544 = ad546 := (by injection e546)
                                                        replace p546 := eq_true p546
                                                        replace q546 := eq_true q546
                                                        have p547 : 0 ≤ ((rd t540 x19_4) : Int) := of_decide_eq_true (by first | (with_reducible assumption) | assumption)
                                                        have q547 : (rd t540 x19_4) < (l1.length : Int) := of_decide_eq_true (by first | (with_reducible assumption) | assumption)
                                                        obtain ⟨ad547, e547, hx547_0, hx547_1⟩ := at_T34 HR1.out (rd t540 x19_4) p547 q547
                                                        cases e547
                                                        replace hx547_0 := (HB.out.cell (World.block_lt_of_cell? w _ hx547_0)).trans hx547_0
                                                        replace hx547_1 := (HB.out.cell (World.block_lt_of_cell? w _ hx547_1)).trans hx547_1
                                                        replace p547 := eq_true p547
                                                        replace q547 := eq_true q547
                                                        have p548 : 0 ≤ (x19_4 : Int) := of_decide_eq_true (by first | (with_reducible assumption) | assumption)
                                                        have q548 : x19_4 < (t540.length : Int) := of_decide_eq_true (by first | (with_reducible assumption) | assumption)
                                                        obtain ⟨ad548, e548, hx548_0⟩ := Kd.at_int (Kd.R_reads' HO_18.out).2.2 x19_4 p548 q548
                                                        obtain rfl : ad544 = ad548 := (by injection e548)
                                                        replace p548 := eq_true p548
                                                        replace q548 := eq_true q548
                                                        have p549 : 0 ≤ ((rd t540 x19_4) : Int) := of_decide_eq_true (by first | (with_reducible assumption) | assumption)
                                                        have q549 : (rd t540 x19_4) < (l1.length : Int) := of_decide_eq_true (by first | (with_reducible assumption) | assumption)
                                                        obtain ⟨ad549, e549, hx549_0, hx549_1⟩ := at_T34 HR1.out (rd t540 x19_4) p549 q549
                                                        obtain rfl : ad547 = ad549 := (by injection e549)
                                                        replace hx549_0 := (HB.out.cell (World.block_lt_of_cell? w _ hx549_0)).trans hx549_0
                                                        replace hx549_1 := (HB.out.cell (World.block_lt_of_cell? w _ hx549_1)).trans hx549_1
                                                        replace p549 := eq_true p549
                                                        replace q549 := eq_true q549
                                                        go_wp2
                                                        repeat (go_quiet (fail); try go_wp2)
                                                        go_roundg k4
                                                        case measure => have := HJ4.out; have := HJ14.out; have := HJ33.out; have := HK4.out; omega
                                                        case rel => exact ⟨(wrap64 (x19_4 + 1)), (by first | rfl | (simp; done) | (simp [*]; done)), H', ⟨by have := HJ4.out; have := HJ14.out; have := HJ33.out; have := HK4.out; omega⟩, ⟨by (with_reducible repeat (first | apply Kd.R_alloc | apply Kd.R_drewN | apply Kd.R_drew)); exact HO_18.out⟩, ⟨by repeat (first | (with_reducible first | exact HB.out | apply below_alloc | apply pw_below_drewN | apply below_drew1) | exact HB.out)⟩⟩
                                                      · as_aux_lemma =>
                                                        rw [if_neg c66] at H
                                                        have c66b0 : ((Int.tmod ((rd t528 (ji29)) / 2 ^ ((rd_T34 l1 (rd t540 x19_4)).f1).toNat) 2) == 0) = false := beq_eq_false_iff_ne.mpr c66
                                                        have c66b1 : ((Int.tmod ((rd t528 (ji29)) / 2 ^ ((rd_T34 l1 (rd t540 x19_4)).f1).toNat) 2) != 0) = true := bne_iff_ne.mpr c66
                                                        obtain rfl := Option.some.inj H
                                                        obtain ⟨Ao68, co68, eo68⟩ := Kd.R_slice HO_18.out
                                                        subst eo68
                                                        have p544 : 0 ≤ (x19_4 : Int) := of_decide_eq_true (by first | (with_reducible assumption) | assumption)
                                                        have q544 : x19_4 < (t540.length : Int) := of_decide_eq_true (by first | (with_reducible assumption) | assumption)
                                                        obtain ⟨ad544, e544, hx544_0⟩ := Kd.at_int (Kd.R_reads' HO_18.out).2.2 x19_4 p544 q544
                                                        cases e544
                                                        replace p544 := eq_true p544
                                                        replace q544 := eq_true q544
                                                        have p545 : 0 ≤ (x19_4 : Int) := of_decide_eq_true (by first | (with_reducible assumption) | assumption)
                                                        have q545 : x19_4 < (t540.length : Int) := of_decide_eq_true (by first | (with_reducible assumption) | assumption)
                                                        obtain ⟨ad545, e545, hx545_0⟩ := Kd.at_int (Kd.R_reads' HO_18.out).2.2 x19_4 p545 q545
                                                        obtain rfl : ad544 = ad545 := (by injection e545)
                                                        replace p545 := eq_true p545
                                                        replace q545 := eq_true q545
                                                        have p546 : 0 ≤ (x19_4 : Int) := of_decide_eq_true (by first | (with_reducible assumption) | assumption)
                                                        have q546 : x19_4 < (t540.length : Int) := of_decide_eq_true (by first | (with_reducible assumption) | assumption)
                                                        obtain ⟨ad546, e546, hx546_0⟩ := Kd.at_int (Kd.R_reads' HO_18.out).2.2 x19_4 p546 q546
                                                        obtain rfl : ad544 = ad546 := (by injection e546)
                                                        replace p546 := eq_true p546
                                                        replace q546 := eq_true q546
                                                        have p547 : 0 ≤ ((rd t540 x19_4) : Int) := of_decide_eq_true (by first | (with_reducible assumption) | assumption)
                                                        have q547 : (rd t540 x19_4) < (l1.length : Int) := of_decide_eq_true (by first | (with_reducible assumption) | assumption)
                                                        obtain ⟨ad547, e547, hx547_0, hx547_1⟩ := at_T34 HR1.out (rd t540 x19_4) p547 q547
                                                        cases e547
                                                        replace hx547_0 := (HB.out.cell (World.block_lt_of_cell? w _ hx547_0)).trans hx547_0
                                                        replace hx547_1 := (HB.out.cell (World.block_lt_of_cell? w _ hx547_1)).trans hx547_1
                                                        replace p547 := eq_true p547
                                                        replace q547 := eq_true q547
                                                        have p548 : 0 ≤ (x19_4 : Int) := of_decide_eq_true (by first | (with_reducible assumption) | assumption)
                                                        have q548 : x19_4 < (t540.length : Int) := of_decide_eq_true (by first | (with_reducible assumption) | assumption)
                                                        obtain ⟨ad548, e548, hx548_0⟩ := Kd.at_int (Kd.R_reads' HO_18.out).2.2 x19_4 p548 q548
                                                        obtain rfl : ad544 = ad548 := (by injection e548)
                                                        replace p548 := eq_true p548
                                                        replace q548 := eq_true q548
                                                        have p549 : 0 ≤ ((rd t540 x19_4) : Int) := of_decide_eq_true (by first | (with_reducible assumption) | assumption)
                                                        have q549 : (rd t540 x19_4) < (l1.length : Int) := of_decide_eq_true (by first | (with_reducible assumption) | assumption)
                                                        obtain ⟨ad549, e549, hx549_0, hx549_1⟩ := at_T34 HR1.out (rd t540 x19_4) p549 q549
                                                        obtain rfl : ad547 = ad549 := (by injection e549)
                                                        replace hx549_0 := (HB.out.cell (World.block_lt_of_cell? w _ hx549_0)).trans hx549_0
                                                        replace hx549_1 := (HB.out.cell (World.block_lt_of_cell? w _ hx549_1)).trans hx549_1
                                                        replace p549 := eq_true p549
                                                        replace q549 := eq_true q549
                                                        go_wp2
                                                        repeat (go_quiet (fail); try go_wp2)
                                                        go_ret
                                                        exact ⟨by first | rfl | (simp [errW_none, errW_some] <;> rfl) | (simp only [← hji29]; first | rfl | (simp [errW_none, errW_some] <;> rfl)) | (simp [*, errW_none, errW_some] <;> rfl), by repeat (first | (with_reducible first | exact HB.out | apply below_alloc | apply pw_below_drewN | apply below_drew1) | exact HB.out)⟩
                                                    · rw [if_neg c65] at H
                                                      exact absurd H (by simp)
                                                  · rw [if_neg c64] at H
                                                    exact absurd H (by simp)
                                                · as_aux_lemma =>
                                                  rw [if_neg c63] at H
                                                  have c63b0 : ((Int.tmod ((rd t528 (ji29)) / 2 ^ ((rd_T34 l1 (rd t540 x19_4)).f0).toNat) 2) == 1) = false := beq_eq_false_iff_ne.mpr c63
                                                  have c63b1 : ((Int.tmod ((rd t528 (ji29)) / 2 ^ ((rd_T34 l1 (rd t540 x19_4)).f0).toNat) 2) != 1) = true := bne_iff_ne.mpr c63
                                                  obtain rfl := Option.some.inj H
                                                  obtain ⟨Ao69, co69, eo69⟩ := Kd.R_slice HO_18.out
                                                  subst eo69
                                                  have p544 : 0 ≤ (x19_4 : Int) := of_decide_eq_true (by first | (with_reducible assumption) | assumption)
                                                  have q544 : x19_4 < (t540.length : Int) := of_decide_eq_true (by first | (with_reducible assumption) | assumption)
                                                  obtain ⟨ad544, e544, hx544_0⟩ := Kd.at_int (Kd.R_reads' HO_18.out).2.2 x19_4 p544 q544
                                                  cases e544
                                                  replace p544 := eq_true p544
                                                  replace q544 := eq_true q544
                                                  have p545 : 0 ≤ (x19_4 : Int) := of_decide_eq_true (by first | (with_reducible assumption) | assumption)
                                                  have q545 : x19_4 < (t540.length : Int) := of_decide_eq_true (by first | (with_reducible assumption) | assumption)
                                                  obtain ⟨ad545, e545, hx545_0⟩ := Kd.at_int (Kd.R_reads' HO_18.out).2.2 x19_4 p545 q545
                                                  obtain rfl : ad544 = ad545 := (by injection e545)
                                                  replace p545 := eq_true p545
                                                  replace q545 := eq_true q545
                                                  have p546 : 0 ≤ (x19_4 : Int) := of_decide_eq_true (by first | (with_reducible assumption) | assumption)
                                                  have q546 : x19_4 < (t540.length : Int) := of_decide_eq_true (by first | (with_reducible assumption) | assumption)
                                                  obtain ⟨ad546, e546, hx546_0⟩ := Kd.at_int (Kd.R_reads' HO_18.out).2.2 x19_4 p546 q546
                                                  obtain rfl : ad544 = ad546 := (by injection e546)
                                                  replace p546 := eq_true p546
                                                  replace q546 := eq_true q546
                                                  have p547 : 0 ≤ ((rd t540 x19_4) : Int) := of_decide_eq_true (by first | (with_reducible assumption) | assumption)
                                                  have q547 : (rd t540 x19_4) < (l1.length : Int) := of_decide_eq_true (by first | (with_reducible assumption) | assumption)
                                                  obtain ⟨ad547, e547, hx547_0, hx547_1⟩ := at_T34 HR1.out (rd t540 x19_4) p547 q547
                                                  cases e547
                                                  replace hx547_0 := (HB.out.cell (World.block_lt_of_cell? w _ hx547_0)).trans hx547_0
                                                  replace hx547_1 := (HB.out.cell (World.block_lt_of_cell? w _ hx547_1)).trans hx547_1
                                                  replace p547 := eq_true p547
                                                  replace q547 := eq_true q547
                                                  go_wp2
                                                  repeat (go_quiet (fail); try go_wp2)
                                                  go_ret
                                                  exact ⟨by first | rfl | (simp [errW_none, errW_some] <;> rfl) | (simp only [← hji29]; first | rfl | (simp [errW_none, errW_some] <;> rfl)) | (simp [*, errW_none, errW_some] <;> rfl), by repeat (first | (with_reducible first | exact HB.out | apply below_alloc | apply pw_below_drewN | apply below_drew1) | exact HB.out)⟩
                                              · rw [if_neg c62] at H
                                                exact absurd H (by simp)
                                            · rw [if_neg c61] at H
                                              exact absurd H (by simp)
                                          · rw [if_neg c60] at H
                                            exact absurd H (by simp)
                                        · rw [if_neg c59] at H
                                          exact absurd H (by simp)
                                  · rw [if_neg c54] at H
                                    exact absurd H (by simp)
                                · as_aux_lemma =>
                                  rw [if_neg c53] at H
                                  have c53b0 : decide (x19_4 < (t540.length : Int)) = false := decide_eq_false c53
                                  clear c53
                                  by_cases c70 : t532 = true
                                  · subst c70
                                    have H1 : (trishawlaw09_FetchCrossed.l1 k4 l2 t540 0) = some r := by rw [if_pos rfl] at H; exact H
                                    clear H
                                    have H := H1
                                    clear H1
                                    have H' := Aside0.mk H
                                    clear H
                                    obtain ⟨Ao71, co71, eo71⟩ := Kd.R_slice HO_18.out
                                    subst eo71
                                    go_wp2
                                    repeat (go_quiet (fail); try go_wp2)
                                    go_loopg [20] k4 (fun kq v20 w' => ∃ (x20_5 : Int), v20 = .int .i64 x20_5 ∧ Aside0 (trishawlaw09_FetchCrossed.l1 kq l2 t540 x20_5 = some r) ∧ Aside0 (kq ≤ k4) ∧ Aside0 (Kd.R (Kd.int .i64) 3 w' w.heap.size (fun _ => True) (.slice Ao71 t540.length co71) t540) ∧ Aside0 (Below w.heap.size w w'))
                                    case atStart => exact ⟨(0), (by first | rfl | (simp; done) | (simp [*]; done)), H', ⟨Nat.le_refl _⟩, ⟨by (with_reducible repeat (first | apply Kd.R_alloc | apply Kd.R_drewN | apply Kd.R_drew)); exact HO_18.out⟩, ⟨by repeat (first | (with_reducible first | exact HB.out | apply below_alloc | apply pw_below_drewN | apply below_drew1) | exact HB.out)⟩⟩
                                    case round =>
                                      clear H'
                                      try clear c1
                                      try clear c2
                                      try clear p2
                                      try clear c3
                                      try clear c4
                                      try clear c5
                                      try clear p5
                                      try clear q5
                                      try clear hx5
                                      try clear c6
                                      try clear p6
                                      try clear c7
                                      try clear c9
                                      try clear c10
                                      try clear c19
                                      try clear c19b0
                                      try clear c19b1
                                      try clear c20
                                      try clear c20b0
                                      try clear c20b1
                                      try clear c21
                                      try clear c21b0
                                      try clear c21b1
                                      try clear c21b2
                                      try clear c23
                                      try clear c23b0
                                      try clear c23b1
                                      try clear c26
                                      try clear c27
                                      try clear c27b0
                                      try clear c27b1
                                      try clear c28
                                      try clear c28b0
                                      try clear c28b1
                                      try clear c28b2
                                      try clear c30
                                      try clear c30b0
                                      try clear c31
                                      try clear c31b0
                                      try clear c38
                                      try clear c38b0
                                      try clear c38b1
                                      try clear c39
                                      try clear c39b0
                                      try clear c39b1
                                      try clear c40
                                      try clear c40b0
                                      try clear c40b1
                                      try clear c41
                                      try clear c41b0
                                      try clear c43
                                      try clear c43b0
                                      try clear c46
                                      try clear c46b0
                                      try clear c46b1
                                      try clear c52
                                      try clear c53
                                      try clear c53b0
                                      try clear p53
                                      try clear q53
                                      try clear hx53
                                      try clear c54
                                      try clear c54b0
                                      try clear p54
                                      try clear q54
                                      try clear hx54
                                      try clear c55
                                      try clear c55b0
                                      try clear c57
                                      try clear c57b0
                                      try clear c59
                                      try clear c59b0
                                      try clear c60
                                      try clear c60b0
                                      try clear c61
                                      try clear c61b0
                                      try clear c61b1
                                      try clear c62
                                      try clear c62b0
                                      try clear c62b1
                                      try clear c63
                                      try clear c63b0
                                      try clear c63b1
                                      try clear c64
                                      try clear c64b0
                                      try clear c64b1
                                      try clear p64
                                      try clear c65
                                      try clear c65b0
                                      try clear c65b1
                                      try clear c66
                                      try clear c66b0
                                      try clear c66b1
                                      try clear c70
                                      try clear hx535_0
                                      try clear hx544_0
                                      try clear hx545_0
                                      try clear hx546_0
                                      try clear hx547_0
                                      try clear hx547_1
                                      try clear hx548_0
                                      try clear hx549_0
                                      try clear hx549_1
                                      try clear p2
                                      try clear p5
                                      try clear p535
                                      try clear p544
                                      try clear p545
                                      try clear p546
                                      try clear p547
                                      try clear p548
                                      try clear p549
                                      try clear p6
                                      try clear q5
                                      try clear q535
                                      try clear q544
                                      try clear q545
                                      try clear q546
                                      try clear q547
                                      try clear q548
                                      try clear q549
                                      obtain ⟨x20_5, rfl, HA, HK5, HO_18, HB⟩ := hrel
                                      cases gk with
                                      | zero => exact absurd HA.out (by simp [trishawlaw09_FetchCrossed.l1])
                                      | succ k5 =>
                                        have H := HA.out
                                        clear HA
                                        simp only [trishawlaw09_FetchCrossed.l1] at H
                                        by_cases c72 : x20_5 < (t540.length : Int)
                                        · as_aux_lemma =>
                                          rw [if_pos c72] at H
                                          have c72b0 : decide (x20_5 < (t540.length : Int)) = true := decide_eq_true c72
                                          clear c72
                                          have H' := Aside0.mk H
                                          clear H
                                          go_wp2
                                          repeat (go_quiet (fail); try go_wp2)
                                          go_loopg [21] k5 (fun kq v21 w' => ∃ (x21_6 : Int), v21 = .int .i64 x21_6 ∧ Aside0 (trishawlaw09_FetchCrossed.l2 kq l2 t540 x20_5 x21_6 = some r) ∧ Aside0 (kq ≤ k5) ∧ Aside0 (Kd.R (Kd.int .i64) 3 w' w.heap.size (fun _ => True) (.slice Ao71 t540.length co71) t540) ∧ Aside0 (Below w.heap.size w w'))
                                          case atStart => exact ⟨(0), (by first | rfl | (simp; done) | (simp [*]; done)), H', ⟨Nat.le_refl _⟩, ⟨by (with_reducible repeat (first | apply Kd.R_alloc | apply Kd.R_drewN | apply Kd.R_drew)); exact HO_18.out⟩, ⟨by repeat (first | (with_reducible first | exact HB.out | apply below_alloc | apply pw_below_drewN | apply below_drew1) | exact HB.out)⟩⟩
                                          case round =>
                                            clear H'
                                            try clear c1
                                            try clear c2
                                            try clear p2
                                            try clear c3
                                            try clear c4
                                            try clear c5
                                            try clear p5
                                            try clear q5
                                            try clear hx5
                                            try clear c6
                                            try clear p6
                                            try clear c7
                                            try clear c9
                                            try clear c10
                                            try clear c19
                                            try clear c19b0
                                            try clear c19b1
                                            try clear c20
                                            try clear c20b0
                                            try clear c20b1
                                            try clear c21
                                            try clear c21b0
                                            try clear c21b1
                                            try clear c21b2
                                            try clear c23
                                            try clear c23b0
                                            try clear c23b1
                                            try clear c26
                                            try clear c27
                                            try clear c27b0
                                            try clear c27b1
                                            try clear c28
                                            try clear c28b0
                                            try clear c28b1
                                            try clear c28b2
                                            try clear c30
                                            try clear c30b0
                                            try clear c31
                                            try clear c31b0
                                            try clear c38
                                            try clear c38b0
                                            try clear c38b1
                                            try clear c39
                                            try clear c39b0
                                            try clear c39b1
                                            try clear c40
                                            try clear c40b0
                                            try clear c40b1
                                            try clear c41
                                            try clear c41b0
                                            try clear c43
                                            try clear c43b0
                                            try clear c46
                                            try clear c46b0
                                            try clear c46b1
                                            try clear c52
                                            try clear c53
                                            try clear c53b0
                                            try clear p53
                                            try clear q53
                                            try clear hx53
                                            try clear c54
                                            try clear c54b0
                                            try clear p54
                                            try clear q54
                                            try clear hx54
                                            try clear c55
                                            try clear c55b0
                                            try clear c57
                                            try clear c57b0
                                            try clear c59
                                            try clear c59b0
                                            try clear c60
                                            try clear c60b0
                                            try clear c61
                                            try clear c61b0
                                            try clear c61b1
                                            try clear c62
                                            try clear c62b0
                                            try clear c62b1
                                            try clear c63
                                            try clear c63b0
                                            try clear c63b1
                                            try clear c64
                                            try clear c64b0
                                            try clear c64b1
                                            try clear p64
                                            try clear c65
                                            try clear c65b0
                                            try clear c65b1
                                            try clear c66
                                            try clear c66b0
                                            try clear c66b1
                                            try clear c70
                                            try clear c72
                                            try clear c72b0
                                            try clear hx535_0
                                            try clear hx544_0
                                            try clear hx545_0
                                            try clear hx546_0
                                            try clear hx547_0
                                            try clear hx547_1
                                            try clear hx548_0
                                            try clear hx549_0
                                            try clear hx549_1
                                            try clear p2
                                            try clear p5
                                            try clear p53
                                            try clear p535
                                            try clear p54
                                            try clear p544
                                            try clear p545
                                            try clear p546
                                            try clear p547
                                            try clear p548
                                            try clear p549
                                            try clear p6
                                            try clear p64
                                            try clear q5
                                            try clear q53
                                            try clear q535
                                            try clear q54
                                            try clear q544
                                            try clear q545
                                            try clear q546
                                            try clear q547
                                            try clear q548
                                            try clear q549
                                            obtain ⟨x21_6, rfl, HA, HK6, HO_18, HB⟩ := hrel
                                            cases gk with
                                            | zero => exact absurd HA.out (by simp [trishawlaw09_FetchCrossed.l2])
                                            | succ k6 =>
                                              have H := HA.out
                                              clear HA
                                              simp only [trishawlaw09_FetchCrossed.l2] at H
                                              by_cases c73 : x21_6 < (l2.length : Int)
                                              · as_aux_lemma =>
                                                rw [if_pos c73] at H
                                                have c73b0 : decide (x21_6 < (l2.length : Int)) = true := decide_eq_true c73
                                                clear c73
                                                by_cases c74 : 0 ≤ x21_6
                                                · as_aux_lemma =>
                                                  rw [if_pos c74] at H
                                                  have c74b0 : decide (0 ≤ x21_6) = true := decide_eq_true c74
                                                  clear c74
                                                  by_cases c75 : 0 ≤ x20_5
                                                  · as_aux_lemma =>
                                                    rw [if_pos c75] at H
                                                    have c75b0 : decide (0 ≤ x20_5) = true := decide_eq_true c75
                                                    clear c75
                                                    by_cases c76 : x20_5 < (t540.length : Int)
                                                    · as_aux_lemma =>
                                                      rw [if_pos c76] at H
                                                      have c76b0 : decide (x20_5 < (t540.length : Int)) = true := decide_eq_true c76
                                                      clear c76
                                                      by_cases c77 : (rd l2 x21_6) = (rd t540 x20_5)
                                                      · as_aux_lemma =>
                                                        rw [if_pos c77] at H
                                                        have c77b0 : ((rd l2 x21_6) == (rd t540 x20_5)) = true := beq_iff_eq.mpr c77
                                                        have c77b1 : ((rd l2 x21_6) != (rd t540 x20_5)) = false := bne_eq_false_iff_eq.mpr c77
                                                        clear c77
                                                        replace H := Option.bind_eq_some_iff.mp H
                                                        obtain ⟨t553, A780, H⟩ := H
                                                        replace H : (some t553) = some r := H
                                                        have A78 := Aside0.mk A780
                                                        clear A780
                                                        obtain rfl := Option.some.inj H
                                                        have p551 : 0 ≤ (x21_6 : Int) := of_decide_eq_true (by first | (with_reducible assumption) | assumption)
                                                        have q551 : x21_6 < (l2.length : Int) := of_decide_eq_true (by first | (with_reducible assumption) | assumption)
                                                        obtain ⟨ad551, e551, hx551_0⟩ := Kd.at_int HR2.out x21_6 p551 q551
                                                        cases e551
                                                        replace hx551_0 := (HB.out.cell (World.block_lt_of_cell? w _ hx551_0)).trans hx551_0
                                                        replace p551 := eq_true p551
                                                        replace q551 := eq_true q551
                                                        have p552 : 0 ≤ (x20_5 : Int) := of_decide_eq_true (by first | (with_reducible assumption) | assumption)
                                                        have q552 : x20_5 < (t540.length : Int) := of_decide_eq_true (by first | (with_reducible assumption) | assumption)
                                                        obtain ⟨ad552, e552, hx552_0⟩ := Kd.at_int (Kd.R_reads' HO_18.out).2.2 x20_5 p552 q552
                                                        cases e552
                                                        replace p552 := eq_true p552
                                                        replace q552 := eq_true q552
                                                        go_wp2_with (first | (go_at_call 17; (with_reducible refine (trishawlaw09_alive.calls k6  t553 _ A78.out).mono ?_); rintro e w79 ⟨rfl, hb⟩; have n0_ := Aside0.mk (Kd.R_below (by (with_reducible repeat (first | apply Kd.R_alloc | apply Kd.R_drewN | apply Kd.R_drew)); exact HO_18.out) hb); have n1_ := Aside0.mk (below_step (by repeat (first | (with_reducible first | exact HB.out | apply below_alloc | apply pw_below_drewN | apply below_drew1) | exact HB.out)) hb); clear HO_18; clear HB; have HO_18 := n0_; have HB := n1_; clear n0_ n1_; (try clear hb); (try clear hb2); (try clear hk); (try clear hi)))
                                                        repeat (go_quiet (first | (go_at_call 17; (with_reducible refine (trishawlaw09_alive.calls k6  t553 _ A78.out).mono ?_); rintro e w79 ⟨rfl, hb⟩; have n0_ := Aside0.mk (Kd.R_below (by (with_reducible repeat (first | apply Kd.R_alloc | apply Kd.R_drewN | apply Kd.R_drew)); exact HO_18.out) hb); have n1_ := Aside0.mk (below_step (by repeat (first | (with_reducible first | exact HB.out | apply below_alloc | apply pw_below_drewN | apply below_drew1) | exact HB.out)) hb); clear HO_18; clear HB; have HO_18 := n0_; have HB := n1_; clear n0_ n1_; (try clear hb); (try clear hb2); (try clear hk); (try clear hi))); try go_wp2_with (first | (go_at_call 17; (with_reducible refine (trishawlaw09_alive.calls k6  t553 _ A78.out).mono ?_); rintro e w79 ⟨rfl, hb⟩; have n0_ := Aside0.mk (Kd.R_below (by (with_reducible repeat (first | apply Kd.R_alloc | apply Kd.R_drewN | apply Kd.R_drew)); exact HO_18.out) hb); have n1_ := Aside0.mk (below_step (by repeat (first | (with_reducible first | exact HB.out | apply below_alloc | apply pw_below_drewN | apply below_drew1) | exact HB.out)) hb); clear HO_18; clear HB; have HO_18 := n0_; have HB := n1_; clear n0_ n1_; (try clear hb); (try clear hb2); (try clear hk); (try clear hi))))
                                                        go_ret
                                                        exact ⟨by first | rfl | (simp [errW_none, errW_some] <;> rfl) | (simp only [← hji29]; first | rfl | (simp [errW_none, errW_some] <;> rfl)) | (simp [*, errW_none, errW_some] <;> rfl), by repeat (first | (with_reducible first | exact HB.out | apply below_alloc | apply pw_below_drewN | apply below_drew1) | exact HB.out)⟩
                                                      · as_aux_lemma =>
                                                        rw [if_neg c77] at H
                                                        have c77b0 : ((rd l2 x21_6) == (rd t540 x20_5)) = false := beq_eq_false_iff_ne.mpr c77
                                                        have c77b1 : ((rd l2 x21_6) != (rd t540 x20_5)) = true := bne_iff_ne.mpr c77
                                                        have H' := Aside0.mk H
                                                        clear H
                                                        have p551 : 0 ≤ (x21_6 : Int) := of_decide_eq_true (by first | (with_reducible assumption) | assumption)
                                                        have q551 : x21_6 < (l2.length : Int) := of_decide_eq_true (by first | (with_reducible assumption) | assumption)
                                                        obtain ⟨ad551, e551, hx551_0⟩ := Kd.at_int HR2.out x21_6 p551 q551
                                                        cases e551
                                                        replace hx551_0 := (HB.out.cell (World.block_lt_of_cell? w _ hx551_0)).trans hx551_0
                                                        replace p551 := eq_true p551
                                                        replace q551 := eq_true q551
                                                        have p552 : 0 ≤ (x20_5 : Int) := of_decide_eq_true (by first | (with_reducible assumption) | assumption)
                                                        have q552 : x20_5 < (t540.length : Int) := of_decide_eq_true (by first | (with_reducible assumption) | assumption)
                                                        obtain ⟨ad552, e552, hx552_0⟩ := Kd.at_int (Kd.R_reads' HO_18.out).2.2 x20_5 p552 q552
                                                        cases e552
                                                        replace p552 := eq_true p552
                                                        replace q552 := eq_true q552
                                                        go_wp2
                                                        repeat (go_quiet (fail); try go_wp2)
                                                        go_roundg k6
                                                        case measure => have := HJ4.out; have := HJ14.out; have := HJ33.out; have := HK4.out; have := HK5.out; have := HK6.out; omega
                                                        case rel => exact ⟨(wrap64 (x21_6 + 1)), (by first | rfl | (simp; done) | (simp [*]; done)), H', ⟨by have := HJ4.out; have := HJ14.out; have := HJ33.out; have := HK4.out; have := HK5.out; have := HK6.out; omega⟩, ⟨by (with_reducible repeat (first | apply Kd.R_alloc | apply Kd.R_drewN | apply Kd.R_drew)); exact HO_18.out⟩, ⟨by repeat (first | (with_reducible first | exact HB.out | apply below_alloc | apply pw_below_drewN | apply below_drew1) | exact HB.out)⟩⟩
                                                    · rw [if_neg c76] at H
                                                      exact absurd H (by simp)
                                                  · rw [if_neg c75] at H
                                                    exact absurd H (by simp)
                                                · rw [if_neg c74] at H
                                                  exact absurd H (by simp)
                                              · rw [if_neg c73] at H
                                                have c73b0 : decide (x21_6 < (l2.length : Int)) = false := decide_eq_false c73
                                                clear c73
                                                have H' := Aside0.mk H
                                                clear H
                                                go_wp2
                                                repeat (go_quiet (fail); try go_wp2)
                                                go_roundg k6
                                                case measure => have := HJ4.out; have := HJ14.out; have := HJ33.out; have := HK4.out; have := HK5.out; have := HK6.out; omega
                                                case rel => exact ⟨(wrap64 (x20_5 + 1)), (by first | rfl | (simp; done) | (simp [*]; done)), H', ⟨by have := HJ4.out; have := HJ14.out; have := HJ33.out; have := HK4.out; have := HK5.out; have := HK6.out; omega⟩, ⟨by (with_reducible repeat (first | apply Kd.R_alloc | apply Kd.R_drewN | apply Kd.R_drew)); exact HO_18.out⟩, ⟨by repeat (first | (with_reducible first | exact HB.out | apply below_alloc | apply pw_below_drewN | apply below_drew1) | exact HB.out)⟩⟩
                                        · rw [if_neg c72] at H
                                          have c72b0 : decide (x20_5 < (t540.length : Int)) = false := decide_eq_false c72
                                          clear c72
                                          obtain rfl := Option.some.inj H
                                          go_wp2
                                          repeat (go_quiet (fail); try go_wp2)
                                          go_ret
                                          exact ⟨by first | rfl | (simp [errW_none, errW_some] <;> rfl) | (simp only [← hji29]; first | rfl | (simp [errW_none, errW_some] <;> rfl)) | (simp [*, errW_none, errW_some] <;> rfl), by repeat (first | (with_reducible first | exact HB.out | apply below_alloc | apply pw_below_drewN | apply below_drew1) | exact HB.out)⟩
                                  · replace c70 := Bool.eq_false_iff.mpr c70
                                    subst c70
                                    have H1 : ((trishawlaw09_alive.f k4).bind fun t550 => (some t550)) = some r := by rw [if_neg (show ¬ (false = true) by decide)] at H; exact H
                                    clear H
                                    have H := H1
                                    clear H1
                                    replace H := Option.bind_eq_some_iff.mp H
                                    obtain ⟨t550, A800, H⟩ := H
                                    replace H : (some t550) = some r := H
                                    have A80 := Aside0.mk A800
                                    clear A800
                                    obtain rfl := Option.some.inj H
                                    obtain ⟨Ao81, co81, eo81⟩ := Kd.R_slice HO_18.out
                                    subst eo81
                                    go_wp2_with (first | (go_at_call 17; (with_reducible refine (trishawlaw09_alive.calls k4  t550 _ A80.out).mono ?_); rintro e w82 ⟨rfl, hb⟩; have n0_ := Aside0.mk (Kd.R_below (by (with_reducible repeat (first | apply Kd.R_alloc | apply Kd.R_drewN | apply Kd.R_drew)); exact HO_18.out) hb); have n1_ := Aside0.mk (below_step (by repeat (first | (with_reducible first | exact HB.out | apply below_alloc | apply pw_below_drewN | apply below_drew1) | exact HB.out)) hb); clear HO_18; clear HB; have HO_18 := n0_; have HB := n1_; clear n0_ n1_; (try clear hb); (try clear hb2); (try clear hk); (try clear hi)))
                                    repeat (go_quiet (first | (go_at_call 17; (with_reducible refine (trishawlaw09_alive.calls k4  t550 _ A80.out).mono ?_); rintro e w82 ⟨rfl, hb⟩; have n0_ := Aside0.mk (Kd.R_below (by (with_reducible repeat (first | apply Kd.R_alloc | apply Kd.R_drewN | apply Kd.R_drew)); exact HO_18.out) hb); have n1_ := Aside0.mk (below_step (by repeat (first | (with_reducible first | exact HB.out | apply below_alloc | apply pw_below_drewN | apply below_drew1) | exact HB.out)) hb); clear HO_18; clear HB; have HO_18 := n0_; have HB := n1_; clear n0_ n1_; (try clear hb); (try clear hb2); (try clear hk); (try clear hi))); try go_wp2_with (first | (go_at_call 17; (with_reducible refine (trishawlaw09_alive.calls k4  t550 _ A80.out).mono ?_); rintro e w82 ⟨rfl, hb⟩; have n0_ := Aside0.mk (Kd.R_below (by (with_reducible repeat (first | apply Kd.R_alloc | apply Kd.R_drewN | apply Kd.R_drew)); exact HO_18.out) hb); have n1_ := Aside0.mk (below_step (by repeat (first | (with_reducible first | exact HB.out | apply below_alloc | apply pw_below_drewN | apply below_drew1) | exact HB.out)) hb); clear HO_18; clear HB; have HO_18 := n0_; have HB := n1_; clear n0_ n1_; (try clear hb); (try clear hb2); (try clear hk); (try clear hi))))
                                    go_ret
                                    exact ⟨by first | rfl | (simp [errW_none, errW_some] <;> rfl) | (simp only [← hji29]; first | rfl | (simp [errW_none, errW_some] <;> rfl)) | (simp [*, errW_none, errW_some] <;> rfl), by repeat (first | (with_reducible first | exact HB.out | apply below_alloc | apply pw_below_drewN | apply below_drew1) | exact HB.out)⟩
                    · rw [if_neg c31] at H
                      exact absurd H (by simp)
                  · rw [if_neg c30] at H
                    exact absurd H (by simp)
              · as_aux_lemma =>
                rw [if_neg c27] at H
                have c27b0 : (t527 == 0) = false := beq_eq_false_iff_ne.mpr c27
                have c27b1 : (t527 != 0) = true := bne_iff_ne.mpr c27
                by_cases c83 : (wrap64 (t525 + t526)) = 0
                · rw [if_pos c83] at H
                  have c83b0 : ((wrap64 (t525 + t526)) == 0) = true := beq_iff_eq.mpr c83
                  have c83b1 : ((wrap64 (t525 + t526)) != 0) = false := bne_eq_false_iff_eq.mpr c83
                  clear c83
                  replace H := Option.bind_eq_some_iff.mp H
                  obtain ⟨t534, A840, H⟩ := H
                  replace H : (some t534) = some r := H
                  have A84 := Aside0.mk A840
                  clear A840
                  obtain rfl := Option.some.inj H
                  go_wp2_with (first | (go_at_call 17; (with_reducible refine (trishawlaw09_alive.calls kj14  t534 _ A84.out).mono ?_); rintro e w85 ⟨rfl, hb⟩; have n0_ := Aside0.mk (Kd.R_below (by (with_reducible repeat (first | apply Kd.R_alloc | apply Kd.R_drewN | apply Kd.R_drew)); exact HO_12.out) hb); have n1_ := Aside0.mk (below_step (by repeat (first | (with_reducible first | exact HB.out | apply below_alloc | apply pw_below_drewN | apply below_drew1) | exact HB.out)) hb); clear HO_12; clear HB; have HO_12 := n0_; have HB := n1_; clear n0_ n1_; (try clear hb); (try clear hb2); (try clear hk); (try clear hi)))
                  repeat (go_quiet (first | (go_at_call 17; (with_reducible refine (trishawlaw09_alive.calls kj14  t534 _ A84.out).mono ?_); rintro e w85 ⟨rfl, hb⟩; have n0_ := Aside0.mk (Kd.R_below (by (with_reducible repeat (first | apply Kd.R_alloc | apply Kd.R_drewN | apply Kd.R_drew)); exact HO_12.out) hb); have n1_ := Aside0.mk (below_step (by repeat (first | (with_reducible first | exact HB.out | apply below_alloc | apply pw_below_drewN | apply below_drew1) | exact HB.out)) hb); clear HO_12; clear HB; have HO_12 := n0_; have HB := n1_; clear n0_ n1_; (try clear hb); (try clear hb2); (try clear hk); (try clear hi))); try go_wp2_with (first | (go_at_call 17; (with_reducible refine (trishawlaw09_alive.calls kj14  t534 _ A84.out).mono ?_); rintro e w85 ⟨rfl, hb⟩; have n0_ := Aside0.mk (Kd.R_below (by (with_reducible repeat (first | apply Kd.R_alloc | apply Kd.R_drewN | apply Kd.R_drew)); exact HO_12.out) hb); have n1_ := Aside0.mk (below_step (by repeat (first | (with_reducible first | exact HB.out | apply below_alloc | apply pw_below_drewN | apply below_drew1) | exact HB.out)) hb); clear HO_12; clear HB; have HO_12 := n0_; have HB := n1_; clear n0_ n1_; (try clear hb); (try clear hb2); (try clear hk); (try clear hi))))
                  go_ret
                  exact ⟨by first | rfl | (simp [errW_none, errW_some] <;> rfl) | (simp [*, errW_none, errW_some] <;> rfl), by repeat (first | (with_reducible first | exact HB.out | apply below_alloc | apply pw_below_drewN | apply below_drew1) | exact HB.out)⟩
                · rw [if_neg c83] at H
                  have c83b0 : ((wrap64 (t525 + t526)) == 0) = false := beq_eq_false_iff_ne.mpr c83
                  have c83b1 : ((wrap64 (t525 + t526)) != 0) = true := bne_iff_ne.mpr c83
                  obtain rfl := Option.some.inj H
                  go_wp2
                  repeat (go_quiet (fail); try go_wp2)
                  go_ret
                  exact ⟨by first | rfl | (simp [errW_none, errW_some] <;> rfl) | (simp [*, errW_none, errW_some] <;> rfl), by repeat (first | (with_reducible first | exact HB.out | apply below_alloc | apply pw_below_drewN | apply below_drew1) | exact HB.out)⟩
end Go.Proofs.Ytjbfbdanbpfplaa.OAll
