/- A part of the proof of 'fetchLucchesi_holds', for every input, without a condition. -/
import Derived.Test.YtjbfbdanbpfplaaSLOAllx0
import Derived.Test.YtjbfbdanbpfplaaSLOAllx1
import Derived.Test.YtjbfbdanbpfplaaSLOAllx6
import Derived.Test.YtjbfbdanbpfplaaSLOAllx7
import Derived.Test.YtjbfbdanbpfplaaSLOAllx8
import Derived.Test.YtjbfbdanbpfplaaSLOAllx9
import Derived.Test.YtjbfbdanbpfplaaSLOAllx13
import Derived.Test.YtjbfbdanbpfplaaSLOAllx14
namespace Go.Proofs.Ytjbfbdanbpfplaa.OAll
open Go.RowKit Go.Proofs.YtjbfbdanbpfplaaW.PrintWords Go.Proofs.YtjbfbdanbpfplaaW.PrintLast Go.Proofs.YtjbfbdanbpfplaaW.PrintMore
attribute [local go_sem] max2_int min2_int max_two min_two max_three min_three max_four min_four
set_option linter.unusedVariables false
set_option linter.unusedSimpArgs false
attribute [local go_sem high] eqA34
def trishawref09_Smallest.l0 : Nat → List (S34) → List Int → Int → Int → Int → Option (Int × Int × Int)
  | 0, _, _, _, _, _ => none
  | k + 1, x1, x8, x9, x10, x11 => if x11 < (x8.length : Int) then (if 0 ≤ x11 then ((trishawref09_crossing.f k x1 (rd x8 x11)).bind fun t470 => ((trishawref09_Members.f k t470).bind fun t471 => (if (t471.length : Int) < x9 then (trishawref09_Smallest.l0 k x1 x8 (t471.length : Int) (rd x8 x11) (wrap64 (x11 + 1))) else (trishawref09_Smallest.l0 k x1 x8 x9 x10 (wrap64 (x11 + 1)))))) else (none)) else (some (x9, x10, 0))
def trishawref09_Smallest.f (k : Nat) (a0 : Int) (l1 : List (S34)) : Option (Int × Int × Int) := (trishawref09_Quarter.f k a0 l1).bind fun t465 => (if t465 = 0 then ((trishawref09_cuts.f k a0 l1).bind fun t466 => (if (t466.length : Int) = 0 then (some (0, 0, 10)) else (trishawref09_Smallest.l0 k l1 t466 (wrap64 ((l1.length : Int) + 1)) 0 0))) else (some (0, 0, t465)))
theorem trishawref09_Smallest.mono_l : ∀ k, (∀ y0 y1 y2 y3 y4, LeO (trishawref09_Smallest.l0 k y0 y1 y2 y3 y4) (trishawref09_Smallest.l0 (k + 1) y0 y1 y2 y3 y4))
  | 0 => fun _ _ _ _ _ r h => by simp [trishawref09_Smallest.l0] at h
  | k + 1 => by
    have ih0 := trishawref09_Smallest.mono_l k
    · intro y0 y1 y2 y3 y4
      unfold trishawref09_Smallest.l0
      repeat' first
      | (with_reducible exact ih0 _ _ _ _ _)
      | (with_reducible exact trishawref09_Members.mono _ _)
      | (with_reducible exact trishawref09_Quarter.mono _ _ _)
      | (with_reducible exact trishawref09_crossing.mono _ _ _)
      | (with_reducible exact trishawref09_cuts.mono _ _ _)
      | (with_reducible exact LeO.refl _)
      | (with_reducible exact LeO.none _)
      | (with_reducible refine LeO.ite ?_ ?_)
      | (with_reducible refine LeO.bind ?_ (fun _ => ?_))
      | exact ih0 _ _ _ _ _
      | exact trishawref09_Members.mono _ _
      | exact trishawref09_Quarter.mono _ _ _
      | exact trishawref09_crossing.mono _ _ _
      | exact trishawref09_cuts.mono _ _ _
      | exact LeO.none _
      | refine LeO.ite ?_ ?_
      | refine LeO.bind ?_ (fun _ => ?_)
theorem trishawref09_Smallest.mono : ∀ a0 a1 k, LeO (trishawref09_Smallest.f k a0 a1) (trishawref09_Smallest.f (k + 1) a0 a1) := by
  intro a0 a1 k
  have ih0 := trishawref09_Smallest.mono_l k
  unfold trishawref09_Smallest.f
  repeat' first
      | (with_reducible exact ih0 _ _ _ _ _)
      | (with_reducible exact trishawref09_Members.mono _ _)
      | (with_reducible exact trishawref09_Quarter.mono _ _ _)
      | (with_reducible exact trishawref09_crossing.mono _ _ _)
      | (with_reducible exact trishawref09_cuts.mono _ _ _)
      | (with_reducible exact LeO.refl _)
      | (with_reducible exact LeO.none _)
      | (with_reducible refine LeO.ite ?_ ?_)
      | (with_reducible refine LeO.bind ?_ (fun _ => ?_))
      | exact ih0 _ _ _ _ _
      | exact trishawref09_Members.mono _ _
      | exact trishawref09_Quarter.mono _ _ _
      | exact trishawref09_crossing.mono _ _ _
      | exact trishawref09_cuts.mono _ _ _
      | exact LeO.none _
      | refine LeO.ite ?_ ?_
      | refine LeO.bind ?_ (fun _ => ?_)
mutual
def trishawlaw09_FetchCuts.j0 : Nat → Int → List (S34) → Int → List (S34) → Bool → Option (Bool)
  | 0, _, _, _, _, _ => none
  | k + 1, x0, x1, x2, x7, x44 => if x44 = true then (some false) else ((fetch_Crossing.f k x0 x7 x2).bind fun bt492 => ((trishawref09_Crossing.f k x0 x1 x2).bind fun bt496 => ((trishawlaw09_same.f k bt492.1 bt496.1).bind fun t500 => (if t500 = true then (trishawlaw09_FetchCuts.j1 k x0 x1 x7 (bt492.2 != bt496.2)) else (trishawlaw09_FetchCuts.j1 k x0 x1 x7 true)))))
def trishawlaw09_FetchCuts.j1 : Nat → Int → List (S34) → List (S34) → Bool → Option (Bool)
  | 0, _, _, _, _ => none
  | k + 1, x0, x1, x7, x67 => if x67 = true then (some false) else ((fetch_Smallest.f k x0 x7).bind fun bt501 => ((trishawref09_Smallest.f k x0 x1).bind fun bt504 => (trishawlaw09_FetchCuts.l0 k x1 x7 bt501.2.2 bt504.2.2 bt501.1 bt501.2.1 bt504.1 bt504.2.1 0)))
def trishawlaw09_FetchCuts.l0 : Nat → List (S34) → List (S34) → Int → Int → Int → Int → Int → Int → Int → Option (Bool)
  | 0, _, _, _, _, _, _, _, _, _ => none
  | k + 1, x1, x7, x9, x11, x12, x13, x14, x15, x16 => if x16 < (x1.length : Int) then (if 0 ≤ x16 then (if x16 < (x7.length : Int) then (if (!(((rd_T34 x7 x16).f0) == ((rd_T34 x1 x16).f0)) || (!(((rd_T34 x7 x16).f1) == ((rd_T34 x1 x16).f1)))) = true then (some false) else (trishawlaw09_FetchCuts.l0 k x1 x7 x9 x11 x12 x13 x14 x15 (wrap64 (x16 + 1)))) else (none)) else (none)) else (if x12 = x14 then (if x13 = x15 then (if x9 = x11 then ((trishawlaw09_alive.f k).bind fun t509 => (some t509)) else (some false)) else (some false)) else (some false))
end
def trishawlaw09_FetchCuts.f (k : Nat) (a0 : Int) (l1 : List (S34)) (a2 : Int) : Option (Bool) := (trishawlaw09_few.f l1 ([] : List Int)).bind fun t475 => (if t475 = true then ((some (([] : List (S34)) : List (S34))).bind fun y477 => (if y477.length + l1.length < 8796093022208 then ((some (y477 ++ l1 : List (S34))).bind fun y480 => ((fetch_Cuts.f k a0 y480).bind fun bt483 => ((trishawref09_Cuts.f k a0 l1).bind fun bt487 => ((trishawlaw09_same.f k bt483.1 bt487.1).bind fun t491 => (if t491 = true then (trishawlaw09_FetchCuts.j0 k a0 l1 a2 y480 (bt483.2 != bt487.2)) else (trishawlaw09_FetchCuts.j0 k a0 l1 a2 y480 true)))))) else (none))) else ((trishawlaw09_alive.f k).bind fun t476 => (some t476)))
theorem trishawlaw09_FetchCuts.mono_l : ∀ k, (∀ y0 y1 y2 y3 y4, LeO (trishawlaw09_FetchCuts.j0 k y0 y1 y2 y3 y4) (trishawlaw09_FetchCuts.j0 (k + 1) y0 y1 y2 y3 y4)) ∧ (∀ y0 y1 y2 y3, LeO (trishawlaw09_FetchCuts.j1 k y0 y1 y2 y3) (trishawlaw09_FetchCuts.j1 (k + 1) y0 y1 y2 y3)) ∧ (∀ y0 y1 y2 y3 y4 y5 y6 y7 y8, LeO (trishawlaw09_FetchCuts.l0 k y0 y1 y2 y3 y4 y5 y6 y7 y8) (trishawlaw09_FetchCuts.l0 (k + 1) y0 y1 y2 y3 y4 y5 y6 y7 y8))
  | 0 => ⟨fun _ _ _ _ _ r h => by simp [trishawlaw09_FetchCuts.j0] at h, fun _ _ _ _ r h => by simp [trishawlaw09_FetchCuts.j1] at h, fun _ _ _ _ _ _ _ _ _ r h => by simp [trishawlaw09_FetchCuts.l0] at h⟩
  | k + 1 => by
    obtain ⟨ih0, ih1, ih2⟩ := trishawlaw09_FetchCuts.mono_l k
    refine ⟨?_, ?_, ?_⟩
    · intro y0 y1 y2 y3 y4
      unfold trishawlaw09_FetchCuts.j0
      repeat' first
      | (with_reducible exact ih0 _ _ _ _ _)
      | (with_reducible exact ih1 _ _ _ _)
      | (with_reducible exact ih2 _ _ _ _ _ _ _ _ _)
      | (with_reducible exact fetch_Crossing.mono _ _ _ _)
      | (with_reducible exact fetch_Cuts.mono _ _ _)
      | (with_reducible exact fetch_Smallest.mono _ _ _)
      | (with_reducible exact trishawlaw09_alive.mono _)
      | (with_reducible exact trishawlaw09_same.mono _ _ _)
      | (with_reducible exact trishawref09_Crossing.mono _ _ _ _)
      | (with_reducible exact trishawref09_Cuts.mono _ _ _)
      | (with_reducible exact trishawref09_Smallest.mono _ _ _)
      | (with_reducible exact LeO.refl _)
      | (with_reducible exact LeO.none _)
      | (with_reducible refine LeO.ite ?_ ?_)
      | (with_reducible refine LeO.bind ?_ (fun _ => ?_))
      | exact ih0 _ _ _ _ _
      | exact ih1 _ _ _ _
      | exact ih2 _ _ _ _ _ _ _ _ _
      | exact fetch_Crossing.mono _ _ _ _
      | exact fetch_Cuts.mono _ _ _
      | exact fetch_Smallest.mono _ _ _
      | exact trishawlaw09_alive.mono _
      | exact trishawlaw09_same.mono _ _ _
      | exact trishawref09_Crossing.mono _ _ _ _
      | exact trishawref09_Cuts.mono _ _ _
      | exact trishawref09_Smallest.mono _ _ _
      | exact LeO.none _
      | refine LeO.ite ?_ ?_
      | refine LeO.bind ?_ (fun _ => ?_)
    · intro y0 y1 y2 y3
      unfold trishawlaw09_FetchCuts.j1
      repeat' first
      | (with_reducible exact ih0 _ _ _ _ _)
      | (with_reducible exact ih1 _ _ _ _)
      | (with_reducible exact ih2 _ _ _ _ _ _ _ _ _)
      | (with_reducible exact fetch_Crossing.mono _ _ _ _)
      | (with_reducible exact fetch_Cuts.mono _ _ _)
      | (with_reducible exact fetch_Smallest.mono _ _ _)
      | (with_reducible exact trishawlaw09_alive.mono _)
      | (with_reducible exact trishawlaw09_same.mono _ _ _)
      | (with_reducible exact trishawref09_Crossing.mono _ _ _ _)
      | (with_reducible exact trishawref09_Cuts.mono _ _ _)
      | (with_reducible exact trishawref09_Smallest.mono _ _ _)
      | (with_reducible exact LeO.refl _)
      | (with_reducible exact LeO.none _)
      | (with_reducible refine LeO.ite ?_ ?_)
      | (with_reducible refine LeO.bind ?_ (fun _ => ?_))
      | exact ih0 _ _ _ _ _
      | exact ih1 _ _ _ _
      | exact ih2 _ _ _ _ _ _ _ _ _
      | exact fetch_Crossing.mono _ _ _ _
      | exact fetch_Cuts.mono _ _ _
      | exact fetch_Smallest.mono _ _ _
      | exact trishawlaw09_alive.mono _
      | exact trishawlaw09_same.mono _ _ _
      | exact trishawref09_Crossing.mono _ _ _ _
      | exact trishawref09_Cuts.mono _ _ _
      | exact trishawref09_Smallest.mono _ _ _
      | exact LeO.none _
      | refine LeO.ite ?_ ?_
      | refine LeO.bind ?_ (fun _ => ?_)
    · intro y0 y1 y2 y3 y4 y5 y6 y7 y8
      unfold trishawlaw09_FetchCuts.l0
      repeat' first
      | (with_reducible exact ih0 _ _ _ _ _)
      | (with_reducible exact ih1 _ _ _ _)
      | (with_reducible exact ih2 _ _ _ _ _ _ _ _ _)
      | (with_reducible exact fetch_Crossing.mono _ _ _ _)
      | (with_reducible exact fetch_Cuts.mono _ _ _)
      | (with_reducible exact fetch_Smallest.mono _ _ _)
      | (with_reducible exact trishawlaw09_alive.mono _)
      | (with_reducible exact trishawlaw09_same.mono _ _ _)
      | (with_reducible exact trishawref09_Crossing.mono _ _ _ _)
      | (with_reducible exact trishawref09_Cuts.mono _ _ _)
      | (with_reducible exact trishawref09_Smallest.mono _ _ _)
      | (with_reducible exact LeO.refl _)
      | (with_reducible exact LeO.none _)
      | (with_reducible refine LeO.ite ?_ ?_)
      | (with_reducible refine LeO.bind ?_ (fun _ => ?_))
      | exact ih0 _ _ _ _ _
      | exact ih1 _ _ _ _
      | exact ih2 _ _ _ _ _ _ _ _ _
      | exact fetch_Crossing.mono _ _ _ _
      | exact fetch_Cuts.mono _ _ _
      | exact fetch_Smallest.mono _ _ _
      | exact trishawlaw09_alive.mono _
      | exact trishawlaw09_same.mono _ _ _
      | exact trishawref09_Crossing.mono _ _ _ _
      | exact trishawref09_Cuts.mono _ _ _
      | exact trishawref09_Smallest.mono _ _ _
      | exact LeO.none _
      | refine LeO.ite ?_ ?_
      | refine LeO.bind ?_ (fun _ => ?_)
theorem trishawlaw09_FetchCuts.mono : ∀ a0 a1 a2 k, LeO (trishawlaw09_FetchCuts.f k a0 a1 a2) (trishawlaw09_FetchCuts.f (k + 1) a0 a1 a2) := by
  intro a0 a1 a2 k
  obtain ⟨ih0, ih1, ih2⟩ := trishawlaw09_FetchCuts.mono_l k
  unfold trishawlaw09_FetchCuts.f
  repeat' first
      | (with_reducible exact ih0 _ _ _ _ _)
      | (with_reducible exact ih1 _ _ _ _)
      | (with_reducible exact ih2 _ _ _ _ _ _ _ _ _)
      | (with_reducible exact fetch_Crossing.mono _ _ _ _)
      | (with_reducible exact fetch_Cuts.mono _ _ _)
      | (with_reducible exact fetch_Smallest.mono _ _ _)
      | (with_reducible exact trishawlaw09_alive.mono _)
      | (with_reducible exact trishawlaw09_same.mono _ _ _)
      | (with_reducible exact trishawref09_Crossing.mono _ _ _ _)
      | (with_reducible exact trishawref09_Cuts.mono _ _ _)
      | (with_reducible exact trishawref09_Smallest.mono _ _ _)
      | (with_reducible exact LeO.refl _)
      | (with_reducible exact LeO.none _)
      | (with_reducible refine LeO.ite ?_ ?_)
      | (with_reducible refine LeO.bind ?_ (fun _ => ?_))
      | exact ih0 _ _ _ _ _
      | exact ih1 _ _ _ _
      | exact ih2 _ _ _ _ _ _ _ _ _
      | exact fetch_Crossing.mono _ _ _ _
      | exact fetch_Cuts.mono _ _ _
      | exact fetch_Smallest.mono _ _ _
      | exact trishawlaw09_alive.mono _
      | exact trishawlaw09_same.mono _ _ _
      | exact trishawref09_Crossing.mono _ _ _ _
      | exact trishawref09_Cuts.mono _ _ _
      | exact trishawref09_Smallest.mono _ _ _
      | exact LeO.none _
      | refine LeO.ite ?_ ?_
      | refine LeO.bind ?_ (fun _ => ?_)
end Go.Proofs.Ytjbfbdanbpfplaa.OAll
