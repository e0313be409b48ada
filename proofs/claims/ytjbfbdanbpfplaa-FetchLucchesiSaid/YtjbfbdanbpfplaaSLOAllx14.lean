/- A part of the proof of 'fetchLucchesi_holds', for every input, without a condition. -/
import Derived.Test.YtjbfbdanbpfplaaSLOAllx0
import Derived.Test.YtjbfbdanbpfplaaSLOAllx2
import Derived.Test.YtjbfbdanbpfplaaSLOAllx3
import Derived.Test.YtjbfbdanbpfplaaSLOAllx4
import Derived.Test.YtjbfbdanbpfplaaSLOAllx6
import Derived.Test.YtjbfbdanbpfplaaSLOAllx7
import Derived.Test.YtjbfbdanbpfplaaSLOAllx8
import Derived.Test.YtjbfbdanbpfplaaSLOAllx9
import Derived.Test.YtjbfbdanbpfplaaSLOAllx13
namespace Go.Proofs.Ytjbfbdanbpfplaa.OAll
open Go.RowKit Go.Proofs.YtjbfbdanbpfplaaW.PrintWords Go.Proofs.YtjbfbdanbpfplaaW.PrintLast Go.Proofs.YtjbfbdanbpfplaaW.PrintMore
attribute [local go_sem] max2_int min2_int max_two min_two max_three min_three max_four min_four
set_option linter.unusedVariables false
set_option linter.unusedSimpArgs false
def trishawref09_Mends.f (k : Nat) (a0 : Int) (l1 : List (S34)) : Option (Int × Int) := (trishawref09_Quarter.f k a0 l1).bind fun t384 => (if t384 = 0 then ((trishawref09_fewest.f k a0 l1).bind fun bt385 => (some (bt385.2, 0))) else (some (0, t384)))
theorem trishawref09_Mends.mono : ∀ a0 a1 k, LeO (trishawref09_Mends.f k a0 a1) (trishawref09_Mends.f (k + 1) a0 a1) := by
  intro a0 a1 k
  unfold trishawref09_Mends.f
  repeat' first
      | (with_reducible exact trishawref09_Quarter.mono _ _ _)
      | (with_reducible exact trishawref09_fewest.mono _ _ _)
      | (with_reducible exact LeO.refl _)
      | (with_reducible exact LeO.none _)
      | (with_reducible refine LeO.ite ?_ ?_)
      | (with_reducible refine LeO.bind ?_ (fun _ => ?_))
      | exact trishawref09_Quarter.mono _ _ _
      | exact trishawref09_fewest.mono _ _ _
      | exact LeO.none _
      | refine LeO.ite ?_ ?_
      | refine LeO.bind ?_ (fun _ => ?_)
mutual
def trishawlaw09_FetchMends.j0 : Nat → Int → List (S34) → Bool → Option (Bool)
  | 0, _, _, _ => none
  | k + 1, x0, x1, x23 => if x23 = true then ((trishawlaw09_alive.f k).bind fun t390 => (some t390)) else ((fetch_Mend.f k x0 x1).bind fun bt391 => ((trishawref09_Mend.f k x0 x1).bind fun bt395 => ((trishawlaw09_same.f k bt391.1 bt395.1).bind fun t399 => (if t399 = true then (trishawlaw09_FetchMends.j1 k x0 x1 (bt391.2 != bt395.2)) else (trishawlaw09_FetchMends.j1 k x0 x1 true)))))
def trishawlaw09_FetchMends.j1 : Nat → Int → List (S34) → Bool → Option (Bool)
  | 0, _, _, _ => none
  | k + 1, x0, x1, x45 => if x45 = true then (some false) else ((fetch_Mends.f k x0 x1).bind fun bt400 => ((trishawref09_Mends.f k x0 x1).bind fun bt402 => (if bt400.1 = bt402.1 then (if bt400.2 = bt402.2 then ((trishawlaw09_alive.f k).bind fun t404 => (some t404)) else (some false)) else (some false))))
end
def trishawlaw09_FetchMends.f (k : Nat) (a0 : Int) (l1 : List (S34)) : Option (Bool) := (trishawlaw09_few.f l1 ([] : List Int)).bind fun t389 => (if t389 = true then (if (l1.length : Int) > 9 then (trishawlaw09_FetchMends.j0 k a0 l1 (decide ((l1.length : Int) ≤ 14))) else (trishawlaw09_FetchMends.j0 k a0 l1 false)) else (trishawlaw09_FetchMends.j0 k a0 l1 true))
theorem trishawlaw09_FetchMends.mono_l : ∀ k, (∀ y0 y1 y2, LeO (trishawlaw09_FetchMends.j0 k y0 y1 y2) (trishawlaw09_FetchMends.j0 (k + 1) y0 y1 y2)) ∧ (∀ y0 y1 y2, LeO (trishawlaw09_FetchMends.j1 k y0 y1 y2) (trishawlaw09_FetchMends.j1 (k + 1) y0 y1 y2))
  | 0 => ⟨fun _ _ _ r h => by simp [trishawlaw09_FetchMends.j0] at h, fun _ _ _ r h => by simp [trishawlaw09_FetchMends.j1] at h⟩
  | k + 1 => by
    obtain ⟨ih0, ih1⟩ := trishawlaw09_FetchMends.mono_l k
    refine ⟨?_, ?_⟩
    · intro y0 y1 y2
      unfold trishawlaw09_FetchMends.j0
      repeat' first
      | (with_reducible exact ih0 _ _ _)
      | (with_reducible exact ih1 _ _ _)
      | (with_reducible exact fetch_Mend.mono _ _ _)
      | (with_reducible exact fetch_Mends.mono _ _ _)
      | (with_reducible exact trishawlaw09_alive.mono _)
      | (with_reducible exact trishawlaw09_same.mono _ _ _)
      | (with_reducible exact trishawref09_Mend.mono _ _ _)
      | (with_reducible exact trishawref09_Mends.mono _ _ _)
      | (with_reducible exact LeO.refl _)
      | (with_reducible exact LeO.none _)
      | (with_reducible refine LeO.ite ?_ ?_)
      | (with_reducible refine LeO.bind ?_ (fun _ => ?_))
      | exact ih0 _ _ _
      | exact ih1 _ _ _
      | exact fetch_Mend.mono _ _ _
      | exact fetch_Mends.mono _ _ _
      | exact trishawlaw09_alive.mono _
      | exact trishawlaw09_same.mono _ _ _
      | exact trishawref09_Mend.mono _ _ _
      | exact trishawref09_Mends.mono _ _ _
      | exact LeO.none _
      | refine LeO.ite ?_ ?_
      | refine LeO.bind ?_ (fun _ => ?_)
    · intro y0 y1 y2
      unfold trishawlaw09_FetchMends.j1
      repeat' first
      | (with_reducible exact ih0 _ _ _)
      | (with_reducible exact ih1 _ _ _)
      | (with_reducible exact fetch_Mend.mono _ _ _)
      | (with_reducible exact fetch_Mends.mono _ _ _)
      | (with_reducible exact trishawlaw09_alive.mono _)
      | (with_reducible exact trishawlaw09_same.mono _ _ _)
      | (with_reducible exact trishawref09_Mend.mono _ _ _)
      | (with_reducible exact trishawref09_Mends.mono _ _ _)
      | (with_reducible exact LeO.refl _)
      | (with_reducible exact LeO.none _)
      | (with_reducible refine LeO.ite ?_ ?_)
      | (with_reducible refine LeO.bind ?_ (fun _ => ?_))
      | exact ih0 _ _ _
      | exact ih1 _ _ _
      | exact fetch_Mend.mono _ _ _
      | exact fetch_Mends.mono _ _ _
      | exact trishawlaw09_alive.mono _
      | exact trishawlaw09_same.mono _ _ _
      | exact trishawref09_Mend.mono _ _ _
      | exact trishawref09_Mends.mono _ _ _
      | exact LeO.none _
      | refine LeO.ite ?_ ?_
      | refine LeO.bind ?_ (fun _ => ?_)
theorem trishawlaw09_FetchMends.mono : ∀ a0 a1 k, LeO (trishawlaw09_FetchMends.f k a0 a1) (trishawlaw09_FetchMends.f (k + 1) a0 a1) := by
  intro a0 a1 k
  obtain ⟨ih0, ih1⟩ := trishawlaw09_FetchMends.mono_l k
  unfold trishawlaw09_FetchMends.f
  repeat' first
      | (with_reducible exact ih0 _ _ _)
      | (with_reducible exact ih1 _ _ _)
      | (with_reducible exact fetch_Mend.mono _ _ _)
      | (with_reducible exact fetch_Mends.mono _ _ _)
      | (with_reducible exact trishawlaw09_alive.mono _)
      | (with_reducible exact trishawlaw09_same.mono _ _ _)
      | (with_reducible exact trishawref09_Mend.mono _ _ _)
      | (with_reducible exact trishawref09_Mends.mono _ _ _)
      | (with_reducible exact LeO.refl _)
      | (with_reducible exact LeO.none _)
      | (with_reducible refine LeO.ite ?_ ?_)
      | (with_reducible refine LeO.bind ?_ (fun _ => ?_))
      | exact ih0 _ _ _
      | exact ih1 _ _ _
      | exact fetch_Mend.mono _ _ _
      | exact fetch_Mends.mono _ _ _
      | exact trishawlaw09_alive.mono _
      | exact trishawlaw09_same.mono _ _ _
      | exact trishawref09_Mend.mono _ _ _
      | exact trishawref09_Mends.mono _ _ _
      | exact LeO.none _
      | refine LeO.ite ?_ ?_
      | refine LeO.bind ?_ (fun _ => ?_)
def trishawlaw09_turned.l0 : Nat → List (S34) → List (S34) → Int → Option ((List (S34)))
  | 0, _, _, _ => none
  | k + 1, x0, x3, x4 => if x4 < (x0.length : Int) then (if 0 ≤ x4 then (if x3.length < 8796093022208 then (trishawlaw09_turned.l0 k x0 (x3 ++ [(⟨(rd_T34 x0 x4).f1, (rd_T34 x0 x4).f0⟩ : S34)]) (wrap64 (x4 + 1))) else (none)) else (none)) else (some x3)
def trishawlaw09_turned.f (k : Nat) (l0 : List (S34)) : Option ((List (S34))) := trishawlaw09_turned.l0 k l0 ([] : List (S34)) 0
theorem trishawlaw09_turned.mono_l : ∀ k, (∀ y0 y1 y2, LeO (trishawlaw09_turned.l0 k y0 y1 y2) (trishawlaw09_turned.l0 (k + 1) y0 y1 y2))
  | 0 => fun _ _ _ r h => by simp [trishawlaw09_turned.l0] at h
  | k + 1 => by
    have ih0 := trishawlaw09_turned.mono_l k
    · intro y0 y1 y2
      unfold trishawlaw09_turned.l0
      repeat' first
      | (with_reducible exact ih0 _ _ _)
      | (with_reducible exact LeO.refl _)
      | (with_reducible exact LeO.none _)
      | (with_reducible refine LeO.ite ?_ ?_)
      | (with_reducible refine LeO.bind ?_ (fun _ => ?_))
      | exact ih0 _ _ _
      | exact LeO.none _
      | refine LeO.ite ?_ ?_
      | refine LeO.bind ?_ (fun _ => ?_)
theorem trishawlaw09_turned.mono : ∀ a0 k, LeO (trishawlaw09_turned.f k a0) (trishawlaw09_turned.f (k + 1) a0) := by
  intro a0 k
  have ih0 := trishawlaw09_turned.mono_l k
  unfold trishawlaw09_turned.f
  repeat' first
      | (with_reducible exact ih0 _ _ _)
      | (with_reducible exact LeO.refl _)
      | (with_reducible exact LeO.none _)
      | (with_reducible refine LeO.ite ?_ ?_)
      | (with_reducible refine LeO.bind ?_ (fun _ => ?_))
      | exact ih0 _ _ _
      | exact LeO.none _
      | refine LeO.ite ?_ ?_
      | refine LeO.bind ?_ (fun _ => ?_)
def fetch_Crossing.f (k : Nat) (a0 : Int) (l1 : List (S34)) (a2 : Int) : Option (List Int × Int) := (fetch_read.f k a0 l1).bind fun bt448 => (if bt448.2.2 = 0 then ((fetch_quarter_kind.f k bt448.1 bt448.2.1 a2).bind fun t454 => (if t454 = 1 then ((fetch_quarter_crossing.f k bt448.1 bt448.2.1 a2).bind fun t455 => ((fetch_list.f k t455).bind fun t456 => (some (t456, 0)))) else (some (([] : List Int), 2)))) else (some (([] : List Int), bt448.2.2)))
theorem fetch_Crossing.mono : ∀ a0 a1 a2 k, LeO (fetch_Crossing.f k a0 a1 a2) (fetch_Crossing.f (k + 1) a0 a1 a2) := by
  intro a0 a1 a2 k
  unfold fetch_Crossing.f
  repeat' first
      | (with_reducible exact fetch_list.mono _ _)
      | (with_reducible exact fetch_quarter_crossing.mono _ _ _ _)
      | (with_reducible exact fetch_quarter_kind.mono _ _ _ _)
      | (with_reducible exact fetch_read.mono _ _ _)
      | (with_reducible exact LeO.refl _)
      | (with_reducible exact LeO.none _)
      | (with_reducible refine LeO.ite ?_ ?_)
      | (with_reducible refine LeO.bind ?_ (fun _ => ?_))
      | exact fetch_list.mono _ _
      | exact fetch_quarter_crossing.mono _ _ _ _
      | exact fetch_quarter_kind.mono _ _ _ _
      | exact fetch_read.mono _ _ _
      | exact LeO.none _
      | refine LeO.ite ?_ ?_
      | refine LeO.bind ?_ (fun _ => ?_)
def trishawref09_Crossing.f (k : Nat) (a0 : Int) (l1 : List (S34)) (a2 : Int) : Option (List Int × Int) := (trishawref09_Quarter.f k a0 l1).bind fun t459 => (if t459 = 0 then ((trishawref09_IsCut.f k a0 l1 a2).bind fun t460 => (if t460 = true then ((trishawref09_crossing.f k l1 a2).bind fun t461 => ((trishawref09_Members.f k t461).bind fun t462 => (some (t462, 0)))) else (some (([] : List Int), 2)))) else (some (([] : List Int), t459)))
theorem trishawref09_Crossing.mono : ∀ a0 a1 a2 k, LeO (trishawref09_Crossing.f k a0 a1 a2) (trishawref09_Crossing.f (k + 1) a0 a1 a2) := by
  intro a0 a1 a2 k
  unfold trishawref09_Crossing.f
  repeat' first
      | (with_reducible exact trishawref09_IsCut.mono _ _ _ _)
      | (with_reducible exact trishawref09_Members.mono _ _)
      | (with_reducible exact trishawref09_Quarter.mono _ _ _)
      | (with_reducible exact trishawref09_crossing.mono _ _ _)
      | (with_reducible exact LeO.refl _)
      | (with_reducible exact LeO.none _)
      | (with_reducible refine LeO.ite ?_ ?_)
      | (with_reducible refine LeO.bind ?_ (fun _ => ?_))
      | exact trishawref09_IsCut.mono _ _ _ _
      | exact trishawref09_Members.mono _ _
      | exact trishawref09_Quarter.mono _ _ _
      | exact trishawref09_crossing.mono _ _ _
      | exact LeO.none _
      | refine LeO.ite ?_ ?_
      | refine LeO.bind ?_ (fun _ => ?_)
end Go.Proofs.Ytjbfbdanbpfplaa.OAll
