/- A part of the proof of 'fetchLucchesi_holds', for every input, without a condition. -/
import Derived.Test.YtjbfbdanbpfplaaSLOAllx0
import Derived.Test.YtjbfbdanbpfplaaSLOAllx7
import Derived.Test.YtjbfbdanbpfplaaSLOAllx9
import Derived.Test.YtjbfbdanbpfplaaSLOAllx16
import Derived.Test.YtjbfbdanbpfplaaSLOAllx18
namespace Go.Proofs.Ytjbfbdanbpfplaa.OAll
open Go.RowKit Go.Proofs.YtjbfbdanbpfplaaW.PrintWords Go.Proofs.YtjbfbdanbpfplaaW.PrintLast Go.Proofs.YtjbfbdanbpfplaaW.PrintMore
attribute [local go_sem] max2_int min2_int max_two min_two max_three min_three max_four min_four
set_option linter.unusedVariables false
set_option linter.unusedSimpArgs false
mutual
def trishawlaw09_FetchIs.j0 : Nat → Int → List (S34) → List Int → List Int → Bool → Option (Bool)
  | 0, _, _, _, _, _ => none
  | k + 1, x0, x1, x2, x3, x21 => if x21 = true then ((trishawlaw09_alive.f k).bind fun t585 => (some t585)) else ((fetch_IsMend.f k x0 x1 x2).bind fun bt586 => ((trishawref09_IsMend.f k x0 x1 x2).bind fun bt588 => (if (bt586.1 != bt588.1) = true then (trishawlaw09_FetchIs.j1 k x0 x1 x3 true) else (trishawlaw09_FetchIs.j1 k x0 x1 x3 (bt586.2 != bt588.2)))))
def trishawlaw09_FetchIs.j1 : Nat → Int → List (S34) → List Int → Bool → Option (Bool)
  | 0, _, _, _, _ => none
  | k + 1, x0, x1, x3, x44 => if x44 = true then (some false) else ((fetch_AreApart.f k x0 x1 x3).bind fun bt590 => ((trishawref09_AreApart.f k x0 x1 x3).bind fun bt592 => (if (bt590.1 == bt592.1) = true then (if bt590.2 = bt592.2 then ((trishawlaw09_alive.f k).bind fun t594 => (some t594)) else (some false)) else (some false))))
end
def trishawlaw09_FetchIs.f (k : Nat) (a0 : Int) (l1 : List (S34)) (l2 : List Int) (l3 : List Int) : Option (Bool) := (trishawlaw09_few.f l1 l2).bind fun t584 => (if t584 = true then (trishawlaw09_FetchIs.j0 k a0 l1 l2 l3 (decide ((l3.length : Int) > 60))) else (trishawlaw09_FetchIs.j0 k a0 l1 l2 l3 true))
theorem trishawlaw09_FetchIs.mono_l : ∀ k, (∀ y0 y1 y2 y3 y4, LeO (trishawlaw09_FetchIs.j0 k y0 y1 y2 y3 y4) (trishawlaw09_FetchIs.j0 (k + 1) y0 y1 y2 y3 y4)) ∧ (∀ y0 y1 y2 y3, LeO (trishawlaw09_FetchIs.j1 k y0 y1 y2 y3) (trishawlaw09_FetchIs.j1 (k + 1) y0 y1 y2 y3))
  | 0 => ⟨fun _ _ _ _ _ r h => by simp [trishawlaw09_FetchIs.j0] at h, fun _ _ _ _ r h => by simp [trishawlaw09_FetchIs.j1] at h⟩
  | k + 1 => by
    obtain ⟨ih0, ih1⟩ := trishawlaw09_FetchIs.mono_l k
    refine ⟨?_, ?_⟩
    · intro y0 y1 y2 y3 y4
      unfold trishawlaw09_FetchIs.j0
      repeat' first
      | (with_reducible exact ih0 _ _ _ _ _)
      | (with_reducible exact ih1 _ _ _ _)
      | (with_reducible exact fetch_AreApart.mono _ _ _ _)
      | (with_reducible exact fetch_IsMend.mono _ _ _ _)
      | (with_reducible exact trishawlaw09_alive.mono _)
      | (with_reducible exact trishawref09_AreApart.mono _ _ _ _)
      | (with_reducible exact trishawref09_IsMend.mono _ _ _ _)
      | (with_reducible exact LeO.refl _)
      | (with_reducible exact LeO.none _)
      | (with_reducible refine LeO.ite ?_ ?_)
      | (with_reducible refine LeO.bind ?_ (fun _ => ?_))
      | exact ih0 _ _ _ _ _
      | exact ih1 _ _ _ _
      | exact fetch_AreApart.mono _ _ _ _
      | exact fetch_IsMend.mono _ _ _ _
      | exact trishawlaw09_alive.mono _
      | exact trishawref09_AreApart.mono _ _ _ _
      | exact trishawref09_IsMend.mono _ _ _ _
      | exact LeO.none _
      | refine LeO.ite ?_ ?_
      | refine LeO.bind ?_ (fun _ => ?_)
    · intro y0 y1 y2 y3
      unfold trishawlaw09_FetchIs.j1
      repeat' first
      | (with_reducible exact ih0 _ _ _ _ _)
      | (with_reducible exact ih1 _ _ _ _)
      | (with_reducible exact fetch_AreApart.mono _ _ _ _)
      | (with_reducible exact fetch_IsMend.mono _ _ _ _)
      | (with_reducible exact trishawlaw09_alive.mono _)
      | (with_reducible exact trishawref09_AreApart.mono _ _ _ _)
      | (with_reducible exact trishawref09_IsMend.mono _ _ _ _)
      | (with_reducible exact LeO.refl _)
      | (with_reducible exact LeO.none _)
      | (with_reducible refine LeO.ite ?_ ?_)
      | (with_reducible refine LeO.bind ?_ (fun _ => ?_))
      | exact ih0 _ _ _ _ _
      | exact ih1 _ _ _ _
      | exact fetch_AreApart.mono _ _ _ _
      | exact fetch_IsMend.mono _ _ _ _
      | exact trishawlaw09_alive.mono _
      | exact trishawref09_AreApart.mono _ _ _ _
      | exact trishawref09_IsMend.mono _ _ _ _
      | exact LeO.none _
      | refine LeO.ite ?_ ?_
      | refine LeO.bind ?_ (fun _ => ?_)
theorem trishawlaw09_FetchIs.mono : ∀ a0 a1 a2 a3 k, LeO (trishawlaw09_FetchIs.f k a0 a1 a2 a3) (trishawlaw09_FetchIs.f (k + 1) a0 a1 a2 a3) := by
  intro a0 a1 a2 a3 k
  obtain ⟨ih0, ih1⟩ := trishawlaw09_FetchIs.mono_l k
  unfold trishawlaw09_FetchIs.f
  repeat' first
      | (with_reducible exact ih0 _ _ _ _ _)
      | (with_reducible exact ih1 _ _ _ _)
      | (with_reducible exact fetch_AreApart.mono _ _ _ _)
      | (with_reducible exact fetch_IsMend.mono _ _ _ _)
      | (with_reducible exact trishawlaw09_alive.mono _)
      | (with_reducible exact trishawref09_AreApart.mono _ _ _ _)
      | (with_reducible exact trishawref09_IsMend.mono _ _ _ _)
      | (with_reducible exact LeO.refl _)
      | (with_reducible exact LeO.none _)
      | (with_reducible refine LeO.ite ?_ ?_)
      | (with_reducible refine LeO.bind ?_ (fun _ => ?_))
      | exact ih0 _ _ _ _ _
      | exact ih1 _ _ _ _
      | exact fetch_AreApart.mono _ _ _ _
      | exact fetch_IsMend.mono _ _ _ _
      | exact trishawlaw09_alive.mono _
      | exact trishawref09_AreApart.mono _ _ _ _
      | exact trishawref09_IsMend.mono _ _ _ _
      | exact LeO.none _
      | refine LeO.ite ?_ ?_
      | refine LeO.bind ?_ (fun _ => ?_)
end Go.Proofs.Ytjbfbdanbpfplaa.OAll
