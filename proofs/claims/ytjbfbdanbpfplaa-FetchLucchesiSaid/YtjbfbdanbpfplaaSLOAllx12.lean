/- A part of the proof of 'fetchLucchesi_holds', for every input, without a condition. -/
import Derived.Test.YtjbfbdanbpfplaaSLOAllx0
import Derived.Test.YtjbfbdanbpfplaaSLOAllx6
import Derived.Test.YtjbfbdanbpfplaaSLOAllx7
import Derived.Test.YtjbfbdanbpfplaaSLOAllx8
import Derived.Test.YtjbfbdanbpfplaaSLOAllx9
namespace Go.Proofs.Ytjbfbdanbpfplaa.OAll
open Go.RowKit Go.Proofs.YtjbfbdanbpfplaaW.PrintWords Go.Proofs.YtjbfbdanbpfplaaW.PrintLast Go.Proofs.YtjbfbdanbpfplaaW.PrintMore
attribute [local go_sem] max2_int min2_int max_two min_two max_three min_three max_four min_four
set_option linter.unusedVariables false
set_option linter.unusedSimpArgs false
mutual
def trishawlaw09_FetchMore.j0 : Nat → Int → List (S34) → List (S34) → Bool → Option (Bool)
  | 0, _, _, _, _ => none
  | k + 1, x0, x1, x7, x39 => if x39 = true then ((trishawlaw09_alive.f k).bind fun t329 => (some t329)) else ((fetch_Cuts.f k x0 x1).bind fun bt330 => ((fetch_Cuts.f k x0 x7).bind fun bt334 => ((fetch_Mend.f k x0 x1).bind fun bt338 => ((fetch_Mend.f k x0 x7).bind fun bt342 => (if bt330.2 = 0 then (if bt334.2 = 0 then (if bt338.2 = 0 then (if bt342.2 = 0 then (trishawlaw09_FetchMore.j1 k bt330.1 bt334.1 (decide ((bt342.1.length : Int) > (bt338.1.length : Int)))) else (trishawlaw09_FetchMore.j1 k bt330.1 bt334.1 true)) else (trishawlaw09_FetchMore.j1 k bt330.1 bt334.1 true)) else (trishawlaw09_FetchMore.j1 k bt330.1 bt334.1 true)) else (trishawlaw09_FetchMore.j1 k bt330.1 bt334.1 true))))))
def trishawlaw09_FetchMore.j1 : Nat → List Int → List Int → Bool → Option (Bool)
  | 0, _, _, _ => none
  | k + 1, x8, x10, x85 => if x85 = true then (some false) else (trishawlaw09_FetchMore.l0 k x8 x10 0)
def trishawlaw09_FetchMore.l0 : Nat → List Int → List Int → Int → Option (Bool)
  | 0, _, _, _ => none
  | k + 1, x8, x10, x16 => if x16 < (x10.length : Int) then (trishawlaw09_FetchMore.l1 k x8 x10 x16 false 0) else ((trishawlaw09_alive.f k).bind fun t346 => (some t346))
def trishawlaw09_FetchMore.l1 : Nat → List Int → List Int → Int → Bool → Int → Option (Bool)
  | 0, _, _, _, _, _ => none
  | k + 1, x8, x10, x16, x17, x18 => if x18 < (x8.length : Int) then (if x17 = true then (trishawlaw09_FetchMore.l1 k x8 x10 x16 true (wrap64 (x18 + 1))) else (if 0 ≤ x18 then (if 0 ≤ x16 then (if x16 < (x10.length : Int) then (trishawlaw09_FetchMore.l1 k x8 x10 x16 ((rd x8 x18) == (rd x10 x16)) (wrap64 (x18 + 1))) else (none)) else (none)) else (none))) else (if x17 = true then (trishawlaw09_FetchMore.l0 k x8 x10 (wrap64 (x16 + 1))) else (some false))
end
def trishawlaw09_FetchMore.f (k : Nat) (a0 : Int) (l1 : List (S34)) (a2_0 : Int) (a2_1 : Int) : Option (Bool) := (some (([] : List (S34)) : List (S34))).bind fun y314 => (if y314.length + l1.length < 8796093022208 then ((some (y314 ++ l1 : List (S34))).bind fun y317 => ((some (([(⟨a2_0, a2_1⟩ : S34)] : List (S34)) : List (S34))).bind fun y320 => (if y317.length + y320.length < 8796093022208 then ((some (y317 ++ y320 : List (S34))).bind fun y323 => ((trishawlaw09_few.f l1 ([] : List Int)).bind fun t326 => (if t326 = true then ((trishawref09_Quarter.f k a0 l1).bind fun t327 => (if t327 = 0 then ((trishawref09_Quarter.f k a0 y323).bind fun t328 => (trishawlaw09_FetchMore.j0 k a0 l1 y323 (t328 != 0))) else (trishawlaw09_FetchMore.j0 k a0 l1 y323 true))) else (trishawlaw09_FetchMore.j0 k a0 l1 y323 true)))) else (none)))) else (none))
theorem trishawlaw09_FetchMore.mono_l : ∀ k, (∀ y0 y1 y2 y3, LeO (trishawlaw09_FetchMore.j0 k y0 y1 y2 y3) (trishawlaw09_FetchMore.j0 (k + 1) y0 y1 y2 y3)) ∧ (∀ y0 y1 y2, LeO (trishawlaw09_FetchMore.j1 k y0 y1 y2) (trishawlaw09_FetchMore.j1 (k + 1) y0 y1 y2)) ∧ (∀ y0 y1 y2, LeO (trishawlaw09_FetchMore.l0 k y0 y1 y2) (trishawlaw09_FetchMore.l0 (k + 1) y0 y1 y2)) ∧ (∀ y0 y1 y2 y3 y4, LeO (trishawlaw09_FetchMore.l1 k y0 y1 y2 y3 y4) (trishawlaw09_FetchMore.l1 (k + 1) y0 y1 y2 y3 y4))
  | 0 => ⟨fun _ _ _ _ r h => by simp [trishawlaw09_FetchMore.j0] at h, fun _ _ _ r h => by simp [trishawlaw09_FetchMore.j1] at h, fun _ _ _ r h => by simp [trishawlaw09_FetchMore.l0] at h, fun _ _ _ _ _ r h => by simp [trishawlaw09_FetchMore.l1] at h⟩
  | k + 1 => by
    obtain ⟨ih0, ih1, ih2, ih3⟩ := trishawlaw09_FetchMore.mono_l k
    refine ⟨?_, ?_, ?_, ?_⟩
    · intro y0 y1 y2 y3
      unfold trishawlaw09_FetchMore.j0
      repeat' first
      | (with_reducible exact ih0 _ _ _ _)
      | (with_reducible exact ih1 _ _ _)
      | (with_reducible exact ih2 _ _ _)
      | (with_reducible exact ih3 _ _ _ _ _)
      | (with_reducible exact fetch_Cuts.mono _ _ _)
      | (with_reducible exact fetch_Mend.mono _ _ _)
      | (with_reducible exact trishawlaw09_alive.mono _)
      | (with_reducible exact trishawref09_Quarter.mono _ _ _)
      | (with_reducible exact LeO.refl _)
      | (with_reducible exact LeO.none _)
      | (with_reducible refine LeO.ite ?_ ?_)
      | (with_reducible refine LeO.bind ?_ (fun _ => ?_))
      | exact ih0 _ _ _ _
      | exact ih1 _ _ _
      | exact ih2 _ _ _
      | exact ih3 _ _ _ _ _
      | exact fetch_Cuts.mono _ _ _
      | exact fetch_Mend.mono _ _ _
      | exact trishawlaw09_alive.mono _
      | exact trishawref09_Quarter.mono _ _ _
      | exact LeO.none _
      | refine LeO.ite ?_ ?_
      | refine LeO.bind ?_ (fun _ => ?_)
    · intro y0 y1 y2
      unfold trishawlaw09_FetchMore.j1
      repeat' first
      | (with_reducible exact ih0 _ _ _ _)
      | (with_reducible exact ih1 _ _ _)
      | (with_reducible exact ih2 _ _ _)
      | (with_reducible exact ih3 _ _ _ _ _)
      | (with_reducible exact fetch_Cuts.mono _ _ _)
      | (with_reducible exact fetch_Mend.mono _ _ _)
      | (with_reducible exact trishawlaw09_alive.mono _)
      | (with_reducible exact trishawref09_Quarter.mono _ _ _)
      | (with_reducible exact LeO.refl _)
      | (with_reducible exact LeO.none _)
      | (with_reducible refine LeO.ite ?_ ?_)
      | (with_reducible refine LeO.bind ?_ (fun _ => ?_))
      | exact ih0 _ _ _ _
      | exact ih1 _ _ _
      | exact ih2 _ _ _
      | exact ih3 _ _ _ _ _
      | exact fetch_Cuts.mono _ _ _
      | exact fetch_Mend.mono _ _ _
      | exact trishawlaw09_alive.mono _
      | exact trishawref09_Quarter.mono _ _ _
      | exact LeO.none _
      | refine LeO.ite ?_ ?_
      | refine LeO.bind ?_ (fun _ => ?_)
    · intro y0 y1 y2
      unfold trishawlaw09_FetchMore.l0
      repeat' first
      | (with_reducible exact ih0 _ _ _ _)
      | (with_reducible exact ih1 _ _ _)
      | (with_reducible exact ih2 _ _ _)
      | (with_reducible exact ih3 _ _ _ _ _)
      | (with_reducible exact fetch_Cuts.mono _ _ _)
      | (with_reducible exact fetch_Mend.mono _ _ _)
      | (with_reducible exact trishawlaw09_alive.mono _)
      | (with_reducible exact trishawref09_Quarter.mono _ _ _)
      | (with_reducible exact LeO.refl _)
      | (with_reducible exact LeO.none _)
      | (with_reducible refine LeO.ite ?_ ?_)
      | (with_reducible refine LeO.bind ?_ (fun _ => ?_))
      | exact ih0 _ _ _ _
      | exact ih1 _ _ _
      | exact ih2 _ _ _
      | exact ih3 _ _ _ _ _
      | exact fetch_Cuts.mono _ _ _
      | exact fetch_Mend.mono _ _ _
      | exact trishawlaw09_alive.mono _
      | exact trishawref09_Quarter.mono _ _ _
      | exact LeO.none _
      | refine LeO.ite ?_ ?_
      | refine LeO.bind ?_ (fun _ => ?_)
    · intro y0 y1 y2 y3 y4
      unfold trishawlaw09_FetchMore.l1
      repeat' first
      | (with_reducible exact ih0 _ _ _ _)
      | (with_reducible exact ih1 _ _ _)
      | (with_reducible exact ih2 _ _ _)
      | (with_reducible exact ih3 _ _ _ _ _)
      | (with_reducible exact fetch_Cuts.mono _ _ _)
      | (with_reducible exact fetch_Mend.mono _ _ _)
      | (with_reducible exact trishawlaw09_alive.mono _)
      | (with_reducible exact trishawref09_Quarter.mono _ _ _)
      | (with_reducible exact LeO.refl _)
      | (with_reducible exact LeO.none _)
      | (with_reducible refine LeO.ite ?_ ?_)
      | (with_reducible refine LeO.bind ?_ (fun _ => ?_))
      | exact ih0 _ _ _ _
      | exact ih1 _ _ _
      | exact ih2 _ _ _
      | exact ih3 _ _ _ _ _
      | exact fetch_Cuts.mono _ _ _
      | exact fetch_Mend.mono _ _ _
      | exact trishawlaw09_alive.mono _
      | exact trishawref09_Quarter.mono _ _ _
      | exact LeO.none _
      | refine LeO.ite ?_ ?_
      | refine LeO.bind ?_ (fun _ => ?_)
theorem trishawlaw09_FetchMore.mono : ∀ a0 a1 a2 a3 k, LeO (trishawlaw09_FetchMore.f k a0 a1 a2 a3) (trishawlaw09_FetchMore.f (k + 1) a0 a1 a2 a3) := by
  intro a0 a1 a2 a3 k
  obtain ⟨ih0, ih1, ih2, ih3⟩ := trishawlaw09_FetchMore.mono_l k
  unfold trishawlaw09_FetchMore.f
  repeat' first
      | (with_reducible exact ih0 _ _ _ _)
      | (with_reducible exact ih1 _ _ _)
      | (with_reducible exact ih2 _ _ _)
      | (with_reducible exact ih3 _ _ _ _ _)
      | (with_reducible exact fetch_Cuts.mono _ _ _)
      | (with_reducible exact fetch_Mend.mono _ _ _)
      | (with_reducible exact trishawlaw09_alive.mono _)
      | (with_reducible exact trishawref09_Quarter.mono _ _ _)
      | (with_reducible exact LeO.refl _)
      | (with_reducible exact LeO.none _)
      | (with_reducible refine LeO.ite ?_ ?_)
      | (with_reducible refine LeO.bind ?_ (fun _ => ?_))
      | exact ih0 _ _ _ _
      | exact ih1 _ _ _
      | exact ih2 _ _ _
      | exact ih3 _ _ _ _ _
      | exact fetch_Cuts.mono _ _ _
      | exact fetch_Mend.mono _ _ _
      | exact trishawlaw09_alive.mono _
      | exact trishawref09_Quarter.mono _ _ _
      | exact LeO.none _
      | refine LeO.ite ?_ ?_
      | refine LeO.bind ?_ (fun _ => ?_)
end Go.Proofs.Ytjbfbdanbpfplaa.OAll
