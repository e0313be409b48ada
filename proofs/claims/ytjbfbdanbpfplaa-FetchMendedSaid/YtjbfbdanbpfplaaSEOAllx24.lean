/- A part of the proof of 'fetchMended_holds', for every input, without a condition. -/
import Derived.Test.YtjbfbdanbpfplaaSEOAllx0
import Derived.Test.YtjbfbdanbpfplaaSEOAllx2
import Derived.Test.YtjbfbdanbpfplaaSEOAllx3
import Derived.Test.YtjbfbdanbpfplaaSEOAllx4
import Derived.Test.YtjbfbdanbpfplaaSEOAllx6
import Derived.Test.YtjbfbdanbpfplaaSEOAllx7
import Derived.Test.YtjbfbdanbpfplaaSEOAllx8
import Derived.Test.YtjbfbdanbpfplaaSEOAllx9
import Derived.Test.YtjbfbdanbpfplaaSEOAllx13
import Derived.Test.YtjbfbdanbpfplaaSEOAllx14
namespace Go.Proofs.Ytjbfbdanbpfplaa.OAll
open Go.RowKit Go.Proofs.YtjbfbdanbpfplaaW.PrintWords Go.Proofs.YtjbfbdanbpfplaaW.PrintLast Go.Proofs.YtjbfbdanbpfplaaW.PrintMore
attribute [local go_sem] max2_int min2_int max_two min_two max_three min_three max_four min_four
set_option linter.unusedVariables false
set_option linter.unusedSimpArgs false
mutual
def trishawlaw09_FetchTurned.j0 : Nat → Int → List (S34) → Bool → Option (Bool)
  | 0, _, _, _ => none
  | k + 1, x0, x1, x29 => if x29 = true then ((trishawlaw09_alive.f k).bind fun t239 => (some t239)) else ((trishawlaw09_turned.f k x1).bind fun t240 => ((fetch_Cuts.f k x0 x1).bind fun bt243 => ((fetch_Cuts.f k x0 t240).bind fun bt247 => (if bt243.2 = 0 then (if bt247.2 = 0 then (trishawlaw09_FetchTurned.j1 k x0 x1 t240 bt243.1 bt247.1 ((bt243.1.length : Int) != (bt247.1.length : Int))) else (none)) else (none)))))
def trishawlaw09_FetchTurned.j1 : Nat → Int → List (S34) → List (S34) → List Int → List Int → Bool → Option (Bool)
  | 0, _, _, _, _, _, _ => none
  | k + 1, x0, x1, x5, x6, x8, x57 => if x57 = true then (none) else (trishawlaw09_FetchTurned.l0 k x0 x1 x5 x6 x8 0)
def trishawlaw09_FetchTurned.l0 : Nat → Int → List (S34) → List (S34) → List Int → List Int → Int → Option (Bool)
  | 0, _, _, _, _, _, _ => none
  | k + 1, x0, x1, x5, x6, x8, x10 => if x10 < (x6.length : Int) then (if 0 ≤ x10 then (if 0 ≤ (wrap64 ((wrap64 ((x8.length : Int) - 1)) - x10)) then (if (wrap64 ((wrap64 ((x8.length : Int) - 1)) - x10)) < (x8.length : Int) then (if 0 ≤ x0 then (if x0 ≤ 64 then (if (wrap64 ((rd x6 x10) + (rd x8 (wrap64 ((wrap64 ((x8.length : Int) - 1)) - x10))))) = (wrap64 ((wrap64 (2 ^ x0.toNat)) - 1)) then (trishawlaw09_FetchTurned.l0 k x0 x1 x5 x6 x8 (wrap64 (x10 + 1))) else (none)) else (none)) else (none)) else (none)) else (none)) else (none)) else ((fetch_Mend.f k x0 x1).bind fun bt253 => ((fetch_Mend.f k x0 x5).bind fun bt257 => ((fetch_Apart.f k x0 x1).bind fun bt261 => ((fetch_Apart.f k x0 x5).bind fun bt265 => ((fetch_Mends.f k x0 x1).bind fun bt269 => ((fetch_Mends.f k x0 x5).bind fun bt271 => (if bt253.2 = 0 then (if bt257.2 = 0 then (if bt261.2 = 0 then (if bt265.2 = 0 then (if bt269.2 = 0 then (if bt271.2 = 0 then ((trishawlaw09_same.f k bt253.1 bt257.1).bind fun t273 => (if t273 = true then (if (bt261.1.length : Int) = (bt265.1.length : Int) then (if bt269.1 = bt271.1 then (if bt269.1 ≥ 1 then ((trishawlaw09_alive.f k).bind fun t274 => (some t274)) else (none)) else (none)) else (none)) else (none))) else (none)) else (none)) else (none)) else (none)) else (none)) else (none))))))))
end
def trishawlaw09_FetchTurned.f (k : Nat) (a0 : Int) (l1 : List (S34)) : Option (Bool) := (trishawlaw09_few.f l1 ([] : List Int)).bind fun t237 => (if t237 = true then ((trishawref09_Quarter.f k a0 l1).bind fun t238 => (trishawlaw09_FetchTurned.j0 k a0 l1 (t238 != 0))) else (trishawlaw09_FetchTurned.j0 k a0 l1 true))
theorem trishawlaw09_FetchTurned.mono_l : ∀ k, (∀ y0 y1 y2, LeO (trishawlaw09_FetchTurned.j0 k y0 y1 y2) (trishawlaw09_FetchTurned.j0 (k + 1) y0 y1 y2)) ∧ (∀ y0 y1 y2 y3 y4 y5, LeO (trishawlaw09_FetchTurned.j1 k y0 y1 y2 y3 y4 y5) (trishawlaw09_FetchTurned.j1 (k + 1) y0 y1 y2 y3 y4 y5)) ∧ (∀ y0 y1 y2 y3 y4 y5, LeO (trishawlaw09_FetchTurned.l0 k y0 y1 y2 y3 y4 y5) (trishawlaw09_FetchTurned.l0 (k + 1) y0 y1 y2 y3 y4 y5))
  | 0 => ⟨fun _ _ _ r h => by simp [trishawlaw09_FetchTurned.j0] at h, fun _ _ _ _ _ _ r h => by simp [trishawlaw09_FetchTurned.j1] at h, fun _ _ _ _ _ _ r h => by simp [trishawlaw09_FetchTurned.l0] at h⟩
  | k + 1 => by
    obtain ⟨ih0, ih1, ih2⟩ := trishawlaw09_FetchTurned.mono_l k
    refine ⟨?_, ?_, ?_⟩
    · intro y0 y1 y2
      unfold trishawlaw09_FetchTurned.j0
      repeat' first
      | (with_reducible exact ih0 _ _ _)
      | (with_reducible exact ih1 _ _ _ _ _ _)
      | (with_reducible exact ih2 _ _ _ _ _ _)
      | (with_reducible exact fetch_Apart.mono _ _ _)
      | (with_reducible exact fetch_Cuts.mono _ _ _)
      | (with_reducible exact fetch_Mend.mono _ _ _)
      | (with_reducible exact fetch_Mends.mono _ _ _)
      | (with_reducible exact trishawlaw09_alive.mono _)
      | (with_reducible exact trishawlaw09_same.mono _ _ _)
      | (with_reducible exact trishawlaw09_turned.mono _ _)
      | (with_reducible exact trishawref09_Quarter.mono _ _ _)
      | (with_reducible exact LeO.refl _)
      | (with_reducible exact LeO.none _)
      | (with_reducible refine LeO.ite ?_ ?_)
      | (with_reducible refine LeO.bind ?_ (fun _ => ?_))
      | exact ih0 _ _ _
      | exact ih1 _ _ _ _ _ _
      | exact ih2 _ _ _ _ _ _
      | exact fetch_Apart.mono _ _ _
      | exact fetch_Cuts.mono _ _ _
      | exact fetch_Mend.mono _ _ _
      | exact fetch_Mends.mono _ _ _
      | exact trishawlaw09_alive.mono _
      | exact trishawlaw09_same.mono _ _ _
      | exact trishawlaw09_turned.mono _ _
      | exact trishawref09_Quarter.mono _ _ _
      | exact LeO.none _
      | refine LeO.ite ?_ ?_
      | refine LeO.bind ?_ (fun _ => ?_)
    · intro y0 y1 y2 y3 y4 y5
      unfold trishawlaw09_FetchTurned.j1
      repeat' first
      | (with_reducible exact ih0 _ _ _)
      | (with_reducible exact ih1 _ _ _ _ _ _)
      | (with_reducible exact ih2 _ _ _ _ _ _)
      | (with_reducible exact fetch_Apart.mono _ _ _)
      | (with_reducible exact fetch_Cuts.mono _ _ _)
      | (with_reducible exact fetch_Mend.mono _ _ _)
      | (with_reducible exact fetch_Mends.mono _ _ _)
      | (with_reducible exact trishawlaw09_alive.mono _)
      | (with_reducible exact trishawlaw09_same.mono _ _ _)
      | (with_reducible exact trishawlaw09_turned.mono _ _)
      | (with_reducible exact trishawref09_Quarter.mono _ _ _)
      | (with_reducible exact LeO.refl _)
      | (with_reducible exact LeO.none _)
      | (with_reducible refine LeO.ite ?_ ?_)
      | (with_reducible refine LeO.bind ?_ (fun _ => ?_))
      | exact ih0 _ _ _
      | exact ih1 _ _ _ _ _ _
      | exact ih2 _ _ _ _ _ _
      | exact fetch_Apart.mono _ _ _
      | exact fetch_Cuts.mono _ _ _
      | exact fetch_Mend.mono _ _ _
      | exact fetch_Mends.mono _ _ _
      | exact trishawlaw09_alive.mono _
      | exact trishawlaw09_same.mono _ _ _
      | exact trishawlaw09_turned.mono _ _
      | exact trishawref09_Quarter.mono _ _ _
      | exact LeO.none _
      | refine LeO.ite ?_ ?_
      | refine LeO.bind ?_ (fun _ => ?_)
    · intro y0 y1 y2 y3 y4 y5
      unfold trishawlaw09_FetchTurned.l0
      repeat' first
      | (with_reducible exact ih0 _ _ _)
      | (with_reducible exact ih1 _ _ _ _ _ _)
      | (with_reducible exact ih2 _ _ _ _ _ _)
      | (with_reducible exact fetch_Apart.mono _ _ _)
      | (with_reducible exact fetch_Cuts.mono _ _ _)
      | (with_reducible exact fetch_Mend.mono _ _ _)
      | (with_reducible exact fetch_Mends.mono _ _ _)
      | (with_reducible exact trishawlaw09_alive.mono _)
      | (with_reducible exact trishawlaw09_same.mono _ _ _)
      | (with_reducible exact trishawlaw09_turned.mono _ _)
      | (with_reducible exact trishawref09_Quarter.mono _ _ _)
      | (with_reducible exact LeO.refl _)
      | (with_reducible exact LeO.none _)
      | (with_reducible refine LeO.ite ?_ ?_)
      | (with_reducible refine LeO.bind ?_ (fun _ => ?_))
      | exact ih0 _ _ _
      | exact ih1 _ _ _ _ _ _
      | exact ih2 _ _ _ _ _ _
      | exact fetch_Apart.mono _ _ _
      | exact fetch_Cuts.mono _ _ _
      | exact fetch_Mend.mono _ _ _
      | exact fetch_Mends.mono _ _ _
      | exact trishawlaw09_alive.mono _
      | exact trishawlaw09_same.mono _ _ _
      | exact trishawlaw09_turned.mono _ _
      | exact trishawref09_Quarter.mono _ _ _
      | exact LeO.none _
      | refine LeO.ite ?_ ?_
      | refine LeO.bind ?_ (fun _ => ?_)
theorem trishawlaw09_FetchTurned.mono : ∀ a0 a1 k, LeO (trishawlaw09_FetchTurned.f k a0 a1) (trishawlaw09_FetchTurned.f (k + 1) a0 a1) := by
  intro a0 a1 k
  obtain ⟨ih0, ih1, ih2⟩ := trishawlaw09_FetchTurned.mono_l k
  unfold trishawlaw09_FetchTurned.f
  repeat' first
      | (with_reducible exact ih0 _ _ _)
      | (with_reducible exact ih1 _ _ _ _ _ _)
      | (with_reducible exact ih2 _ _ _ _ _ _)
      | (with_reducible exact fetch_Apart.mono _ _ _)
      | (with_reducible exact fetch_Cuts.mono _ _ _)
      | (with_reducible exact fetch_Mend.mono _ _ _)
      | (with_reducible exact fetch_Mends.mono _ _ _)
      | (with_reducible exact trishawlaw09_alive.mono _)
      | (with_reducible exact trishawlaw09_same.mono _ _ _)
      | (with_reducible exact trishawlaw09_turned.mono _ _)
      | (with_reducible exact trishawref09_Quarter.mono _ _ _)
      | (with_reducible exact LeO.refl _)
      | (with_reducible exact LeO.none _)
      | (with_reducible refine LeO.ite ?_ ?_)
      | (with_reducible refine LeO.bind ?_ (fun _ => ?_))
      | exact ih0 _ _ _
      | exact ih1 _ _ _ _ _ _
      | exact ih2 _ _ _ _ _ _
      | exact fetch_Apart.mono _ _ _
      | exact fetch_Cuts.mono _ _ _
      | exact fetch_Mend.mono _ _ _
      | exact fetch_Mends.mono _ _ _
      | exact trishawlaw09_alive.mono _
      | exact trishawlaw09_same.mono _ _ _
      | exact trishawlaw09_turned.mono _ _
      | exact trishawref09_Quarter.mono _ _ _
      | exact LeO.none _
      | refine LeO.ite ?_ ?_
      | refine LeO.bind ?_ (fun _ => ?_)
end Go.Proofs.Ytjbfbdanbpfplaa.OAll
