/- A part of the proof of 'fetchLucchesi_holds', for every input, without a condition. -/
import Derived.Test.YtjbfbdanbpfplaaSLOAllx0
import Derived.Test.YtjbfbdanbpfplaaSLOAllx6
import Derived.Test.YtjbfbdanbpfplaaSLOAllx7
import Derived.Test.YtjbfbdanbpfplaaSLOAllx9
namespace Go.Proofs.Ytjbfbdanbpfplaa.OAll
open Go.RowKit Go.Proofs.YtjbfbdanbpfplaaW.PrintWords Go.Proofs.YtjbfbdanbpfplaaW.PrintLast Go.Proofs.YtjbfbdanbpfplaaW.PrintMore
attribute [local go_sem] max2_int min2_int max_two min_two max_three min_three max_four min_four
set_option linter.unusedVariables false
set_option linter.unusedSimpArgs false
mutual
def trishawlaw09_FetchMeets.j0 : Nat → Int → List (S34) → Int → Int → Bool → Option (Bool)
  | 0, _, _, _, _, _ => none
  | k + 1, x0, x1, x2, x3, x24 => if x24 = true then ((trishawlaw09_alive.f k).bind fun t259 => (some t259)) else ((fetch_Cuts.f k x0 x1).bind fun bt260 => (if bt260.2 = 0 then (trishawlaw09_FetchMeets.j1 k x0 x2 x3 bt260.1 bt260.2 ((bt260.1.length : Int) == 0)) else (trishawlaw09_FetchMeets.j1 k x0 x2 x3 bt260.1 bt260.2 true)))
def trishawlaw09_FetchMeets.j1 : Nat → Int → Int → Int → List Int → Int → Bool → Option (Bool)
  | 0, _, _, _, _, _, _ => none
  | k + 1, x0, x2, x3, x9, x10, x38 => if x38 = true then (if x10 = 0 then ((trishawlaw09_alive.f k).bind fun t264 => (some t264)) else (some false)) else (if (x9.length : Int) = 0 then (none) else (if 0 ≤ (Int.tmod (wrap64 (x2)) (x9.length : Int)) then (if (Int.tmod (wrap64 (x2)) (x9.length : Int)) < (x9.length : Int) then (if 0 ≤ (Int.tmod (wrap64 (x3)) (x9.length : Int)) then (if (Int.tmod (wrap64 (x3)) (x9.length : Int)) < (x9.length : Int) then (if 0 ≤ x0 then (if x0 ≤ 64 then (trishawlaw09_FetchMeets.l0 k x0 x9 (rd x9 (Int.tmod (wrap64 (x2)) (x9.length : Int))) (rd x9 (Int.tmod (wrap64 (x3)) (x9.length : Int))) ((Go.bits .and .i64 (rd x9 (Int.tmod (wrap64 (x2)) (x9.length : Int))) (rd x9 (Int.tmod (wrap64 (x3)) (x9.length : Int)))) == 0) ((Go.bits .or .i64 (rd x9 (Int.tmod (wrap64 (x2)) (x9.length : Int))) (rd x9 (Int.tmod (wrap64 (x3)) (x9.length : Int)))) == (wrap64 ((wrap64 (2 ^ x0.toNat)) - 1))) 0) else (none)) else (none)) else (none)) else (none)) else (none)) else (none)))
def trishawlaw09_FetchMeets.l0 : Nat → Int → List Int → Int → Int → Bool → Bool → Int → Option (Bool)
  | 0, _, _, _, _, _, _, _ => none
  | k + 1, x0, x9, x11, x12, x13, x14, x15 => if x15 < (x9.length : Int) then (if 0 ≤ x15 then (if (rd x9 x15) < 1 then (some false) else (if 0 ≤ x0 then (if x0 ≤ 64 then (if (rd x9 x15) ≥ (wrap64 ((wrap64 (2 ^ x0.toNat)) - 1)) then (some false) else (if x15 > 0 then (if 0 ≤ (wrap64 (x15 - 1)) then (if (wrap64 (x15 - 1)) < (x9.length : Int) then (if (rd x9 x15) ≤ (rd x9 (wrap64 (x15 - 1))) then (some false) else (if x13 = true then (if x14 = true then (trishawlaw09_FetchMeets.l0 k x0 x9 x11 x12 true true (wrap64 (x15 + 1))) else (trishawlaw09_FetchMeets.l0 k x0 x9 x11 x12 true ((rd x9 x15) == (Go.bits .or .i64 x11 x12)) (wrap64 (x15 + 1)))) else (if x14 = true then (trishawlaw09_FetchMeets.l0 k x0 x9 x11 x12 ((rd x9 x15) == (Go.bits .and .i64 x11 x12)) true (wrap64 (x15 + 1))) else (trishawlaw09_FetchMeets.l0 k x0 x9 x11 x12 ((rd x9 x15) == (Go.bits .and .i64 x11 x12)) ((rd x9 x15) == (Go.bits .or .i64 x11 x12)) (wrap64 (x15 + 1)))))) else (none)) else (none)) else (if x13 = true then (if x14 = true then (trishawlaw09_FetchMeets.l0 k x0 x9 x11 x12 true true (wrap64 (x15 + 1))) else (trishawlaw09_FetchMeets.l0 k x0 x9 x11 x12 true ((rd x9 x15) == (Go.bits .or .i64 x11 x12)) (wrap64 (x15 + 1)))) else (if x14 = true then (trishawlaw09_FetchMeets.l0 k x0 x9 x11 x12 ((rd x9 x15) == (Go.bits .and .i64 x11 x12)) true (wrap64 (x15 + 1))) else (trishawlaw09_FetchMeets.l0 k x0 x9 x11 x12 ((rd x9 x15) == (Go.bits .and .i64 x11 x12)) ((rd x9 x15) == (Go.bits .or .i64 x11 x12)) (wrap64 (x15 + 1))))))) else (none)) else (none))) else (none)) else (if x13 = true then (if x14 = true then ((trishawlaw09_alive.f k).bind fun t277 => (some t277)) else (some false)) else (some false))
end
def trishawlaw09_FetchMeets.f (k : Nat) (a0 : Int) (l1 : List (S34)) (a2 : Int) (a3 : Int) : Option (Bool) := (trishawlaw09_few.f l1 ([] : List Int)).bind fun t257 => (if t257 = true then ((trishawref09_Quarter.f k a0 l1).bind fun t258 => (trishawlaw09_FetchMeets.j0 k a0 l1 a2 a3 (t258 != 0))) else (trishawlaw09_FetchMeets.j0 k a0 l1 a2 a3 true))
theorem trishawlaw09_FetchMeets.mono_l : ∀ k, (∀ y0 y1 y2 y3 y4, LeO (trishawlaw09_FetchMeets.j0 k y0 y1 y2 y3 y4) (trishawlaw09_FetchMeets.j0 (k + 1) y0 y1 y2 y3 y4)) ∧ (∀ y0 y1 y2 y3 y4 y5, LeO (trishawlaw09_FetchMeets.j1 k y0 y1 y2 y3 y4 y5) (trishawlaw09_FetchMeets.j1 (k + 1) y0 y1 y2 y3 y4 y5)) ∧ (∀ y0 y1 y2 y3 y4 y5 y6, LeO (trishawlaw09_FetchMeets.l0 k y0 y1 y2 y3 y4 y5 y6) (trishawlaw09_FetchMeets.l0 (k + 1) y0 y1 y2 y3 y4 y5 y6))
  | 0 => ⟨fun _ _ _ _ _ r h => by simp [trishawlaw09_FetchMeets.j0] at h, fun _ _ _ _ _ _ r h => by simp [trishawlaw09_FetchMeets.j1] at h, fun _ _ _ _ _ _ _ r h => by simp [trishawlaw09_FetchMeets.l0] at h⟩
  | k + 1 => by
    obtain ⟨ih0, ih1, ih2⟩ := trishawlaw09_FetchMeets.mono_l k
    refine ⟨?_, ?_, ?_⟩
    · intro y0 y1 y2 y3 y4
      unfold trishawlaw09_FetchMeets.j0
      repeat' first
      | (with_reducible exact ih0 _ _ _ _ _)
      | (with_reducible exact ih1 _ _ _ _ _ _)
      | (with_reducible exact ih2 _ _ _ _ _ _ _)
      | (with_reducible exact fetch_Cuts.mono _ _ _)
      | (with_reducible exact trishawlaw09_alive.mono _)
      | (with_reducible exact trishawref09_Quarter.mono _ _ _)
      | (with_reducible exact LeO.refl _)
      | (with_reducible exact LeO.none _)
      | (with_reducible refine LeO.ite ?_ ?_)
      | (with_reducible refine LeO.bind ?_ (fun _ => ?_))
      | exact ih0 _ _ _ _ _
      | exact ih1 _ _ _ _ _ _
      | exact ih2 _ _ _ _ _ _ _
      | exact fetch_Cuts.mono _ _ _
      | exact trishawlaw09_alive.mono _
      | exact trishawref09_Quarter.mono _ _ _
      | exact LeO.none _
      | refine LeO.ite ?_ ?_
      | refine LeO.bind ?_ (fun _ => ?_)
    · intro y0 y1 y2 y3 y4 y5
      unfold trishawlaw09_FetchMeets.j1
      repeat' first
      | (with_reducible exact ih0 _ _ _ _ _)
      | (with_reducible exact ih1 _ _ _ _ _ _)
      | (with_reducible exact ih2 _ _ _ _ _ _ _)
      | (with_reducible exact fetch_Cuts.mono _ _ _)
      | (with_reducible exact trishawlaw09_alive.mono _)
      | (with_reducible exact trishawref09_Quarter.mono _ _ _)
      | (with_reducible exact LeO.refl _)
      | (with_reducible exact LeO.none _)
      | (with_reducible refine LeO.ite ?_ ?_)
      | (with_reducible refine LeO.bind ?_ (fun _ => ?_))
      | exact ih0 _ _ _ _ _
      | exact ih1 _ _ _ _ _ _
      | exact ih2 _ _ _ _ _ _ _
      | exact fetch_Cuts.mono _ _ _
      | exact trishawlaw09_alive.mono _
      | exact trishawref09_Quarter.mono _ _ _
      | exact LeO.none _
      | refine LeO.ite ?_ ?_
      | refine LeO.bind ?_ (fun _ => ?_)
    · intro y0 y1 y2 y3 y4 y5 y6
      unfold trishawlaw09_FetchMeets.l0
      repeat' first
      | (with_reducible exact ih0 _ _ _ _ _)
      | (with_reducible exact ih1 _ _ _ _ _ _)
      | (with_reducible exact ih2 _ _ _ _ _ _ _)
      | (with_reducible exact fetch_Cuts.mono _ _ _)
      | (with_reducible exact trishawlaw09_alive.mono _)
      | (with_reducible exact trishawref09_Quarter.mono _ _ _)
      | (with_reducible exact LeO.refl _)
      | (with_reducible exact LeO.none _)
      | (with_reducible refine LeO.ite ?_ ?_)
      | (with_reducible refine LeO.bind ?_ (fun _ => ?_))
      | exact ih0 _ _ _ _ _
      | exact ih1 _ _ _ _ _ _
      | exact ih2 _ _ _ _ _ _ _
      | exact fetch_Cuts.mono _ _ _
      | exact trishawlaw09_alive.mono _
      | exact trishawref09_Quarter.mono _ _ _
      | exact LeO.none _
      | refine LeO.ite ?_ ?_
      | refine LeO.bind ?_ (fun _ => ?_)
theorem trishawlaw09_FetchMeets.mono : ∀ a0 a1 a2 a3 k, LeO (trishawlaw09_FetchMeets.f k a0 a1 a2 a3) (trishawlaw09_FetchMeets.f (k + 1) a0 a1 a2 a3) := by
  intro a0 a1 a2 a3 k
  obtain ⟨ih0, ih1, ih2⟩ := trishawlaw09_FetchMeets.mono_l k
  unfold trishawlaw09_FetchMeets.f
  repeat' first
      | (with_reducible exact ih0 _ _ _ _ _)
      | (with_reducible exact ih1 _ _ _ _ _ _)
      | (with_reducible exact ih2 _ _ _ _ _ _ _)
      | (with_reducible exact fetch_Cuts.mono _ _ _)
      | (with_reducible exact trishawlaw09_alive.mono _)
      | (with_reducible exact trishawref09_Quarter.mono _ _ _)
      | (with_reducible exact LeO.refl _)
      | (with_reducible exact LeO.none _)
      | (with_reducible refine LeO.ite ?_ ?_)
      | (with_reducible refine LeO.bind ?_ (fun _ => ?_))
      | exact ih0 _ _ _ _ _
      | exact ih1 _ _ _ _ _ _
      | exact ih2 _ _ _ _ _ _ _
      | exact fetch_Cuts.mono _ _ _
      | exact trishawlaw09_alive.mono _
      | exact trishawref09_Quarter.mono _ _ _
      | exact LeO.none _
      | refine LeO.ite ?_ ?_
      | refine LeO.bind ?_ (fun _ => ?_)
end Go.Proofs.Ytjbfbdanbpfplaa.OAll
