/- A part of the proof of 'fetchMended_holds', for every input, without a condition. -/
import Derived.Test.YtjbfbdanbpfplaaSEOAllx0
import Derived.Test.YtjbfbdanbpfplaaSEOAllx6
import Derived.Test.YtjbfbdanbpfplaaSEOAllx7
import Derived.Test.YtjbfbdanbpfplaaSEOAllx8
import Derived.Test.YtjbfbdanbpfplaaSEOAllx9
import Derived.Test.YtjbfbdanbpfplaaSEOAllx14
import Derived.Test.YtjbfbdanbpfplaaSEOAllx16
namespace Go.Proofs.Ytjbfbdanbpfplaa.OAll
open Go.RowKit Go.Proofs.YtjbfbdanbpfplaaW.PrintWords Go.Proofs.YtjbfbdanbpfplaaW.PrintLast Go.Proofs.YtjbfbdanbpfplaaW.PrintMore
attribute [local go_sem] max2_int min2_int max_two min_two max_three min_three max_four min_four
set_option linter.unusedVariables false
set_option linter.unusedSimpArgs false
mutual
def trishawlaw09_FetchCrossed.j0 : Nat → Int → List (S34) → List Int → Int → Bool → Option (Bool)
  | 0, _, _, _, _, _ => none
  | k + 1, x0, x1, x2, x3, x31 => if x31 = true then ((trishawlaw09_alive.f k).bind fun t524 => (some t524)) else ((fetch_Smallest.f k x0 x1).bind fun bt525 => ((fetch_Cuts.f k x0 x1).bind fun bt528 => ((fetch_IsMend.f k x0 x1 x2).bind fun bt532 => (if bt528.2 = 0 then (if bt532.2 = 0 then (if ((bt525.2.2 == 0) != (decide ((bt528.1.length : Int) > 0))) = true then (trishawlaw09_FetchCrossed.j1 k x0 x1 x2 x3 bt525.1 bt525.2.1 bt525.2.2 bt528.1 bt532.1 true) else (if bt525.2.2 = 0 then (trishawlaw09_FetchCrossed.j1 k x0 x1 x2 x3 bt525.1 bt525.2.1 bt525.2.2 bt528.1 bt532.1 false) else (trishawlaw09_FetchCrossed.j1 k x0 x1 x2 x3 bt525.1 bt525.2.1 bt525.2.2 bt528.1 bt532.1 (bt525.2.2 != 10)))) else (trishawlaw09_FetchCrossed.j1 k x0 x1 x2 x3 bt525.1 bt525.2.1 bt525.2.2 bt528.1 bt532.1 true)) else (trishawlaw09_FetchCrossed.j1 k x0 x1 x2 x3 bt525.1 bt525.2.1 bt525.2.2 bt528.1 bt532.1 true)))))
def trishawlaw09_FetchCrossed.j1 : Nat → Int → List (S34) → List Int → Int → Int → Int → Int → List Int → Bool → Bool → Option (Bool)
  | 0, _, _, _, _, _, _, _, _, _, _ => none
  | k + 1, x0, x1, x2, x3, x9, x10, x11, x12, x14, x74 => if x74 = true then (some false) else (if x11 = 0 then (if (x12.length : Int) = 0 then (none) else (if 0 ≤ (Int.tmod (wrap64 (x3)) (x12.length : Int)) then (if (Int.tmod (wrap64 (x3)) (x12.length : Int)) < (x12.length : Int) then ((fetch_Crossing.f k x0 x1 x10).bind fun bt536 => ((fetch_Crossing.f k x0 x1 (rd x12 (Int.tmod (wrap64 (x3)) (x12.length : Int)))).bind fun bt540 => (if bt536.2 = 0 then (if bt540.2 = 0 then (if (bt536.1.length : Int) = x9 then (if x9 < 1 then (trishawlaw09_FetchCrossed.j2 k x1 x2 x14 (rd x12 (Int.tmod (wrap64 (x3)) (x12.length : Int))) bt540.1 true) else (if (bt540.1.length : Int) < x9 then (trishawlaw09_FetchCrossed.j2 k x1 x2 x14 (rd x12 (Int.tmod (wrap64 (x3)) (x12.length : Int))) bt540.1 true) else (if (bt540.1.length : Int) = x9 then (trishawlaw09_FetchCrossed.j2 k x1 x2 x14 (rd x12 (Int.tmod (wrap64 (x3)) (x12.length : Int))) bt540.1 (decide ((rd x12 (Int.tmod (wrap64 (x3)) (x12.length : Int))) < x10))) else (trishawlaw09_FetchCrossed.j2 k x1 x2 x14 (rd x12 (Int.tmod (wrap64 (x3)) (x12.length : Int))) bt540.1 false)))) else (trishawlaw09_FetchCrossed.j2 k x1 x2 x14 (rd x12 (Int.tmod (wrap64 (x3)) (x12.length : Int))) bt540.1 true)) else (trishawlaw09_FetchCrossed.j2 k x1 x2 x14 (rd x12 (Int.tmod (wrap64 (x3)) (x12.length : Int))) bt540.1 true)) else (trishawlaw09_FetchCrossed.j2 k x1 x2 x14 (rd x12 (Int.tmod (wrap64 (x3)) (x12.length : Int))) bt540.1 true)))) else (none)) else (none))) else (if (wrap64 (x9 + x10)) = 0 then ((trishawlaw09_alive.f k).bind fun t534 => (some t534)) else (some false)))
def trishawlaw09_FetchCrossed.j2 : Nat → List (S34) → List Int → Bool → Int → List Int → Bool → Option (Bool)
  | 0, _, _, _, _, _, _ => none
  | k + 1, x1, x2, x14, x16, x18, x138 => if x138 = true then (some false) else (trishawlaw09_FetchCrossed.l0 k x1 x2 x14 x16 x18 0)
def trishawlaw09_FetchCrossed.l0 : Nat → List (S34) → List Int → Bool → Int → List Int → Int → Option (Bool)
  | 0, _, _, _, _, _, _ => none
  | k + 1, x1, x2, x14, x16, x18, x19 => if x19 < (x18.length : Int) then (if 0 ≤ x19 then (if (rd x18 x19) < 0 then (some false) else (if (rd x18 x19) ≥ (x1.length : Int) then (some false) else (if 0 ≤ (rd x18 x19) then (if (rd x18 x19) < (x1.length : Int) then (if 0 ≤ ((rd_T34 x1 (rd x18 x19)).f0) then (if ((rd_T34 x1 (rd x18 x19)).f0) ≤ 64 then (if (Int.tmod (x16 / 2 ^ ((rd_T34 x1 (rd x18 x19)).f0).toNat) 2) = 1 then (if 0 ≤ ((rd_T34 x1 (rd x18 x19)).f1) then (if ((rd_T34 x1 (rd x18 x19)).f1) ≤ 64 then (if (Int.tmod (x16 / 2 ^ ((rd_T34 x1 (rd x18 x19)).f1).toNat) 2) = 0 then (trishawlaw09_FetchCrossed.l0 k x1 x2 x14 x16 x18 (wrap64 (x19 + 1))) else (some false)) else (none)) else (none)) else (some false)) else (none)) else (none)) else (none)) else (none)))) else (none)) else (if x14 = true then (trishawlaw09_FetchCrossed.l1 k x2 x18 0) else ((trishawlaw09_alive.f k).bind fun t550 => (some t550)))
def trishawlaw09_FetchCrossed.l1 : Nat → List Int → List Int → Int → Option (Bool)
  | 0, _, _, _ => none
  | k + 1, x2, x18, x20 => if x20 < (x18.length : Int) then (trishawlaw09_FetchCrossed.l2 k x2 x18 x20 0) else (some false)
def trishawlaw09_FetchCrossed.l2 : Nat → List Int → List Int → Int → Int → Option (Bool)
  | 0, _, _, _, _ => none
  | k + 1, x2, x18, x20, x21 => if x21 < (x2.length : Int) then (if 0 ≤ x21 then (if 0 ≤ x20 then (if x20 < (x18.length : Int) then (if (rd x2 x21) = (rd x18 x20) then ((trishawlaw09_alive.f k).bind fun t553 => (some t553)) else (trishawlaw09_FetchCrossed.l2 k x2 x18 x20 (wrap64 (x21 + 1)))) else (none)) else (none)) else (none)) else (trishawlaw09_FetchCrossed.l1 k x2 x18 (wrap64 (x20 + 1)))
end
def trishawlaw09_FetchCrossed.f (k : Nat) (a0 : Int) (l1 : List (S34)) (l2 : List Int) (a3 : Int) : Option (Bool) := (trishawlaw09_few.f l1 l2).bind fun t522 => (if t522 = true then ((trishawref09_Quarter.f k a0 l1).bind fun t523 => (trishawlaw09_FetchCrossed.j0 k a0 l1 l2 a3 (t523 != 0))) else (trishawlaw09_FetchCrossed.j0 k a0 l1 l2 a3 true))
theorem trishawlaw09_FetchCrossed.mono_l : ∀ k, (∀ y0 y1 y2 y3 y4, LeO (trishawlaw09_FetchCrossed.j0 k y0 y1 y2 y3 y4) (trishawlaw09_FetchCrossed.j0 (k + 1) y0 y1 y2 y3 y4)) ∧ (∀ y0 y1 y2 y3 y4 y5 y6 y7 y8 y9, LeO (trishawlaw09_FetchCrossed.j1 k y0 y1 y2 y3 y4 y5 y6 y7 y8 y9) (trishawlaw09_FetchCrossed.j1 (k + 1) y0 y1 y2 y3 y4 y5 y6 y7 y8 y9)) ∧ (∀ y0 y1 y2 y3 y4 y5, LeO (trishawlaw09_FetchCrossed.j2 k y0 y1 y2 y3 y4 y5) (trishawlaw09_FetchCrossed.j2 (k + 1) y0 y1 y2 y3 y4 y5)) ∧ (∀ y0 y1 y2 y3 y4 y5, LeO (trishawlaw09_FetchCrossed.l0 k y0 y1 y2 y3 y4 y5) (trishawlaw09_FetchCrossed.l0 (k + 1) y0 y1 y2 y3 y4 y5)) ∧ (∀ y0 y1 y2, LeO (trishawlaw09_FetchCrossed.l1 k y0 y1 y2) (trishawlaw09_FetchCrossed.l1 (k + 1) y0 y1 y2)) ∧ (∀ y0 y1 y2 y3, LeO (trishawlaw09_FetchCrossed.l2 k y0 y1 y2 y3) (trishawlaw09_FetchCrossed.l2 (k + 1) y0 y1 y2 y3))
  | 0 => ⟨fun _ _ _ _ _ r h => by simp [trishawlaw09_FetchCrossed.j0] at h, fun _ _ _ _ _ _ _ _ _ _ r h => by simp [trishawlaw09_FetchCrossed.j1] at h, fun _ _ _ _ _ _ r h => by simp [trishawlaw09_FetchCrossed.j2] at h, fun _ _ _ _ _ _ r h => by simp [trishawlaw09_FetchCrossed.l0] at h, fun _ _ _ r h => by simp [trishawlaw09_FetchCrossed.l1] at h, fun _ _ _ _ r h => by simp [trishawlaw09_FetchCrossed.l2] at h⟩
  | k + 1 => by
    obtain ⟨ih0, ih1, ih2, ih3, ih4, ih5⟩ := trishawlaw09_FetchCrossed.mono_l k
    refine ⟨?_, ?_, ?_, ?_, ?_, ?_⟩
    · intro y0 y1 y2 y3 y4
      unfold trishawlaw09_FetchCrossed.j0
      repeat' first
      | (with_reducible exact ih0 _ _ _ _ _)
      | (with_reducible exact ih1 _ _ _ _ _ _ _ _ _ _)
      | (with_reducible exact ih2 _ _ _ _ _ _)
      | (with_reducible exact ih3 _ _ _ _ _ _)
      | (with_reducible exact ih4 _ _ _)
      | (with_reducible exact ih5 _ _ _ _)
      | (with_reducible exact fetch_Crossing.mono _ _ _ _)
      | (with_reducible exact fetch_Cuts.mono _ _ _)
      | (with_reducible exact fetch_IsMend.mono _ _ _ _)
      | (with_reducible exact fetch_Smallest.mono _ _ _)
      | (with_reducible exact trishawlaw09_alive.mono _)
      | (with_reducible exact trishawref09_Quarter.mono _ _ _)
      | (with_reducible exact LeO.refl _)
      | (with_reducible exact LeO.none _)
      | (with_reducible refine LeO.ite ?_ ?_)
      | (with_reducible refine LeO.bind ?_ (fun _ => ?_))
      | exact ih0 _ _ _ _ _
      | exact ih1 _ _ _ _ _ _ _ _ _ _
      | exact ih2 _ _ _ _ _ _
      | exact ih3 _ _ _ _ _ _
      | exact ih4 _ _ _
      | exact ih5 _ _ _ _
      | exact fetch_Crossing.mono _ _ _ _
      | exact fetch_Cuts.mono _ _ _
      | exact fetch_IsMend.mono _ _ _ _
      | exact fetch_Smallest.mono _ _ _
      | exact trishawlaw09_alive.mono _
      | exact trishawref09_Quarter.mono _ _ _
      | exact LeO.none _
      | refine LeO.ite ?_ ?_
      | refine LeO.bind ?_ (fun _ => ?_)
    · intro y0 y1 y2 y3 y4 y5 y6 y7 y8 y9
      unfold trishawlaw09_FetchCrossed.j1
      repeat' first
      | (with_reducible exact ih0 _ _ _ _ _)
      | (with_reducible exact ih1 _ _ _ _ _ _ _ _ _ _)
      | (with_reducible exact ih2 _ _ _ _ _ _)
      | (with_reducible exact ih3 _ _ _ _ _ _)
      | (with_reducible exact ih4 _ _ _)
      | (with_reducible exact ih5 _ _ _ _)
      | (with_reducible exact fetch_Crossing.mono _ _ _ _)
      | (with_reducible exact fetch_Cuts.mono _ _ _)
      | (with_reducible exact fetch_IsMend.mono _ _ _ _)
      | (with_reducible exact fetch_Smallest.mono _ _ _)
      | (with_reducible exact trishawlaw09_alive.mono _)
      | (with_reducible exact trishawref09_Quarter.mono _ _ _)
      | (with_reducible exact LeO.refl _)
      | (with_reducible exact LeO.none _)
      | (with_reducible refine LeO.ite ?_ ?_)
      | (with_reducible refine LeO.bind ?_ (fun _ => ?_))
      | exact ih0 _ _ _ _ _
      | exact ih1 _ _ _ _ _ _ _ _ _ _
      | exact ih2 _ _ _ _ _ _
      | exact ih3 _ _ _ _ _ _
      | exact ih4 _ _ _
      | exact ih5 _ _ _ _
      | exact fetch_Crossing.mono _ _ _ _
      | exact fetch_Cuts.mono _ _ _
      | exact fetch_IsMend.mono _ _ _ _
      | exact fetch_Smallest.mono _ _ _
      | exact trishawlaw09_alive.mono _
      | exact trishawref09_Quarter.mono _ _ _
      | exact LeO.none _
      | refine LeO.ite ?_ ?_
      | refine LeO.bind ?_ (fun _ => ?_)
    · intro y0 y1 y2 y3 y4 y5
      unfold trishawlaw09_FetchCrossed.j2
      repeat' first
      | (with_reducible exact ih0 _ _ _ _ _)
      | (with_reducible exact ih1 _ _ _ _ _ _ _ _ _ _)
      | (with_reducible exact ih2 _ _ _ _ _ _)
      | (with_reducible exact ih3 _ _ _ _ _ _)
      | (with_reducible exact ih4 _ _ _)
      | (with_reducible exact ih5 _ _ _ _)
      | (with_reducible exact fetch_Crossing.mono _ _ _ _)
      | (with_reducible exact fetch_Cuts.mono _ _ _)
      | (with_reducible exact fetch_IsMend.mono _ _ _ _)
      | (with_reducible exact fetch_Smallest.mono _ _ _)
      | (with_reducible exact trishawlaw09_alive.mono _)
      | (with_reducible exact trishawref09_Quarter.mono _ _ _)
      | (with_reducible exact LeO.refl _)
      | (with_reducible exact LeO.none _)
      | (with_reducible refine LeO.ite ?_ ?_)
      | (with_reducible refine LeO.bind ?_ (fun _ => ?_))
      | exact ih0 _ _ _ _ _
      | exact ih1 _ _ _ _ _ _ _ _ _ _
      | exact ih2 _ _ _ _ _ _
      | exact ih3 _ _ _ _ _ _
      | exact ih4 _ _ _
      | exact ih5 _ _ _ _
      | exact fetch_Crossing.mono _ _ _ _
      | exact fetch_Cuts.mono _ _ _
      | exact fetch_IsMend.mono _ _ _ _
      | exact fetch_Smallest.mono _ _ _
      | exact trishawlaw09_alive.mono _
      | exact trishawref09_Quarter.mono _ _ _
      | exact LeO.none _
      | refine LeO.ite ?_ ?_
      | refine LeO.bind ?_ (fun _ => ?_)
    · intro y0 y1 y2 y3 y4 y5
      unfold trishawlaw09_FetchCrossed.l0
      repeat' first
      | (with_reducible exact ih0 _ _ _ _ _)
      | (with_reducible exact ih1 _ _ _ _ _ _ _ _ _ _)
      | (with_reducible exact ih2 _ _ _ _ _ _)
      | (with_reducible exact ih3 _ _ _ _ _ _)
      | (with_reducible exact ih4 _ _ _)
      | (with_reducible exact ih5 _ _ _ _)
      | (with_reducible exact fetch_Crossing.mono _ _ _ _)
      | (with_reducible exact fetch_Cuts.mono _ _ _)
      | (with_reducible exact fetch_IsMend.mono _ _ _ _)
      | (with_reducible exact fetch_Smallest.mono _ _ _)
      | (with_reducible exact trishawlaw09_alive.mono _)
      | (with_reducible exact trishawref09_Quarter.mono _ _ _)
      | (with_reducible exact LeO.refl _)
      | (with_reducible exact LeO.none _)
      | (with_reducible refine LeO.ite ?_ ?_)
      | (with_reducible refine LeO.bind ?_ (fun _ => ?_))
      | exact ih0 _ _ _ _ _
      | exact ih1 _ _ _ _ _ _ _ _ _ _
      | exact ih2 _ _ _ _ _ _
      | exact ih3 _ _ _ _ _ _
      | exact ih4 _ _ _
      | exact ih5 _ _ _ _
      | exact fetch_Crossing.mono _ _ _ _
      | exact fetch_Cuts.mono _ _ _
      | exact fetch_IsMend.mono _ _ _ _
      | exact fetch_Smallest.mono _ _ _
      | exact trishawlaw09_alive.mono _
      | exact trishawref09_Quarter.mono _ _ _
      | exact LeO.none _
      | refine LeO.ite ?_ ?_
      | refine LeO.bind ?_ (fun _ => ?_)
    · intro y0 y1 y2
      unfold trishawlaw09_FetchCrossed.l1
      repeat' first
      | (with_reducible exact ih0 _ _ _ _ _)
      | (with_reducible exact ih1 _ _ _ _ _ _ _ _ _ _)
      | (with_reducible exact ih2 _ _ _ _ _ _)
      | (with_reducible exact ih3 _ _ _ _ _ _)
      | (with_reducible exact ih4 _ _ _)
      | (with_reducible exact ih5 _ _ _ _)
      | (with_reducible exact fetch_Crossing.mono _ _ _ _)
      | (with_reducible exact fetch_Cuts.mono _ _ _)
      | (with_reducible exact fetch_IsMend.mono _ _ _ _)
      | (with_reducible exact fetch_Smallest.mono _ _ _)
      | (with_reducible exact trishawlaw09_alive.mono _)
      | (with_reducible exact trishawref09_Quarter.mono _ _ _)
      | (with_reducible exact LeO.refl _)
      | (with_reducible exact LeO.none _)
      | (with_reducible refine LeO.ite ?_ ?_)
      | (with_reducible refine LeO.bind ?_ (fun _ => ?_))
      | exact ih0 _ _ _ _ _
      | exact ih1 _ _ _ _ _ _ _ _ _ _
      | exact ih2 _ _ _ _ _ _
      | exact ih3 _ _ _ _ _ _
      | exact ih4 _ _ _
      | exact ih5 _ _ _ _
      | exact fetch_Crossing.mono _ _ _ _
      | exact fetch_Cuts.mono _ _ _
      | exact fetch_IsMend.mono _ _ _ _
      | exact fetch_Smallest.mono _ _ _
      | exact trishawlaw09_alive.mono _
      | exact trishawref09_Quarter.mono _ _ _
      | exact LeO.none _
      | refine LeO.ite ?_ ?_
      | refine LeO.bind ?_ (fun _ => ?_)
    · intro y0 y1 y2 y3
      unfold trishawlaw09_FetchCrossed.l2
      repeat' first
      | (with_reducible exact ih0 _ _ _ _ _)
      | (with_reducible exact ih1 _ _ _ _ _ _ _ _ _ _)
      | (with_reducible exact ih2 _ _ _ _ _ _)
      | (with_reducible exact ih3 _ _ _ _ _ _)
      | (with_reducible exact ih4 _ _ _)
      | (with_reducible exact ih5 _ _ _ _)
      | (with_reducible exact fetch_Crossing.mono _ _ _ _)
      | (with_reducible exact fetch_Cuts.mono _ _ _)
      | (with_reducible exact fetch_IsMend.mono _ _ _ _)
      | (with_reducible exact fetch_Smallest.mono _ _ _)
      | (with_reducible exact trishawlaw09_alive.mono _)
      | (with_reducible exact trishawref09_Quarter.mono _ _ _)
      | (with_reducible exact LeO.refl _)
      | (with_reducible exact LeO.none _)
      | (with_reducible refine LeO.ite ?_ ?_)
      | (with_reducible refine LeO.bind ?_ (fun _ => ?_))
      | exact ih0 _ _ _ _ _
      | exact ih1 _ _ _ _ _ _ _ _ _ _
      | exact ih2 _ _ _ _ _ _
      | exact ih3 _ _ _ _ _ _
      | exact ih4 _ _ _
      | exact ih5 _ _ _ _
      | exact fetch_Crossing.mono _ _ _ _
      | exact fetch_Cuts.mono _ _ _
      | exact fetch_IsMend.mono _ _ _ _
      | exact fetch_Smallest.mono _ _ _
      | exact trishawlaw09_alive.mono _
      | exact trishawref09_Quarter.mono _ _ _
      | exact LeO.none _
      | refine LeO.ite ?_ ?_
      | refine LeO.bind ?_ (fun _ => ?_)
theorem trishawlaw09_FetchCrossed.mono : ∀ a0 a1 a2 a3 k, LeO (trishawlaw09_FetchCrossed.f k a0 a1 a2 a3) (trishawlaw09_FetchCrossed.f (k + 1) a0 a1 a2 a3) := by
  intro a0 a1 a2 a3 k
  obtain ⟨ih0, ih1, ih2, ih3, ih4, ih5⟩ := trishawlaw09_FetchCrossed.mono_l k
  unfold trishawlaw09_FetchCrossed.f
  repeat' first
      | (with_reducible exact ih0 _ _ _ _ _)
      | (with_reducible exact ih1 _ _ _ _ _ _ _ _ _ _)
      | (with_reducible exact ih2 _ _ _ _ _ _)
      | (with_reducible exact ih3 _ _ _ _ _ _)
      | (with_reducible exact ih4 _ _ _)
      | (with_reducible exact ih5 _ _ _ _)
      | (with_reducible exact fetch_Crossing.mono _ _ _ _)
      | (with_reducible exact fetch_Cuts.mono _ _ _)
      | (with_reducible exact fetch_IsMend.mono _ _ _ _)
      | (with_reducible exact fetch_Smallest.mono _ _ _)
      | (with_reducible exact trishawlaw09_alive.mono _)
      | (with_reducible exact trishawref09_Quarter.mono _ _ _)
      | (with_reducible exact LeO.refl _)
      | (with_reducible exact LeO.none _)
      | (with_reducible refine LeO.ite ?_ ?_)
      | (with_reducible refine LeO.bind ?_ (fun _ => ?_))
      | exact ih0 _ _ _ _ _
      | exact ih1 _ _ _ _ _ _ _ _ _ _
      | exact ih2 _ _ _ _ _ _
      | exact ih3 _ _ _ _ _ _
      | exact ih4 _ _ _
      | exact ih5 _ _ _ _
      | exact fetch_Crossing.mono _ _ _ _
      | exact fetch_Cuts.mono _ _ _
      | exact fetch_IsMend.mono _ _ _ _
      | exact fetch_Smallest.mono _ _ _
      | exact trishawlaw09_alive.mono _
      | exact trishawref09_Quarter.mono _ _ _
      | exact LeO.none _
      | refine LeO.ite ?_ ?_
      | refine LeO.bind ?_ (fun _ => ?_)
end Go.Proofs.Ytjbfbdanbpfplaa.OAll
