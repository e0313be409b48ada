/- A part of the proof of 'fetchMended_holds', for every input, without a condition. -/
import Derived.Test.YtjbfbdanbpfplaaSEOAllx0
import Derived.Test.YtjbfbdanbpfplaaSEOAllx2
import Derived.Test.YtjbfbdanbpfplaaSEOAllx3
import Derived.Test.YtjbfbdanbpfplaaSEOAllx4
import Derived.Test.YtjbfbdanbpfplaaSEOAllx6
import Derived.Test.YtjbfbdanbpfplaaSEOAllx9
import Derived.Test.YtjbfbdanbpfplaaSEOAllx13
namespace Go.Proofs.Ytjbfbdanbpfplaa.OAll
open Go.RowKit Go.Proofs.YtjbfbdanbpfplaaW.PrintWords Go.Proofs.YtjbfbdanbpfplaaW.PrintLast Go.Proofs.YtjbfbdanbpfplaaW.PrintMore
attribute [local go_sem] max2_int min2_int max_two min_two max_three min_three max_four min_four
set_option linter.unusedVariables false
set_option linter.unusedSimpArgs false
def trishawref09_Set.l0 : Nat → List (S34) → List Int → Int → Int → Option (Int × Bool)
  | 0, _, _, _, _ => none
  | k + 1, x0, x1, x6, x7 => if x7 < (x1.length : Int) then (if 0 ≤ x7 then (if (rd x1 x7) < 0 then (some (0, false)) else (if (rd x1 x7) ≥ (x0.length : Int) then (some (0, false)) else (if x7 > 0 then (if 0 ≤ (wrap64 (x7 - 1)) then (if (wrap64 (x7 - 1)) < (x1.length : Int) then (if (rd x1 x7) ≤ (rd x1 (wrap64 (x7 - 1))) then (some (0, false)) else (if 0 ≤ (rd x1 x7) then (if (rd x1 x7) ≤ 64 then (trishawref09_Set.l0 k x0 x1 (wrap64 (x6 + (wrap64 (2 ^ (rd x1 x7).toNat)))) (wrap64 (x7 + 1))) else (none)) else (none))) else (none)) else (none)) else (if 0 ≤ (rd x1 x7) then (if (rd x1 x7) ≤ 64 then (trishawref09_Set.l0 k x0 x1 (wrap64 (x6 + (wrap64 (2 ^ (rd x1 x7).toNat)))) (wrap64 (x7 + 1))) else (none)) else (none))))) else (none)) else (some (x6, true))
def trishawref09_Set.f (k : Nat) (l0 : List (S34)) (l1 : List Int) : Option (Int × Bool) := trishawref09_Set.l0 k l0 l1 0 0
theorem trishawref09_Set.mono_l : ∀ k, (∀ y0 y1 y2 y3, LeO (trishawref09_Set.l0 k y0 y1 y2 y3) (trishawref09_Set.l0 (k + 1) y0 y1 y2 y3))
  | 0 => fun _ _ _ _ r h => by simp [trishawref09_Set.l0] at h
  | k + 1 => by
    have ih0 := trishawref09_Set.mono_l k
    · intro y0 y1 y2 y3
      unfold trishawref09_Set.l0
      repeat' first
      | (with_reducible exact ih0 _ _ _ _)
      | (with_reducible exact LeO.refl _)
      | (with_reducible exact LeO.none _)
      | (with_reducible refine LeO.ite ?_ ?_)
      | (with_reducible refine LeO.bind ?_ (fun _ => ?_))
      | exact ih0 _ _ _ _
      | exact LeO.none _
      | refine LeO.ite ?_ ?_
      | refine LeO.bind ?_ (fun _ => ?_)
theorem trishawref09_Set.mono : ∀ a0 a1 k, LeO (trishawref09_Set.f k a0 a1) (trishawref09_Set.f (k + 1) a0 a1) := by
  intro a0 a1 k
  have ih0 := trishawref09_Set.mono_l k
  unfold trishawref09_Set.f
  repeat' first
      | (with_reducible exact ih0 _ _ _ _)
      | (with_reducible exact LeO.refl _)
      | (with_reducible exact LeO.none _)
      | (with_reducible refine LeO.ite ?_ ?_)
      | (with_reducible refine LeO.bind ?_ (fun _ => ?_))
      | exact ih0 _ _ _ _
      | exact LeO.none _
      | refine LeO.ite ?_ ?_
      | refine LeO.bind ?_ (fun _ => ?_)
def trishawref09_IsMend.f (k : Nat) (a0 : Int) (l1 : List (S34)) (l2 : List Int) : Option (Bool × Int) := (trishawref09_Quarter.f k a0 l1).bind fun t560 => (if t560 = 0 then ((trishawref09_Set.f k l1 l2).bind fun bt561 => (if bt561.2 = true then ((trishawref09_cuts.f k a0 l1).bind fun t563 => ((trishawref09_mends.f k l1 t563 bt561.1).bind fun t566 => (some (t566, 0)))) else (some (false, 0)))) else (some (false, t560)))
theorem trishawref09_IsMend.mono : ∀ a0 a1 a2 k, LeO (trishawref09_IsMend.f k a0 a1 a2) (trishawref09_IsMend.f (k + 1) a0 a1 a2) := by
  intro a0 a1 a2 k
  unfold trishawref09_IsMend.f
  repeat' first
      | (with_reducible exact trishawref09_Quarter.mono _ _ _)
      | (with_reducible exact trishawref09_Set.mono _ _ _)
      | (with_reducible exact trishawref09_cuts.mono _ _ _)
      | (with_reducible exact trishawref09_mends.mono _ _ _ _)
      | (with_reducible exact LeO.refl _)
      | (with_reducible exact LeO.none _)
      | (with_reducible refine LeO.ite ?_ ?_)
      | (with_reducible refine LeO.bind ?_ (fun _ => ?_))
      | exact trishawref09_Quarter.mono _ _ _
      | exact trishawref09_Set.mono _ _ _
      | exact trishawref09_cuts.mono _ _ _
      | exact trishawref09_mends.mono _ _ _ _
      | exact LeO.none _
      | refine LeO.ite ?_ ?_
      | refine LeO.bind ?_ (fun _ => ?_)
def fetch_AreApart.l0 : Nat → Int → List Int → Int → Int → Int → List (S34) → Option (Bool × Int)
  | 0, _, _, _, _, _, _ => none
  | k + 1, x10, x22, x23, x24, x573000, x573001 => if x24 < x23 then (if 0 ≤ x24 then (if x24 < (x22.length : Int) then ((fetch_quarter_kind.f k x573000 x573001 (rd x22 x24)).bind fun t574 => (if t574 = 1 then ((fetch_quarter_crossing.f k x573000 x573001 (rd x22 x24)).bind fun t575 => (if (Go.bits .and .i64 t575 x10) = 0 then ((fetch_quarter_crossing.f k x573000 x573001 (rd x22 x24)).bind fun t576 => (fetch_AreApart.l0 k (Go.bits .or .i64 x10 t576) x22 x23 (wrap64 (x24 + 1)) x573000 x573001)) else (some (false, 0)))) else (some (false, 0)))) else (none)) else (none)) else (some (true, 0))
def fetch_AreApart.f (k : Nat) (a0 : Int) (l1 : List (S34)) (l2 : List Int) : Option (Bool × Int) := (fetch_read.f k a0 l1).bind fun bt567 => (if bt567.2.2 = 0 then (fetch_AreApart.l0 k 0 l2 (l2.length : Int) 0 bt567.1 bt567.2.1) else (some (false, bt567.2.2)))
theorem fetch_AreApart.mono_l : ∀ k, (∀ y0 y1 y2 y3 y4 y5, LeO (fetch_AreApart.l0 k y0 y1 y2 y3 y4 y5) (fetch_AreApart.l0 (k + 1) y0 y1 y2 y3 y4 y5))
  | 0 => fun _ _ _ _ _ _ r h => by simp [fetch_AreApart.l0] at h
  | k + 1 => by
    have ih0 := fetch_AreApart.mono_l k
    · intro y0 y1 y2 y3 y4 y5
      unfold fetch_AreApart.l0
      repeat' first
      | (with_reducible exact ih0 _ _ _ _ _ _)
      | (with_reducible exact fetch_quarter_crossing.mono _ _ _ _)
      | (with_reducible exact fetch_quarter_kind.mono _ _ _ _)
      | (with_reducible exact fetch_read.mono _ _ _)
      | (with_reducible exact LeO.refl _)
      | (with_reducible exact LeO.none _)
      | (with_reducible refine LeO.ite ?_ ?_)
      | (with_reducible refine LeO.bind ?_ (fun _ => ?_))
      | exact ih0 _ _ _ _ _ _
      | exact fetch_quarter_crossing.mono _ _ _ _
      | exact fetch_quarter_kind.mono _ _ _ _
      | exact fetch_read.mono _ _ _
      | exact LeO.none _
      | refine LeO.ite ?_ ?_
      | refine LeO.bind ?_ (fun _ => ?_)
theorem fetch_AreApart.mono : ∀ a0 a1 a2 k, LeO (fetch_AreApart.f k a0 a1 a2) (fetch_AreApart.f (k + 1) a0 a1 a2) := by
  intro a0 a1 a2 k
  have ih0 := fetch_AreApart.mono_l k
  unfold fetch_AreApart.f
  repeat' first
      | (with_reducible exact ih0 _ _ _ _ _ _)
      | (with_reducible exact fetch_quarter_crossing.mono _ _ _ _)
      | (with_reducible exact fetch_quarter_kind.mono _ _ _ _)
      | (with_reducible exact fetch_read.mono _ _ _)
      | (with_reducible exact LeO.refl _)
      | (with_reducible exact LeO.none _)
      | (with_reducible refine LeO.ite ?_ ?_)
      | (with_reducible refine LeO.bind ?_ (fun _ => ?_))
      | exact ih0 _ _ _ _ _ _
      | exact fetch_quarter_crossing.mono _ _ _ _
      | exact fetch_quarter_kind.mono _ _ _ _
      | exact fetch_read.mono _ _ _
      | exact LeO.none _
      | refine LeO.ite ?_ ?_
      | refine LeO.bind ?_ (fun _ => ?_)
def trishawref09_AreApart.l0 : Nat → Int → List (S34) → List Int → Int → Int → Option (Bool × Int)
  | 0, _, _, _, _, _ => none
  | k + 1, x0, x1, x2, x9, x10 => if x10 < (x2.length : Int) then (if 0 ≤ x10 then ((trishawref09_IsCut.f k x0 x1 (rd x2 x10)).bind fun t579 => (if t579 = true then ((trishawref09_crossing.f k x1 (rd x2 x10)).bind fun t581 => (if (Go.bits .and .i64 t581 x9) = 0 then ((trishawref09_crossing.f k x1 (rd x2 x10)).bind fun t583 => (trishawref09_AreApart.l0 k x0 x1 x2 (Go.bits .or .i64 x9 t583) (wrap64 (x10 + 1)))) else (some (false, 0)))) else (some (false, 0)))) else (none)) else (some (true, 0))
def trishawref09_AreApart.f (k : Nat) (a0 : Int) (l1 : List (S34)) (l2 : List Int) : Option (Bool × Int) := (trishawref09_Quarter.f k a0 l1).bind fun t577 => (if t577 = 0 then (trishawref09_AreApart.l0 k a0 l1 l2 0 0) else (some (false, t577)))
theorem trishawref09_AreApart.mono_l : ∀ k, (∀ y0 y1 y2 y3 y4, LeO (trishawref09_AreApart.l0 k y0 y1 y2 y3 y4) (trishawref09_AreApart.l0 (k + 1) y0 y1 y2 y3 y4))
  | 0 => fun _ _ _ _ _ r h => by simp [trishawref09_AreApart.l0] at h
  | k + 1 => by
    have ih0 := trishawref09_AreApart.mono_l k
    · intro y0 y1 y2 y3 y4
      unfold trishawref09_AreApart.l0
      repeat' first
      | (with_reducible exact ih0 _ _ _ _ _)
      | (with_reducible exact trishawref09_IsCut.mono _ _ _ _)
      | (with_reducible exact trishawref09_Quarter.mono _ _ _)
      | (with_reducible exact trishawref09_crossing.mono _ _ _)
      | (with_reducible exact LeO.refl _)
      | (with_reducible exact LeO.none _)
      | (with_reducible refine LeO.ite ?_ ?_)
      | (with_reducible refine LeO.bind ?_ (fun _ => ?_))
      | exact ih0 _ _ _ _ _
      | exact trishawref09_IsCut.mono _ _ _ _
      | exact trishawref09_Quarter.mono _ _ _
      | exact trishawref09_crossing.mono _ _ _
      | exact LeO.none _
      | refine LeO.ite ?_ ?_
      | refine LeO.bind ?_ (fun _ => ?_)
theorem trishawref09_AreApart.mono : ∀ a0 a1 a2 k, LeO (trishawref09_AreApart.f k a0 a1 a2) (trishawref09_AreApart.f (k + 1) a0 a1 a2) := by
  intro a0 a1 a2 k
  have ih0 := trishawref09_AreApart.mono_l k
  unfold trishawref09_AreApart.f
  repeat' first
      | (with_reducible exact ih0 _ _ _ _ _)
      | (with_reducible exact trishawref09_IsCut.mono _ _ _ _)
      | (with_reducible exact trishawref09_Quarter.mono _ _ _)
      | (with_reducible exact trishawref09_crossing.mono _ _ _)
      | (with_reducible exact LeO.refl _)
      | (with_reducible exact LeO.none _)
      | (with_reducible refine LeO.ite ?_ ?_)
      | (with_reducible refine LeO.bind ?_ (fun _ => ?_))
      | exact ih0 _ _ _ _ _
      | exact trishawref09_IsCut.mono _ _ _ _
      | exact trishawref09_Quarter.mono _ _ _
      | exact trishawref09_crossing.mono _ _ _
      | exact LeO.none _
      | refine LeO.ite ?_ ?_
      | refine LeO.bind ?_ (fun _ => ?_)
end Go.Proofs.Ytjbfbdanbpfplaa.OAll
