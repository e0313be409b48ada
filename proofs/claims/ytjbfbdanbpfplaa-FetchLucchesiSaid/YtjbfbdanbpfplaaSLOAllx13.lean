/- A part of the proof of 'fetchLucchesi_holds', for every input, without a condition. -/
import Derived.Test.YtjbfbdanbpfplaaSLOAllx0
import Derived.Test.YtjbfbdanbpfplaaSLOAllx4
import Derived.Test.YtjbfbdanbpfplaaSLOAllx6
import Derived.Test.YtjbfbdanbpfplaaSLOAllx8
import Derived.Test.YtjbfbdanbpfplaaSLOAllx9
namespace Go.Proofs.Ytjbfbdanbpfplaa.OAll
open Go.RowKit Go.Proofs.YtjbfbdanbpfplaaW.PrintWords Go.Proofs.YtjbfbdanbpfplaaW.PrintLast Go.Proofs.YtjbfbdanbpfplaaW.PrintMore
attribute [local go_sem] max2_int min2_int max_two min_two max_three min_three max_four min_four
set_option linter.unusedVariables false
set_option linter.unusedSimpArgs false
def trishawref09_Members.l0 : Nat → Int → List Int → Int → Option (List Int)
  | 0, _, _, _ => none
  | k + 1, x0, x3, x4 => if x4 < 30 then (if 0 ≤ x4 then (if x4 ≤ 64 then (if (Int.tmod (x0 / 2 ^ x4.toNat) 2) = 1 then (if x3.length < 17592186044416 then (trishawref09_Members.l0 k x0 (x3 ++ [x4]) (wrap64 (x4 + 1))) else (none)) else (trishawref09_Members.l0 k x0 x3 (wrap64 (x4 + 1)))) else (none)) else (none)) else (some x3)
def trishawref09_Members.f (k : Nat) (a0 : Int) : Option (List Int) := trishawref09_Members.l0 k a0 ([] : List Int) 0
theorem trishawref09_Members.mono_l : ∀ k, (∀ y0 y1 y2, LeO (trishawref09_Members.l0 k y0 y1 y2) (trishawref09_Members.l0 (k + 1) y0 y1 y2))
  | 0 => fun _ _ _ r h => by simp [trishawref09_Members.l0] at h
  | k + 1 => by
    have ih0 := trishawref09_Members.mono_l k
    · intro y0 y1 y2
      unfold trishawref09_Members.l0
      repeat' first
      | (with_reducible exact ih0 _ _ _)
      | (with_reducible exact LeO.refl _)
      | (with_reducible exact LeO.none _)
      | (with_reducible refine LeO.ite ?_ ?_)
      | (with_reducible refine LeO.bind ?_ (fun _ => ?_))
      | exact ih0 _ _ _
      | exact LeO.none _
      | refine LeO.ite ?_ ?_
      | refine LeO.bind ?_ (fun _ => ?_)
theorem trishawref09_Members.mono : ∀ a0 k, LeO (trishawref09_Members.f k a0) (trishawref09_Members.f (k + 1) a0) := by
  intro a0 k
  have ih0 := trishawref09_Members.mono_l k
  unfold trishawref09_Members.f
  repeat' first
      | (with_reducible exact ih0 _ _ _)
      | (with_reducible exact LeO.refl _)
      | (with_reducible exact LeO.none _)
      | (with_reducible refine LeO.ite ?_ ?_)
      | (with_reducible refine LeO.bind ?_ (fun _ => ?_))
      | exact ih0 _ _ _
      | exact LeO.none _
      | refine LeO.ite ?_ ?_
      | refine LeO.bind ?_ (fun _ => ?_)
def trishawref09_mends.l0 : Nat → List (S34) → List Int → Int → Int → Option (Bool)
  | 0, _, _, _, _ => none
  | k + 1, x0, x1, x2, x7 => if x7 < (x1.length : Int) then (if 0 ≤ x7 then ((trishawref09_crossing.f k x0 (rd x1 x7)).bind fun t353 => (if (Go.bits .and .i64 t353 x2) = 0 then (some false) else (trishawref09_mends.l0 k x0 x1 x2 (wrap64 (x7 + 1))))) else (none)) else (some true)
def trishawref09_mends.f (k : Nat) (l0 : List (S34)) (l1 : List Int) (a2 : Int) : Option (Bool) := trishawref09_mends.l0 k l0 l1 a2 0
theorem trishawref09_mends.mono_l : ∀ k, (∀ y0 y1 y2 y3, LeO (trishawref09_mends.l0 k y0 y1 y2 y3) (trishawref09_mends.l0 (k + 1) y0 y1 y2 y3))
  | 0 => fun _ _ _ _ r h => by simp [trishawref09_mends.l0] at h
  | k + 1 => by
    have ih0 := trishawref09_mends.mono_l k
    · intro y0 y1 y2 y3
      unfold trishawref09_mends.l0
      repeat' first
      | (with_reducible exact ih0 _ _ _ _)
      | (with_reducible exact trishawref09_crossing.mono _ _ _)
      | (with_reducible exact LeO.refl _)
      | (with_reducible exact LeO.none _)
      | (with_reducible refine LeO.ite ?_ ?_)
      | (with_reducible refine LeO.bind ?_ (fun _ => ?_))
      | exact ih0 _ _ _ _
      | exact trishawref09_crossing.mono _ _ _
      | exact LeO.none _
      | refine LeO.ite ?_ ?_
      | refine LeO.bind ?_ (fun _ => ?_)
theorem trishawref09_mends.mono : ∀ a0 a1 a2 k, LeO (trishawref09_mends.f k a0 a1 a2) (trishawref09_mends.f (k + 1) a0 a1 a2) := by
  intro a0 a1 a2 k
  have ih0 := trishawref09_mends.mono_l k
  unfold trishawref09_mends.f
  repeat' first
      | (with_reducible exact ih0 _ _ _ _)
      | (with_reducible exact trishawref09_crossing.mono _ _ _)
      | (with_reducible exact LeO.refl _)
      | (with_reducible exact LeO.none _)
      | (with_reducible refine LeO.ite ?_ ?_)
      | (with_reducible refine LeO.bind ?_ (fun _ => ?_))
      | exact ih0 _ _ _ _
      | exact trishawref09_crossing.mono _ _ _
      | exact LeO.none _
      | refine LeO.ite ?_ ?_
      | refine LeO.bind ?_ (fun _ => ?_)
mutual
def trishawref09_less.l0 : Nat → List Int → List Int → Int → Option (Bool)
  | 0, _, _, _ => none
  | k + 1, x0, x1, x5 => if x5 < (x0.length : Int) then (trishawref09_less.j1 k x0 x1 x5 (decide (x5 < (x1.length : Int)))) else (trishawref09_less.j1 k x0 x1 x5 false)
def trishawref09_less.j1 : Nat → List Int → List Int → Int → Bool → Option (Bool)
  | 0, _, _, _, _ => none
  | k + 1, x0, x1, x5, x15 => if x15 = true then (if 0 ≤ x5 then (if x5 < (x0.length : Int) then (if x5 < (x1.length : Int) then (if (rd x0 x5) = (rd x1 x5) then (trishawref09_less.l0 k x0 x1 (wrap64 (x5 + 1))) else (some (decide ((rd x0 x5) < (rd x1 x5))))) else (none)) else (none)) else (none)) else (some (decide ((x0.length : Int) < (x1.length : Int))))
end
def trishawref09_less.f (k : Nat) (l0 : List Int) (l1 : List Int) : Option (Bool) := trishawref09_less.l0 k l0 l1 0
theorem trishawref09_less.mono_l : ∀ k, (∀ y0 y1 y2, LeO (trishawref09_less.l0 k y0 y1 y2) (trishawref09_less.l0 (k + 1) y0 y1 y2)) ∧ (∀ y0 y1 y2 y3, LeO (trishawref09_less.j1 k y0 y1 y2 y3) (trishawref09_less.j1 (k + 1) y0 y1 y2 y3))
  | 0 => ⟨fun _ _ _ r h => by simp [trishawref09_less.l0] at h, fun _ _ _ _ r h => by simp [trishawref09_less.j1] at h⟩
  | k + 1 => by
    obtain ⟨ih0, ih1⟩ := trishawref09_less.mono_l k
    refine ⟨?_, ?_⟩
    · intro y0 y1 y2
      unfold trishawref09_less.l0
      repeat' first
      | (with_reducible exact ih0 _ _ _)
      | (with_reducible exact ih1 _ _ _ _)
      | (with_reducible exact LeO.refl _)
      | (with_reducible exact LeO.none _)
      | (with_reducible refine LeO.ite ?_ ?_)
      | (with_reducible refine LeO.bind ?_ (fun _ => ?_))
      | exact ih0 _ _ _
      | exact ih1 _ _ _ _
      | exact LeO.none _
      | refine LeO.ite ?_ ?_
      | refine LeO.bind ?_ (fun _ => ?_)
    · intro y0 y1 y2 y3
      unfold trishawref09_less.j1
      repeat' first
      | (with_reducible exact ih0 _ _ _)
      | (with_reducible exact ih1 _ _ _ _)
      | (with_reducible exact LeO.refl _)
      | (with_reducible exact LeO.none _)
      | (with_reducible refine LeO.ite ?_ ?_)
      | (with_reducible refine LeO.bind ?_ (fun _ => ?_))
      | exact ih0 _ _ _
      | exact ih1 _ _ _ _
      | exact LeO.none _
      | refine LeO.ite ?_ ?_
      | refine LeO.bind ?_ (fun _ => ?_)
theorem trishawref09_less.mono : ∀ a0 a1 k, LeO (trishawref09_less.f k a0 a1) (trishawref09_less.f (k + 1) a0 a1) := by
  intro a0 a1 k
  obtain ⟨ih0, ih1⟩ := trishawref09_less.mono_l k
  unfold trishawref09_less.f
  repeat' first
      | (with_reducible exact ih0 _ _ _)
      | (with_reducible exact ih1 _ _ _ _)
      | (with_reducible exact LeO.refl _)
      | (with_reducible exact LeO.none _)
      | (with_reducible refine LeO.ite ?_ ?_)
      | (with_reducible refine LeO.bind ?_ (fun _ => ?_))
      | exact ih0 _ _ _
      | exact ih1 _ _ _ _
      | exact LeO.none _
      | refine LeO.ite ?_ ?_
      | refine LeO.bind ?_ (fun _ => ?_)
mutual
def trishawref09_fewest.l0 : Nat → List (S34) → List Int → List Int → Int → Int → Int → Option (List Int × Int)
  | 0, _, _, _, _, _, _ => none
  | k + 1, x1, x6, x7, x8, x9, x10 => if x10 < (shl .i64 1 (x1.length : Int)) then ((trishawref09_Members.f k x10).bind fun t364 => (if (t364.length : Int) > x9 then (trishawref09_fewest.j1 k x1 x6 x7 x8 x9 x10 t364 true) else ((trishawref09_mends.f k x1 x6 x10).bind fun t367 => (trishawref09_fewest.j1 k x1 x6 x7 x8 x9 x10 t364 (!t367))))) else (some (x7, x8))
def trishawref09_fewest.j1 : Nat → List (S34) → List Int → List Int → Int → Int → Int → List Int → Bool → Option (List Int × Int)
  | 0, _, _, _, _, _, _, _, _ => none
  | k + 1, x1, x6, x7, x8, x9, x10, x11, x38 => if x38 = true then (trishawref09_fewest.l0 k x1 x6 x7 x8 x9 (wrap64 (x10 + 1))) else (if (x11.length : Int) < x9 then (trishawref09_fewest.l0 k x1 x6 x11 (0 + 1) (x11.length : Int) (wrap64 (x10 + 1))) else ((trishawref09_less.f k x11 x7).bind fun t368 => (if t368 = true then (trishawref09_fewest.l0 k x1 x6 x11 (wrap64 (x8 + 1)) x9 (wrap64 (x10 + 1))) else (trishawref09_fewest.l0 k x1 x6 x7 (wrap64 (x8 + 1)) x9 (wrap64 (x10 + 1))))))
end
def trishawref09_fewest.f (k : Nat) (a0 : Int) (l1 : List (S34)) : Option (List Int × Int) := (trishawref09_cuts.f k a0 l1).bind fun t358 => (trishawref09_fewest.l0 k l1 t358 (([] : List Int)) 0 (wrap64 ((l1.length : Int) + 1)) 0)
theorem trishawref09_fewest.mono_l : ∀ k, (∀ y0 y1 y2 y3 y4 y5, LeO (trishawref09_fewest.l0 k y0 y1 y2 y3 y4 y5) (trishawref09_fewest.l0 (k + 1) y0 y1 y2 y3 y4 y5)) ∧ (∀ y0 y1 y2 y3 y4 y5 y6 y7, LeO (trishawref09_fewest.j1 k y0 y1 y2 y3 y4 y5 y6 y7) (trishawref09_fewest.j1 (k + 1) y0 y1 y2 y3 y4 y5 y6 y7))
  | 0 => ⟨fun _ _ _ _ _ _ r h => by simp [trishawref09_fewest.l0] at h, fun _ _ _ _ _ _ _ _ r h => by simp [trishawref09_fewest.j1] at h⟩
  | k + 1 => by
    obtain ⟨ih0, ih1⟩ := trishawref09_fewest.mono_l k
    refine ⟨?_, ?_⟩
    · intro y0 y1 y2 y3 y4 y5
      unfold trishawref09_fewest.l0
      repeat' first
      | (with_reducible exact ih0 _ _ _ _ _ _)
      | (with_reducible exact ih1 _ _ _ _ _ _ _ _)
      | (with_reducible exact trishawref09_Members.mono _ _)
      | (with_reducible exact trishawref09_cuts.mono _ _ _)
      | (with_reducible exact trishawref09_less.mono _ _ _)
      | (with_reducible exact trishawref09_mends.mono _ _ _ _)
      | (with_reducible exact LeO.refl _)
      | (with_reducible exact LeO.none _)
      | (with_reducible refine LeO.ite ?_ ?_)
      | (with_reducible refine LeO.bind ?_ (fun _ => ?_))
      | exact ih0 _ _ _ _ _ _
      | exact ih1 _ _ _ _ _ _ _ _
      | exact trishawref09_Members.mono _ _
      | exact trishawref09_cuts.mono _ _ _
      | exact trishawref09_less.mono _ _ _
      | exact trishawref09_mends.mono _ _ _ _
      | exact LeO.none _
      | refine LeO.ite ?_ ?_
      | refine LeO.bind ?_ (fun _ => ?_)
    · intro y0 y1 y2 y3 y4 y5 y6 y7
      unfold trishawref09_fewest.j1
      repeat' first
      | (with_reducible exact ih0 _ _ _ _ _ _)
      | (with_reducible exact ih1 _ _ _ _ _ _ _ _)
      | (with_reducible exact trishawref09_Members.mono _ _)
      | (with_reducible exact trishawref09_cuts.mono _ _ _)
      | (with_reducible exact trishawref09_less.mono _ _ _)
      | (with_reducible exact trishawref09_mends.mono _ _ _ _)
      | (with_reducible exact LeO.refl _)
      | (with_reducible exact LeO.none _)
      | (with_reducible refine LeO.ite ?_ ?_)
      | (with_reducible refine LeO.bind ?_ (fun _ => ?_))
      | exact ih0 _ _ _ _ _ _
      | exact ih1 _ _ _ _ _ _ _ _
      | exact trishawref09_Members.mono _ _
      | exact trishawref09_cuts.mono _ _ _
      | exact trishawref09_less.mono _ _ _
      | exact trishawref09_mends.mono _ _ _ _
      | exact LeO.none _
      | refine LeO.ite ?_ ?_
      | refine LeO.bind ?_ (fun _ => ?_)
theorem trishawref09_fewest.mono : ∀ a0 a1 k, LeO (trishawref09_fewest.f k a0 a1) (trishawref09_fewest.f (k + 1) a0 a1) := by
  intro a0 a1 k
  obtain ⟨ih0, ih1⟩ := trishawref09_fewest.mono_l k
  unfold trishawref09_fewest.f
  repeat' first
      | (with_reducible exact ih0 _ _ _ _ _ _)
      | (with_reducible exact ih1 _ _ _ _ _ _ _ _)
      | (with_reducible exact trishawref09_Members.mono _ _)
      | (with_reducible exact trishawref09_cuts.mono _ _ _)
      | (with_reducible exact trishawref09_less.mono _ _ _)
      | (with_reducible exact trishawref09_mends.mono _ _ _ _)
      | (with_reducible exact LeO.refl _)
      | (with_reducible exact LeO.none _)
      | (with_reducible refine LeO.ite ?_ ?_)
      | (with_reducible refine LeO.bind ?_ (fun _ => ?_))
      | exact ih0 _ _ _ _ _ _
      | exact ih1 _ _ _ _ _ _ _ _
      | exact trishawref09_Members.mono _ _
      | exact trishawref09_cuts.mono _ _ _
      | exact trishawref09_less.mono _ _ _
      | exact trishawref09_mends.mono _ _ _ _
      | exact LeO.none _
      | refine LeO.ite ?_ ?_
      | refine LeO.bind ?_ (fun _ => ?_)
def trishawref09_Mend.f (k : Nat) (a0 : Int) (l1 : List (S34)) : Option (List Int × Int) := (trishawref09_Quarter.f k a0 l1).bind fun t369 => (if t369 = 0 then ((trishawref09_fewest.f k a0 l1).bind fun bt370 => (some (bt370.1, 0))) else (some (([] : List Int), t369)))
theorem trishawref09_Mend.mono : ∀ a0 a1 k, LeO (trishawref09_Mend.f k a0 a1) (trishawref09_Mend.f (k + 1) a0 a1) := by
  intro a0 a1 k
  unfold trishawref09_Mend.f
  repeat' first
      | (with_reducible exact trishawref09_Quarter.mono _ _ _)
      | (with_reducible exact trishawref09_fewest.mono _ _ _)
      | (with_reducible exact LeO.refl _)
      | (with_reducible exact LeO.none _)
      | (with_reducible refine LeO.ite ?_ ?_)
      | (with_reducible refine LeO.bind ?_ (fun _ => ?_))
      | exact trishawref09_Quarter.mono _ _ _
      | exact trishawref09_fewest.mono _ _ _
      | exact LeO.none _
      | refine LeO.ite ?_ ?_
      | refine LeO.bind ?_ (fun _ => ?_)
def fetch_Mends.f (k : Nat) (a0 : Int) (l1 : List (S34)) : Option (Int × Int) := (fetch_read.f k a0 l1).bind fun bt374 => (if bt374.2.2 = 0 then ((fetch_quarter_fewest.f k bt374.1 bt374.2.1).bind fun bt380 => (some (bt380.2, 0))) else (some (0, bt374.2.2)))
theorem fetch_Mends.mono : ∀ a0 a1 k, LeO (fetch_Mends.f k a0 a1) (fetch_Mends.f (k + 1) a0 a1) := by
  intro a0 a1 k
  unfold fetch_Mends.f
  repeat' first
      | (with_reducible exact fetch_quarter_fewest.mono _ _ _)
      | (with_reducible exact fetch_read.mono _ _ _)
      | (with_reducible exact LeO.refl _)
      | (with_reducible exact LeO.none _)
      | (with_reducible refine LeO.ite ?_ ?_)
      | (with_reducible refine LeO.bind ?_ (fun _ => ?_))
      | exact fetch_quarter_fewest.mono _ _ _
      | exact fetch_read.mono _ _ _
      | exact LeO.none _
      | refine LeO.ite ?_ ?_
      | refine LeO.bind ?_ (fun _ => ?_)
end Go.Proofs.Ytjbfbdanbpfplaa.OAll
