/- A part of the proof of 'fetchLucchesi_holds', for every input, without a condition. -/
import Derived.Test.YtjbfbdanbpfplaaSLOAllx0
import Derived.Test.YtjbfbdanbpfplaaSLOAllx6
import Derived.Test.YtjbfbdanbpfplaaSLOAllx7
import Derived.Test.YtjbfbdanbpfplaaSLOAllx9
namespace Go.Proofs.Ytjbfbdanbpfplaa.OAll
open Go.RowKit Go.Proofs.YtjbfbdanbpfplaaW.PrintWords Go.Proofs.YtjbfbdanbpfplaaW.PrintLast Go.Proofs.YtjbfbdanbpfplaaW.PrintMore
attribute [local go_sem] max2_int min2_int max_two min_two max_three min_three max_four min_four
set_option linter.unusedVariables false
set_option linter.unusedSimpArgs false
mutual
def trishawlaw09_FetchContracted.j0 : Nat → Int → List (S34) → Int → Bool → Option (Bool)
  | 0, _, _, _, _ => none
  | k + 1, x0, x1, x2, x37 => if x37 = true then ((trishawlaw09_alive.f k).bind fun t280 => (some t280)) else (if (x1.length : Int) = 0 then (none) else (if 0 ≤ (Int.tmod (wrap64 (x2)) (x1.length : Int)) then (if (Int.tmod (wrap64 (x2)) (x1.length : Int)) < (x1.length : Int) then (if 0 ≤ x0 then (if (x0 : Int).toNat ≤ 35184372088832 then (trishawlaw09_FetchContracted.l0 k x0 x1 (mn ((rd_T34 x1 (Int.tmod (wrap64 (x2)) (x1.length : Int))).f0) ((rd_T34 x1 (Int.tmod (wrap64 (x2)) (x1.length : Int))).f1)) (mx ((rd_T34 x1 (Int.tmod (wrap64 (x2)) (x1.length : Int))).f0) ((rd_T34 x1 (Int.tmod (wrap64 (x2)) (x1.length : Int))).f1)) (List.replicate (x0 : Int).toNat 0) 0) else (none)) else (none)) else (none)) else (none)))
def trishawlaw09_FetchContracted.l0 : Nat → Int → List (S34) → Int → Int → List Int → Int → Option (Bool)
  | 0, _, _, _, _, _, _ => none
  | k + 1, x0, x1, x8, x9, x10, x11 => if x11 < x0 then (if 0 ≤ x11 then (if x11 < (x10.length : Int) then ((some (x10.set (x11 : Int).toNat x11 : List Int)).bind fun y288 => (if x11 = x9 then (trishawlaw09_FetchContracted.l0 k x0 x1 x8 x9 (y288.set (x11 : Int).toNat x8) (wrap64 (x11 + 1))) else (if x11 > x9 then (trishawlaw09_FetchContracted.l0 k x0 x1 x8 x9 (y288.set (x11 : Int).toNat (wrap64 (x11 - 1))) (wrap64 (x11 + 1))) else (trishawlaw09_FetchContracted.l0 k x0 x1 x8 x9 y288 (wrap64 (x11 + 1)))))) else (none)) else (none)) else (trishawlaw09_FetchContracted.l1 k x0 x1 x8 x9 x10 ([] : List (S34)) 0)
def trishawlaw09_FetchContracted.l1 : Nat → Int → List (S34) → Int → Int → List Int → List (S34) → Int → Option (Bool)
  | 0, _, _, _, _, _, _, _ => none
  | k + 1, x0, x1, x8, x9, x10, x12, x13 => if x13 < (x1.length : Int) then (if 0 ≤ x13 then (if 0 ≤ ((rd_T34 x1 x13).f0) then (if ((rd_T34 x1 x13).f0) < (x10.length : Int) then (if 0 ≤ ((rd_T34 x1 x13).f1) then (if ((rd_T34 x1 x13).f1) < (x10.length : Int) then (if (rd x10 ((rd_T34 x1 x13).f0)) = (rd x10 ((rd_T34 x1 x13).f1)) then (trishawlaw09_FetchContracted.l1 k x0 x1 x8 x9 x10 x12 (wrap64 (x13 + 1))) else (if x12.length < 8796093022208 then (trishawlaw09_FetchContracted.l1 k x0 x1 x8 x9 x10 (x12 ++ [(⟨rd x10 ((rd_T34 x1 x13).f0), rd x10 ((rd_T34 x1 x13).f1)⟩ : S34)]) (wrap64 (x13 + 1))) else (none))) else (none)) else (none)) else (none)) else (none)) else (none)) else ((fetch_Cuts.f k x0 x1).bind fun bt299 => ((fetch_Cuts.f k (wrap64 (x0 - 1)) x12).bind fun bt303 => (if bt299.2 = 0 then (trishawlaw09_FetchContracted.j3 k x0 x8 x9 x10 bt299.1 bt303.1 (bt303.2 != 0)) else (trishawlaw09_FetchContracted.j3 k x0 x8 x9 x10 bt299.1 bt303.1 true))))
def trishawlaw09_FetchContracted.j3 : Nat → Int → Int → Int → List Int → List Int → List Int → Bool → Option (Bool)
  | 0, _, _, _, _, _, _, _ => none
  | k + 1, x0, x8, x9, x10, x15, x17, x142 => if x142 = true then (some false) else (trishawlaw09_FetchContracted.l2 k x0 x8 x9 x10 x15 x17 0 0)
def trishawlaw09_FetchContracted.l2 : Nat → Int → Int → Int → List Int → List Int → List Int → Int → Int → Option (Bool)
  | 0, _, _, _, _, _, _, _, _ => none
  | k + 1, x0, x8, x9, x10, x15, x17, x19, x20 => if x20 < (x15.length : Int) then (if 0 ≤ x20 then (if 0 ≤ x8 then (if x8 ≤ 64 then (if 0 ≤ x9 then (if x9 ≤ 64 then (if (Int.tmod ((rd x15 x20) / 2 ^ x8.toNat) 2) = (Int.tmod ((rd x15 x20) / 2 ^ x9.toNat) 2) then (trishawlaw09_FetchContracted.l3 k x0 x8 x9 x10 x15 x17 (wrap64 (x19 + 1)) x20 0 0) else (trishawlaw09_FetchContracted.l2 k x0 x8 x9 x10 x15 x17 x19 (wrap64 (x20 + 1)))) else (none)) else (none)) else (none)) else (none)) else (none)) else (if x19 = (x17.length : Int) then ((trishawlaw09_alive.f k).bind fun t307 => (some t307)) else (some false))
def trishawlaw09_FetchContracted.l3 : Nat → Int → Int → Int → List Int → List Int → List Int → Int → Int → Int → Int → Option (Bool)
  | 0, _, _, _, _, _, _, _, _, _, _ => none
  | k + 1, x0, x8, x9, x10, x15, x17, x19, x20, x21, x22 => if x22 < x0 then (if 0 ≤ x20 then (if x20 < (x15.length : Int) then (if 0 ≤ x22 then (if x22 ≤ 64 then (if (Int.tmod ((rd x15 x20) / 2 ^ x22.toNat) 2) = 1 then (if x22 < (x10.length : Int) then (if 0 ≤ (rd x10 x22) then (if (rd x10 x22) ≤ 64 then (trishawlaw09_FetchContracted.l3 k x0 x8 x9 x10 x15 x17 x19 x20 (Go.bits .or .i64 x21 (wrap64 (2 ^ (rd x10 x22).toNat))) (wrap64 (x22 + 1))) else (none)) else (none)) else (none)) else (trishawlaw09_FetchContracted.l3 k x0 x8 x9 x10 x15 x17 x19 x20 x21 (wrap64 (x22 + 1)))) else (none)) else (none)) else (none)) else (none)) else (trishawlaw09_FetchContracted.l4 k x0 x8 x9 x10 x15 x17 x19 x20 x21 false 0)
def trishawlaw09_FetchContracted.l4 : Nat → Int → Int → Int → List Int → List Int → List Int → Int → Int → Int → Bool → Int → Option (Bool)
  | 0, _, _, _, _, _, _, _, _, _, _, _ => none
  | k + 1, x0, x8, x9, x10, x15, x17, x19, x20, x21, x23, x24 => if x24 < (x17.length : Int) then (if x23 = true then (trishawlaw09_FetchContracted.l4 k x0 x8 x9 x10 x15 x17 x19 x20 x21 true (wrap64 (x24 + 1))) else (if 0 ≤ x24 then (trishawlaw09_FetchContracted.l4 k x0 x8 x9 x10 x15 x17 x19 x20 x21 ((rd x17 x24) == x21) (wrap64 (x24 + 1))) else (none))) else (if x23 = true then (trishawlaw09_FetchContracted.l2 k x0 x8 x9 x10 x15 x17 x19 (wrap64 (x20 + 1))) else (some false))
end
def trishawlaw09_FetchContracted.f (k : Nat) (a0 : Int) (l1 : List (S34)) (a2 : Int) : Option (Bool) := (trishawlaw09_few.f l1 ([] : List Int)).bind fun t278 => (if t278 = true then ((trishawref09_Quarter.f k a0 l1).bind fun t279 => (if t279 = 0 then (trishawlaw09_FetchContracted.j0 k a0 l1 a2 (decide (a0 < 3))) else (trishawlaw09_FetchContracted.j0 k a0 l1 a2 true))) else (trishawlaw09_FetchContracted.j0 k a0 l1 a2 true))
theorem trishawlaw09_FetchContracted.mono_l : ∀ k, (∀ y0 y1 y2 y3, LeO (trishawlaw09_FetchContracted.j0 k y0 y1 y2 y3) (trishawlaw09_FetchContracted.j0 (k + 1) y0 y1 y2 y3)) ∧ (∀ y0 y1 y2 y3 y4 y5, LeO (trishawlaw09_FetchContracted.l0 k y0 y1 y2 y3 y4 y5) (trishawlaw09_FetchContracted.l0 (k + 1) y0 y1 y2 y3 y4 y5)) ∧ (∀ y0 y1 y2 y3 y4 y5 y6, LeO (trishawlaw09_FetchContracted.l1 k y0 y1 y2 y3 y4 y5 y6) (trishawlaw09_FetchContracted.l1 (k + 1) y0 y1 y2 y3 y4 y5 y6)) ∧ (∀ y0 y1 y2 y3 y4 y5 y6, LeO (trishawlaw09_FetchContracted.j3 k y0 y1 y2 y3 y4 y5 y6) (trishawlaw09_FetchContracted.j3 (k + 1) y0 y1 y2 y3 y4 y5 y6)) ∧ (∀ y0 y1 y2 y3 y4 y5 y6 y7, LeO (trishawlaw09_FetchContracted.l2 k y0 y1 y2 y3 y4 y5 y6 y7) (trishawlaw09_FetchContracted.l2 (k + 1) y0 y1 y2 y3 y4 y5 y6 y7)) ∧ (∀ y0 y1 y2 y3 y4 y5 y6 y7 y8 y9, LeO (trishawlaw09_FetchContracted.l3 k y0 y1 y2 y3 y4 y5 y6 y7 y8 y9) (trishawlaw09_FetchContracted.l3 (k + 1) y0 y1 y2 y3 y4 y5 y6 y7 y8 y9)) ∧ (∀ y0 y1 y2 y3 y4 y5 y6 y7 y8 y9 y10, LeO (trishawlaw09_FetchContracted.l4 k y0 y1 y2 y3 y4 y5 y6 y7 y8 y9 y10) (trishawlaw09_FetchContracted.l4 (k + 1) y0 y1 y2 y3 y4 y5 y6 y7 y8 y9 y10))
  | 0 => ⟨fun _ _ _ _ r h => by simp [trishawlaw09_FetchContracted.j0] at h, fun _ _ _ _ _ _ r h => by simp [trishawlaw09_FetchContracted.l0] at h, fun _ _ _ _ _ _ _ r h => by simp [trishawlaw09_FetchContracted.l1] at h, fun _ _ _ _ _ _ _ r h => by simp [trishawlaw09_FetchContracted.j3] at h, fun _ _ _ _ _ _ _ _ r h => by simp [trishawlaw09_FetchContracted.l2] at h, fun _ _ _ _ _ _ _ _ _ _ r h => by simp [trishawlaw09_FetchContracted.l3] at h, fun _ _ _ _ _ _ _ _ _ _ _ r h => by simp [trishawlaw09_FetchContracted.l4] at h⟩
  | k + 1 => by
    obtain ⟨ih0, ih1, ih2, ih3, ih4, ih5, ih6⟩ := trishawlaw09_FetchContracted.mono_l k
    refine ⟨?_, ?_, ?_, ?_, ?_, ?_, ?_⟩
    · intro y0 y1 y2 y3
      unfold trishawlaw09_FetchContracted.j0
      repeat' first
      | (with_reducible exact ih0 _ _ _ _)
      | (with_reducible exact ih1 _ _ _ _ _ _)
      | (with_reducible exact ih2 _ _ _ _ _ _ _)
      | (with_reducible exact ih3 _ _ _ _ _ _ _)
      | (with_reducible exact ih4 _ _ _ _ _ _ _ _)
      | (with_reducible exact ih5 _ _ _ _ _ _ _ _ _ _)
      | (with_reducible exact ih6 _ _ _ _ _ _ _ _ _ _ _)
      | (with_reducible exact fetch_Cuts.mono _ _ _)
      | (with_reducible exact trishawlaw09_alive.mono _)
      | (with_reducible exact trishawref09_Quarter.mono _ _ _)
      | (with_reducible exact LeO.refl _)
      | (with_reducible exact LeO.none _)
      | (with_reducible refine LeO.ite ?_ ?_)
      | (with_reducible refine LeO.bind ?_ (fun _ => ?_))
      | exact ih0 _ _ _ _
      | exact ih1 _ _ _ _ _ _
      | exact ih2 _ _ _ _ _ _ _
      | exact ih3 _ _ _ _ _ _ _
      | exact ih4 _ _ _ _ _ _ _ _
      | exact ih5 _ _ _ _ _ _ _ _ _ _
      | exact ih6 _ _ _ _ _ _ _ _ _ _ _
      | exact fetch_Cuts.mono _ _ _
      | exact trishawlaw09_alive.mono _
      | exact trishawref09_Quarter.mono _ _ _
      | exact LeO.none _
      | refine LeO.ite ?_ ?_
      | refine LeO.bind ?_ (fun _ => ?_)
    · intro y0 y1 y2 y3 y4 y5
      unfold trishawlaw09_FetchContracted.l0
      repeat' first
      | (with_reducible exact ih0 _ _ _ _)
      | (with_reducible exact ih1 _ _ _ _ _ _)
      | (with_reducible exact ih2 _ _ _ _ _ _ _)
      | (with_reducible exact ih3 _ _ _ _ _ _ _)
      | (with_reducible exact ih4 _ _ _ _ _ _ _ _)
      | (with_reducible exact ih5 _ _ _ _ _ _ _ _ _ _)
      | (with_reducible exact ih6 _ _ _ _ _ _ _ _ _ _ _)
      | (with_reducible exact fetch_Cuts.mono _ _ _)
      | (with_reducible exact trishawlaw09_alive.mono _)
      | (with_reducible exact trishawref09_Quarter.mono _ _ _)
      | (with_reducible exact LeO.refl _)
      | (with_reducible exact LeO.none _)
      | (with_reducible refine LeO.ite ?_ ?_)
      | (with_reducible refine LeO.bind ?_ (fun _ => ?_))
      | exact ih0 _ _ _ _
      | exact ih1 _ _ _ _ _ _
      | exact ih2 _ _ _ _ _ _ _
      | exact ih3 _ _ _ _ _ _ _
      | exact ih4 _ _ _ _ _ _ _ _
      | exact ih5 _ _ _ _ _ _ _ _ _ _
      | exact ih6 _ _ _ _ _ _ _ _ _ _ _
      | exact fetch_Cuts.mono _ _ _
      | exact trishawlaw09_alive.mono _
      | exact trishawref09_Quarter.mono _ _ _
      | exact LeO.none _
      | refine LeO.ite ?_ ?_
      | refine LeO.bind ?_ (fun _ => ?_)
    · intro y0 y1 y2 y3 y4 y5 y6
      unfold trishawlaw09_FetchContracted.l1
      repeat' first
      | (with_reducible exact ih0 _ _ _ _)
      | (with_reducible exact ih1 _ _ _ _ _ _)
      | (with_reducible exact ih2 _ _ _ _ _ _ _)
      | (with_reducible exact ih3 _ _ _ _ _ _ _)
      | (with_reducible exact ih4 _ _ _ _ _ _ _ _)
      | (with_reducible exact ih5 _ _ _ _ _ _ _ _ _ _)
      | (with_reducible exact ih6 _ _ _ _ _ _ _ _ _ _ _)
      | (with_reducible exact fetch_Cuts.mono _ _ _)
      | (with_reducible exact trishawlaw09_alive.mono _)
      | (with_reducible exact trishawref09_Quarter.mono _ _ _)
      | (with_reducible exact LeO.refl _)
      | (with_reducible exact LeO.none _)
      | (with_reducible refine LeO.ite ?_ ?_)
      | (with_reducible refine LeO.bind ?_ (fun _ => ?_))
      | exact ih0 _ _ _ _
      | exact ih1 _ _ _ _ _ _
      | exact ih2 _ _ _ _ _ _ _
      | exact ih3 _ _ _ _ _ _ _
      | exact ih4 _ _ _ _ _ _ _ _
      | exact ih5 _ _ _ _ _ _ _ _ _ _
      | exact ih6 _ _ _ _ _ _ _ _ _ _ _
      | exact fetch_Cuts.mono _ _ _
      | exact trishawlaw09_alive.mono _
      | exact trishawref09_Quarter.mono _ _ _
      | exact LeO.none _
      | refine LeO.ite ?_ ?_
      | refine LeO.bind ?_ (fun _ => ?_)
    · intro y0 y1 y2 y3 y4 y5 y6
      unfold trishawlaw09_FetchContracted.j3
      repeat' first
      | (with_reducible exact ih0 _ _ _ _)
      | (with_reducible exact ih1 _ _ _ _ _ _)
      | (with_reducible exact ih2 _ _ _ _ _ _ _)
      | (with_reducible exact ih3 _ _ _ _ _ _ _)
      | (with_reducible exact ih4 _ _ _ _ _ _ _ _)
      | (with_reducible exact ih5 _ _ _ _ _ _ _ _ _ _)
      | (with_reducible exact ih6 _ _ _ _ _ _ _ _ _ _ _)
      | (with_reducible exact fetch_Cuts.mono _ _ _)
      | (with_reducible exact trishawlaw09_alive.mono _)
      | (with_reducible exact trishawref09_Quarter.mono _ _ _)
      | (with_reducible exact LeO.refl _)
      | (with_reducible exact LeO.none _)
      | (with_reducible refine LeO.ite ?_ ?_)
      | (with_reducible refine LeO.bind ?_ (fun _ => ?_))
      | exact ih0 _ _ _ _
      | exact ih1 _ _ _ _ _ _
      | exact ih2 _ _ _ _ _ _ _
      | exact ih3 _ _ _ _ _ _ _
      | exact ih4 _ _ _ _ _ _ _ _
      | exact ih5 _ _ _ _ _ _ _ _ _ _
      | exact ih6 _ _ _ _ _ _ _ _ _ _ _
      | exact fetch_Cuts.mono _ _ _
      | exact trishawlaw09_alive.mono _
      | exact trishawref09_Quarter.mono _ _ _
      | exact LeO.none _
      | refine LeO.ite ?_ ?_
      | refine LeO.bind ?_ (fun _ => ?_)
    · intro y0 y1 y2 y3 y4 y5 y6 y7
      unfold trishawlaw09_FetchContracted.l2
      repeat' first
      | (with_reducible exact ih0 _ _ _ _)
      | (with_reducible exact ih1 _ _ _ _ _ _)
      | (with_reducible exact ih2 _ _ _ _ _ _ _)
      | (with_reducible exact ih3 _ _ _ _ _ _ _)
      | (with_reducible exact ih4 _ _ _ _ _ _ _ _)
      | (with_reducible exact ih5 _ _ _ _ _ _ _ _ _ _)
      | (with_reducible exact ih6 _ _ _ _ _ _ _ _ _ _ _)
      | (with_reducible exact fetch_Cuts.mono _ _ _)
      | (with_reducible exact trishawlaw09_alive.mono _)
      | (with_reducible exact trishawref09_Quarter.mono _ _ _)
      | (with_reducible exact LeO.refl _)
      | (with_reducible exact LeO.none _)
      | (with_reducible refine LeO.ite ?_ ?_)
      | (with_reducible refine LeO.bind ?_ (fun _ => ?_))
      | exact ih0 _ _ _ _
      | exact ih1 _ _ _ _ _ _
      | exact ih2 _ _ _ _ _ _ _
      | exact ih3 _ _ _ _ _ _ _
      | exact ih4 _ _ _ _ _ _ _ _
      | exact ih5 _ _ _ _ _ _ _ _ _ _
      | exact ih6 _ _ _ _ _ _ _ _ _ _ _
      | exact fetch_Cuts.mono _ _ _
      | exact trishawlaw09_alive.mono _
      | exact trishawref09_Quarter.mono _ _ _
      | exact LeO.none _
      | refine LeO.ite ?_ ?_
      | refine LeO.bind ?_ (fun _ => ?_)
    · intro y0 y1 y2 y3 y4 y5 y6 y7 y8 y9
      unfold trishawlaw09_FetchContracted.l3
      repeat' first
      | (with_reducible exact ih0 _ _ _ _)
      | (with_reducible exact ih1 _ _ _ _ _ _)
      | (with_reducible exact ih2 _ _ _ _ _ _ _)
      | (with_reducible exact ih3 _ _ _ _ _ _ _)
      | (with_reducible exact ih4 _ _ _ _ _ _ _ _)
      | (with_reducible exact ih5 _ _ _ _ _ _ _ _ _ _)
      | (with_reducible exact ih6 _ _ _ _ _ _ _ _ _ _ _)
      | (with_reducible exact fetch_Cuts.mono _ _ _)
      | (with_reducible exact trishawlaw09_alive.mono _)
      | (with_reducible exact trishawref09_Quarter.mono _ _ _)
      | (with_reducible exact LeO.refl _)
      | (with_reducible exact LeO.none _)
      | (with_reducible refine LeO.ite ?_ ?_)
      | (with_reducible refine LeO.bind ?_ (fun _ => ?_))
      | exact ih0 _ _ _ _
      | exact ih1 _ _ _ _ _ _
      | exact ih2 _ _ _ _ _ _ _
      | exact ih3 _ _ _ _ _ _ _
      | exact ih4 _ _ _ _ _ _ _ _
      | exact ih5 _ _ _ _ _ _ _ _ _ _
      | exact ih6 _ _ _ _ _ _ _ _ _ _ _
      | exact fetch_Cuts.mono _ _ _
      | exact trishawlaw09_alive.mono _
      | exact trishawref09_Quarter.mono _ _ _
      | exact LeO.none _
      | refine LeO.ite ?_ ?_
      | refine LeO.bind ?_ (fun _ => ?_)
    · intro y0 y1 y2 y3 y4 y5 y6 y7 y8 y9 y10
      unfold trishawlaw09_FetchContracted.l4
      repeat' first
      | (with_reducible exact ih0 _ _ _ _)
      | (with_reducible exact ih1 _ _ _ _ _ _)
      | (with_reducible exact ih2 _ _ _ _ _ _ _)
      | (with_reducible exact ih3 _ _ _ _ _ _ _)
      | (with_reducible exact ih4 _ _ _ _ _ _ _ _)
      | (with_reducible exact ih5 _ _ _ _ _ _ _ _ _ _)
      | (with_reducible exact ih6 _ _ _ _ _ _ _ _ _ _ _)
      | (with_reducible exact fetch_Cuts.mono _ _ _)
      | (with_reducible exact trishawlaw09_alive.mono _)
      | (with_reducible exact trishawref09_Quarter.mono _ _ _)
      | (with_reducible exact LeO.refl _)
      | (with_reducible exact LeO.none _)
      | (with_reducible refine LeO.ite ?_ ?_)
      | (with_reducible refine LeO.bind ?_ (fun _ => ?_))
      | exact ih0 _ _ _ _
      | exact ih1 _ _ _ _ _ _
      | exact ih2 _ _ _ _ _ _ _
      | exact ih3 _ _ _ _ _ _ _
      | exact ih4 _ _ _ _ _ _ _ _
      | exact ih5 _ _ _ _ _ _ _ _ _ _
      | exact ih6 _ _ _ _ _ _ _ _ _ _ _
      | exact fetch_Cuts.mono _ _ _
      | exact trishawlaw09_alive.mono _
      | exact trishawref09_Quarter.mono _ _ _
      | exact LeO.none _
      | refine LeO.ite ?_ ?_
      | refine LeO.bind ?_ (fun _ => ?_)
theorem trishawlaw09_FetchContracted.mono : ∀ a0 a1 a2 k, LeO (trishawlaw09_FetchContracted.f k a0 a1 a2) (trishawlaw09_FetchContracted.f (k + 1) a0 a1 a2) := by
  intro a0 a1 a2 k
  obtain ⟨ih0, ih1, ih2, ih3, ih4, ih5, ih6⟩ := trishawlaw09_FetchContracted.mono_l k
  unfold trishawlaw09_FetchContracted.f
  repeat' first
      | (with_reducible exact ih0 _ _ _ _)
      | (with_reducible exact ih1 _ _ _ _ _ _)
      | (with_reducible exact ih2 _ _ _ _ _ _ _)
      | (with_reducible exact ih3 _ _ _ _ _ _ _)
      | (with_reducible exact ih4 _ _ _ _ _ _ _ _)
      | (with_reducible exact ih5 _ _ _ _ _ _ _ _ _ _)
      | (with_reducible exact ih6 _ _ _ _ _ _ _ _ _ _ _)
      | (with_reducible exact fetch_Cuts.mono _ _ _)
      | (with_reducible exact trishawlaw09_alive.mono _)
      | (with_reducible exact trishawref09_Quarter.mono _ _ _)
      | (with_reducible exact LeO.refl _)
      | (with_reducible exact LeO.none _)
      | (with_reducible refine LeO.ite ?_ ?_)
      | (with_reducible refine LeO.bind ?_ (fun _ => ?_))
      | exact ih0 _ _ _ _
      | exact ih1 _ _ _ _ _ _
      | exact ih2 _ _ _ _ _ _ _
      | exact ih3 _ _ _ _ _ _ _
      | exact ih4 _ _ _ _ _ _ _ _
      | exact ih5 _ _ _ _ _ _ _ _ _ _
      | exact ih6 _ _ _ _ _ _ _ _ _ _ _
      | exact fetch_Cuts.mono _ _ _
      | exact trishawlaw09_alive.mono _
      | exact trishawref09_Quarter.mono _ _ _
      | exact LeO.none _
      | refine LeO.ite ?_ ?_
      | refine LeO.bind ?_ (fun _ => ?_)
end Go.Proofs.Ytjbfbdanbpfplaa.OAll
