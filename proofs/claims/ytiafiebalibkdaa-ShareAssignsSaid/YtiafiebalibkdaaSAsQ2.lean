/- A part of the proof of 'shareAssigns_holds', for every input, without a condition. -/
import Derived.Test.YtiafiebalibkdaaSAsQv
import Derived.Test.YtiafiebalibkdaaSAsQj
import Derived.Test.YtiafiebalibkdaaSAsOAllx19
import Derived.Test.YtiafiebalibkdaaSAsOAllx38
namespace Go.Proofs.Ytiafiebalibkdaa.OAll
open Go.RowKit Go.Proofs.YtiafiebalibkdaaW.PrintWords Go.Proofs.YtiafiebalibkdaaW.PrintLast Go.Proofs.YtiafiebalibkdaaW.PrintMore
set_option linter.unusedVariables false
set_option linter.unusedSimpArgs false
def assignR (W : List (List Int)) : List Int × Int × Int := match rentR W with
  | some _ => (cs (bestA (wN W) W.length).1, (bestA (wN W) W.length).2, 0)
  | none => ([], 0, 2)
theorem Assign_ev (W : List (List Int)) (hsm : smallB W = true) : Ev (fun k => share_Assign.f k W) (assignR W) := by
  unfold share_Assign.f assignR
  refine Ev.bind (wished_ev W hsm) ?_
  unfold rentP
  cases h : rentR W with
  | none => simp only [if_neg (show ¬ (2 : Int) = 0 by decide)]; exact Ev.pure _
  | some s => simp only [if_true]; exact Ev.bind (assign_ev (rent_wish h)) (Ev.pure _)
theorem rAssign_ev (W : List (List Int)) : Ev (fun k => trishawref08_Assign.f k W) (assignR W) := by
  unfold trishawref08_Assign.f assignR
  refine Ev.bind (rrent_ev W) ?_
  unfold rentB
  cases h : rentR W with
  | none => simp only [Bool.false_eq_true, if_false]; exact Ev.pure _
  | some s => simp only [if_true]; exact Ev.bind (rassign_ev (rent_wish h)) (Ev.pure _)
def dearerR (W : List (List Int)) : List (List Int) × Int := match rentR W with
  | some _ => (dearT W W.length, 0)
  | none => ([], 2)
theorem Dearer_ev (W : List (List Int)) (hsm : smallB W = true) : Ev (fun k => share_Dearer.f k W) (dearerR W) := by
  unfold share_Dearer.f dearerR
  refine Ev.bind (wished_ev W hsm) ?_
  unfold rentP
  cases h : rentR W with
  | none => simp only [if_neg (show ¬ (2 : Int) = 0 by decide)]; exact Ev.pure _
  | some s => simp only [if_true]; exact Ev.bind (dearer_ev (rent_wish h)) (Ev.pure _)
theorem rDearer_ev (W : List (List Int)) : Ev (fun k => trishawref08_Dearer.f k W) (dearerR W) := by
  unfold trishawref08_Dearer.f dearerR
  refine Ev.bind (rrent_ev W) ?_
  unfold rentB
  cases h : rentR W with
  | none => simp only [Bool.false_eq_true, if_false]; exact Ev.pure _
  | some s => simp only [if_true]; exact Ev.bind (rdearer_ev (rent_wish h)) (Ev.pure _)
theorem rdL1_set {x : List (List Int)} {j k : Nat} (hne : j ≠ k) (v : List Int) : rd_L1 (x.set j v) (k : Int) = rd_L1 x (k : Int) := by
  unfold rd_L1
  rw [Int.toNat_natCast, List.getD_eq_getElem?_getD, List.getD_eq_getElem?_getD, List.getElem?_set_ne hne]
def RowsOk (y : List (List Int)) : Prop := y.length ≤ 1000 ∧ ∀ j, j < y.length → 0 < (rd_L1 y (j : Int)).length ∧ (rd_L1 y (j : Int)).length ≤ 1000
theorem dearerR_rows (W : List (List Int)) : RowsOk (dearerR W).1 := by
  unfold dearerR
  cases h : rentR W with
  | none => exact ⟨by simp, fun j hj => by simp at hj⟩
  | some s =>
    have hW := rent_wish h
    have h1 := hW.pos
    have h5 := hW.five
    have hs := (dearT_least hW).1
    refine ⟨by show (dearT W W.length).length ≤ 1000; rw [hs.len]; omega, fun j hj => ?_⟩
    have hj : j < (dearT W W.length).length := hj
    rw [hs.len] at hj
    have := hs.row j hj
    show 0 < (rd_L1 (dearT W W.length) (j : Int)).length ∧ (rd_L1 (dearT W W.length) (j : Int)).length ≤ 1000
    omega
theorem assigns_l1 (W : List (List Int)) (e : Int) (y : List (List Int)) (hy : RowsOk y) (t : Nat) (ht : t < 2) (hr : Ev (fun k => trishawlaw08_ShareAssigns.l0 k W e y ((t + 1 : Nat) : Int)) true) : ∀ (d j : Nat) (x : List (List Int)), j + d = y.length → x.length = y.length → (∀ k, j ≤ k → rd_L1 x (k : Int) = rd_L1 y (k : Int)) →
    Ev (fun k => trishawlaw08_ShareAssigns.l1 k W e y (t : Int) x (j : Int)) true
  | 0, j, x, ej, hx, h => by
    refine Ev.succ ?_
    simp only [trishawlaw08_ShareAssigns.l1, if_neg (show ¬ (j : Int) < (x.length : Int) by omega), w64s t (show t < 9223372036854775807 by omega)]
    exact hr
  | d + 1, j, x, ej, hx, h => by
    refine Ev.succ ?_
    have hyl := hy.1
    have hrow := hy.2 j (by omega)
    have e1 : rd_L1 x (j : Int) = rd_L1 y (j : Int) := h j (Nat.le_refl _)
    simp only [trishawlaw08_ShareAssigns.l1, if_pos (show (j : Int) < (x.length : Int) by omega), if_pos (show (0 : Int) ≤ (j : Int) by omega), if_pos (show (j : Int) < (y.length : Int) by omega), e1]
    refine Ev.bind (same_ev _ hrow.2) ?_
    simp only [if_true, if_pos (show (0 : Int) < ((rd_L1 y (j : Int)).length : Int) by omega), w64s j (show j < 9223372036854775807 by omega), Int.toNat_natCast]
    exact assigns_l1 W e y hy t ht hr d (j + 1) _ (by omega) (by rw [List.length_set]; exact hx) (fun k hk => by rw [rdL1_set (by omega)]; exact h k (by omega))
theorem assigns_l0 (W : List (List Int)) (hsm : smallB W = true) : ∀ d t : Nat, t + d = 2 → Ev (fun k => trishawlaw08_ShareAssigns.l0 k W (dearerR W).2 (dearerR W).1 (t : Int)) true
  | 0, t, e => by
    refine Ev.succ ?_
    simp only [trishawlaw08_ShareAssigns.l0, if_neg (show ¬ (t : Int) < 2 by omega)]
    exact alive_ev'
  | d + 1, t, e => by
    refine Ev.succ ?_
    have ih := assigns_l0 W hsm d (t + 1) (by omega)
    simp only [trishawlaw08_ShareAssigns.l0, if_pos (show (t : Int) < 2 by omega)]
    refine Ev.bind (Dearer_ev W hsm) ?_
    simp only [if_true, bne_self_eq_false]
    refine Ev.succ ?_
    simp only [trishawlaw08_ShareAssigns.j2, Bool.false_eq_true, if_false]
    exact assigns_l1 W _ _ (dearerR_rows W) t (by omega) ih (dearerR W).1.length 0 _ (by omega) rfl (fun _ _ => rfl)
theorem ShareAssigns_ev (W : List (List Int)) : Ev (fun k => trishawlaw08_ShareAssigns.f k W) true := by
  unfold trishawlaw08_ShareAssigns.f
  refine Ev.bind (small_ev W) ?_
  cases hsm : smallB W
  · simp only [Bool.false_eq_true, if_false]; exact alive_ev'
  · simp only [if_true]
    refine Ev.bind (Assign_ev W hsm) (Ev.bind (rAssign_ev W) (Ev.bind (same_ev _ ?_) ?_))
    · unfold assignR
      cases h : rentR W with
      | none => simp
      | some s =>
        have hW := rent_wish h
        have h5 := hW.five
        have := hW.best.length_eq
        show (cs (bestA (wN W) W.length).1).length ≤ 1000
        rw [cs_len, this]; simp; omega
    · simp only [if_true, bne_self_eq_false]
      refine Ev.succ ?_
      simp only [trishawlaw08_ShareAssigns.j0, Bool.false_eq_true, if_false]
      refine Ev.bind (rDearer_ev W) ?_
      exact assigns_l0 W hsm 2 0 rfl
end Go.Proofs.Ytiafiebalibkdaa.OAll
