/- A part of the proof of 'shareRenumbered_holds', for every input, without a condition. -/
import Derived.Test.YtiafiebalibkdaaSRnQs
import Derived.Test.YtiafiebalibkdaaSRnOAllx6
namespace Go.Proofs.Ytiafiebalibkdaa.OAll
open Go.RowKit Go.Proofs.YtiafiebalibkdaaW.PrintWords Go.Proofs.YtiafiebalibkdaaW.PrintLast Go.Proofs.YtiafiebalibkdaaW.PrintMore
set_option linter.unusedVariables false
set_option linter.unusedSimpArgs false
structure Sq (n : Nat) (out : List (List Int)) : Prop where
  len : out.length = n
  row : ∀ x : Nat, x < n → (rd_L1 out (x : Int)).length = n
theorem rd_put (l : List Int) (y b : Nat) (v : Int) (hy : y < l.length) : rd (l.set y v) (b : Int) = if b = y then v else rd l (b : Int) := by
  simp only [rd, Int.toNat_natCast, List.getD_eq_getElem?_getD]
  by_cases e : b = y
  · subst e; simp [hy]
  · rw [List.getElem?_set_ne (by omega), if_neg e]
theorem rd_L1_put (out : List (List Int)) (x i : Nat) (r : List Int) (hx : x < out.length) : rd_L1 (out.set x r) (i : Int) = if i = x then r else rd_L1 out (i : Int) := by
  simp only [rd_L1, Int.toNat_natCast, List.getD_eq_getElem?_getD]
  by_cases e : i = x
  · subst e; simp [hx]
  · rw [List.getElem?_set_ne (by omega), if_neg e]
theorem Sq.put {n : Nat} {out : List (List Int)} (hs : Sq n out) {x y : Nat} (hx : x < n) (hy : y < n) (v : Int) :
    Sq n (out.set x ((rd_L1 out (x : Int)).set y v)) ∧ ∀ a b, wN (out.set x ((rd_L1 out (x : Int)).set y v)) a b = if a = x ∧ b = y then v else wN out a b := by
  have hl := hs.len
  have hr := hs.row x hx
  refine ⟨⟨by rw [List.length_set]; exact hl, fun a ha => ?_⟩, fun a b => ?_⟩
  · rw [rd_L1_put _ _ _ _ (by omega)]
    split
    · rw [List.length_set]; exact hr
    · exact hs.row a ha
  · unfold wN
    rw [rd_L1_put _ _ _ _ (by omega)]
    by_cases e : a = x
    · subst e
      rw [if_pos rfl, rd_put _ _ _ _ (by omega)]
      simp
    · simp [e]
end Go.Proofs.Ytiafiebalibkdaa.OAll
