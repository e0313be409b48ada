/- A part of the proof of 'shareDiffers_holds', for every input, without a condition. -/
import Derived.Test.YtiafiebalibkdaaSDfQv
import Derived.Test.YtiafiebalibkdaaSDfQi
import Derived.Test.YtiafiebalibkdaaSDfQd
import Derived.Test.YtiafiebalibkdaaSDfOAllx0
import Derived.Test.YtiafiebalibkdaaSDfOAllx1
import Derived.Test.YtiafiebalibkdaaSDfOAllx4
import Derived.Test.YtiafiebalibkdaaSDfOAllx7
import Derived.Test.YtiafiebalibkdaaSDfOAllx8
import Derived.Test.YtiafiebalibkdaaSDfOAllx10
import Derived.Test.YtiafiebalibkdaaSDfOAllx11
import Derived.Test.YtiafiebalibkdaaSDfOAllx20
namespace Go.Proofs.Ytiafiebalibkdaa.OAll
open Go.RowKit Go.Proofs.YtiafiebalibkdaaW.PrintWords Go.Proofs.YtiafiebalibkdaaW.PrintLast Go.Proofs.YtiafiebalibkdaaW.PrintMore
set_option linter.unusedVariables false
set_option linter.unusedSimpArgs false
def Big (x : Int) : Prop := -1000000000000 ≤ x ∧ x ≤ 1000000000000
theorem isum_big : ∀ (l : List Int), (∀ x ∈ l, Big x) → -(1000000000000 * (l.length : Int)) ≤ isum l ∧ isum l ≤ 1000000000000 * (l.length : Int)
  | [], _ => by simp [isum]
  | x :: l, h => by
    obtain ⟨h1, h2⟩ := h x (by simp)
    have h3 := isum_big l (fun y hy => h y (by simp [hy]))
    simp only [isum, List.length_cons]; omega
theorem sum_ev (l : List Int) (hl : l.length ≤ 1000) (hb : ∀ x ∈ l, Big x) : Ev (fun k => share_sum.f k l) (isum l) := by
  have go : ∀ (t p : List Int), l = p ++ t → Ev (fun k => share_sum.l0 k (isum p) l (l.length : Int) (p.length : Int)) (isum l) := by
    intro t
    induction t with
    | nil =>
      intro p e
      refine Ev.succ ?_
      have c1 : ¬ (p.length : Int) < (l.length : Int) := by rw [e]; simp
      simp only [share_sum.l0, if_neg c1]
      rw [e, List.append_nil]; exact Ev.pure _
    | cons y t ih =>
      intro p e
      refine Ev.succ ?_
      have hlt : p.length < l.length := by rw [e]; simp
      have c1 : (p.length : Int) < (l.length : Int) := by omega
      have c2 : (0 : Int) ≤ (p.length : Int) := by omega
      have c3 : rd l (p.length : Int) = y := by rw [e]; exact rd_mid _ _ _
      have hs : isum (p ++ [y]) = isum p + y := by rw [isum_append]; simp [isum]
      have hbb := isum_big (p ++ [y]) (fun x hx => hb x (by rw [e]; simp at hx ⊢; rcases hx with h | h <;> simp [h]))
      have hpl : ((p ++ [y]).length : Int) ≤ 1000 := by simp; omega
      have w1 : Aside0 (wrap64 (isum p + y) = isum (p ++ [y])) := ⟨by rw [← hs]; exact w64 (by omega) (by omega)⟩
      have w2 : Aside0 (wrap64 ((p.length : Int) + 1) = ((p ++ [y]).length : Int)) := ⟨by rw [w64s _ (by omega)]; simp⟩
      simp only [share_sum.l0, if_pos c1, if_pos c2, c3, w1.out, w2.out]
      exact ih (p ++ [y]) (by rw [e]; simp)
  exact go l [] rfl
section
variable {W : List (List Int)} {n : Nat} {rent : Int}
theorem Wish.dear (hW : Wish W n rent) : Sq n (dearT W n) ∧ Least (stT W n) n (wN (dearT W n)) := dearT_least hW
theorem Wish.db (hW : Wish W n rent) {x y : Nat} (hx : x < n) (hy : y < n) : -1000 ≤ wN (dearT W n) x y ∧ wN (dearT W n) x y ≤ 1000 := hW.dear.2.tab.bound hW.posT hW.stepb hx hy
theorem Wish.rent_b (hW : Wish W n rent) : 0 ≤ rent ∧ rent ≤ 1000 * (n : Int) := by
  have h0 := hW.pos
  have hr := hW.row 0 (by omega)
  have hs := hW.sum 0 (by omega)
  have : (rd_L1 W ((0 : Nat) : Int)).all inW = true := by
    rw [List.all_eq_true]
    intro x hx
    obtain ⟨j, hj, rfl⟩ := List.mem_iff_getElem.mp hx
    have := hW.ent 0 j (by omega) (by omega)
    rw [rd_get hj] at this
    exact inW_iff.mpr this
  have hb := isum_inW _ this
  rw [hs, hr] at hb
  exact hb
end
theorem rentP_some {W : List (List Int)} {s : Int} (h : rentR W = some s) : rentP W = (s, 0) := by simp [rentP, h]
theorem rentP_none {W : List (List Int)} (h : rentR W = none) : rentP W = (0, 2) := by simp [rentP, h]
theorem rentB_some {W : List (List Int)} {s : Int} (h : rentR W = some s) : rentB W = (s, true) := by simp [rentB, h]
theorem rentB_none {W : List (List Int)} (h : rentR W = none) : rentB W = (0, false) := by simp [rentB, h]
end Go.Proofs.Ytiafiebalibkdaa.OAll
