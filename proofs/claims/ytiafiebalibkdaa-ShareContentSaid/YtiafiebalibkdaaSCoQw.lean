/- A part of the proof of 'shareContent_holds', for every input, without a condition. -/
import Derived.Test.YtiafiebalibkdaaSCoQv
import Derived.Test.YtiafiebalibkdaaSCoQi
import Derived.Test.YtiafiebalibkdaaSCoQd
import Derived.Test.YtiafiebalibkdaaSCoOAllx0
import Derived.Test.YtiafiebalibkdaaSCoOAllx1
import Derived.Test.YtiafiebalibkdaaSCoOAllx4
import Derived.Test.YtiafiebalibkdaaSCoOAllx7
import Derived.Test.YtiafiebalibkdaaSCoOAllx8
import Derived.Test.YtiafiebalibkdaaSCoOAllx10
import Derived.Test.YtiafiebalibkdaaSCoOAllx20
namespace Go.Proofs.Ytiafiebalibkdaa.OAll
open Go.RowKit Go.Proofs.YtiafiebalibkdaaW.PrintWords Go.Proofs.YtiafiebalibkdaaW.PrintLast Go.Proofs.YtiafiebalibkdaaW.PrintMore
set_option linter.unusedVariables false
set_option linter.unusedSimpArgs false
def Big (x : Int) : Prop := -1000000000000 ≤ x ∧ x ≤ 1000000000000
theorem isum_big : ∀ (l : List Int), (∀ x ∈ l, Big x) → -(1000000000000 * (l.length : Int)) ≤ isum l ∧ isum l ≤ 1000000000000 * (l.length : Int)
  | [], _ => by simp [isum]
  | x :: l, h => by
    obtain ⟨h1, h2⟩ := h x (by simp)
    have h3 := isum_big l (fun y hy => h y (by simp [hy]))
    simp only [isum, List.length_cons]; omega
theorem sum_ev (l : List Int) (hl : l.length ≤ 1000) (hb : ∀ x ∈ l, Big x) : Ev (fun k => share_sum.f k l) (isum l) := by
  have go : ∀ (t p : List Int), l = p ++ t → Ev (fun k => share_sum.l0 k (isum p) l (l.length : Int) (p.length : Int)) (isum l) := by
    intro t
    induction t with
    | nil =>
      intro p e
      refine Ev.succ ?_
      have c1 : ¬ (p.length : Int) < (l.length : Int) := by rw [e]; simp
      simp only [share_sum.l0, if_neg c1]
      rw [e, List.append_nil]; exact Ev.pure _
    | cons y t ih =>
      intro p e
      refine Ev.succ ?_
      have hlt : p.length < l.length := by rw [e]; simp
      have c1 : (p.length : Int) < (l.length : Int) := by omega
      have c2 : (0 : Int) ≤ (p.length : Int) := by omega
      have c3 : rd l (p.length : Int) = y := by rw [e]; exact rd_mid _ _ _
      have hs : isum (p ++ [y]) = isum p + y := by rw [isum_append]; simp [isum]
      have hbb := isum_big (p ++ [y]) (fun x hx => hb x (by rw [e]; simp at hx ⊢; rcases hx with h | h <;> simp [h]))
      have hpl : ((p ++ [y]).length : Int) ≤ 1000 := by simp; omega
      have w1 : Aside0 (wrap64 (isum p + y) = isum (p ++ [y])) := ⟨by rw [← hs]; exact w64 (by omega) (by omega)⟩
      have w2 : Aside0 (wrap64 ((p.length : Int) + 1) = ((p ++ [y]).length : Int)) := ⟨by rw [w64s _ (by omega)]; simp⟩
      simp only [share_sum.l0, if_pos c1, if_pos c2, c3, w1.out, w2.out]
      exact ih (p ++ [y]) (by rw [e]; simp)
  exact go l [] rfl
theorem isum_rows {n : Nat} : ∀ (l : List Int), l.length = n → isum l = isum ((List.range n).map fun y : Nat => rd l (y : Int)) := by
  intro l hl
  subst hl
  congr 1
  refine List.ext_getElem (by simp) fun i h1 h2 => ?_
  simp [rd_get h1]
section
variable {W : List (List Int)} {n : Nat} {rent : Int}
theorem Wish.dear (hW : Wish W n rent) : Sq n (dearT W n) ∧ Least (stT W n) n (wN (dearT W n)) := dearT_least hW
theorem Wish.db (hW : Wish W n rent) {x y : Nat} (hx : x < n) (hy : y < n) : -1000 ≤ wN (dearT W n) x y ∧ wN (dearT W n) x y ≤ 1000 := hW.dear.2.tab.bound hW.posT hW.stepb hx hy
theorem Wish.row_b (hW : Wish W n rent) {k : Nat} (hk : k < n) : ∀ x ∈ rd_L1 (dearT W n) (k : Int), -1000 ≤ x ∧ x ≤ 1000 := by
  intro x hx
  obtain ⟨j, hj, rfl⟩ := List.mem_iff_getElem.mp hx
  have hl := hW.dear.1.row k hk
  have := hW.db hk (show j < n by omega)
  unfold wN at this
  rwa [rd_get hj] at this
theorem Wish.rent_b (hW : Wish W n rent) : 0 ≤ rent ∧ rent ≤ 1000 * (n : Int) := by
  have h0 := hW.pos
  have hr := hW.row 0 (by omega)
  have hs := hW.sum 0 (by omega)
  have : (rd_L1 W ((0 : Nat) : Int)).all inW = true := by
    rw [List.all_eq_true]
    intro x hx
    obtain ⟨j, hj, rfl⟩ := List.mem_iff_getElem.mp hx
    have := hW.ent 0 j (by omega) (by omega)
    rw [rd_get hj] at this
    exact inW_iff.mpr this
  have hb := isum_inW _ this
  rw [hs, hr] at hb
  exact hb
def rowS (W : List (List Int)) (n k : Nat) : Int := isum ((List.range n).map fun y => wN (dearT W n) k y)
theorem isum_b (f : Nat → Int) : ∀ (l : List Nat), (∀ x ∈ l, -1000 ≤ f x ∧ f x ≤ 1000) → -(1000 * (l.length : Int)) ≤ isum (l.map f) ∧ isum (l.map f) ≤ 1000 * (l.length : Int)
  | [], _ => by simp [isum]
  | x :: l, h => by
    have h1 := h x (by simp)
    have h3 := isum_b f l (fun y hy => h y (by simp [hy]))
    simp only [List.map_cons, isum, List.length_cons]; omega
theorem Wish.rowS_b (hW : Wish W n rent) {k : Nat} (hk : k < n) : -(1000 * (n : Int)) ≤ rowS W n k ∧ rowS W n k ≤ 1000 * (n : Int) := by
  have := isum_b (fun y => wN (dearT W n) k y) (List.range n) (fun y hy => hW.db hk (by simpa using hy))
  rw [List.length_range] at this; exact this
theorem Wish.rowS_eq (hW : Wish W n rent) {k : Nat} (hk : k < n) : isum (rd_L1 (dearT W n) (k : Int)) = rowS W n k := isum_rows _ (hW.dear.1.row k hk)
def numsW (W : List (List Int)) (n : Nat) (rent : Int) (k : Nat) : List Int := (List.range n).map fun y => rent - rowS W n k + (n : Int) * wN (dearT W n) k y
theorem mul5 {n : Nat} (h5 : n ≤ 5) {x : Int} (h : -1000 ≤ x ∧ x ≤ 1000) : -5000 ≤ (n : Int) * x ∧ (n : Int) * x ≤ 5000 := by
  have : n = 0 ∨ n = 1 ∨ n = 2 ∨ n = 3 ∨ n = 4 ∨ n = 5 := by omega
  rcases this with rfl | rfl | rfl | rfl | rfl | rfl <;> push_cast <;> omega
theorem Wish.nums_b (hW : Wish W n rent) {k : Nat} (hk : k < n) : ∀ x ∈ numsW W n rent k, -20000 ≤ x ∧ x ≤ 20000 := by
  have h5 := hW.five
  have h1 := hW.rent_b
  have h2 := hW.rowS_b hk
  intro x hx
  simp only [numsW, List.mem_map, List.mem_range] at hx
  obtain ⟨y, hy, rfl⟩ := hx
  have h3 := mul5 h5 (hW.db hk hy)
  omega
end
def kOk (W : List (List Int)) (k : Int) : Bool := (rentR W).isSome && (decide (0 ≤ k) && decide (k < (W.length : Int)))
theorem rentP_some {W : List (List Int)} {s : Int} (h : rentR W = some s) : rentP W = (s, 0) := by simp [rentP, h]
theorem rentP_none {W : List (List Int)} (h : rentR W = none) : rentP W = (0, 2) := by simp [rentP, h]
theorem rentB_some {W : List (List Int)} {s : Int} (h : rentR W = some s) : rentB W = (s, true) := by simp [rentB, h]
theorem rentB_none {W : List (List Int)} (h : rentR W = none) : rentB W = (0, false) := by simp [rentB, h]
theorem asked_ev (W : List (List Int)) (hsm : smallB W = true) (k : Int) : Ev (fun f => share_asked.f f W k) ((rentP W).1, if kOk W k = true then 0 else 2) := by
  unfold share_asked.f
  refine Ev.bind (wished_ev W hsm) ?_
  cases hr : rentR W with
  | none => rw [rentP_none hr]; simp [kOk, hr]; exact Ev.pure _
  | some s =>
    rw [rentP_some hr]
    by_cases h0 : k < 0
    · have : ¬ (0 : Int) ≤ k := by omega
      simp only [h0, if_true, kOk, hr, this, decide_false, Bool.false_and, Bool.and_false, Bool.false_eq_true, if_false]; exact Ev.pure _
    · have h0' : (0 : Int) ≤ k := by omega
      by_cases h1 : k ≥ (W.length : Int)
      · have : ¬ k < (W.length : Int) := by omega
        simp only [h0, h1, if_true, if_false, kOk, hr, this, decide_false, Bool.and_false, Bool.false_eq_true]; exact Ev.pure _
      · have : k < (W.length : Int) := by omega
        simp only [h0, h1, if_true, if_false, kOk, hr, this, h0', decide_true, Bool.and_true, Option.isSome_some]; exact Ev.pure _
theorem kOk_of {W : List (List Int)} {k : Int} (h : kOk W k = true) : ∃ (s : Int) (j : Nat), rentR W = some s ∧ k = (j : Int) ∧ j < W.length := by
  simp only [kOk, Bool.and_eq_true, decide_eq_true_eq, Option.isSome_iff_exists] at h
  obtain ⟨⟨s, hs⟩, h0, h1⟩ := h
  exact ⟨s, k.toNat, hs, by omega, by omega⟩
def rentsR (W : List (List Int)) (k : Int) : List Int × Int × Int := if kOk W k = true then ((lowN (numsW W W.length ((rentR W).getD 0) k.toNat) (W.length : Int)).1, (lowN (numsW W W.length ((rentR W).getD 0) k.toNat) (W.length : Int)).2, 0) else ([], 0, 2)
theorem sm20 {x : Int} (h : -20000 ≤ x ∧ x ≤ 20000) : Sm x := ⟨by omega, by omega⟩
theorem rents_ev (W : List (List Int)) (hsm : smallB W = true) (k : Int) : Ev (fun f => share_Rents.f f W k) (rentsR W k) := by
  unfold share_Rents.f
  refine Ev.bind (asked_ev W hsm k) ?_
  by_cases hk : kOk W k = true
  · obtain ⟨s, j, hs, rfl, hj⟩ := kOk_of hk
    have hW := rent_wish hs
    have h5 := hW.five
    have e0 : rentsR W (j : Int) = ((lowN (numsW W W.length s j) (W.length : Int)).1, (lowN (numsW W W.length s j) (W.length : Int)).2, 0) := by
      unfold rentsR; rw [if_pos hk, hs]; simp
    rw [e0]
    simp only [hk, if_true]
    refine Ev.bind (dearer_ev hW) ?_
    have hd := hW.dear
    have c1 : (0 : Int) ≤ (j : Int) := by omega
    have c2 : (j : Int) < ((dearT W W.length).length : Int) := by rw [hd.1.len]; omega
    simp only [if_pos c1, if_pos c2]
    have hrl := hd.1.row j hj
    refine Ev.bind (sum_ev _ (by rw [hrl]; omega) (fun x hx => by have := hW.row_b hj x hx; exact ⟨by omega, by omega⟩)) ?_
    rw [hW.rowS_eq hj, rentP_some hs]
    have b1 := hW.rent_b
    have b2 := hW.rowS_b hj
    have w0 : Aside0 (wrap64 (s - rowS W W.length j) = s - rowS W W.length j) := ⟨w64 (by omega) (by omega)⟩
    simp only [w0.out]
    have go : ∀ (c i : Nat), W.length - i = c → i ≤ W.length → Ev (fun f => share_Rents.l0 f (rd_L1 (dearT W W.length) (j : Int)) (s - rowS W W.length j) ((List.range i).map fun y => s - rowS W W.length j + (W.length : Int) * wN (dearT W W.length) j y) (rd_L1 (dearT W W.length) (j : Int)) ((rd_L1 (dearT W W.length) (j : Int)).length : Int) (i : Int)) ((lowN (numsW W W.length s j) (W.length : Int)).1, (lowN (numsW W W.length s j) (W.length : Int)).2, 0) := by
      intro c
      induction c with
      | zero =>
        intro i hc hi
        refine Ev.succ ?_
        have k1 : ¬ (i : Int) < ((rd_L1 (dearT W W.length) (j : Int)).length : Int) := by rw [hrl]; omega
        obtain rfl : i = W.length := by omega
        simp only [share_Rents.l0, if_neg k1]
        rw [hrl]
        have hb := hW.nums_b hj
        refine Ev.bind (parts_ev (numsW W W.length s j) (W.length : Int) (by have := hW.pos; omega) ⟨by omega, by omega⟩ (fun x hx => sm20 (hb x hx)) (by simp [numsW]; omega)) ?_
        exact Ev.pure _
      | succ c ih =>
        intro i hc hi
        refine Ev.succ ?_
        have hil : i < W.length := by omega
        have k1 : (i : Int) < ((rd_L1 (dearT W W.length) (j : Int)).length : Int) := by rw [hrl]; omega
        have k2 : (0 : Int) ≤ (i : Int) := by omega
        have b3 := hW.db hj hil
        have b4 := mul5 h5 b3
        have e1 : rd (rd_L1 (dearT W W.length) (j : Int)) (i : Int) = wN (dearT W W.length) j i := rfl
        have hlen : ((List.range i).map fun y => s - rowS W W.length j + (W.length : Int) * wN (dearT W W.length) j y).length < 17592186044416 := by simp; omega
        have w1 : Aside0 (wrap64 (wN (dearT W W.length) j i * ((rd_L1 (dearT W W.length) (j : Int)).length : Int)) = (W.length : Int) * wN (dearT W W.length) j i) := ⟨by rw [hrl, Int.mul_comm]; exact w64 (by omega) (by omega)⟩
        have w2 : Aside0 (wrap64 (s - rowS W W.length j + (W.length : Int) * wN (dearT W W.length) j i) = s - rowS W W.length j + (W.length : Int) * wN (dearT W W.length) j i) := ⟨w64 (by omega) (by omega)⟩
        have w3 : Aside0 (wrap64 ((i : Int) + 1) = ((i + 1 : Nat) : Int)) := ⟨w64s i (by omega)⟩
        simp only [share_Rents.l0, if_pos k1, if_pos k2, if_pos hlen, e1, w1.out, w2.out, w3.out]
        have := ih (i + 1) (by omega) (by omega)
        rw [List.range_succ, List.map_append] at this
        exact this
    exact go W.length 0 (by omega) (by omega)
  · have e0 : rentsR W k = ([], 0, 2) := by unfold rentsR; rw [if_neg hk]
    rw [e0]
    simp only [hk, if_false]
    exact Ev.pure _
end Go.Proofs.Ytiafiebalibkdaa.OAll
