/- A part of the proof of 'shareDiffers_holds', for every input, without a condition. -/
import Derived.Test.YtiafiebalibkdaaSDfQx
import Derived.Test.YtiafiebalibkdaaSDfOAllx0
import Derived.Test.YtiafiebalibkdaaSDfOAllx4
import Derived.Test.YtiafiebalibkdaaSDfOAllx9
import Derived.Test.YtiafiebalibkdaaSDfOAllx10
import Derived.Test.YtiafiebalibkdaaSDfOAllx16
import Derived.Test.YtiafiebalibkdaaSDfOAllx21
import Derived.Test.YtiafiebalibkdaaSDfOAllx22
namespace Go.Proofs.Ytiafiebalibkdaa.OAll
open Go.RowKit Go.Proofs.YtiafiebalibkdaaW.PrintWords Go.Proofs.YtiafiebalibkdaaW.PrintLast Go.Proofs.YtiafiebalibkdaaW.PrintMore
set_option linter.unusedVariables false
set_option linter.unusedSimpArgs false
set_option linter.unusedSectionVars false
def at0 (τ : List Nat) (i : Nat) : Nat := τ.getD i 0
theorem at0_get {τ : List Nat} {i : Nat} (h : i < τ.length) : at0 τ i = τ[i] := by simp [at0, h]
theorem cs_at {τ : List Nat} {i : Nat} (h : i < τ.length) : rd (cs τ) (i : Int) = (at0 τ i : Int) := by rw [cs_get τ h, at0_get h]
section
variable {n : Nat} {τ : List Nat} (hτ : τ.Perm (List.range n))
include hτ
theorem perm_len : τ.length = n := by rw [hτ.length_eq]; simp
theorem at0_lt {i : Nat} (hi : i < n) : at0 τ i < n := by
  have hl := perm_len hτ
  rw [at0_get (by omega)]
  have := hτ.mem_iff.mp (List.getElem_mem (show i < τ.length by omega))
  simpa using this
theorem at0_hold {y : Nat} (hy : y < n) : at0 τ (hold τ y) = y := by
  have h1 : y ∈ τ := hτ.mem_iff.mpr (by simpa using hy)
  have h2 : τ.idxOf y < τ.length := List.idxOf_lt_length_of_mem h1
  have h3 : hold τ y = τ.idxOf y := rfl
  rw [h3, at0_get h2]
  exact List.getElem_idxOf h2
theorem hold_at0 {i : Nat} (hi : i < n) : hold τ (at0 τ i) = i := by
  have hl := perm_len hτ
  rw [at0_get (by omega)]
  exact hold_get (hτ.nodup_iff.mpr List.nodup_range) (by omega)
theorem isAsg_cs : isAsg n (cs τ) = true := by
  have hl := perm_len hτ
  simp only [isAsg, cs_len, hl, decide_true, Bool.true_and, Bool.and_eq_true, List.all_eq_true, decide_eq_true_eq]
  refine ⟨fun x hx => ?_, ?_⟩
  · simp only [cs, List.mem_map] at hx
    obtain ⟨a, ha, rfl⟩ := hx
    have : a < n := by simpa using hτ.mem_iff.mp ha
    exact inN_iff.mpr ⟨by omega, by omega⟩
  · have hn : τ.Nodup := hτ.nodup_iff.mpr List.nodup_range
    unfold cs
    rw [List.Nodup, List.pairwise_map]
    exact List.Pairwise.imp (fun h e => h (by omega)) hn
end
def EF (W : List (List Int)) (x : List Int) (D : Int) (n : Nat) (τ : List Nat) : Prop := ∀ i y, i < n → y < n → wN W i y * D - rd x (y : Int) ≤ wN W i (at0 τ i) * D - rd x (at0 τ i : Int)
theorem flat_nil {α β : Type} (f : α → List β) (L : List α) : L.flatMap f = [] ↔ ∀ a ∈ L, f a = [] := by
  simp
theorem env_nil {W : List (List Int)} {x : List Int} {D : Int} {n : Nat} {τ : List Nat} (hτ : τ.Perm (List.range n)) : envN W (cs τ) x D n = [] ↔ EF W x D n τ := by
  have hl := perm_len hτ
  unfold envN
  rw [flat_nil]
  simp only [flat_nil, List.mem_range]
  constructor
  · intro h i y hi hy
    have := h i hi y hy
    unfold envAt at this
    rw [cs_at (by omega)] at this
    have e : rd (rd_L1 W (i : Int)) (at0 τ i : Int) = wN W i (at0 τ i) := rfl
    rw [e] at this
    have m : (wN W i y - wN W i (at0 τ i)) * D = wN W i y * D - wN W i (at0 τ i) * D := Int.sub_mul _ _ _
    split at this
    · cases this
    · omega
  · intro h i hi y hy
    have := h i y hi hy
    unfold envAt
    rw [cs_at (by omega)]
    have e : rd (rd_L1 W (i : Int)) (at0 τ i : Int) = wN W i (at0 τ i) := rfl
    rw [e]
    have m : (wN W i y - wN W i (at0 τ i)) * D = wN W i y * D - wN W i (at0 τ i) * D := Int.sub_mul _ _ _
    rw [if_neg (by omega)]
section
variable {W : List (List Int)} {n : Nat} {rent : Int} (hW : Wish W n rent)
include hW
theorem ef_steps {x : List Int} {D : Int} : EF W x D n (bestA (wN W) n).1 ↔ ∀ y z, y < n → z < n → rd x (z : Int) - rd x (y : Int) ≤ stT W n y z * D := by
  have hm := hW.best
  constructor
  · intro h y z hy hz
    have h1 := hold_lt hm hz
    have := h (hold (bestA (wN W) n).1 z) y h1 hy
    rw [at0_hold hm hz] at this
    have m : stT W n y z * D = wN W (hold (bestA (wN W) n).1 z) z * D - wN W (hold (bestA (wN W) n).1 z) y * D := Int.sub_mul _ _ _
    omega
  · intro h i y hi hy
    have h1 := at0_lt hm hi
    have := h y (at0 (bestA (wN W) n).1 i) hy h1
    have m : stT W n y (at0 (bestA (wN W) n).1 i) * D = wN W (hold (bestA (wN W) n).1 (at0 (bestA (wN W) n).1 i)) (at0 (bestA (wN W) n).1 i) * D - wN W (hold (bestA (wN W) n).1 (at0 (bestA (wN W) n).1 i)) y * D := Int.sub_mul _ _ _
    rw [hold_at0 hm hi] at m
    omega
theorem walk_diff {x : List Int} {D : Int} (h : ∀ y z, y < n → z < n → rd x (z : Int) - rd x (y : Int) ≤ stT W n y z * D) : ∀ (B : List Nat) (y z : Nat), y < n → z < n → (∀ u ∈ B, u < n) → rd x (z : Int) - rd x (y : Int) ≤ wt (stT W n) (y :: (B ++ [z])) * D
  | [], y, z, hy, hz, _ => by
    have e : wt (stT W n) (y :: ([] ++ [z])) = stT W n y z := by show wt _ (y :: [z]) = _; rw [wt_two, wt_one]; omega
    rw [e]; exact h y z hy hz
  | u :: B, y, z, hy, hz, hB => by
    have hu := hB u (by simp)
    have h1 := h y u hy hu
    have h2 := walk_diff h B u z hu hz (fun v hv => hB v (by simp [hv]))
    rw [List.cons_append, wt_two, Int.add_mul]
    omega
theorem ef_table {x : List Int} {D : Int} (hD : 0 < D) : EF W x D n (bestA (wN W) n).1 ↔ ∀ y z, y < n → z < n → rd x (z : Int) - rd x (y : Int) ≤ wN (dearT W n) y z * D := by
  rw [ef_steps hW]
  have hd := hW.dear.2
  constructor
  · intro h y z hy hz
    obtain ⟨B, hB, e⟩ := hd.tab.walk y z hy hz
    rw [e]
    exact walk_diff hW h B y z hy hz hB
  · intro h y z hy hz
    have h1 := h y z hy hz
    have h2 := Int.mul_le_mul_of_nonneg_right (hd.tab.le y z hy hz) (show 0 ≤ D by omega)
    omega
end
theorem Assign_ev (W : List (List Int)) (hsm : smallB W = true) {s : Int} (hs : rentR W = some s) : Ev (fun k => share_Assign.f k W) (cs (bestA (wN W) W.length).1, (bestA (wN W) W.length).2, 0) := by
  unfold share_Assign.f
  refine Ev.bind (wished_ev W hsm) ?_
  rw [rentP_some hs]
  simp only [if_true]
  exact Ev.bind (assign_ev (rent_wish hs)) (Ev.pure _)
end Go.Proofs.Ytiafiebalibkdaa.OAll
