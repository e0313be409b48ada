/- A part of the proof of 'tripTurned_holds', for every input, without a condition. -/
import Derived.Test.YtlmlneneakpohaaTTuQg
import Derived.Test.YtlmlneneakpohaaTTuQb
import Derived.Test.YtlmlneneakpohaaTTuOAllx0
import Derived.Test.YtlmlneneakpohaaTTuOAllx3
import Derived.Test.YtlmlneneakpohaaTTuOAllx5
import Derived.Test.YtlmlneneakpohaaTTuOAllx9
import Derived.Test.YtlmlneneakpohaaTTuOAllx4
import Derived.Test.YtlmlneneakpohaaTTuOAllx8
import Derived.Test.YtlmlneneakpohaaTTuOAllx2
namespace Go.Proofs.Ytlmlneneakpohaa.OAll
open Go.RowKit Go.Proofs.YtlmlneneakpohaaW.PrintWords Go.Proofs.YtlmlneneakpohaaW.PrintLast Go.Proofs.YtlmlneneakpohaaW.PrintMore
set_option linter.unusedVariables false
set_option linter.unusedSimpArgs false
theorem insI_sorted (h : Int → Int) (lt : Int → Int → Bool) (x : Int) : ∀ A B : List Int, (∀ y ∈ A, lt x y = decide (h x < h y)) → (A.reverse ++ B).Pairwise (fun a b => h a ≤ h b) → (∀ b ∈ B, h x ≤ h b) → (insI lt x A B).Pairwise (fun a b => h a ≤ h b)
  | [], B, hl, hs, hB => by
    rw [insI, List.pairwise_cons]
    exact ⟨hB, by simpa using hs⟩
  | p :: A, B, hl, hs, hB => by
    have hp := hl p (by simp)
    have e : (p :: A).reverse ++ B = A.reverse ++ p :: B := by simp
    rw [e] at hs
    have hpB := (List.pairwise_append.mp hs)
    have hpc := List.pairwise_cons.mp hpB.2.1
    rw [insI]
    by_cases c : lt x p = true
    · rw [if_pos c]
      rw [hp, decide_eq_true_eq] at c
      refine insI_sorted h lt x A (p :: B) (fun y hy => hl y (by simp [hy])) hs (fun b hb => ?_)
      rcases List.mem_cons.mp hb with rfl | hb
      · omega
      · exact hB b hb
    · rw [if_neg c]
      rw [hp, decide_eq_true_eq] at c
      refine List.pairwise_append.mpr ⟨hpB.1, List.pairwise_cons.mpr ⟨fun b hb => ?_, List.pairwise_cons.mpr ⟨hB, hpc.2⟩⟩, fun a ha b hb => ?_⟩
      · rcases List.mem_cons.mp hb with rfl | hb
        · omega
        · exact hpc.1 b hb
      · have h1 := hpB.2.2 a ha p (by simp)
        rcases List.mem_cons.mp hb with rfl | hb
        · exact h1
        · rcases List.mem_cons.mp hb with rfl | hb
          · omega
          · exact hpB.2.2 a ha b (by simp [hb])
theorem isortI_sorted (h : Int → Int) (lt : Int → Int → Bool) (n : Nat) (hlt : ∀ x y : Int, 0 ≤ x ∧ x < (n : Int) → 0 ≤ y ∧ y < (n : Int) → lt x y = decide (h x < h y)) : ∀ (t acc : List Int), inN n t → inN n acc → acc.Pairwise (fun a b => h a ≤ h b) → (isortI lt acc t).Pairwise (fun a b => h a ≤ h b)
  | [], acc, _, _, hs => by simpa [isortI] using hs
  | x :: t, acc, ht, ha, hs => by
    rw [isortI]
    have hx := ht x (by simp)
    refine isortI_sorted h lt n hlt t _ (fun y hy => ht y (by simp [hy])) (fun y hy => ?_) (insI_sorted h lt x acc.reverse [] (fun y hy => hlt x y hx (ha y (by simpa using hy))) (by simpa using hs) (by simp))
    have := (insI_perm lt x acc.reverse []).mem_iff.mp hy
    simp only [List.reverse_reverse, List.append_nil, List.mem_cons] at this
    rcases this with rfl | hm
    · exact hx
    · exact ha y hm
theorem sortI_sorted {l : List S36} {U D : Int} (h : Right l U D) (e : Bool) : (sortI e l).Pairwise (fun a b => hAt e l a ≤ hAt e l b) :=
  isortI_sorted (hAt e l) (ltC e l) l.length (fun x y hx hy => ltC_eq h e hx hy) (upTo l.length) [] (fun x hx => upTo_in l x hx) (fun x hx => by simp at hx) List.Pairwise.nil
def hts (e : Bool) (l : List S36) : List Int := (sortI e l).map (hAt e l)
theorem hts_len (e : Bool) (l : List S36) : (hts e l).length = l.length := by simp [hts, sortI_len]
theorem hts_sorted {l : List S36} {U D : Int} (h : Right l U D) (e : Bool) : (hts e l).Pairwise (· ≤ ·) := by
  unfold hts
  rw [List.pairwise_map]
  exact sortI_sorted h e
theorem hts_in {l : List S36} {U D : Int} (h : Right l U D) (e : Bool) : ∀ x ∈ hts e l, 0 ≤ x ∧ x ≤ 1000 := by
  intro x hx
  simp only [hts, List.mem_map] at hx
  obtain ⟨y, hy, rfl⟩ := hx
  exact hAt_bound h e (sortI_in e l y hy)
def sumL {α : Type} (g : α → Int) : List α → Int
  | [] => 0
  | x :: t => g x + sumL g t
theorem sumL_perm {α : Type} (g : α → Int) {a b : List α} (h : a.Perm b) : sumL g a = sumL g b := by
  induction h with
  | nil => rfl
  | cons x _ ih => simp only [sumL, ih]
  | swap x y l => simp only [sumL]; omega
  | trans _ _ ih1 ih2 => exact ih1.trans ih2
theorem sumL_app {α : Type} (g : α → Int) : ∀ a b : List α, sumL g (a ++ b) = sumL g a + sumL g b
  | [], b => by simp [sumL]
  | x :: a, b => by simp only [List.cons_append, sumL, sumL_app g a b]; omega
theorem sumL_map {α β : Type} (g : β → Int) (f : α → β) : ∀ a : List α, sumL g (a.map f) = sumL (fun x => g (f x)) a
  | [] => rfl
  | x :: a => by simp only [List.map_cons, sumL, sumL_map g f a]
theorem placeI_out : ∀ (T F m : List Int) (x : Int), inN m.length T → 0 ≤ x → x ∉ T → rd (placeI m T F) x = rd m x
  | [], F, m, x, _, _, _ => by simp [placeI]
  | t :: T, [], m, x, _, _, _ => by simp [placeI]
  | t :: T, f :: F, m, x, hT, hx, hn => by
    have ht := hT t (by simp)
    rw [placeI, placeI_out T F _ x (fun y hy => by rw [List.length_set]; exact hT y (by simp [hy])) hx (fun h => hn (by simp [h]))]
    have hne : t.toNat ≠ x.toNat := fun e => hn (by simp; omega)
    simp [rd, List.getD_eq_getElem?_getD, List.getElem?_set_ne hne]
theorem sumE_cg {f g : Nat → Int} : ∀ n : Nat, (∀ j, j < n → f j = g j) → sumE f n = sumE g n
  | 0, _ => rfl
  | n + 1, h => by simp only [sumE]; rw [sumE_cg n (fun j hj => h j (by omega)), h n (by omega)]
def cross (h : Int) (a b : Int) : Int := if a < h ∧ h ≤ b then 1 else 0
def geN (h : Int) (a : Int) : Int := if h ≤ a then 1 else 0
theorem cross_count (a b : Int) (ha : 0 ≤ a) : ∀ N : Nat, sumE (fun j => cross ((j : Int) + 1) a b) N = if a < b ∧ a < (N : Int) then (if b < (N : Int) then b else (N : Int)) - a else 0
  | 0 => by simp only [sumE]; rw [if_neg (by omega)]
  | N + 1 => by
    simp only [sumE, cross_count a b ha N]
    unfold cross
    split <;> split <;> (try split) <;> (try split) <;> (try split) <;> omega
theorem sumE_add (f g : Nat → Int) : ∀ n : Nat, sumE (fun j => f j + g j) n = sumE f n + sumE g n
  | 0 => rfl
  | n + 1 => by simp only [sumE, sumE_add f g n]; omega
theorem sumE_mul (c : Int) (f : Nat → Int) : ∀ n : Nat, sumE (fun j => c * f j) n = c * sumE f n
  | 0 => by simp [sumE]
  | n + 1 => by simp only [sumE, sumE_mul c f n]; grind
theorem climb_levels (U D a b : Int) (ha : 0 ≤ a ∧ a ≤ 1000) (hb : 0 ≤ b ∧ b ≤ 1000) : climbI U D a b = sumE (fun j => U * cross ((j : Int) + 1) a b + D * cross ((j : Int) + 1) b a) 1000 := by
  rw [sumE_add, sumE_mul, sumE_mul, cross_count a b ha.1, cross_count b a hb.1]
  unfold climbI
  by_cases c : b > a
  · have e1 : (if a < b ∧ a < ((1000 : Nat) : Int) then (if b < ((1000 : Nat) : Int) then b else ((1000 : Nat) : Int)) - a else 0) = b - a := by
      rw [if_pos (by omega)]; split <;> omega
    have e2 : (if b < a ∧ b < ((1000 : Nat) : Int) then (if a < ((1000 : Nat) : Int) then a else ((1000 : Nat) : Int)) - b else 0) = 0 := by
      rw [if_neg (by omega)]
    rw [if_pos c, e1, e2]; simp
  · have e1 : (if a < b ∧ a < ((1000 : Nat) : Int) then (if b < ((1000 : Nat) : Int) then b else ((1000 : Nat) : Int)) - a else 0) = 0 := by
      rw [if_neg (by omega)]
    have e2 : (if b < a ∧ b < ((1000 : Nat) : Int) then (if a < ((1000 : Nat) : Int) then a else ((1000 : Nat) : Int)) - b else 0) = a - b := by
      by_cases c2 : b < a
      · rw [if_pos (by omega)]; split <;> omega
      · rw [if_neg (by omega)]; omega
    rw [if_neg c, e1, e2]; simp
theorem sumE_zero : ∀ n : Nat, sumE (fun _ => 0) n = 0
  | 0 => rfl
  | n + 1 => by simp only [sumE, sumE_zero n]; rfl
end Go.Proofs.Ytlmlneneakpohaa.OAll
