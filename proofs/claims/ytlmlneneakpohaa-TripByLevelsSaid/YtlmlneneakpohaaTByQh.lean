/- A part of the proof of 'tripByLevels_holds', for every input, without a condition. -/
import Derived.Test.YtlmlneneakpohaaTByQg
import Derived.Test.YtlmlneneakpohaaTByQc
namespace Go.Proofs.Ytlmlneneakpohaa.OAll
open Go.RowKit Go.Proofs.YtlmlneneakpohaaW.PrintWords Go.Proofs.YtlmlneneakpohaaW.PrintLast Go.Proofs.YtlmlneneakpohaaW.PrintMore
set_option linter.unusedVariables false
set_option linter.unusedSimpArgs false
theorem insI_sorted (h : Int → Int) (lt : Int → Int → Bool) (x : Int) : ∀ A B : List Int, (∀ y ∈ A, lt x y = decide (h x < h y)) → (A.reverse ++ B).Pairwise (fun a b => h a ≤ h b) → (∀ b ∈ B, h x ≤ h b) → (insI lt x A B).Pairwise (fun a b => h a ≤ h b)
  | [], B, hl, hs, hB => by
    rw [insI, List.pairwise_cons]
    exact ⟨hB, by simpa using hs⟩
  | p :: A, B, hl, hs, hB => by
    have hp := hl p (by simp)
    have e : (p :: A).reverse ++ B = A.reverse ++ p :: B := by simp
    rw [e] at hs
    have hpB := (List.pairwise_append.mp hs)
    have hpc := List.pairwise_cons.mp hpB.2.1
    rw [insI]
    by_cases c : lt x p = true
    · rw [if_pos c]
      rw [hp, decide_eq_true_eq] at c
      refine insI_sorted h lt x A (p :: B) (fun y hy => hl y (by simp [hy])) hs (fun b hb => ?_)
      rcases List.mem_cons.mp hb with rfl | hb
      · omega
      · exact hB b hb
    · rw [if_neg c]
      rw [hp, decide_eq_true_eq] at c
      refine List.pairwise_append.mpr ⟨hpB.1, List.pairwise_cons.mpr ⟨fun b hb => ?_, List.pairwise_cons.mpr ⟨hB, hpc.2⟩⟩, fun a ha b hb => ?_⟩
      · rcases List.mem_cons.mp hb with rfl | hb
        · omega
        · exact hpc.1 b hb
      · have h1 := hpB.2.2 a ha p (by simp)
        rcases List.mem_cons.mp hb with rfl | hb
        · exact h1
        · rcases List.mem_cons.mp hb with rfl | hb
          · omega
          · exact hpB.2.2 a ha b (by simp [hb])
theorem isortI_sorted (h : Int → Int) (lt : Int → Int → Bool) (n : Nat) (hlt : ∀ x y : Int, 0 ≤ x ∧ x < (n : Int) → 0 ≤ y ∧ y < (n : Int) → lt x y = decide (h x < h y)) : ∀ (t acc : List Int), inN n t → inN n acc → acc.Pairwise (fun a b => h a ≤ h b) → (isortI lt acc t).Pairwise (fun a b => h a ≤ h b)
  | [], acc, _, _, hs => by simpa [isortI] using hs
  | x :: t, acc, ht, ha, hs => by
    rw [isortI]
    have hx := ht x (by simp)
    refine isortI_sorted h lt n hlt t _ (fun y hy => ht y (by simp [hy])) (fun y hy => ?_) (insI_sorted h lt x acc.reverse [] (fun y hy => hlt x y hx (ha y (by simpa using hy))) (by simpa using hs) (by simp))
    have := (insI_perm lt x acc.reverse []).mem_iff.mp hy
    simp only [List.reverse_reverse, List.append_nil, List.mem_cons] at this
    rcases this with rfl | hm
    · exact hx
    · exact ha y hm
theorem sortI_sorted {l : List S36} {U D : Int} (h : Right l U D) (e : Bool) : (sortI e l).Pairwise (fun a b => hAt e l a ≤ hAt e l b) :=
  isortI_sorted (hAt e l) (ltC e l) l.length (fun x y hx hy => ltC_eq h e hx hy) (upTo l.length) [] (fun x hx => upTo_in l x hx) (fun x hx => by simp at hx) List.Pairwise.nil
def hts (e : Bool) (l : List S36) : List Int := (sortI e l).map (hAt e l)
theorem hts_len (e : Bool) (l : List S36) : (hts e l).length = l.length := by simp [hts, sortI_len]
theorem hts_sorted {l : List S36} {U D : Int} (h : Right l U D) (e : Bool) : (hts e l).Pairwise (· ≤ ·) := by
  unfold hts
  rw [List.pairwise_map]
  exact sortI_sorted h e
theorem hts_in {l : List S36} {U D : Int} (h : Right l U D) (e : Bool) : ∀ x ∈ hts e l, 0 ≤ x ∧ x ≤ 1000 := by
  intro x hx
  simp only [hts, List.mem_map] at hx
  obtain ⟨y, hy, rfl⟩ := hx
  exact hAt_bound h e (sortI_in e l y hy)
def sumL {α : Type} (g : α → Int) : List α → Int
  | [] => 0
  | x :: t => g x + sumL g t
theorem sumL_perm {α : Type} (g : α → Int) {a b : List α} (h : a.Perm b) : sumL g a = sumL g b := by
  induction h with
  | nil => rfl
  | cons x _ ih => simp only [sumL, ih]
  | swap x y l => simp only [sumL]; omega
  | trans _ _ ih1 ih2 => exact ih1.trans ih2
theorem sumL_app {α : Type} (g : α → Int) : ∀ a b : List α, sumL g (a ++ b) = sumL g a + sumL g b
  | [], b => by simp [sumL]
  | x :: a, b => by simp only [List.cons_append, sumL, sumL_app g a b]; omega
theorem sumL_map {α β : Type} (g : β → Int) (f : α → β) : ∀ a : List α, sumL g (a.map f) = sumL (fun x => g (f x)) a
  | [] => rfl
  | x :: a => by simp only [List.map_cons, sumL, sumL_map g f a]
theorem sumE_range (g : Int → Int) : ∀ n : Nat, sumE (fun j => g (j : Int)) n = sumL g (upTo n)
  | 0 => rfl
  | n + 1 => by simp only [sumE, sumE_range g n, upTo_succ, sumL_app, sumL]; omega
def sum2 (g : Int → Int → Int) : List Int → List Int → Int
  | a :: A, b :: B => g a b + sum2 g A B
  | _, _ => 0
theorem placeI_out : ∀ (T F m : List Int) (x : Int), inN m.length T → 0 ≤ x → x ∉ T → rd (placeI m T F) x = rd m x
  | [], F, m, x, _, _, _ => by simp [placeI]
  | t :: T, [], m, x, _, _, _ => by simp [placeI]
  | t :: T, f :: F, m, x, hT, hx, hn => by
    have ht := hT t (by simp)
    rw [placeI, placeI_out T F _ x (fun y hy => by rw [List.length_set]; exact hT y (by simp [hy])) hx (fun h => hn (by simp [h]))]
    have hne : t.toNat ≠ x.toNat := fun e => hn (by simp; omega)
    simp [rd, List.getD_eq_getElem?_getD, List.getElem?_set_ne hne]
theorem place_sum (g : Int → Int → Int) : ∀ (T F m : List Int), T.length = F.length → inN m.length T → T.Nodup → sumL (fun x => g x (rd (placeI m T F) x)) T = sum2 g T F
  | [], F, m, _, _, _ => by cases F <;> rfl
  | t :: T, [], m, h, _, _ => by simp at h
  | t :: T, f :: F, m, hl, hT, hd => by
    have ht := hT t (by simp)
    have hd' := List.nodup_cons.mp hd
    have hT' : inN (m.set t.toNat f).length T := fun y hy => by rw [List.length_set]; exact hT y (by simp [hy])
    have e1 : rd (placeI (m.set t.toNat f) T F) t = f := by
      rw [placeI_out T F _ t hT' ht.1 hd'.1]
      simp only [rd, List.getD_eq_getElem?_getD]
      rw [List.getElem?_set_self (by omega)]
      rfl
    simp only [sumL, sum2, placeI, e1]
    rw [place_sum g T F (m.set t.toNat f) (by simpa using hl) hT' hd'.2]
theorem sum2_map (g : Int → Int → Int) (p q : Int → Int) : ∀ A B : List Int, sum2 (fun x y => g (p x) (q y)) A B = sum2 g (A.map p) (B.map q)
  | [], B => by cases B <;> rfl
  | a :: A, [] => rfl
  | a :: A, b :: B => by simp only [sum2, List.map_cons, sum2_map g p q A B]
theorem worthI_sum (l : List S36) (U D : Int) : worthI l U D = sum2 (climbI U D) (hts true l) (hts false l) := by
  have h1 : worthI l U D = sumL (fun x => emp l U D x (rd (matchI l) x)) (upTo l.length) := sumE_range (fun x => emp l U D x (rd (matchI l) x)) l.length
  rw [h1, ← sumL_perm _ (sortI_perm true l)]
  have h2 := place_sum (emp l U D) (sortI true l) (sortI false l) (List.replicate l.length 0) (by rw [sortI_len, sortI_len]) (by simpa using sortI_in true l) (sortI_nodup true l)
  rw [matchI, h2]
  unfold hts
  rw [← sum2_map]
  rfl
theorem sumE_cg {f g : Nat → Int} : ∀ n : Nat, (∀ j, j < n → f j = g j) → sumE f n = sumE g n
  | 0, _ => rfl
  | n + 1, h => by simp only [sumE]; rw [sumE_cg n (fun j hj => h j (by omega)), h n (by omega)]
def cross (h : Int) (a b : Int) : Int := if a < h ∧ h ≤ b then 1 else 0
def geN (h : Int) (a : Int) : Int := if h ≤ a then 1 else 0
theorem cross_diff (h : Int) : ∀ A B : List Int, A.length = B.length → sum2 (cross h) A B - sum2 (fun a b => cross h b a) A B = sumL (geN h) B - sumL (geN h) A
  | [], [], _ => rfl
  | [], _ :: _, e => by simp at e
  | _ :: _, [], e => by simp at e
  | a :: A, b :: B, e => by
    have ih := cross_diff h A B (by simpa using e)
    simp only [sum2, sumL]
    have : cross h a b - cross h b a = geN h b - geN h a := by unfold cross geN; split <;> split <;> split <;> split <;> omega
    omega
theorem cross_zero (h : Int) : ∀ A B : List Int, (∀ b ∈ B, h ≤ b) → sum2 (fun a b => cross h b a) A B = 0
  | [], B, _ => by cases B <;> rfl
  | a :: A, [], _ => rfl
  | a :: A, b :: B, hb => by
    simp only [sum2]
    rw [cross_zero h A B (fun x hx => hb x (by simp [hx]))]
    have := hb b (by simp)
    unfold cross; rw [if_neg (by omega)]; rfl
theorem cross_zero' (h : Int) : ∀ A B : List Int, (∀ a ∈ A, h ≤ a) → sum2 (cross h) A B = 0
  | [], B, _ => by cases B <;> rfl
  | a :: A, [], _ => rfl
  | a :: A, b :: B, ha => by
    simp only [sum2]
    rw [cross_zero' h A B (fun x hx => ha x (by simp [hx]))]
    have := ha a (by simp)
    unfold cross; rw [if_neg (by omega)]; rfl
theorem cross_one (h : Int) : ∀ A B : List Int, A.Pairwise (· ≤ ·) → B.Pairwise (· ≤ ·) → (sum2 (cross h) A B = 0 ∧ 0 ≤ sum2 (fun a b => cross h b a) A B) ∨ (sum2 (fun a b => cross h b a) A B = 0 ∧ 0 ≤ sum2 (cross h) A B)
  | [], B, _, _ => by cases B <;> exact .inl ⟨rfl, Int.le_refl 0⟩
  | a :: A, [], _, _ => .inl ⟨rfl, Int.le_refl 0⟩
  | a :: A, b :: B, hA, hB => by
    have hA' := List.pairwise_cons.mp hA
    have hB' := List.pairwise_cons.mp hB
    simp only [sum2]
    by_cases c1 : a < h ∧ h ≤ b
    · have z := cross_zero h A B (fun x hx => by have := hB'.1 x hx; omega)
      have z1 : cross h b a = 0 := by unfold cross; rw [if_neg (by omega)]
      have z2 : cross h a b = 1 := by unfold cross; rw [if_pos c1]
      refine .inr ⟨by omega, ?_⟩
      rcases cross_one h A B hA'.2 hB'.2 with ⟨h1, h2⟩ | ⟨h1, h2⟩ <;> omega
    · by_cases c2 : b < h ∧ h ≤ a
      · have z := cross_zero' h A B (fun x hx => by have := hA'.1 x hx; omega)
        have z1 : cross h a b = 0 := by unfold cross; rw [if_neg c1]
        have z2 : cross h b a = 1 := by unfold cross; rw [if_pos c2]
        refine .inl ⟨by omega, ?_⟩
        rcases cross_one h A B hA'.2 hB'.2 with ⟨h1, h2⟩ | ⟨h1, h2⟩ <;> omega
      · have z1 : cross h a b = 0 := by unfold cross; rw [if_neg c1]
        have z2 : cross h b a = 0 := by unfold cross; rw [if_neg c2]
        rw [z1, z2, Int.zero_add, Int.zero_add]
        exact cross_one h A B hA'.2 hB'.2
theorem cross_max {h : Int} {A B : List Int} (hl : A.length = B.length) (hA : A.Pairwise (· ≤ ·)) (hB : B.Pairwise (· ≤ ·)) :
    sum2 (cross h) A B = mx 0 (sumL (geN h) B - sumL (geN h) A) ∧ sum2 (fun a b => cross h b a) A B = mx 0 (sumL (geN h) A - sumL (geN h) B) := by
  have h1 := cross_diff h A B hl
  unfold mx
  rcases cross_one h A B hA hB with ⟨h2, h3⟩ | ⟨h2, h3⟩
  · constructor <;> split <;> omega
  · constructor <;> split <;> omega
theorem cross_count (a b : Int) (ha : 0 ≤ a) : ∀ N : Nat, sumE (fun j => cross ((j : Int) + 1) a b) N = if a < b ∧ a < (N : Int) then (if b < (N : Int) then b else (N : Int)) - a else 0
  | 0 => by simp only [sumE]; rw [if_neg (by omega)]
  | N + 1 => by
    simp only [sumE, cross_count a b ha N]
    unfold cross
    split <;> split <;> (try split) <;> (try split) <;> (try split) <;> omega
theorem sumE_add (f g : Nat → Int) : ∀ n : Nat, sumE (fun j => f j + g j) n = sumE f n + sumE g n
  | 0 => rfl
  | n + 1 => by simp only [sumE, sumE_add f g n]; omega
theorem sumE_mul (c : Int) (f : Nat → Int) : ∀ n : Nat, sumE (fun j => c * f j) n = c * sumE f n
  | 0 => by simp [sumE]
  | n + 1 => by simp only [sumE, sumE_mul c f n]; grind
theorem climb_levels (U D a b : Int) (ha : 0 ≤ a ∧ a ≤ 1000) (hb : 0 ≤ b ∧ b ≤ 1000) : climbI U D a b = sumE (fun j => U * cross ((j : Int) + 1) a b + D * cross ((j : Int) + 1) b a) 1000 := by
  rw [sumE_add, sumE_mul, sumE_mul, cross_count a b ha.1, cross_count b a hb.1]
  unfold climbI
  by_cases c : b > a
  · have e1 : (if a < b ∧ a < ((1000 : Nat) : Int) then (if b < ((1000 : Nat) : Int) then b else ((1000 : Nat) : Int)) - a else 0) = b - a := by
      rw [if_pos (by omega)]; split <;> omega
    have e2 : (if b < a ∧ b < ((1000 : Nat) : Int) then (if a < ((1000 : Nat) : Int) then a else ((1000 : Nat) : Int)) - b else 0) = 0 := by
      rw [if_neg (by omega)]
    rw [if_pos c, e1, e2]; simp
  · have e1 : (if a < b ∧ a < ((1000 : Nat) : Int) then (if b < ((1000 : Nat) : Int) then b else ((1000 : Nat) : Int)) - a else 0) = 0 := by
      rw [if_neg (by omega)]
    have e2 : (if b < a ∧ b < ((1000 : Nat) : Int) then (if a < ((1000 : Nat) : Int) then a else ((1000 : Nat) : Int)) - b else 0) = a - b := by
      by_cases c2 : b < a
      · rw [if_pos (by omega)]; split <;> omega
      · rw [if_neg (by omega)]; omega
    rw [if_neg c, e1, e2]; simp
theorem sumE_zero : ∀ n : Nat, sumE (fun _ => 0) n = 0
  | 0 => rfl
  | n + 1 => by simp only [sumE, sumE_zero n]; rfl
theorem climb2_levels (U D : Int) : ∀ A B : List Int, (∀ a ∈ A, 0 ≤ a ∧ a ≤ 1000) → (∀ b ∈ B, 0 ≤ b ∧ b ≤ 1000) → sum2 (climbI U D) A B = sumE (fun j => U * sum2 (cross ((j : Int) + 1)) A B + D * sum2 (fun a b => cross ((j : Int) + 1) b a) A B) 1000
  | [], B, _, _ => by
    cases B <;> (simp only [sum2, Int.mul_zero, Int.add_zero]; exact (sumE_zero _).symm)
  | a :: A, [], _, _ => by
    simp only [sum2, Int.mul_zero, Int.add_zero]; exact (sumE_zero _).symm
  | a :: A, b :: B, hA, hB => by
    simp only [sum2]
    rw [climb2_levels U D A B (fun x hx => hA x (by simp [hx])) (fun x hx => hB x (by simp [hx])), climb_levels U D a b (hA a (by simp)) (hB b (by simp)), ← sumE_add]
    exact sumE_cg _ (fun j _ => by grind)
theorem up_dn (h : Int) : ∀ l : List S36, (dnN h l : Int) - (upN h l : Int) = sumL (fun x : S36 => geN h x.f0) l - sumL (fun x : S36 => geN h x.f1) l
  | [] => rfl
  | x :: t => by
    have ih := up_dn h t
    simp only [upN, dnN, sumL]
    have : ((if h ≤ x.f0 ∧ x.f1 < h then 1 else 0 : Nat) : Int) - ((if x.f0 < h ∧ h ≤ x.f1 then 1 else 0 : Nat) : Int) = geN h x.f0 - geN h x.f1 := by
      unfold geN; split <;> split <;> split <;> split <;> omega
    omega
theorem list_upTo (l : List S36) : l = (upTo l.length).map (rd_T36 l) := by
  apply List.ext_getElem
  · simp [upTo]
  · intro i h1 h2
    simp only [upTo, List.map_map, List.getElem_map, List.getElem_range, Function.comp_apply]
    rw [rd36_get h1]
theorem sum_hts (g : Int → Int) (e : Bool) (l : List S36) : sumL g (hts e l) = sumL (fun x : S36 => g (rideH e x)) l := by
  unfold hts
  rw [sumL_map, sumL_perm _ (sortI_perm e l)]
  conv => rhs; rw [list_upTo l]
  rw [sumL_map]
  rfl
def levE (l : List S36) (U D h : Int) : Int := U * mx 0 ((dnN h l : Int) - (upN h l : Int)) + D * mx 0 ((upN h l : Int) - (dnN h l : Int))
theorem worth_levels {l : List S36} {U D : Int} (h : Right l U D) : worthI l U D = sumE (fun j => levE l U D ((j : Int) + 1)) 1000 := by
  rw [worthI_sum, climb2_levels U D _ _ (hts_in h true) (hts_in h false)]
  refine sumE_cg _ (fun j _ => ?_)
  obtain ⟨h1, h2⟩ := cross_max (h := (j : Int) + 1) (show (hts true l).length = (hts false l).length by rw [hts_len, hts_len]) (hts_sorted h true) (hts_sorted h false)
  rw [h1, h2, sum_hts, sum_hts]
  unfold levE
  have e := up_dn ((j : Int) + 1) l
  have e1 : sumL (fun x => geN ((j : Int) + 1) (rideH false x)) l = sumL (fun x : S36 => geN ((j : Int) + 1) x.f0) l := rfl
  have e2 : sumL (fun x => geN ((j : Int) + 1) (rideH true x)) l = sumL (fun x : S36 => geN ((j : Int) + 1) x.f1) l := rfl
  rw [e1, e2, ← e, show sumL (fun x : S36 => geN ((j : Int) + 1) x.f1) l - sumL (fun x : S36 => geN ((j : Int) + 1) x.f0) l = (upN ((j : Int) + 1) l : Int) - (dnN ((j : Int) + 1) l : Int) by omega]
theorem upN_le (h : Int) : ∀ l : List S36, upN h l ≤ l.length ∧ dnN h l ≤ l.length
  | [] => ⟨Nat.le_refl _, Nat.le_refl _⟩
  | x :: t => by
    have := upN_le h t
    simp only [upN, dnN, List.length_cons]
    constructor <;> split <;> omega
theorem levE_bound {l : List S36} {U D : Int} (h : Right l U D) (x : Int) : 0 ≤ levE l U D x ∧ levE l U D x ≤ 2000000 := by
  have h1 := upN_le x l
  have h2 := h.len
  have b1 : 0 ≤ mx 0 ((dnN x l : Int) - (upN x l : Int)) ∧ mx 0 ((dnN x l : Int) - (upN x l : Int)) ≤ 1000 := by unfold mx; split <;> omega
  have b2 : 0 ≤ mx 0 ((upN x l : Int) - (dnN x l : Int)) ∧ mx 0 ((upN x l : Int) - (dnN x l : Int)) ≤ 1000 := by unfold mx; split <;> omega
  have b3 := mul_bound h.U_ b1
  have b4 := mul_bound h.D_ b2
  unfold levE; omega
theorem bylevels_l0 {l : List S36} {U D : Int} (h : Right l U D) (hr : ridesE l = 0) : ∀ r j : Nat, j + r = 1000 →
    Ev (fun k => trishawlaw06_TripByLevels.l0 k l (worthI l U D) 0 (sumE (fun i => levE l U D ((i : Int) + 1)) j) ((j : Int) + 1) U D) true
  | 0, j, e => by
    refine Ev.succ ?_
    obtain rfl : j = 1000 := by omega
    simp only [trishawlaw06_TripByLevels.l0, if_neg (show ¬ ((1000 : Nat) : Int) + 1 ≤ 1000 by omega), if_true, worth_levels h]
    exact alive_ev'
  | r + 1, j, e => by
    refine Ev.succ ?_
    have ih := bylevels_l0 h hr r (j + 1) (by omega)
    have h1 := upN_le ((j : Int) + 1) l
    have h2 := h.len
    have b1 : 0 ≤ mx 0 ((dnN ((j : Int) + 1) l : Int) - (upN ((j : Int) + 1) l : Int)) ∧ mx 0 ((dnN ((j : Int) + 1) l : Int) - (upN ((j : Int) + 1) l : Int)) ≤ 1000 := by unfold mx; split <;> omega
    have b2 : 0 ≤ mx 0 ((upN ((j : Int) + 1) l : Int) - (dnN ((j : Int) + 1) l : Int)) ∧ mx 0 ((upN ((j : Int) + 1) l : Int) - (dnN ((j : Int) + 1) l : Int)) ≤ 1000 := by unfold mx; split <;> omega
    have b3 := mul_bound h.U_ b1
    have b4 := mul_bound h.D_ b2
    have b5 := sumE_bound (f := fun i => levE l U D ((i : Int) + 1)) (B := 2000000) j (fun i _ => levE_bound h _)
    have b6 := levE_bound h ((j : Int) + 1)
    have el : levelR l ((j : Int) + 1) = ((upN ((j : Int) + 1) l : Int), (dnN ((j : Int) + 1) l : Int), 0) := by unfold levelR; rw [if_pos hr]
    obtain ⟨a, ha⟩ : ∃ a : Int, a = (dnN ((j : Int) + 1) l : Int) - (upN ((j : Int) + 1) l : Int) := ⟨_, rfl⟩
    obtain ⟨c, hc⟩ : ∃ c : Int, c = (upN ((j : Int) + 1) l : Int) - (dnN ((j : Int) + 1) l : Int) := ⟨_, rfl⟩
    have eL : levE l U D ((j : Int) + 1) = U * mx 0 a + D * mx 0 c := by rw [ha, hc]; rfl
    rw [← ha] at b1 b3
    rw [← hc] at b2 b4
    have hj : (j : Int) + 1 ≤ 1000 := by omega
    have k3 : -9223372036854775808 ≤ a ∧ a ≤ 9223372036854775807 := by omega
    have k4 : -9223372036854775808 ≤ c ∧ c ≤ 9223372036854775807 := by omega
    have k5 : -9223372036854775808 ≤ U * mx 0 a ∧ U * mx 0 a ≤ 9223372036854775807 := by omega
    have k6 : -9223372036854775808 ≤ D * mx 0 c ∧ D * mx 0 c ≤ 9223372036854775807 := by omega
    have k7 : -9223372036854775808 ≤ U * mx 0 a + D * mx 0 c ∧ U * mx 0 a + D * mx 0 c ≤ 9223372036854775807 := by omega
    have k8 : -9223372036854775808 ≤ sumE (fun i => levE l U D ((i : Int) + 1)) j + levE l U D ((j : Int) + 1) ∧ sumE (fun i => levE l U D ((i : Int) + 1)) j + levE l U D ((j : Int) + 1) ≤ 9223372036854775807 := by omega
    have k11 : -9223372036854775808 ≤ levE l U D ((j : Int) + 1) ∧ levE l U D ((j : Int) + 1) ≤ 9223372036854775807 := by omega
    have k9 : -9223372036854775808 ≤ ((j : Int) + 1) + 1 ∧ ((j : Int) + 1) + 1 ≤ 9223372036854775807 := by omega
    have k10 : ((j : Int) + 1) + 1 = ((j + 1 : Nat) : Int) + 1 := by omega
    simp only [trishawlaw06_TripByLevels.l0, if_pos hj]
    refine Ev.bind (level_ev l ((j : Int) + 1)) ?_
    simp only [el, if_true, ← ha, ← hc, w64 k3.1 k3.2, w64 k4.1 k4.2, w64 k5.1 k5.2, w64 k6.1 k6.2, w64 k7.1 k7.2, ← eL, w64 k11.1 k11.2, w64 k8.1 k8.2, w64 k9.1 k9.2]
    rw [k10]
    exact ih
theorem bylevels_j0 (l : List S36) (b : Bool) (U D : Int) (hb : b = false → dayE l U D = 0) : Ev (fun k => trishawlaw06_TripByLevels.j0 k l b U D) true := by
  refine Ev.succ ?_
  simp only [trishawlaw06_TripByLevels.j0]
  cases b
  · have c := hb rfl
    have hr : ridesE l = 0 := by
      unfold dayE at c
      split at c
      · assumption
      · exact c
    simp only [Bool.false_eq_true, if_false]
    refine Ev.bind (Matching_ev l U D) ?_
    simp only [matchR, if_pos c]
    have h0 := bylevels_l0 (day_right c) hr 1000 0 (by omega)
    have e0 : ((0 : Nat) : Int) + 1 = 1 := by omega
    have e1 : sumE (fun i => levE l U D ((i : Int) + 1)) 0 = 0 := by simp only [sumE]
    rw [e0, e1] at h0
    exact h0
  · simp only [if_true]; exact alive_ev'
theorem TripByLevels_ev (l : List S36) (U D : Int) : Ev (fun k => trishawlaw06_TripByLevels.f k l U D) true := by
  unfold trishawlaw06_TripByLevels.f
  simp only [few_nil, Option.bind_some]
  split
  · refine Ev.bind (ref_day l U D) (bylevels_j0 l _ U D (fun h => ?_))
    simpa using h
  · exact bylevels_j0 l true U D (fun h => by cases h)
end Go.Proofs.Ytlmlneneakpohaa.OAll
