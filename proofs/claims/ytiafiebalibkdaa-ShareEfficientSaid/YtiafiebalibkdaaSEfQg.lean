/- A part of the proof of 'shareEfficient_holds', for every input, without a condition. -/
import Derived.Test.YtiafiebalibkdaaSEfQf
import Derived.Test.YtiafiebalibkdaaSEfOAllx7
import Derived.Test.YtiafiebalibkdaaSEfOAllx0
import Derived.Test.YtiafiebalibkdaaSEfOAllx10
import Derived.Test.YtiafiebalibkdaaSEfOAllx11
namespace Go.Proofs.Ytiafiebalibkdaa.OAll
open Go.RowKit Go.Proofs.YtiafiebalibkdaaW.PrintWords Go.Proofs.YtiafiebalibkdaaW.PrintLast Go.Proofs.YtiafiebalibkdaaW.PrintMore
set_option linter.unusedVariables false
set_option linter.unusedSimpArgs false
def sumA : List S78 → Int
  | [] => 0
  | x :: t => x.f0.f0 + sumA t
def sumB : List S78 → Int
  | [] => 0
  | x :: t => x.f0.f1 + sumB t
theorem sumA_perm {s t : List S78} (h : s.Perm t) : sumA s = sumA t := by
  induction h with
  | nil => rfl
  | cons x _ ih => simp only [sumA, ih]
  | swap x y l => simp only [sumA]; omega
  | trans _ _ h1 h2 => exact h1.trans h2
theorem sumB_perm {s t : List S78} (h : s.Perm t) : sumB s = sumB t := by
  induction h with
  | nil => rfl
  | cons x _ ih => simp only [sumB, ih]
  | swap x y l => simp only [sumB]; omega
  | trans _ _ h1 h2 => exact h1.trans h2
theorem sumA_ordIn : ∀ (a b : List Int) (i : Nat), a.length = b.length → sumA (ordIn i (zipS a b)) = a.sum
  | [], [], _, _ => rfl
  | x :: a, y :: b, i, h => by rw [zipS, ordIn, sumA, sumA_ordIn a b (i + 1) (by simpa using h), List.sum_cons]
  | [], y :: b, _, h => by simp at h
  | x :: a, [], _, h => by simp at h
theorem sumB_ordIn : ∀ (a b : List Int) (i : Nat), a.length = b.length → sumB (ordIn i (zipS a b)) = b.sum
  | [], [], _, _ => rfl
  | x :: a, y :: b, i, h => by rw [zipS, ordIn, sumB, sumB_ordIn a b (i + 1) (by simpa using h), List.sum_cons]
  | [], y :: b, _, h => by simp at h
  | x :: a, [], _, h => by simp at h
structure At (a b : List Int) (x : S78) : Prop where
  n0 : 0 ≤ x.f1
  na : x.f1 < (a.length : Int)
  nb : x.f1 < (b.length : Int)
  ra : rd a x.f1 = x.f0.f0
  rb : rd b x.f1 = x.f0.f1
  vl : Vl x
theorem at_ordIn : ∀ (a b pa pb : List Int) (x : S78), a.length = b.length → pa.length = pb.length → a.all inR = true → b.all inR = true → x ∈ ordIn pa.length (zipS a b) → At (pa ++ a) (pb ++ b) x ∧ (pa.length : Int) ≤ x.f1
  | [], [], pa, pb, x, _, _, _, _, hx => by cases hx
  | u :: a, v :: b, pa, pb, x, h, h', ha, hb, hx => by
    rw [List.all_cons, Bool.and_eq_true] at ha hb
    rw [zipS, ordIn] at hx
    rcases List.mem_cons.mp hx with rfl | hx
    · have := inR_iff.mp ha.1
      have := inR_iff.mp hb.1
      refine ⟨⟨nonneg_len _, mid_lt _ _ _, by rw [show ((⟨⟨u, v⟩, (pa.length : Int)⟩ : S78)).f1 = (pb.length : Int) by show (pa.length : Int) = pb.length; omega]; exact mid_lt _ _ _, rd_mid _ _ _, by rw [show ((⟨⟨u, v⟩, (pa.length : Int)⟩ : S78)).f1 = (pb.length : Int) by show (pa.length : Int) = pb.length; omega]; exact rd_mid _ _ _, ?_⟩, Int.le_refl _⟩
      show 0 ≤ u ∧ u ≤ 100 ∧ 0 ≤ v ∧ v ≤ 100
      omega
    · have := at_ordIn a b (pa ++ [u]) (pb ++ [v]) x (by simpa using h) (by simp [h']) ha.2 hb.2 (by simpa using hx)
      have e : ((pa ++ [u]).length : Int) = pa.length + 1 := by simp
      refine ⟨?_, by omega⟩
      simpa using this.1
  | [], y :: b, _, _, _, h, _, _, _, _ => by simp at h
  | x :: a, [], _, _, _, h, _, _, _, _ => by simp at h
theorem ordIn_lt : ∀ (Z : List S76) (i : Nat), (∀ x ∈ ordIn i Z, (i : Int) ≤ x.f1) ∧ (ordIn i Z).Pairwise (fun x y => x.f1 < y.f1)
  | [], i => by simp [ordIn]
  | z :: Z, i => by
    have := ordIn_lt Z (i + 1)
    rw [ordIn]
    refine ⟨fun x hx => ?_, List.pairwise_cons.mpr ⟨fun y hy => ?_, this.2⟩⟩
    · rcases List.mem_cons.mp hx with rfl | hx
      · exact Int.le_refl _
      · have := this.1 x hx; omega
    · have := this.1 y hy
      show (i : Int) < y.f1
      omega
theorem perm_ne {s t : List S78} (h : s.Perm t) (ht : t.Pairwise (fun x y => x.f1 < y.f1)) : s.Pairwise (fun x y => x.f1 ≠ y.f1) :=
  (h.pairwise_iff (R := fun (x y : S78) => x.f1 ≠ y.f1) (fun {x y} hh => fun e => hh e.symm)).mpr (ht.imp fun hh => by omega)
def dotA : List S76 → List Int → Int
  | z :: Z, x :: l => z.f0 * x + dotA Z l
  | _, _ => 0
def dotB (den : Int) : List S76 → List Int → Int
  | z :: Z, x :: l => z.f1 * (den - x) + dotB den Z l
  | _, _ => 0
theorem dotA_set : ∀ (a b l : List Int) (j : Nat) (v : Int), a.length = b.length → l.length = a.length → j < a.length → dotA (zipS a b) (l.set j v) = dotA (zipS a b) l + rd a (j : Int) * (v - rd l (j : Int))
  | x :: a, y :: b, u :: l, 0, v, _, _, _ => by
    simp only [zipS, List.set_cons_zero, dotA]
    have e1 : rd (x :: a) ((0 : Nat) : Int) = x := rfl
    have e2 : rd (u :: l) ((0 : Nat) : Int) = u := rfl
    rw [e1, e2]; grind
  | x :: a, y :: b, u :: l, j + 1, v, h, h', hj => by
    simp only [zipS, List.set_cons_succ, dotA]
    have e1 : rd (x :: a) ((j + 1 : Nat) : Int) = rd a (j : Int) := by simp [rd]
    have e2 : rd (u :: l) ((j + 1 : Nat) : Int) = rd l (j : Int) := by simp [rd]
    rw [dotA_set a b l j v (by simpa using h) (by simpa using h') (by simpa using hj), e1, e2]; omega
  | [], _, _, _, _, _, _, hj => by simp at hj
  | x :: a, [], _, _, _, h, _, _ => by simp at h
  | x :: a, y :: b, [], _, _, _, h, _ => by simp at h
theorem dotA_scale (d : Int) : ∀ (Z : List S76) (l : List Int), dotA Z (l.map (· * d)) = dotA Z l * d
  | [], _ => by simp [dotA]
  | z :: Z, [] => by simp [dotA]
  | z :: Z, x :: l => by simp only [List.map_cons, dotA, dotA_scale d Z l]; grind
theorem dotA_zero : ∀ (a b : List Int) (n : Nat), dotA (zipS a b) (List.replicate n 0) = 0
  | [], _, _ => by simp [zipS, dotA]
  | x :: a, [], _ => by simp [zipS, dotA]
  | x :: a, y :: b, 0 => by simp [zipS, dotA]
  | x :: a, y :: b, n + 1 => by simp only [zipS, List.replicate_succ, dotA, dotA_zero a b n]; omega
theorem dotA_div (g : Int) (hg : g ≠ 0) : ∀ (Z : List S76) (l : List Int), (∀ x ∈ l, g ∣ x) → dotA Z (l.map (Int.tdiv · g)) * g = dotA Z l
  | [], _, _ => by simp [dotA]
  | z :: Z, [], _ => by simp [dotA]
  | z :: Z, x :: l, h => by
    have ih := dotA_div g hg Z l fun y hy => h y (List.mem_cons_of_mem _ hy)
    have e : Int.tdiv x g * g = x := Int.tdiv_mul_cancel (h x List.mem_cons_self)
    simp only [List.map_cons, dotA]
    rw [Int.add_mul, ih, Int.mul_assoc, e]
end Go.Proofs.Ytiafiebalibkdaa.OAll
