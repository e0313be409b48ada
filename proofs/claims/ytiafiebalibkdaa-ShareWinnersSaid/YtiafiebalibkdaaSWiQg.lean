/- A part of the proof of 'shareWinners_holds', for every input, without a condition. -/
import Derived.Test.YtiafiebalibkdaaSWiQf
import Derived.Test.YtiafiebalibkdaaSWiOAllx7
import Derived.Test.YtiafiebalibkdaaSWiOAllx13
namespace Go.Proofs.Ytiafiebalibkdaa.OAll
open Go.RowKit Go.Proofs.YtiafiebalibkdaaW.PrintWords Go.Proofs.YtiafiebalibkdaaW.PrintLast Go.Proofs.YtiafiebalibkdaaW.PrintMore
set_option linter.unusedVariables false
set_option linter.unusedSimpArgs false
def sumA : List S78 → Int
  | [] => 0
  | x :: t => x.f0.f0 + sumA t
def sumB : List S78 → Int
  | [] => 0
  | x :: t => x.f0.f1 + sumB t
theorem sumA_perm {s t : List S78} (h : s.Perm t) : sumA s = sumA t := by
  induction h with
  | nil => rfl
  | cons x _ ih => simp only [sumA, ih]
  | swap x y l => simp only [sumA]; omega
  | trans _ _ h1 h2 => exact h1.trans h2
theorem sumB_perm {s t : List S78} (h : s.Perm t) : sumB s = sumB t := by
  induction h with
  | nil => rfl
  | cons x _ ih => simp only [sumB, ih]
  | swap x y l => simp only [sumB]; omega
  | trans _ _ h1 h2 => exact h1.trans h2
theorem sumA_ordIn : ∀ (a b : List Int) (i : Nat), a.length = b.length → sumA (ordIn i (zipS a b)) = a.sum
  | [], [], _, _ => rfl
  | x :: a, y :: b, i, h => by rw [zipS, ordIn, sumA, sumA_ordIn a b (i + 1) (by simpa using h), List.sum_cons]
  | [], y :: b, _, h => by simp at h
  | x :: a, [], _, h => by simp at h
theorem sumB_ordIn : ∀ (a b : List Int) (i : Nat), a.length = b.length → sumB (ordIn i (zipS a b)) = b.sum
  | [], [], _, _ => rfl
  | x :: a, y :: b, i, h => by rw [zipS, ordIn, sumB, sumB_ordIn a b (i + 1) (by simpa using h), List.sum_cons]
  | [], y :: b, _, h => by simp at h
  | x :: a, [], _, h => by simp at h
structure At (a b : List Int) (x : S78) : Prop where
  n0 : 0 ≤ x.f1
  na : x.f1 < (a.length : Int)
  nb : x.f1 < (b.length : Int)
  ra : rd a x.f1 = x.f0.f0
  rb : rd b x.f1 = x.f0.f1
  vl : Vl x
theorem at_ordIn : ∀ (a b pa pb : List Int) (x : S78), a.length = b.length → pa.length = pb.length → a.all inR = true → b.all inR = true → x ∈ ordIn pa.length (zipS a b) → At (pa ++ a) (pb ++ b) x ∧ (pa.length : Int) ≤ x.f1
  | [], [], pa, pb, x, _, _, _, _, hx => by cases hx
  | u :: a, v :: b, pa, pb, x, h, h', ha, hb, hx => by
    rw [List.all_cons, Bool.and_eq_true] at ha hb
    rw [zipS, ordIn] at hx
    rcases List.mem_cons.mp hx with rfl | hx
    · have := inR_iff.mp ha.1
      have := inR_iff.mp hb.1
      refine ⟨⟨nonneg_len _, mid_lt _ _ _, by rw [show ((⟨⟨u, v⟩, (pa.length : Int)⟩ : S78)).f1 = (pb.length : Int) by show (pa.length : Int) = pb.length; omega]; exact mid_lt _ _ _, rd_mid _ _ _, by rw [show ((⟨⟨u, v⟩, (pa.length : Int)⟩ : S78)).f1 = (pb.length : Int) by show (pa.length : Int) = pb.length; omega]; exact rd_mid _ _ _, ?_⟩, Int.le_refl _⟩
      show 0 ≤ u ∧ u ≤ 100 ∧ 0 ≤ v ∧ v ≤ 100
      omega
    · have := at_ordIn a b (pa ++ [u]) (pb ++ [v]) x (by simpa using h) (by simp [h']) ha.2 hb.2 (by simpa using hx)
      have e : ((pa ++ [u]).length : Int) = pa.length + 1 := by simp
      refine ⟨?_, by omega⟩
      simpa using this.1
  | [], y :: b, _, _, _, h, _, _, _, _ => by simp at h
  | x :: a, [], _, _, _, h, _, _, _, _ => by simp at h
theorem ordIn_lt : ∀ (Z : List S76) (i : Nat), (∀ x ∈ ordIn i Z, (i : Int) ≤ x.f1) ∧ (ordIn i Z).Pairwise (fun x y => x.f1 < y.f1)
  | [], i => by simp [ordIn]
  | z :: Z, i => by
    have := ordIn_lt Z (i + 1)
    rw [ordIn]
    refine ⟨fun x hx => ?_, List.pairwise_cons.mpr ⟨fun y hy => ?_, this.2⟩⟩
    · rcases List.mem_cons.mp hx with rfl | hx
      · exact Int.le_refl _
      · have := this.1 x hx; omega
    · have := this.1 y hy
      show (i : Int) < y.f1
      omega
theorem perm_ne {s t : List S78} (h : s.Perm t) (ht : t.Pairwise (fun x y => x.f1 < y.f1)) : s.Pairwise (fun x y => x.f1 ≠ y.f1) :=
  (h.pairwise_iff (R := fun (x y : S78) => x.f1 ≠ y.f1) (fun {x y} hh => fun e => hh e.symm)).mpr (ht.imp fun hh => by omega)
def dotA : List S76 → List Int → Int
  | z :: Z, x :: l => z.f0 * x + dotA Z l
  | _, _ => 0
def dotB (den : Int) : List S76 → List Int → Int
  | z :: Z, x :: l => z.f1 * (den - x) + dotB den Z l
  | _, _ => 0
theorem dotA_set : ∀ (a b l : List Int) (j : Nat) (v : Int), a.length = b.length → l.length = a.length → j < a.length → dotA (zipS a b) (l.set j v) = dotA (zipS a b) l + rd a (j : Int) * (v - rd l (j : Int))
  | x :: a, y :: b, u :: l, 0, v, _, _, _ => by
    simp only [zipS, List.set_cons_zero, dotA]
    have e1 : rd (x :: a) ((0 : Nat) : Int) = x := rfl
    have e2 : rd (u :: l) ((0 : Nat) : Int) = u := rfl
    rw [e1, e2]; grind
  | x :: a, y :: b, u :: l, j + 1, v, h, h', hj => by
    simp only [zipS, List.set_cons_succ, dotA]
    have e1 : rd (x :: a) ((j + 1 : Nat) : Int) = rd a (j : Int) := by simp [rd]
    have e2 : rd (u :: l) ((j + 1 : Nat) : Int) = rd l (j : Int) := by simp [rd]
    rw [dotA_set a b l j v (by simpa using h) (by simpa using h') (by simpa using hj), e1, e2]; omega
  | [], _, _, _, _, _, _, hj => by simp at hj
  | x :: a, [], _, _, _, h, _, _ => by simp at h
  | x :: a, y :: b, [], _, _, _, h, _ => by simp at h
theorem dotA_scale (d : Int) : ∀ (Z : List S76) (l : List Int), dotA Z (l.map (· * d)) = dotA Z l * d
  | [], _ => by simp [dotA]
  | z :: Z, [] => by simp [dotA]
  | z :: Z, x :: l => by simp only [List.map_cons, dotA, dotA_scale d Z l]; grind
theorem dotA_zero : ∀ (a b : List Int) (n : Nat), dotA (zipS a b) (List.replicate n 0) = 0
  | [], _, _ => by simp [zipS, dotA]
  | x :: a, [], _ => by simp [zipS, dotA]
  | x :: a, y :: b, 0 => by simp [zipS, dotA]
  | x :: a, y :: b, n + 1 => by simp only [zipS, List.replicate_succ, dotA, dotA_zero a b n]; omega
theorem dotA_div (g : Int) (hg : g ≠ 0) : ∀ (Z : List S76) (l : List Int), (∀ x ∈ l, g ∣ x) → dotA Z (l.map (Int.tdiv · g)) * g = dotA Z l
  | [], _, _ => by simp [dotA]
  | z :: Z, [], _ => by simp [dotA]
  | z :: Z, x :: l, h => by
    have ih := dotA_div g hg Z l fun y hy => h y (List.mem_cons_of_mem _ hy)
    have e : Int.tdiv x g * g = x := Int.tdiv_mul_cancel (h x List.mem_cons_self)
    simp only [List.map_cons, dotA]
    rw [Int.add_mul, ih, Int.mul_assoc, e]
theorem kind_ev (x : S78) : Ev (fun k => trishawref08_kind.f k x.f0.f0 x.f0.f1) (kindP x) := by
  refine Ev.succ ?_
  refine ⟨0, fun k _ => ?_⟩
  unfold trishawref08_kind.f kindP
  by_cases h : x.f0.f0 > 0
  · by_cases h0 : x.f0.f1 = 0
    · simp [trishawref08_kind.j0, h, h0]
    · simp [trishawref08_kind.j0, h, h0]
  · by_cases h0 : x.f0.f1 > 0
    · simp [trishawref08_kind.j0, h, h0]
    · simp [trishawref08_kind.j0, h, h0]
theorem before_ev {a b : List Int} {x p : S78} (hx : At a b x) (hp : At a b p) (h : p.f1 < x.f1) : Ev (fun k => trishawref08_before.f k a b x.f1 p.f1) (ltP x p) := by
  unfold trishawref08_before.f
  simp only [hx.n0, hx.na, hx.nb, hp.n0, hp.na, hp.nb, hx.ra, hx.rb, hp.ra, hp.rb, if_true]
  refine Ev.bind (kind_ev x) ?_
  refine Ev.bind (kind_ev p) ?_
  have h1 := mul_le_104 hx.vl.1 hx.vl.2.1 hp.vl.2.2.1 hp.vl.2.2.2
  have h2 := mul_le_104 hp.vl.1 hp.vl.2.1 hx.vl.2.2.1 hx.vl.2.2.2
  rw [w64 (show -9223372036854775808 ≤ x.f0.f0 * p.f0.f1 by omega) (by omega), w64 (show -9223372036854775808 ≤ p.f0.f0 * x.f0.f1 by omega) (by omega)]
  have hl := ltP_iff hx.vl hp.vl
  have hn : ¬ x.f1 < p.f1 := by omega
  have fin : ∀ (P : Prop) [Decidable P], (P ↔ ltP x p = true) → Ev (fun _ => some (decide P)) (ltP x p) := fun P _ hh => by
    have : decide P = ltP x p := by
      by_cases hP : P
      · rw [decide_eq_true hP, (hh.mp hP)]
      · rw [decide_eq_false hP]
        cases hb : ltP x p
        · rfl
        · exact absurd (hh.mpr hb) hP
    rw [this]; exact Ev.pure _
  by_cases hk : kindP x = kindP p
  · by_cases h3 : kindP x = 1
    · have h4 : kindP p = 1 := by omega
      simp only [h3, h4, if_true]
      by_cases he : x.f0.f0 * p.f0.f1 = p.f0.f0 * x.f0.f1
      · simp only [he, if_true]
        exact fin _ ⟨fun hh => absurd hh hn, fun hh => by rcases hl.mp hh with g | ⟨_, g⟩ <;> omega⟩
      · simp only [he, if_false]
        exact fin _ ⟨fun hh => hl.mpr (.inr ⟨hk, hh⟩), fun hh => by rcases hl.mp hh with g | ⟨_, g⟩ <;> omega⟩
    · have h4 : ¬ kindP p = 1 := by omega
      simp only [← hk, h3, if_true, if_false]
      refine fin _ ⟨fun hh => absurd hh hn, fun hh => ?_⟩
      rcases hl.mp hh with g | ⟨_, g⟩
      · omega
      · exfalso
        rcases kind_val hx.vl with ⟨k1, p1, q1⟩ | ⟨k1, p1, q1⟩ | ⟨k1, p1, q1⟩ | ⟨k1, p1, q1⟩ <;> rcases kind_val hp.vl with ⟨k2, p2, q2⟩ | ⟨k2, p2, q2⟩ | ⟨k2, p2, q2⟩ | ⟨k2, p2, q2⟩ <;> first | omega | (rw [q1, q2] at g; simp at g) | (rw [p1, p2] at g; simp at g)
  · simp only [hk, if_false]
    exact fin _ ⟨fun hh => hl.mpr (.inl hh), fun hh => by rcases hl.mp hh with g | ⟨g, _⟩ <;> omega⟩
theorem swap_at {α : Type} (M B : List α) (p x : α) : ((M ++ p :: x :: B).set (M.length + 1) p).set M.length x = M ++ x :: p :: B := by
  rw [show M ++ p :: x :: B = (M ++ [p]) ++ x :: B by simp, show M.length + 1 = (M ++ [p]).length by simp]
  rw [List.set_append_right _ _ (Nat.le_refl _), Nat.sub_self, List.set_cons_zero, List.append_assoc]
  rw [List.set_append_right _ _ (Nat.le_refl _), Nat.sub_self]; rfl
theorem rins (a b : List Int) (x : S78) (i : Int) (r : List Int × Int × Int × Int × Int) (hx : At a b x) : ∀ A B : List S78, (∀ y ∈ A, At a b y ∧ y.f1 < x.f1) → (A.reverse ++ x :: B).length ≤ 8 →
    Ev (fun k => trishawref08_Winner.l0 k a b ((insR x A B).map S78.f1) (wrap64 (i + 1))) r →
    Ev (fun k => trishawref08_Winner.l1 k a b ((A.reverse ++ x :: B).map S78.f1) i (A.length : Int)) r
  | [], B, _, _, h => by
    refine Ev.succ ?_
    have e : ¬ ((([] : List S78).length : Int) > 0) := by simp
    simp only [trishawref08_Winner.l1, e, if_false]
    rw [insR] at h
    simpa using h
  | p :: A, B, hA, hl, h => by
    refine Ev.succ ?_
    have hl' : A.length + B.length + 2 ≤ 8 := by simp at hl; omega
    have e1 : ((p :: A).reverse ++ x :: B).map S78.f1 = A.reverse.map S78.f1 ++ p.f1 :: x.f1 :: B.map S78.f1 := by simp
    have eM : (A.reverse.map S78.f1).length = A.length := by simp
    have e2 : ((p :: A).length : Int) = (((A.reverse.map S78.f1 ++ [p.f1]).length : Nat) : Int) := by simp
    have e3 : wrap64 (((p :: A).length : Int) - 1) = ((A.reverse.map S78.f1).length : Int) := by rw [eM, w64 (by rw [List.length_cons]; omega) (by rw [List.length_cons]; omega)]; simp
    have e4 : ((p :: A).length : Int) > 0 := by rw [List.length_cons]; omega
    have e5 : rd (A.reverse.map S78.f1 ++ p.f1 :: x.f1 :: B.map S78.f1) ((p :: A).length : Int) = x.f1 := by rw [e2, mid_assoc (A.reverse.map S78.f1) (x.f1 :: B.map S78.f1) p.f1]; exact rd_mid _ _ _
    have e6 : rd (A.reverse.map S78.f1 ++ p.f1 :: x.f1 :: B.map S78.f1) ((A.reverse.map S78.f1).length : Int) = p.f1 := rd_mid _ _ _
    have e7 : ((p :: A).length : Int) < ((A.reverse.map S78.f1 ++ p.f1 :: x.f1 :: B.map S78.f1).length : Int) := by rw [e2, mid_assoc (A.reverse.map S78.f1) (x.f1 :: B.map S78.f1) p.f1]; exact mid_lt _ _ _
    have e8 : ((A.reverse.map S78.f1).length : Int) < ((A.reverse.map S78.f1 ++ p.f1 :: x.f1 :: B.map S78.f1).length : Int) := mid_lt _ _ _
    rw [e1]
    simp only [trishawref08_Winner.l1, e3, e4, e5, e6, e7, e8, nonneg_len, if_true]
    have hp := hA p List.mem_cons_self
    refine Ev.bind (before_ev hx hp.1 hp.2) ?_
    rw [insR] at h
    by_cases hb : ltP x p = true
    · simp only [hb, if_true]
      rw [if_pos hb] at h
      have := rins a b x i r hx A (p :: B) (fun y hy => hA y (List.mem_cons_of_mem _ hy)) (by simp; omega) h
      have t1 : ((p :: A).length : Int).toNat = (A.reverse.map S78.f1).length + 1 := by rw [eM]; simp
      have t2 : ((A.reverse.map S78.f1).length : Int).toNat = (A.reverse.map S78.f1).length := Int.toNat_natCast _
      rw [t1, t2, swap_at]
      have e9 : (A.reverse ++ x :: p :: B).map S78.f1 = A.reverse.map S78.f1 ++ x.f1 :: p.f1 :: B.map S78.f1 := by simp
      rw [e9] at this
      rw [eM]
      exact this
    · simp only [hb, if_false]
      rw [if_neg hb] at h
      have e9 : (A.reverse ++ p :: x :: B).map S78.f1 = A.reverse.map S78.f1 ++ p.f1 :: x.f1 :: B.map S78.f1 := by simp
      rw [e9] at h
      exact h
theorem rsort {a b : List Int} (r : List Int × Int × Int × Int × Int) (hl : a.length ≤ 8) : ∀ (Z : List S76) (acc : List S78), acc.length + Z.length = a.length → (∀ y ∈ acc, At a b y ∧ y.f1 < (acc.length : Int)) → (∀ y ∈ ordIn acc.length Z, At a b y) →
    Ev (fun k => trishawref08_Winner.l2 k a b ((isort acc (ordIn acc.length Z)).map S78.f1) 0 100 (List.replicate a.length 0) 0) r →
    Ev (fun k => trishawref08_Winner.l0 k a b (acc.map S78.f1) (acc.length : Int)) r
  | [], acc, hn, hA, hO, h => by
    refine Ev.succ ?_
    have e : ¬ (acc.length : Int) < (a.length : Int) := by simp at hn; omega
    have e2 : a.length ≤ 35184372088832 := by omega
    simp only [trishawref08_Winner.l0, e, e2, nonneg_len, if_true, if_false, Int.toNat_natCast]
    rw [ordIn, isort] at h
    exact h
  | z :: Z, acc, hn, hA, hO, h => by
    refine Ev.succ ?_
    rw [List.length_cons] at hn
    have e : (acc.length : Int) < (a.length : Int) := by omega
    have e2 : (acc.map S78.f1).length < 17592186044416 := by rw [List.length_map]; omega
    simp only [trishawref08_Winner.l0, e, e2, if_true]
    rw [ordIn] at hO h
    have hx := hO ⟨z, (acc.length : Int)⟩ List.mem_cons_self
    have := rins a b ⟨z, (acc.length : Int)⟩ (acc.length : Int) r hx acc.reverse [] (fun y hy => hA y (by simpa using hy)) (by simp; omega) ?_
    · simpa using this
    · rw [isort] at h
      have hlen : (insR ⟨z, (acc.length : Int)⟩ acc.reverse []).length = acc.length + 1 := by
        have := (insR_perm ⟨z, (acc.length : Int)⟩ acc.reverse []).length_eq
        simpa using this
      rw [w64s _ (by omega), ← hlen]
      refine rsort r hl Z _ (by omega) (fun y hy => ?_) (by rw [hlen]; exact fun y hy => hO y (List.mem_cons_of_mem _ hy)) (by rw [hlen]; exact h)
      have hm := (insR_perm ⟨z, (acc.length : Int)⟩ acc.reverse []).mem_iff.mp hy
      rw [hlen]
      rcases List.mem_cons.mp hm with rfl | hm
      · exact ⟨hx, by show (acc.length : Int) < _; omega⟩
      · have := hA y (by simpa using hm)
        exact ⟨this.1, by omega⟩
end Go.Proofs.Ytiafiebalibkdaa.OAll
