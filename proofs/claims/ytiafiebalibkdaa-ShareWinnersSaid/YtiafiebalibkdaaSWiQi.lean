/- A part of the proof of 'shareWinners_holds', for every input, without a condition. -/
import Derived.Test.YtiafiebalibkdaaSWiQh
namespace Go.Proofs.Ytiafiebalibkdaa.OAll
open Go.RowKit Go.Proofs.YtiafiebalibkdaaW.PrintWords Go.Proofs.YtiafiebalibkdaaW.PrintLast Go.Proofs.YtiafiebalibkdaaW.PrintMore
set_option linter.unusedVariables false
set_option linter.unusedSimpArgs false
structure Inv (a b : List Int) (p q : Int) (nums : List Int) (t : List S78) : Prop where
  p0 : 0 ≤ p
  pq : p ≤ q
  q1 : q ≤ 100
  pa : p + sumA t = 100
  qb : q = sumB t
  or : t.Pairwise Ord
  ne : t.Pairwise (fun x y => x.f1 ≠ y.f1)
  at_ : ∀ x ∈ t, At a b x
  zr : ∀ x ∈ t, rd nums x.f1 = 0
  ln : nums.length = a.length
  dt : dotA (zipS a b) nums = p
  b01 : ∀ x ∈ nums, x = 0 ∨ x = 1
theorem sum3 : ∀ t : List S78, (∀ y ∈ t, Vl y ∧ kindP y = 3) → sumA t = 0 ∧ sumB t = 0
  | [], _ => ⟨rfl, rfl⟩
  | y :: t, h => by
    have ih := sum3 t fun z hz => h z (List.mem_cons_of_mem _ hz)
    have hy := h y List.mem_cons_self
    rcases kind_val hy.1 with ⟨k, _, _⟩ | ⟨k, _, _⟩ | ⟨k, _, _⟩ | ⟨k, e, e'⟩
    · omega
    · omega
    · omega
    · simp only [sumA, sumB, e, e', ih.1, ih.2]; omega
theorem Inv.head {a b : List Int} {p q : Int} {nums : List Int} {x : S78} {t : List S78} (h : Inv a b p q nums (x :: t)) : 0 < x.f0.f0 + x.f0.f1 := by
  have hx := (h.at_ x List.mem_cons_self).vl
  rcases kind_val hx with ⟨k, e, e'⟩ | ⟨k, e, e'⟩ | ⟨k, e, e'⟩ | ⟨k, e, e'⟩
  · omega
  · omega
  · omega
  · exfalso
    have hall : ∀ y ∈ x :: t, Vl y ∧ kindP y = 3 := fun y hy => by
      refine ⟨(h.at_ y hy).vl, ?_⟩
      rcases List.mem_cons.mp hy with rfl | hy
      · exact k
      · have := (List.pairwise_cons.mp h.or).1 y hy
        have := kindP_range y
        rcases (List.pairwise_cons.mp h.or).1 y hy with g | ⟨g, _⟩ <;> omega
    have := sum3 _ hall
    have := h.pa; have := h.qb; have := h.pq; have := h.q1
    omega
theorem Inv.no_end {a b : List Int} {p q : Int} {nums : List Int} (h : Inv a b p q nums []) : False := by
  have := h.pa; have := h.qb; have := h.pq
  simp only [sumA, sumB] at *
  omega
theorem rd_set_ne {l : List Int} {i j : Int} (v : Int) (hi : 0 ≤ i) (hj : 0 ≤ j) (h : i ≠ j) : rd (l.set i.toNat v) j = rd l j := by
  have : i.toNat ≠ j.toNat := by omega
  simp only [rd, List.getD_eq_getElem?_getD]
  rw [List.getElem?_set_ne this]
theorem Inv.take {a b : List Int} {p q : Int} {nums : List Int} {x : S78} {t : List S78} (hab : a.length = b.length) (h : Inv a b p q nums (x :: t)) (hc : p + x.f0.f0 ≤ q - x.f0.f1) : Inv a b (p + x.f0.f0) (q - x.f0.f1) (nums.set x.f1.toNat 1) t := by
  have hx := h.at_ x List.mem_cons_self
  have hv := hx.vl
  have h1 := h.pa; have h2 := h.qb; have h3 := h.p0; have h4 := h.pq; have h5 := h.q1
  simp only [sumA, sumB] at h1 h2
  unfold Vl at hv
  refine ⟨by omega, hc, by omega, by omega, by omega, (List.pairwise_cons.mp h.or).2, (List.pairwise_cons.mp h.ne).2, fun y hy => h.at_ y (List.mem_cons_of_mem _ hy), fun y hy => ?_, by rw [List.length_set]; exact h.ln, ?_, fun y hy => ?_⟩
  · rw [rd_set_ne 1 hx.n0 (h.at_ y (List.mem_cons_of_mem _ hy)).n0 ((List.pairwise_cons.mp h.ne).1 y hy)]
    exact h.zr y (List.mem_cons_of_mem _ hy)
  · have hj : x.f1.toNat < a.length := by have := hx.na; have := hx.n0; omega
    have e : ((x.f1.toNat : Nat) : Int) = x.f1 := by have := hx.n0; omega
    rw [dotA_set a b nums x.f1.toNat 1 hab h.ln hj, h.dt, e, hx.ra, h.zr x List.mem_cons_self]
    omega
  · rcases List.mem_or_eq_of_mem_set hy with hy | rfl
    · exact h.b01 y hy
    · exact .inr rfl
def winGo : Int → Int → List Int → List S78 → List Int × Int × Int
  | p, q, nums, [] => (nums, 1, p)
  | p, q, nums, x :: t => if p + x.f0.f0 ≤ q - x.f0.f1 then winGo (p + x.f0.f0) (q - x.f0.f1) (nums.set x.f1.toNat 1) t else ((nums.map (· * (x.f0.f0 + x.f0.f1))).set x.f1.toNat (q - p), x.f0.f0 + x.f0.f1, p * (x.f0.f0 + x.f0.f1) + x.f0.f0 * (q - p))
def outW (r : List Int × Int × Int) : List Int × Int × Int × Int × Int := ((lowN r.1 r.2.1).1, (lowN r.1 r.2.1).2, (lowR r.2.2 r.2.1).1, (lowR r.2.2 r.2.1).2, 0)
theorem sm_of {x : Int} (h : -1000000000 ≤ x) (h' : x ≤ 1000000000) : Sm x := ⟨by omega, by omega⟩
theorem mul_b {x y B C : Int} (hx : 0 ≤ x) (hx' : x ≤ B) (hy : 0 ≤ y) (hy' : y ≤ C) : 0 ≤ x * y ∧ x * y ≤ B * C :=
  ⟨Int.mul_nonneg hx hy, Int.le_trans (Int.mul_le_mul_of_nonneg_right hx' hy) (Int.mul_le_mul_of_nonneg_left hy' (by omega))⟩
theorem scaled_in {l : List Int} {d v : Int} {i : Nat} (hd : 0 < d) (hl : ∀ x ∈ l, x = 0 ∨ x = 1) (hv : 0 ≤ v) (hv' : v ≤ d) : ∀ x ∈ (l.map (· * d)).set i v, 0 ≤ x ∧ x ≤ d := fun x hx => by
  rcases List.mem_or_eq_of_mem_set hx with hx | rfl
  · obtain ⟨y, hy, rfl⟩ := List.mem_map.mp hx
    rcases hl y hy with rfl | rfl
    · simp; omega
    · simp; omega
  · exact ⟨hv, hv'⟩
theorem rscale {a b : List Int} {p q : Int} {l : List Int} {x : S78} {t : List S78} (hl8 : a.length ≤ 8) (h : Inv a b p q l (x :: t)) (hn : ¬ p + x.f0.f0 ≤ q - x.f0.f1) : ∀ (suf pre : List Int), l = pre ++ suf →
    Ev (fun k => trishawref08_Winner.l3 k a p q (pre.map (· * (x.f0.f0 + x.f0.f1)) ++ suf) x.f1 (x.f0.f0 + x.f0.f1) pre.length) (outW ((l.map (· * (x.f0.f0 + x.f0.f1))).set x.f1.toNat (q - p), x.f0.f0 + x.f0.f1, p * (x.f0.f0 + x.f0.f1) + x.f0.f0 * (q - p)))
  | [], pre, e => by
    have hx := h.at_ x List.mem_cons_self
    have hv := hx.vl
    unfold Vl at hv
    have hd := h.head
    have h3 := h.p0; have h4 := h.pq; have h5 := h.q1
    refine Ev.succ ?_
    rw [List.append_nil] at e
    subst e
    have e3 : ¬ (l.length : Int) < ((l.map (· * (x.f0.f0 + x.f0.f1))).length : Int) := by rw [List.length_map]; omega
    have e4 : x.f1 < ((l.map (· * (x.f0.f0 + x.f0.f1))).length : Int) := by rw [List.length_map, h.ln]; exact hx.na
    have m1 := mul_b (B := 100) (C := 200) h3 (by omega) (show 0 ≤ x.f0.f0 + x.f0.f1 by omega) (by omega)
    have m2 := mul_b (B := 100) (C := 100) hv.1 hv.2.1 (show 0 ≤ q - p by omega) (by omega)
    simp only [List.append_nil, trishawref08_Winner.l3, e3, e4, if_false, if_true, hx.n0, hx.na, hx.ra]
    rw [w64 (show -9223372036854775808 ≤ q - p by omega) (by omega), w64 (show -9223372036854775808 ≤ p * (x.f0.f0 + x.f0.f1) by omega) (by omega), w64 (show -9223372036854775808 ≤ x.f0.f0 * (q - p) by omega) (by omega), w64 (show -9223372036854775808 ≤ p * (x.f0.f0 + x.f0.f1) + x.f0.f0 * (q - p) by omega) (by omega)]
    have hs := scaled_in (i := x.f1.toNat) hd h.b01 (show 0 ≤ q - p by omega) (by omega)
    refine Ev.bind (lowest_ev _ _ hd (sm_of (by omega) (by omega)) (fun y hy => sm_of (by have := hs y hy; omega) (by have := hs y hy; omega)) (by rw [List.length_set, List.length_map, h.ln]; omega)) ?_
    refine Ev.bind (ratio_ev (sm_of (by omega) (by omega)) (sm_of (by omega) (by omega)) hd) ?_
    exact Ev.pure _
  | u :: suf, pre, e => by
    have hx := h.at_ x List.mem_cons_self
    have hv := hx.vl
    unfold Vl at hv
    have hd := h.head
    have hln := h.ln
    refine Ev.succ ?_
    have hlen : l.length = pre.length + suf.length + 1 := by rw [e]; simp; omega
    have eM : (pre.map (· * (x.f0.f0 + x.f0.f1))).length = pre.length := List.length_map _
    have e3 : (pre.length : Int) < ((pre.map (· * (x.f0.f0 + x.f0.f1)) ++ u :: suf).length : Int) := by rw [List.length_append, eM, List.length_cons]; omega
    have e2 : rd (pre.map (· * (x.f0.f0 + x.f0.f1)) ++ u :: suf) (pre.length : Int) = u := by rw [← eM]; exact rd_mid _ _ _
    have e1 : wrap64 ((pre.length : Int) + 1) = (((pre ++ [u]).length : Nat) : Int) := by rw [w64s _ (by omega)]; simp
    have hu := h.b01 u (by rw [e]; simp)
    have w1 : wrap64 (u * (x.f0.f0 + x.f0.f1)) = u * (x.f0.f0 + x.f0.f1) := by rcases hu with rfl | rfl <;> exact w64 (by omega) (by omega)
    have e5 : (pre.map (· * (x.f0.f0 + x.f0.f1)) ++ u :: suf).set pre.length (u * (x.f0.f0 + x.f0.f1)) = (pre ++ [u]).map (· * (x.f0.f0 + x.f0.f1)) ++ suf := by
      rw [List.set_append_right _ _ (by rw [eM]; exact Nat.le_refl _), eM, Nat.sub_self, List.set_cons_zero]; simp
    simp only [trishawref08_Winner.l3, e3, if_true, nonneg_len, e2, w1, e1, Int.toNat_natCast, e5]
    exact rscale hl8 h hn suf (pre ++ [u]) (by rw [e]; simp)
theorem rwin_l2 {a b : List Int} (hl8 : a.length ≤ 8) (L : List S78) (hL : L.length ≤ 8) : ∀ (t pre : List S78) (p q : Int) (nums : List Int), L = pre ++ t → a.length = b.length → Inv a b p q nums t →
    Ev (fun k => trishawref08_Winner.l2 k a b (L.map S78.f1) p q nums pre.length) (outW (winGo p q nums t))
  | [], pre, p, q, nums, _, _, h => absurd h.no_end id
  | x :: t, pre, p, q, nums, e, hab, h => by
    have hx := h.at_ x List.mem_cons_self
    have hv := hx.vl
    unfold Vl at hv
    have hd := h.head
    have h3 := h.p0; have h4 := h.pq; have h5 := h.q1
    refine Ev.succ ?_
    have hlen : L.length = pre.length + t.length + 1 := by rw [e]; simp; omega
    have eM : (pre.map S78.f1).length = pre.length := List.length_map _
    have e0 : L.map S78.f1 = pre.map S78.f1 ++ x.f1 :: t.map S78.f1 := by rw [e]; simp
    have e3 : (pre.length : Int) < ((L.map S78.f1).length : Int) := by rw [List.length_map]; omega
    have e2 : rd (L.map S78.f1) (pre.length : Int) = x.f1 := by rw [e0, ← eM]; exact rd_mid _ _ _
    have e1 : wrap64 ((pre.length : Int) + 1) = (((pre ++ [x]).length : Nat) : Int) := by rw [w64s _ (by omega)]; simp
    have w1 : wrap64 (p + x.f0.f0) = p + x.f0.f0 := w64 (by omega) (by omega)
    have w2 : wrap64 (q - x.f0.f1) = q - x.f0.f1 := w64 (by omega) (by omega)
    have w3 : wrap64 (x.f0.f0 + x.f0.f1) = x.f0.f0 + x.f0.f1 := w64 (by omega) (by omega)
    have e6 : x.f1 < (nums.length : Int) := by rw [h.ln]; exact hx.na
    have e7 : x.f0.f0 + x.f0.f1 > 0 := hd
    simp only [trishawref08_Winner.l2, e3, if_true, nonneg_len, e2, hx.n0, hx.na, hx.nb, hx.ra, hx.rb, w1, w2, w3, e1, e6, e7]
    rw [winGo]
    by_cases hc : p + x.f0.f0 ≤ q - x.f0.f1
    · simp only [hc, if_true]
      exact rwin_l2 hl8 L hL t (pre ++ [x]) _ _ _ (by rw [e]; simp) hab (h.take hab hc)
    · simp only [hc, if_false]
      exact rscale hl8 h hc nums [] rfl
end Go.Proofs.Ytiafiebalibkdaa.OAll
