/- A part of the proof of 'shareContent_holds', for every input, without a condition. -/
import Derived.Test.YtiafiebalibkdaaSCoQw
import Derived.Test.YtiafiebalibkdaaSCoQm
import Derived.Test.YtiafiebalibkdaaSCoOAllx0
import Derived.Test.YtiafiebalibkdaaSCoOAllx4
import Derived.Test.YtiafiebalibkdaaSCoOAllx10
import Derived.Test.YtiafiebalibkdaaSCoOAllx16
import Derived.Test.YtiafiebalibkdaaSCoOAllx21
import Derived.Test.YtiafiebalibkdaaSCoOAllx22
namespace Go.Proofs.Ytiafiebalibkdaa.OAll
open Go.RowKit Go.Proofs.YtiafiebalibkdaaW.PrintWords Go.Proofs.YtiafiebalibkdaaW.PrintLast Go.Proofs.YtiafiebalibkdaaW.PrintMore
set_option linter.unusedVariables false
set_option linter.unusedSimpArgs false
def inE (D x : Int) : Bool := decide (-5000 * D ≤ x) && decide (x ≤ 5000 * D)
theorem inE_iff {D x : Int} : inE D x = true ↔ -5000 * D ≤ x ∧ x ≤ 5000 * D := by simp [inE]
def partsE (l : List Int) (D n : Int) : Bool := decide (1 ≤ D) && decide (D ≤ 10000000) && decide ((l.length : Int) = n) && l.all (inE D) && (gcdL D.natAbs l == 1)
theorem areE_l0 (l : List Int) (D : Int) (hD : 1 ≤ D) (hD' : D ≤ 10000000) (hl : l.length ≤ 1000) : ∀ (suf pre : List Int), l = pre ++ suf →
    Ev (fun k => ratio_AreParts.l0 k (-5000) 5000 ((gcdL D.natAbs pre : Nat) : Int) l (l.length : Int) pre.length l D) (suf.all (inE D) && (gcdL D.natAbs l == 1))
  | [], pre, e => by
    refine Ev.succ ?_
    have e3 : ¬ (pre.length : Int) < (l.length : Int) := by rw [e]; simp
    have el : l = pre := by rw [e]; simp
    have hle := gcdL_le (show 0 < D.natAbs by omega) pre
    have hg : Sm ((gcdL D.natAbs pre : Nat) : Int) := by unfold Sm; omega
    simp only [ratio_AreParts.l0, e3, if_false, mx_abs hg, Int.natAbs_natCast, List.all_nil, Bool.true_and]
    have : ((((gcdL D.natAbs pre : Nat) : Int)) == 1) = (gcdL D.natAbs l == 1) := by
      rw [Bool.eq_iff_iff, beq_iff_eq, beq_iff_eq, el]; omega
    rw [this]; exact Ev.pure _
  | x :: t, pre, e => by
    refine Ev.succ ?_
    have hlt : pre.length < l.length := by rw [e]; simp
    have e3 : (pre.length : Int) < (l.length : Int) := by omega
    have e2 : rd l (pre.length : Int) = x := by rw [e]; exact rd_mid _ _ _
    have e1 := Aside0.mk (show wrap64 ((pre.length : Int) + 1) = (((pre ++ [x]).length : Nat) : Int) by rw [w64s _ (by omega)]; simp)
    have w0 := Aside0.mk (show wrap64 (-5000 * D) = -5000 * D from w64 (by omega) (by omega))
    have w1 := Aside0.mk (show wrap64 (5000 * D) = 5000 * D from w64 (by omega) (by omega))
    have hle := gcdL_le (show 0 < D.natAbs by omega) pre
    have hg : Sm ((gcdL D.natAbs pre : Nat) : Int) := by unfold Sm; omega
    simp only [ratio_AreParts.l0, e3, if_true, nonneg_len, e2, e1.out, w0.out, w1.out]
    by_cases h0 : x < -5000 * D
    · have : (x :: t).all (inE D) = false := by rw [List.all_cons]; simp [inE]; omega
      rw [this]; simp only [h0, if_true, Bool.false_and]; exact Ev.pure _
    · by_cases h1 : x > 5000 * D
      · have : (x :: t).all (inE D) = false := by rw [List.all_cons]; simp [inE]; omega
        rw [this]; simp only [h0, h1, if_true, if_false, Bool.false_and]; exact Ev.pure _
      · simp only [h0, h1, if_false]
        refine Ev.bind (divisor_ev _ _ _ (Nat.le_refl _) hg ⟨by omega, by omega⟩) ?_
        rw [gcd_snoc]
        have := areE_l0 l D hD hD' hl t (pre ++ [x]) (by rw [e]; simp)
        have e6 : inE D x = true := inE_iff.mpr ⟨by omega, by omega⟩
        rw [List.all_cons, e6, Bool.true_and]
        exact this
theorem areE_ev (l : List Int) (D n : Int) (hn : n ≤ 20) : Ev (fun k => ratio_AreParts.f k l D n (-5000) 5000) (partsE l D n) := by
  have no : partsE l D n = false → Ev (fun k => ratio_AreParts.j0 k (-5000) 5000 true l D) (partsE l D n) := fun h => by
    refine Ev.succ ?_
    rw [h]
    simp only [ratio_AreParts.j0, if_true]
    exact Ev.pure _
  unfold ratio_AreParts.f
  by_cases h0 : D < 1
  · simp only [h0, if_true]; exact no (by simp [partsE]; intros; omega)
  by_cases h1 : D > 10000000
  · simp only [h0, h1, if_true, if_false]; exact no (by simp [partsE]; intros; omega)
  simp only [h0, h1, if_false]
  by_cases h2 : (l.length : Int) = n
  · have : ((l.length : Int) != n) = false := by rw [bne_eq_false_iff_eq]; exact h2
    rw [this]
    refine Ev.succ ?_
    simp only [ratio_AreParts.j0, Bool.false_eq_true, if_false]
    have := areE_l0 l D (by omega) (by omega) (by omega) l [] rfl
    have e : partsE l D n = (l.all (inE D) && (gcdL D.natAbs l == 1)) := by
      simp [partsE, h2, show 1 ≤ D by omega, show D ≤ 10000000 by omega]
    rw [e]
    have e5 : ((gcdL D.natAbs [] : Nat) : Int) = D := by show (D.natAbs : Int) = D; omega
    rw [e5] at this
    exact this
  · have : ((l.length : Int) != n) = true := by rw [bne_iff_ne]; exact h2
    rw [this]
    exact no (by simp [partsE, h2])
theorem partsE_of {l : List Int} {D n : Int} (h : partsE l D n = true) : 1 ≤ D ∧ D ≤ 10000000 ∧ (l.length : Int) = n ∧ ∀ x ∈ l, -5000 * D ≤ x ∧ x ≤ 5000 * D := by
  simp only [partsE, Bool.and_eq_true, decide_eq_true_eq, List.all_eq_true] at h
  exact ⟨h.1.1.1.1, h.1.1.1.2, h.1.1.2, fun x hx => inE_iff.mp (h.1.2 x hx)⟩
theorem partsE_big {l : List Int} {D n : Int} (h : partsE l D n = true) : ∀ x ∈ l, Big x := fun x hx => by
  obtain ⟨h1, h2, _, h3⟩ := partsE_of h
  have := h3 x hx
  exact ⟨by omega, by omega⟩
theorem mul_bb {a b A B : Int} (ha : 0 ≤ a) (ha' : a ≤ A) (hb : 0 ≤ b) (hb' : b ≤ B) : 0 ≤ a * b ∧ a * b ≤ A * B :=
  ⟨Int.mul_nonneg ha hb, Int.mul_le_mul ha' hb' hb (Int.le_trans ha ha')⟩
def isRents (W : List (List Int)) (l : List Int) (D : Int) : Bool := match rentR W with
  | some s => partsE l D (W.length : Int) && (isum l == s * D)
  | none => false
theorem rent_mul {W : List (List Int)} {s : Int} (hs : rentR W = some s) {D : Int} (h1 : 1 ≤ D) (h2 : D ≤ 10000000) : Aside0 (wrap64 (s * D) = s * D) := by
  have hW := rent_wish hs
  have hb := hW.rent_b
  have h5 := hW.five
  have := mul_bb hb.1 (show s ≤ 5000 by omega) (show 0 ≤ D by omega) h2
  exact ⟨w64 (by omega) (by omega)⟩
def inN (n : Nat) (x : Int) : Bool := decide (0 ≤ x) && decide (x < (n : Int))
theorem inN_iff {n : Nat} {x : Int} : inN n x = true ↔ 0 ≤ x ∧ x < (n : Int) := by simp [inN]
def isAsg (n : Nat) (σ : List Int) : Bool := decide (σ.length = n) && (σ.all (inN n) && decide σ.Nodup)
theorem nodup_cut {p t : List Int} {y : Int} (h : y ∈ p) : ¬ (p ++ y :: t).Nodup := by
  intro hn
  have := (List.nodup_append.mp hn).2.2 y h y (by simp)
  exact this rfl
theorem nodup_snoc {p : List Int} {y : Int} (hp : p.Nodup) (h : y ∉ p) : (p ++ [y]).Nodup := by
  rw [List.nodup_append]
  exact ⟨hp, by simp, fun a ha b hb => by simp at hb; subst hb; exact fun e => h (e ▸ ha)⟩
theorem isAsg_ev (n : Nat) (hn : n ≤ 20) (σ : List Int) (hl : σ.length ≤ 1000) : Ev (fun k => trishawref08_IsAssignment.f k (n : Int) σ) (isAsg n σ) := by
  unfold trishawref08_IsAssignment.f
  have c1 : (0 : Int) ≤ (n : Int) := by omega
  have c2 : n ≤ 281474976710656 := by omega
  simp only [if_pos c1, Int.toNat_natCast, if_pos c2]
  have go : ∀ (t p : List Int) (met : List Bool), σ = p ++ t → met.length = n → (∀ y : Nat, y < n → (rdOf false met (y : Int) = true ↔ (y : Int) ∈ p)) → p.all (inN n) = true → p.Nodup →
      Ev (fun k => trishawref08_IsAssignment.l0 k (n : Int) σ met (p.length : Int)) (isAsg n σ) := by
    intro t
    induction t with
    | nil =>
      intro p met e hm hr ha hnd
      refine Ev.succ ?_
      have k1 : ¬ (p.length : Int) < (σ.length : Int) := by rw [e]; simp
      simp only [trishawref08_IsAssignment.l0, if_neg k1]
      have : isAsg n σ = ((σ.length : Int) == (n : Int)) := by
        rw [List.append_nil] at e
        simp only [isAsg, e, ha, hnd, decide_true, Bool.and_true]
        rw [Bool.eq_iff_iff, decide_eq_true_eq, beq_iff_eq]; omega
      rw [this]; exact Ev.pure _
    | cons y t ih =>
      intro p met e hm hr ha hnd
      refine Ev.succ ?_
      have hlt : p.length < σ.length := by rw [e]; simp
      have k1 : (p.length : Int) < (σ.length : Int) := by omega
      have k2 : (0 : Int) ≤ (p.length : Int) := by omega
      have k3 : rd σ (p.length : Int) = y := by rw [e]; exact rd_mid _ _ _
      simp only [trishawref08_IsAssignment.l0, if_pos k1, if_pos k2, k3]
      have bad : inN n y = false → isAsg n σ = false := fun h => by
        have : σ.all (inN n) = false := by rw [e, List.all_append, List.all_cons, h]; simp
        simp [isAsg, this]
      by_cases h0 : y < 0
      · simp only [if_pos h0, bad (by simp [inN]; omega)]; exact Ev.pure _
      · by_cases h1 : y ≥ (n : Int)
        · simp only [if_neg h0, if_pos h1, bad (by simp [inN]; omega)]; exact Ev.pure _
        · have h0' : 0 ≤ y := by omega
          have h2 : y < (met.length : Int) := by omega
          simp only [if_neg h0, if_neg h1, if_pos h0', if_pos h2]
          obtain ⟨j, rfl⟩ : ∃ j : Nat, y = (j : Int) := ⟨y.toNat, by omega⟩
          have hj : j < n := by omega
          by_cases h3 : (j : Int) ∈ p
          · have : isAsg n σ = false := by
              have : ¬ σ.Nodup := by rw [e]; exact nodup_cut h3
              simp [isAsg, this]
            simp only [(hr j hj).mpr h3, if_true, this]; exact Ev.pure _
          · have h4 : ¬ rdOf false met (j : Int) = true := fun h => h3 ((hr j hj).mp h)
            have w1 : Aside0 (wrap64 ((p.length : Int) + 1) = ((p ++ [(j : Int)]).length : Int)) := ⟨by rw [w64s _ (by omega)]; simp⟩
            simp only [if_neg h4, w1.out, Int.toNat_natCast]
            refine ih (p ++ [(j : Int)]) (met.set j true) (by rw [e]; simp) (by rw [List.length_set]; exact hm) (fun b hb => ?_) (by rw [List.all_append, ha]; simp [inN]; omega) (nodup_snoc hnd h3)
            have hr' := hr b hb
            simp only [rdOf, Int.toNat_natCast, List.getD_eq_getElem?_getD] at hr' ⊢
            by_cases eb : b = j
            · subst eb; simp [hm, hb]
            · rw [List.getElem?_set_ne (by omega), hr', List.mem_append, List.mem_singleton]
              exact ⟨.inl, fun h => h.elim id (fun h => absurd (by omega) eb)⟩
  exact go σ [] _ rfl (by simp) (fun y hy => by simp [rdOf, hy]) rfl (by simp)
def envAt (W : List (List Int)) (σ l : List Int) (D : Int) (i y : Nat) : List S56 :=
  if (wN W i y - rd (rd_L1 W (i : Int)) (rd σ (i : Int))) * D > rd l (y : Int) - rd l (rd σ (i : Int)) then [⟨(i : Int), (y : Int)⟩] else []
def envN (W : List (List Int)) (σ l : List Int) (D : Int) (n : Nat) : List S56 := (List.range n).flatMap fun i => (List.range n).flatMap (envAt W σ l D i)
def envR (W : List (List Int)) (σ l : List Int) (D : Int) : List S56 × Int := if (isRents W l D && isAsg W.length σ) = true then (envN W σ l D W.length, 0) else ([], 2)
theorem env_len (W : List (List Int)) (σ l : List Int) (D : Int) (i : Nat) : ∀ (L : List Nat), (L.flatMap (envAt W σ l D i)).length ≤ L.length
  | [] => by simp
  | y :: L => by
    have := env_len W σ l D i L
    rw [List.flatMap_cons, List.length_append, List.length_cons]
    have : (envAt W σ l D i y).length ≤ 1 := by unfold envAt; split <;> simp
    omega
theorem env_len2 (W : List (List Int)) (σ l : List Int) (D : Int) (n : Nat) : ∀ (L : List Nat), (L.flatMap fun i => (List.range n).flatMap (envAt W σ l D i)).length ≤ n * L.length
  | [] => by simp
  | i :: L => by
    have h1 := env_len2 W σ l D n L
    have h2 := env_len W σ l D i (List.range n)
    rw [List.length_range] at h2
    rw [List.flatMap_cons, List.length_append, List.length_cons, Nat.mul_add, Nat.mul_one]
    omega
section
variable {W : List (List Int)} {n : Nat} {rent : Int} (hW : Wish W n rent) {σ l : List Int} {D : Int} (ha : isAsg n σ = true) (hp : partsE l D (n : Int) = true)
theorem isAsg_of {n : Nat} {σ : List Int} (ha : isAsg n σ = true) : σ.length = n ∧ (∀ i : Nat, i < n → ∃ y : Nat, rd σ (i : Int) = (y : Int) ∧ y < n) ∧ σ.Nodup := by
  simp only [isAsg, Bool.and_eq_true, decide_eq_true_eq, List.all_eq_true] at ha
  obtain ⟨h1, h2, h3⟩ := ha
  refine ⟨h1, fun i hi => ?_, h3⟩
  have hi' : i < σ.length := by omega
  have := inN_iff.mp (h2 _ (List.getElem_mem hi'))
  exact ⟨σ[i].toNat, by rw [rd_get hi']; omega, by omega⟩
include hW ha hp
theorem envy_cmp {i y : Nat} (hi : i < n) (hy : y < n) : ∃ y' : Nat, rd σ (i : Int) = (y' : Int) ∧ y' < n ∧
    Aside0 (wrap64 (rd (rd_L1 W (i : Int)) (y : Int) - rd (rd_L1 W (i : Int)) (y' : Int)) = wN W i y - wN W i y') ∧ Aside0 (wrap64 ((wN W i y - wN W i y') * D) = (wN W i y - wN W i y') * D) ∧
    Aside0 (wrap64 (rd l (y : Int) - rd l (y' : Int)) = rd l (y : Int) - rd l (y' : Int)) ∧
    Aside0 (wrap64 (rd (rd_L1 W (i : Int)) (y' : Int) * D) = wN W i y' * D) ∧ Aside0 (wrap64 (wN W i y' * D - rd l (y' : Int)) = wN W i y' * D - rd l (y' : Int)) ∧
    Aside0 (wrap64 (rd (rd_L1 W (i : Int)) (y : Int) * D) = wN W i y * D) ∧ Aside0 (wrap64 (wN W i y * D - rd l (y : Int)) = wN W i y * D - rd l (y : Int)) := by
  obtain ⟨h1, h2, h3⟩ := isAsg_of ha
  obtain ⟨y', e, hy'⟩ := h2 i hi
  obtain ⟨p1, p2, p3, p4⟩ := partsE_of hp
  have b1 := hW.ent i y hi hy
  have b2 := hW.ent i y' hi hy'
  have hl : ∀ z : Nat, z < n → -5000 * D ≤ rd l (z : Int) ∧ rd l (z : Int) ≤ 5000 * D := fun z hz => by
    have hz' : z < l.length := by omega
    rw [rd_get hz']; exact p4 _ (List.getElem_mem hz')
  have b3 := hl y hy
  have b4 := hl y' hy'
  have m1 := mul_bb b1.1 b1.2 (show 0 ≤ D by omega) p2
  have m2 := mul_bb b2.1 b2.2 (show 0 ≤ D by omega) p2
  have e1 : rd (rd_L1 W (i : Int)) (y : Int) = wN W i y := rfl
  have e2 : rd (rd_L1 W (i : Int)) (y' : Int) = wN W i y' := rfl
  refine ⟨y', e, hy', ?_⟩
  rw [e1] at b1 m1 ⊢
  rw [e2] at b2 m2 ⊢
  have m3 : (wN W i y - wN W i y') * D = wN W i y * D - wN W i y' * D := Int.sub_mul _ _ _
  exact ⟨⟨w64 (by omega) (by omega)⟩, ⟨by rw [m3]; exact w64 (by omega) (by omega)⟩, ⟨w64 (by omega) (by omega)⟩, ⟨w64 (by omega) (by omega)⟩, ⟨w64 (by omega) (by omega)⟩, ⟨w64 (by omega) (by omega)⟩, ⟨w64 (by omega) (by omega)⟩⟩
theorem penv_l2 {i : Nat} (hi : i < n) (out : List S56) (ho : out.length ≤ 1000) (R : List S56 × Int) (post : ∀ o : List S56, o = out ++ (List.range n).flatMap (envAt W σ l D i) → Ev (fun k => share_Envy.l1 k W o σ (σ.length : Int) ((i + 1 : Nat) : Int) l D) R) :
    ∀ (c y : Nat), n - y = c → y ≤ n → Ev (fun k => share_Envy.l2 k W (out ++ (List.range y).flatMap (envAt W σ l D i)) (i : Int) (rd σ (i : Int)) σ (σ.length : Int) (i : Int) (W.length : Int) (y : Int) l D) R := by
  have h5 := hW.five
  obtain ⟨p1, p2, p3, p4⟩ := partsE_of hp
  intro c
  induction c with
  | zero =>
    intro y hc hy
    refine Ev.succ ?_
    obtain rfl : y = n := by omega
    have k1 : ¬ (y : Int) < (W.length : Int) := by rw [hW.len]; omega
    have w1 : Aside0 (wrap64 ((i : Int) + 1) = ((i + 1 : Nat) : Int)) := ⟨w64s i (by omega)⟩
    simp only [share_Envy.l2, if_neg k1, w1.out]
    exact post _ rfl
  | succ c ih =>
    intro y hc hy
    refine Ev.succ ?_
    have hyn : y < n := by omega
    obtain ⟨y', e, hy', a1, a2, a3, a4, a5, a6, a7⟩ := envy_cmp hW ha hp hi hyn
    have hrl := hW.row i hi
    have hlo := env_len W σ l D i (List.range y)
    rw [List.length_range] at hlo
    have k1 : (y : Int) < (W.length : Int) := by rw [hW.len]; omega
    have k2 : (0 : Int) ≤ (i : Int) := by omega
    have k3 : (i : Int) < (W.length : Int) := by rw [hW.len]; omega
    have k4 : (0 : Int) ≤ (y : Int) := by omega
    have k5 : (y : Int) < ((rd_L1 W (i : Int)).length : Int) := by omega
    have k6 : (0 : Int) ≤ (y' : Int) := by omega
    have k7 : (y' : Int) < ((rd_L1 W (i : Int)).length : Int) := by omega
    have k8 : (y : Int) < (l.length : Int) := by omega
    have k9 : (y' : Int) < (l.length : Int) := by omega
    have k10 : (out ++ (List.range y).flatMap (envAt W σ l D i)).length < 8796093022208 := by rw [List.length_append]; omega
    have w1 : Aside0 (wrap64 ((y : Int) + 1) = ((y + 1 : Nat) : Int)) := ⟨w64s y (by omega)⟩
    have es : out ++ (List.range (y + 1)).flatMap (envAt W σ l D i) = (out ++ (List.range y).flatMap (envAt W σ l D i)) ++ envAt W σ l D i y := by
      rw [List.range_succ, List.flatMap_append]; simp
    simp only [share_Envy.l2, e, if_pos k1, if_pos k2, if_pos k3, if_pos k4, if_pos k5, if_pos k6, if_pos k7, if_pos k8, if_pos k9, a1.out, a2.out, a3.out, w1.out]
    have := ih (y + 1) (by omega) (by omega)
    rw [es, e] at this
    by_cases hg : (wN W i y - wN W i y') * D > rd l (y : Int) - rd l (y' : Int)
    · have ea : envAt W σ l D i y = [⟨(i : Int), (y : Int)⟩] := by unfold envAt; rw [e]; exact if_pos hg
      rw [ea] at this
      simp only [if_pos hg, if_pos k10]
      exact this
    · have ea : envAt W σ l D i y = [] := by unfold envAt; rw [e]; exact if_neg hg
      rw [ea, List.append_nil] at this
      simp only [if_neg hg]
      exact this
theorem penv_l1 : ∀ (c i : Nat), n - i = c → i ≤ n → Ev (fun k => share_Envy.l1 k W ((List.range i).flatMap fun i => (List.range n).flatMap (envAt W σ l D i)) σ (σ.length : Int) (i : Int) l D) (envN W σ l D n, 0) := by
  have h5 := hW.five
  obtain ⟨h1, h2, h3⟩ := isAsg_of ha
  intro c
  induction c with
  | zero =>
    intro i hc hi
    refine Ev.succ ?_
    obtain rfl : i = n := by omega
    have k1 : ¬ (i : Int) < (σ.length : Int) := by omega
    simp only [share_Envy.l1, if_neg k1]
    exact Ev.pure _
  | succ c ih =>
    intro i hc hi
    refine Ev.succ ?_
    have k1 : (i : Int) < (σ.length : Int) := by omega
    have k2 : (0 : Int) ≤ (i : Int) := by omega
    simp only [share_Envy.l1, if_pos k1, if_pos k2]
    have hlo := env_len2 W σ l D n (List.range i)
    rw [List.length_range] at hlo
    have hmul : n * i ≤ 5 * 5 := Nat.mul_le_mul h5 (by omega)
    have := penv_l2 hW ha hp (show i < n by omega) ((List.range i).flatMap fun i => (List.range n).flatMap (envAt W σ l D i)) (by omega) (envN W σ l D n, 0) (fun o ho => by
      have := ih (i + 1) (by omega) (by omega)
      rw [List.range_succ, List.flatMap_append] at this
      rw [ho]; simpa using this) n 0 (by omega) (by omega)
    simpa using this
end
theorem penv_l0 (W : List (List Int)) {s : Int} (hs : rentR W = some s) (σ l : List Int) (D : Int) (hl : σ.length = W.length) (hp : partsE l D (W.length : Int) = true) : ∀ (t p : List Int) (u : Nat), σ = p ++ t → u < 2 ^ W.length → (∀ y : Nat, y < W.length → (u.testBit y = true ↔ (y : Int) ∈ p)) → p.all (inN W.length) = true → p.Nodup →
    Ev (fun k => share_Envy.l0 k W σ (u : Int) σ (σ.length : Int) (p.length : Int) l D) (if isAsg W.length σ = true then (envN W σ l D W.length, 0) else ([], 2)) := by
  have hW := rent_wish hs
  have h5 := hW.five
  intro t
  induction t with
  | nil =>
    intro p u e hu hb ha hnd
    refine Ev.succ ?_
    have k1 : ¬ (p.length : Int) < (σ.length : Int) := by rw [e]; simp
    have hA : isAsg W.length σ = true := by
      have e' : σ = p := by rw [e, List.append_nil]
      have hl' : p.length = W.length := by rw [← e']; exact hl
      simp only [isAsg, e', ha, hnd, hl', decide_true, Bool.and_self]
    simp only [share_Envy.l0, if_neg k1, hA, if_true]
    have := penv_l1 hW hA hp W.length 0 (by omega) (by omega)
    simpa using this
  | cons y t ih =>
    intro p u e hu hb ha hnd
    have hu62 := Aside0.mk (Nat.lt_of_lt_of_le hu (Nat.pow_le_pow_right (n := 2) (by decide) (show W.length ≤ 62 by omega)))
    have HU := Aside0.mk hu
    clear hu
    refine Ev.succ ?_
    have hlt : p.length < σ.length := by rw [e]; simp
    have k1 : (p.length : Int) < (σ.length : Int) := by omega
    have k2 : (0 : Int) ≤ (p.length : Int) := by omega
    have k3 : rd σ (p.length : Int) = y := by rw [e]; exact rd_mid _ _ _
    simp only [share_Envy.l0, if_pos k1, if_pos k2, k3]
    have bad : inN W.length y = false → isAsg W.length σ = false := fun h => by
      have : σ.all (inN W.length) = false := by rw [e, List.all_append, List.all_cons, h]; simp
      simp [isAsg, this]
    by_cases h0 : y < 0
    · simp only [if_pos h0, bad (by simp [inN]; omega), Bool.false_eq_true, if_false]; exact Ev.pure _
    · by_cases h1 : y ≥ (W.length : Int)
      · simp only [if_neg h0, if_pos h1, bad (by simp [inN]; omega), Bool.false_eq_true, if_false]; exact Ev.pure _
      · have h0' : 0 ≤ y := by omega
        simp only [if_neg h0, if_neg h1, if_pos h0']
        obtain ⟨j, rfl⟩ : ∃ j : Nat, y = (j : Int) := ⟨y.toNat, by omega⟩
        have hj : j < W.length := by omega
        have e1 : Aside0 (Go.bits .and .i64 (shr .i64 (u : Int) (j : Int)) 1 = if u.testBit j then 1 else 0) := ⟨and_bit u (Nat.lt_trans hu62.out (by decide)) (by omega)⟩
        have e2 : Aside0 (Go.bits .or .i64 (u : Int) (shl .i64 1 (j : Int)) = ((u ||| 2 ^ j : Nat) : Int)) := ⟨by
          have h2 := pow_small (show j ≤ 62 by omega)
          rw [shl_pow (by omega)]
          exact or_nat _ _ (Nat.lt_trans hu62.out (by decide)) (by omega)⟩
        simp only [e1.out, e2.out]
        by_cases h3 : (j : Int) ∈ p
        · have : isAsg W.length σ = false := by
            have : ¬ σ.Nodup := by rw [e]; exact nodup_cut h3
            simp [isAsg, this]
          simp only [(hb j hj).mpr h3, if_true, this, Bool.false_eq_true, if_false]; exact Ev.pure _
        · have h4 : u.testBit j = false := by
            cases hh : u.testBit j with
            | false => rfl
            | true => exact absurd ((hb j hj).mp hh) h3
          have w1 : Aside0 (wrap64 ((p.length : Int) + 1) = ((p ++ [(j : Int)]).length : Int)) := ⟨by rw [w64s _ (by omega)]; simp⟩
          simp only [h4, Bool.false_eq_true, if_false, Int.zero_ne_one, w1.out]
          refine ih (p ++ [(j : Int)]) (u ||| 2 ^ j) (by rw [e]; simp) (Nat.or_lt_two_pow HU.out (Nat.pow_lt_pow_right (by decide) hj)) (fun b hbn => ?_) (by rw [List.all_append, ha]; simp [inN]; omega) (nodup_snoc hnd h3)
          rw [Nat.testBit_or, Nat.testBit_two_pow, Bool.or_eq_true, hb b hbn, decide_eq_true_eq, List.mem_append, List.mem_singleton]
          exact or_congr Iff.rfl (by omega)
theorem envy_ev (W : List (List Int)) (hsm : smallB W = true) (σ l : List Int) (D : Int) : Ev (fun k => share_Envy.f k W σ l D) (envR W σ l D) := by
  have no : (isRents W l D && isAsg W.length σ) = false → Ev (fun k => share_Envy.j0 k W σ true l D) (envR W σ l D) := fun h => by
    refine Ev.succ ?_
    simp only [share_Envy.j0, if_true, envR, h, Bool.false_eq_true, if_false]
    exact Ev.pure _
  unfold share_Envy.f
  refine Ev.bind (wished_ev W hsm) ?_
  cases hs : rentR W with
  | none =>
    have : isRents W l D = false := by simp [isRents, hs]
    rw [rentP_none hs]
    simp only [envR, this, Bool.false_and, Bool.false_eq_true, if_false, show ¬ (2 : Int) = 0 by decide]
    exact Ev.pure _
  | some s =>
    rw [rentP_some hs]
    have h5 := (rent_wish hs).five
    simp only [if_true]
    by_cases hl : (σ.length : Int) = (W.length : Int)
    · simp only [if_pos hl]
      refine Ev.bind (areE_ev l D _ (by omega)) ?_
      cases hp : partsE l D (W.length : Int)
      · have : isRents W l D = false := by simp [isRents, hs, hp]
        simp only [Bool.false_eq_true, if_false]
        exact no (by rw [this, Bool.false_and])
      · obtain ⟨h1, h2, h3, h4⟩ := partsE_of hp
        simp only [if_true]
        refine Ev.bind (sum_ev l (by omega) (partsE_big hp)) ?_
        simp only [(rent_mul hs h1 h2).out]
        by_cases he : isum l = s * D
        · have hne : (isum l != s * D) = false := bne_eq_false_iff_eq.mpr he
          have hR : isRents W l D = true := by simp [isRents, hs, hp, he]
          simp only [hne]
          refine Ev.succ ?_
          simp only [share_Envy.j0, Bool.false_eq_true, if_false, envR, hR, Bool.true_and]
          exact penv_l0 W hs σ l D (by omega) hp σ [] 0 rfl (Nat.two_pow_pos _) (fun y hy => by simp) rfl (by simp)
        · have hne : (isum l != s * D) = true := bne_iff_ne.mpr he
          have hR : isRents W l D = false := by simp [isRents, hs, hp, he]
          simp only [hne]
          exact no (by rw [hR, Bool.false_and])
    · simp only [if_neg hl]
      exact no (by
        have : isAsg W.length σ = false := by simp [isAsg]; intro h; omega
        rw [this, Bool.and_false])
end Go.Proofs.Ytiafiebalibkdaa.OAll
