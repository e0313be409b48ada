/- A part of the proof of 'shareContent_holds', for every input, without a condition. -/
import Derived.Test.YtiafiebalibkdaaSCoQx
import Derived.Test.YtiafiebalibkdaaSCoOAllx27
namespace Go.Proofs.Ytiafiebalibkdaa.OAll
open Go.RowKit Go.Proofs.YtiafiebalibkdaaW.PrintWords Go.Proofs.YtiafiebalibkdaaW.PrintLast Go.Proofs.YtiafiebalibkdaaW.PrintMore
set_option linter.unusedVariables false
set_option linter.unusedSimpArgs false
set_option linter.unusedSectionVars false
theorem lowN_spec {N : List Int} {D : Int} (d0 : 0 < D) : ∃ g : Int, 0 < g ∧ (lowN N D).2 * g = D ∧ 1 ≤ (lowN N D).2 ∧ (lowN N D).1.length = N.length ∧
    (∀ y : Nat, y < N.length → rd (lowN N D).1 (y : Int) * g = rd N (y : Int)) ∧ gcdL (lowN N D).2.natAbs (lowN N D).1 = 1 := by
  have hg := gcdL_dvd N D.natAbs
  have hg0 : 0 < gcdL D.natAbs N := gcdL_pos (by omega) N
  obtain ⟨G, hG⟩ : ∃ G : Nat, G = gcdL D.natAbs N := ⟨_, rfl⟩
  rw [← hG] at hg hg0
  have gD : (G : Int) ∣ D := Int.ofNat_dvd_left.mpr hg.1
  have gx : ∀ x ∈ N, (G : Int) ∣ x := fun x hx => Int.ofNat_dvd_left.mpr (hg.2 x hx)
  have eN : (lowN N D).1 = N.map (Int.tdiv · (G : Int)) := by rw [hG]; rfl
  have eD : (lowN N D).2 = Int.tdiv D G := by rw [hG]; rfl
  have eDG : Int.tdiv D G * G = D := Int.tdiv_mul_cancel gD
  have n2 : 0 ≤ Int.tdiv D G := Int.tdiv_nonneg (by omega) (by omega)
  have p2 : 1 ≤ Int.tdiv D G := by
    by_cases h : Int.tdiv D G = 0
    · rw [h] at eDG; omega
    · omega
  refine ⟨G, by omega, by rw [eD]; exact eDG, by rw [eD]; exact p2, by rw [eN]; simp, fun y hy => ?_, ?_⟩
  · rw [eN, rd_get (by simpa using hy), rd_get hy]
    simp only [List.getElem_map]
    exact Int.tdiv_mul_cancel (gx _ (List.getElem_mem hy))
  · rw [eN, eD]
    obtain ⟨d, hd⟩ : ∃ d, d = gcdL (Int.tdiv D G).natAbs (N.map (Int.tdiv · (G : Int))) := ⟨_, rfl⟩
    have q := gcdL_dvd (N.map (Int.tdiv · (G : Int))) (Int.tdiv D G).natAbs
    have qp : 0 < gcdL (Int.tdiv D G).natAbs (N.map (Int.tdiv · (G : Int))) := gcdL_pos (by omega) _
    rw [← hd] at q qp ⊢
    have k1 : d * G ∣ D.natAbs := by
      have := Nat.mul_dvd_mul_right q.1 G
      rw [show (Int.tdiv D G).natAbs * G = D.natAbs by
        have := congrArg Int.natAbs eDG
        rw [Int.natAbs_mul, Int.natAbs_natCast] at this; exact this] at this
      exact this
    have k2 : ∀ x ∈ N, d * G ∣ x.natAbs := fun x hx => by
      have := Nat.mul_dvd_mul_right (q.2 _ (List.mem_map.mpr ⟨x, hx, rfl⟩)) G
      rw [show (Int.tdiv x G).natAbs * G = x.natAbs by
        have := congrArg Int.natAbs (Int.tdiv_mul_cancel (gx x hx))
        rw [Int.natAbs_mul, Int.natAbs_natCast] at this; exact this] at this
      exact this
    have k3 := gcdL_great N D.natAbs (d * G) k1 k2
    rw [← hG] at k3
    have k4 := Nat.le_of_dvd hg0 k3
    by_cases h : d ≤ 1
    · omega
    · have := Nat.mul_le_mul_right G (show 2 ≤ d by omega); omega
def at0 (τ : List Nat) (i : Nat) : Nat := τ.getD i 0
theorem at0_get {τ : List Nat} {i : Nat} (h : i < τ.length) : at0 τ i = τ[i] := by simp [at0, h]
theorem cs_at {τ : List Nat} {i : Nat} (h : i < τ.length) : rd (cs τ) (i : Int) = (at0 τ i : Int) := by rw [cs_get τ h, at0_get h]
section
variable {n : Nat} {τ : List Nat} (hτ : τ.Perm (List.range n))
include hτ
theorem perm_len : τ.length = n := by rw [hτ.length_eq]; simp
theorem at0_lt {i : Nat} (hi : i < n) : at0 τ i < n := by
  have hl := perm_len hτ
  rw [at0_get (by omega)]
  have := hτ.mem_iff.mp (List.getElem_mem (show i < τ.length by omega))
  simpa using this
theorem at0_hold {y : Nat} (hy : y < n) : at0 τ (hold τ y) = y := by
  have h1 : y ∈ τ := hτ.mem_iff.mpr (by simpa using hy)
  have h2 : τ.idxOf y < τ.length := List.idxOf_lt_length_of_mem h1
  have h3 : hold τ y = τ.idxOf y := rfl
  rw [h3, at0_get h2]
  exact List.getElem_idxOf h2
theorem hold_at0 {i : Nat} (hi : i < n) : hold τ (at0 τ i) = i := by
  have hl := perm_len hτ
  rw [at0_get (by omega)]
  exact hold_get (hτ.nodup_iff.mpr List.nodup_range) (by omega)
theorem range_at {γ : Type} (f : Nat → γ) : (List.range n).map (fun i => f (at0 τ i)) = τ.map f := by
  have hl := perm_len hτ
  refine List.ext_getElem (by simp [hl]) fun i h1 h2 => ?_
  have hi : i < τ.length := by simpa using h2
  simp only [List.getElem_map, List.getElem_range, at0_get hi]
theorem sum_at (f : Nat → Int) : isum ((List.range n).map fun i => f (at0 τ i)) = isum ((List.range n).map f) := by
  rw [range_at hτ f, isum_perm (hτ.map f)]
theorem isAsg_cs : isAsg n (cs τ) = true := by
  have hl := perm_len hτ
  simp only [isAsg, cs_len, hl, decide_true, Bool.true_and, Bool.and_eq_true, List.all_eq_true, decide_eq_true_eq]
  refine ⟨fun x hx => ?_, ?_⟩
  · simp only [cs, List.mem_map] at hx
    obtain ⟨a, ha, rfl⟩ := hx
    have : a < n := by simpa using hτ.mem_iff.mp ha
    exact inN_iff.mpr ⟨by omega, by omega⟩
  · have hn : τ.Nodup := hτ.nodup_iff.mpr List.nodup_range
    unfold cs
    rw [List.Nodup, List.pairwise_map]
    exact List.Pairwise.imp (fun h e => h (by omega)) hn
end
theorem asg_perm {n : Nat} {σ : List Int} (h : isAsg n σ = true) : ∃ τ : List Nat, σ = cs τ ∧ τ.Perm (List.range n) := by
  simp only [isAsg, Bool.and_eq_true, decide_eq_true_eq, List.all_eq_true] at h
  obtain ⟨h1, h2, h3⟩ := h
  have e : σ = cs (σ.map Int.toNat) := by
    unfold cs
    rw [List.map_map]
    conv => lhs; rw [← List.map_id σ]
    exact List.map_congr_left fun x hx => by have := inN_iff.mp (h2 x hx); simp; omega
  refine ⟨_, e, perm_nodup (by simpa using h1) ?_ (fun x hx => ?_)⟩
  · rw [List.Nodup, List.pairwise_map]
    refine List.Pairwise.imp_of_mem (fun {a b} ha hb h e => ?_) h3
    have h4 := inN_iff.mp (h2 a ha)
    have h5 := inN_iff.mp (h2 b hb)
    exact h (by omega)
  · simp only [List.mem_map] at hx
    obtain ⟨a, ha, rfl⟩ := hx
    have := inN_iff.mp (h2 a ha); omega
theorem wfrom_range (w : Nat → Nat → Int) : ∀ (τ : List Nat) (j : Nat), wfrom w j τ = isum ((List.range τ.length).map fun i => w (j + i) (at0 τ i))
  | [], j => by simp [wfrom, isum]
  | x :: τ, j => by
    rw [List.length_cons, List.range_succ_eq_map, List.map_cons, isum, wfrom, wfrom_range w τ (j + 1), List.map_map]
    have e : at0 (x :: τ) 0 = x := rfl
    rw [e, Nat.add_zero]
    congr 2
    refine List.map_congr_left fun i _ => ?_
    have : at0 (x :: τ) (i + 1) = at0 τ i := by simp [at0]
    simp only [Function.comp, this]
    rw [show j + 1 + i = j + (i + 1) by omega]
theorem wsum_at (w : Nat → Nat → Int) {n : Nat} {τ : List Nat} (hτ : τ.Perm (List.range n)) : wfrom w 0 τ = isum ((List.range n).map fun i => w i (at0 τ i)) := by
  rw [wfrom_range, perm_len hτ]
  simp
theorem isum_eq_all {f g : Nat → Int} : ∀ (L : List Nat), (∀ x ∈ L, f x ≤ g x) → isum (L.map f) = isum (L.map g) → ∀ x ∈ L, f x = g x
  | [], _, _ => by simp
  | y :: L, h, e => by
    have h1 := h y (by simp)
    have h2 := isum_le (f := f) (g := g) L (fun x hx => h x (by simp [hx]))
    simp only [List.map_cons, isum] at e
    intro x hx
    rcases List.mem_cons.mp hx with rfl | hx
    · omega
    · exact isum_eq_all L (fun x hx => h x (by simp [hx])) (by omega) x hx
def EF (W : List (List Int)) (x : List Int) (D : Int) (n : Nat) (τ : List Nat) : Prop := ∀ i y, i < n → y < n → wN W i y * D - rd x (y : Int) ≤ wN W i (at0 τ i) * D - rd x (at0 τ i : Int)
theorem flat_nil {α β : Type} (f : α → List β) (L : List α) : L.flatMap f = [] ↔ ∀ a ∈ L, f a = [] := by
  simp
theorem env_nil {W : List (List Int)} {x : List Int} {D : Int} {n : Nat} {τ : List Nat} (hτ : τ.Perm (List.range n)) : envN W (cs τ) x D n = [] ↔ EF W x D n τ := by
  have hl := perm_len hτ
  unfold envN
  rw [flat_nil]
  simp only [flat_nil, List.mem_range]
  constructor
  · intro h i y hi hy
    have := h i hi y hy
    unfold envAt at this
    rw [cs_at (by omega)] at this
    have e : rd (rd_L1 W (i : Int)) (at0 τ i : Int) = wN W i (at0 τ i) := rfl
    rw [e] at this
    have m : (wN W i y - wN W i (at0 τ i)) * D = wN W i y * D - wN W i (at0 τ i) * D := Int.sub_mul _ _ _
    split at this
    · cases this
    · omega
  · intro h i hi y hy
    have := h i y hi hy
    unfold envAt
    rw [cs_at (by omega)]
    have e : rd (rd_L1 W (i : Int)) (at0 τ i : Int) = wN W i (at0 τ i) := rfl
    rw [e]
    have m : (wN W i y - wN W i (at0 τ i)) * D = wN W i y * D - wN W i (at0 τ i) * D := Int.sub_mul _ _ _
    rw [if_neg (by omega)]
section
variable {W : List (List Int)} {x : List Int} {D : Int} {n : Nat} {τ ρ : List Nat} (hτ : τ.Perm (List.range n)) (hρ : ρ.Perm (List.range n)) (hD : 0 < D)
include hτ hρ hD
theorem ef_sum (h : EF W x D n τ) : wfrom (wN W) 0 ρ * D ≤ wfrom (wN W) 0 τ * D := by
  have h1 := isum_le (f := fun i => wN W i (at0 ρ i) * D - rd x (at0 ρ i : Int)) (g := fun i => wN W i (at0 τ i) * D - rd x (at0 τ i : Int)) (List.range n) (fun i hi => by
    have hi' : i < n := by simpa using hi
    exact h i (at0 ρ i) hi' (at0_lt hρ hi'))
  rw [isum_sub, isum_sub, sum_at hρ (fun y => rd x (y : Int)), sum_at hτ (fun y => rd x (y : Int))] at h1
  have e : ∀ {κ : List Nat}, κ.Perm (List.range n) → isum ((List.range n).map fun i => wN W i (at0 κ i) * D) = wfrom (wN W) 0 κ * D := fun {κ} hκ => by
    rw [wsum_at (wN W) hκ, Int.mul_comm, ← isum_mul]
    congr 1
    exact List.map_congr_left fun i _ => Int.mul_comm _ _
  rw [e hτ, e hρ] at h1
  omega
theorem ef_swap (h : EF W x D n τ) (hs : wfrom (wN W) 0 ρ = wfrom (wN W) 0 τ) : EF W x D n ρ := by
  have hle : ∀ i ∈ List.range n, wN W i (at0 ρ i) * D - rd x (at0 ρ i : Int) ≤ wN W i (at0 τ i) * D - rd x (at0 τ i : Int) := fun i hi => by
    have hi' : i < n := by simpa using hi
    exact h i (at0 ρ i) hi' (at0_lt hρ hi')
  have e : ∀ {κ : List Nat}, κ.Perm (List.range n) → isum ((List.range n).map fun i => wN W i (at0 κ i) * D) = wfrom (wN W) 0 κ * D := fun {κ} hκ => by
    rw [wsum_at (wN W) hκ, Int.mul_comm, ← isum_mul]
    congr 1
    exact List.map_congr_left fun i _ => Int.mul_comm _ _
  have heq := isum_eq_all (f := fun i => wN W i (at0 ρ i) * D - rd x (at0 ρ i : Int)) (g := fun i => wN W i (at0 τ i) * D - rd x (at0 τ i : Int)) (List.range n) hle (by
    rw [isum_sub, isum_sub, sum_at hρ (fun y => rd x (y : Int)), sum_at hτ (fun y => rd x (y : Int)), e hτ, e hρ, hs])
  intro i y hi hy
  have h1 := h i y hi hy
  have h2 := heq i (by simpa using hi)
  omega
end
section
variable {W : List (List Int)} {n : Nat} {rent : Int} (hW : Wish W n rent)
include hW
theorem ef_steps {x : List Int} {D : Int} : EF W x D n (bestA (wN W) n).1 ↔ ∀ y z, y < n → z < n → rd x (z : Int) - rd x (y : Int) ≤ stT W n y z * D := by
  have hm := hW.best
  constructor
  · intro h y z hy hz
    have h1 := hold_lt hm hz
    have := h (hold (bestA (wN W) n).1 z) y h1 hy
    rw [at0_hold hm hz] at this
    have m : stT W n y z * D = wN W (hold (bestA (wN W) n).1 z) z * D - wN W (hold (bestA (wN W) n).1 z) y * D := Int.sub_mul _ _ _
    omega
  · intro h i y hi hy
    have h1 := at0_lt hm hi
    have := h y (at0 (bestA (wN W) n).1 i) hy h1
    have m : stT W n y (at0 (bestA (wN W) n).1 i) * D = wN W (hold (bestA (wN W) n).1 (at0 (bestA (wN W) n).1 i)) (at0 (bestA (wN W) n).1 i) * D - wN W (hold (bestA (wN W) n).1 (at0 (bestA (wN W) n).1 i)) y * D := Int.sub_mul _ _ _
    rw [hold_at0 hm hi] at m
    omega
theorem walk_diff {x : List Int} {D : Int} (h : ∀ y z, y < n → z < n → rd x (z : Int) - rd x (y : Int) ≤ stT W n y z * D) : ∀ (B : List Nat) (y z : Nat), y < n → z < n → (∀ u ∈ B, u < n) → rd x (z : Int) - rd x (y : Int) ≤ wt (stT W n) (y :: (B ++ [z])) * D
  | [], y, z, hy, hz, _ => by
    have e : wt (stT W n) (y :: ([] ++ [z])) = stT W n y z := by show wt _ (y :: [z]) = _; rw [wt_two, wt_one]; omega
    rw [e]; exact h y z hy hz
  | u :: B, y, z, hy, hz, hB => by
    have hu := hB u (by simp)
    have h1 := h y u hy hu
    have h2 := walk_diff h B u z hu hz (fun v hv => hB v (by simp [hv]))
    rw [List.cons_append, wt_two, Int.add_mul]
    omega
theorem ef_table {x : List Int} {D : Int} (hD : 0 < D) : EF W x D n (bestA (wN W) n).1 ↔ ∀ y z, y < n → z < n → rd x (z : Int) - rd x (y : Int) ≤ wN (dearT W n) y z * D := by
  rw [ef_steps hW]
  have hd := hW.dear.2
  constructor
  · intro h y z hy hz
    obtain ⟨B, hB, e⟩ := hd.tab.walk y z hy hz
    rw [e]
    exact walk_diff hW h B y z hy hz hB
  · intro h y z hy hz
    have h1 := h y z hy hz
    have h2 := Int.mul_le_mul_of_nonneg_right (hd.tab.le y z hy hz) (show 0 ≤ D by omega)
    omega
theorem nums_rd {k y : Nat} (hy : y < n) : rd (numsW W n rent k) (y : Int) = rent - rowS W n k + (n : Int) * wN (dearT W n) k y := by
  rw [rd_get (by simp [numsW]; exact hy)]; simp [numsW]
theorem nums_sum {k : Nat} (hk : k < n) : isum (numsW W n rent k) = rent * (n : Int) := by
  have h0 : (n : Int) ≠ 0 := by have := hW.pos; omega
  unfold numsW
  rw [isum_add (fun _ => rent - rowS W n k) (fun y => (n : Int) * wN (dearT W n) k y), isum_const, isum_mul, List.length_range]
  have e : isum ((List.range n).map fun y => wN (dearT W n) k y) = rowS W n k := rfl
  rw [e, Int.mul_sub, Int.mul_comm rent]; omega
theorem rents_good {k : Nat} (hk : k < n) (hs : rentR W = some rent) (hn : W.length = n) : isRents W (lowN (numsW W n rent k) (n : Int)).1 (lowN (numsW W n rent k) (n : Int)).2 = true ∧ EF W (lowN (numsW W n rent k) (n : Int)).1 (lowN (numsW W n rent k) (n : Int)).2 n (bestA (wN W) n).1 := by
  have h0 := hW.pos
  have h5 := hW.five
  obtain ⟨g, hg, eD, hD1, hlen, hx, hgc⟩ := lowN_spec (N := numsW W n rent k) (show 0 < (n : Int) by omega)
  have hnl : (numsW W n rent k).length = n := by simp [numsW]
  have hb1 := hW.rent_b
  have hb2 := hW.rowS_b hk
  generalize (lowN (numsW W n rent k) (n : Int)).1 = l at *
  generalize (lowN (numsW W n rent k) (n : Int)).2 = D at *
  have hg1 : 1 ≤ g := by omega
  have hDn : D ≤ (n : Int) := by
    have := Int.mul_le_mul_of_nonneg_left hg1 (show 0 ≤ D by omega)
    omega
  have hsum : isum l = rent * D := by
    have e1 : isum l * g = isum (numsW W n rent k) := by
      rw [isum_rows l (by rw [hlen, hnl]), isum_rows (numsW W n rent k) hnl, Int.mul_comm, ← isum_mul]
      congr 1
      exact List.map_congr_left fun y hy => by
        have hy' : y < n := by simpa using hy
        rw [Int.mul_comm]; exact hx y (by omega)
    rw [nums_sum hW hk, ← eD, ← Int.mul_assoc] at e1
    exact Int.eq_of_mul_eq_mul_right (by omega) e1
  constructor
  · simp only [isRents, hs, Bool.and_eq_true, beq_iff_eq]
    refine ⟨?_, hsum⟩
    simp only [partsE, Bool.and_eq_true, decide_eq_true_eq, List.all_eq_true, beq_iff_eq]
    refine ⟨⟨⟨⟨hD1, by omega⟩, by omega⟩, fun z hz => ?_⟩, hgc⟩
    obtain ⟨j, hj, rfl⟩ := List.mem_iff_getElem.mp hz
    have hjn : j < n := by omega
    have h1 := hx j (by omega)
    rw [rd_get hj, nums_rd hW hjn] at h1
    have h3 := hW.db hk hjn
    have h4 : -(1000 * (n : Int)) ≤ (n : Int) * wN (dearT W n) k j ∧ (n : Int) * wN (dearT W n) k j ≤ 1000 * (n : Int) := by
      have a1 := Int.mul_le_mul_of_nonneg_left h3.1 (show (0 : Int) ≤ (n : Int) by omega)
      have a2 := Int.mul_le_mul_of_nonneg_left h3.2 (show (0 : Int) ≤ (n : Int) by omega)
      rw [Int.mul_comm (n : Int) (-1000)] at a1
      rw [Int.mul_comm (n : Int) 1000] at a2
      omega
    refine inE_iff.mpr ⟨Int.le_of_mul_le_mul_right (a := g) ?_ hg, Int.le_of_mul_le_mul_right (a := g) ?_ hg⟩
    · rw [h1, Int.mul_assoc, eD]; omega
    · rw [h1, Int.mul_assoc, eD]; omega
  · rw [ef_table hW (by omega)]
    intro y z hy hz
    refine Int.le_of_mul_le_mul_right (a := g) ?_ hg
    rw [Int.sub_mul, hx y (by omega), hx z (by omega), nums_rd hW hy, nums_rd hW hz, Int.mul_assoc, eD, Int.mul_comm (wN (dearT W n) y z)]
    have := Int.mul_le_mul_of_nonneg_left (hW.dear.2.tri hk hz hy) (show (0 : Int) ≤ (n : Int) by omega)
    rw [Int.mul_add] at this
    omega
end
theorem Assign_ev (W : List (List Int)) (hsm : smallB W = true) {s : Int} (hs : rentR W = some s) : Ev (fun k => share_Assign.f k W) (cs (bestA (wN W) W.length).1, (bestA (wN W) W.length).2, 0) := by
  unfold share_Assign.f
  refine Ev.bind (wished_ev W hsm) ?_
  rw [rentP_some hs]
  simp only [if_true]
  exact Ev.bind (assign_ev (rent_wish hs)) (Ev.pure _)
theorem rentsR_some {W : List (List Int)} {s : Int} (hs : rentR W = some s) {j : Nat} (hj : j < W.length) : rentsR W (j : Int) = ((lowN (numsW W W.length s j) (W.length : Int)).1, (lowN (numsW W W.length s j) (W.length : Int)).2, 0) := by
  have hk : kOk W (j : Int) = true := by simp [kOk, hs, hj]
  unfold rentsR; rw [if_pos hk, hs]; simp
theorem ShareContent_ev (W : List (List Int)) (a1 : Int) (w1 : (Lit.int .u8 a1).wf = true) (σ l : List Int) (D : Int) : Ev (fun k => trishawlaw08_ShareContent.f k W a1 σ l D) true := by
  have w1' := wf8 w1
  have yes : Ev (fun k => trishawlaw08_ShareContent.j0 k W a1 σ true l D) true := by
    refine Ev.succ ?_
    simp only [trishawlaw08_ShareContent.j0, if_true]
    exact alive_ev'
  unfold trishawlaw08_ShareContent.f
  refine Ev.bind (rrent_ev W) ?_
  refine Ev.bind (small_ev W) ?_
  cases hsm : smallB W
  · simp only [Bool.false_eq_true, if_false]; exact yes
  simp only [if_true]
  cases hs : rentR W with
  | none => rw [rentB_none hs]; simp only [Bool.false_eq_true, if_false]; exact yes
  | some s =>
    rw [rentB_some hs]
    simp only [if_true, few_eq, Option.bind_some]
    cases hf : fewN σ l []
    · exact yes
    · have hl : σ.length ≤ 1000 := by
        unfold fewN at hf
        split at hf
        · omega
        · cases hf
      have hW := rent_wish hs
      have h0 := hW.pos
      have h5 := hW.five
      have hm := hW.best
      refine Ev.succ ?_
      simp only [trishawlaw08_ShareContent.j0, Bool.not_true, Bool.false_eq_true, if_false]
      refine Ev.bind (Assign_ev W hsm hs) ?_
      have hne : ¬ (W.length : Int) = 0 := by omega
      obtain ⟨q, rfl⟩ : ∃ q : Nat, a1 = (q : Int) := ⟨a1.toNat, by omega⟩
      have e1 : Aside0 (Int.tmod (wrap64 (q : Int)) (W.length : Int) = ((q % W.length : Nat) : Int)) := ⟨by rw [w64n q (by omega), tmod_nat q (by omega)]⟩
      have hj : q % W.length < W.length := Nat.mod_lt _ (by omega)
      simp only [if_neg hne, e1.out]
      refine Ev.bind (rents_ev W hsm _) ?_
      rw [rentsR_some hs hj]
      obtain ⟨g1, g2⟩ := rents_good hW hj hs rfl
      refine Ev.bind (envy_ev W hsm _ _ _) ?_
      have eE : envR W (cs (bestA (wN W) W.length).1) (lowN (numsW W W.length s (q % W.length)) (W.length : Int)).1 (lowN (numsW W W.length s (q % W.length)) (W.length : Int)).2 = ([], 0) := by
        unfold envR; rw [g1, isAsg_cs hm, (env_nil hm).mpr g2]; simp
      simp only [eE, if_true]
      refine Ev.succ ?_
      simp only [trishawlaw08_ShareContent.j1, List.length_nil, Int.natCast_zero, bne_self_eq_false, Bool.false_eq_true, if_false]
      refine Ev.bind (envy_ev W hsm σ l D) ?_
      cases hg : (isRents W l D && isAsg W.length σ)
      · have : envR W σ l D = ([], 2) := by unfold envR; rw [hg]; simp
        simp only [this, show ¬ (2 : Int) = 0 by decide, if_false, if_true, List.length_nil, Int.natCast_zero]
        exact alive_ev'
      · have eG : envR W σ l D = (envN W σ l D W.length, 0) := by unfold envR; rw [hg]; simp
        rw [Bool.and_eq_true] at hg
        obtain ⟨hR, hA⟩ := hg
        simp only [eG, if_true]
        refine Ev.bind (isAsg_ev W.length (by omega) σ hl) ?_
        simp only [hA, if_true]
        obtain ⟨τ, rfl, hτ⟩ := asg_perm hA
        have hp : partsE l D (W.length : Int) = true := by
          simp only [isRents, hs, Bool.and_eq_true] at hR; exact hR.1
        have hD := (partsE_of hp).1
        have hbest := bestA_spec (wN W) W.length hW.perm0
        have hle := hbest.2.2 τ hτ
        have fin : Ev (fun k => if wfrom (wN W) 0 τ > (bestA (wN W) W.length).2 then (none : Option Bool) else ((share_Envy.f k W (cs (bestA (wN W) W.length).1) l D).bind fun bt683 => (if bt683.2 = 0 then (if ((envN W (cs τ) l D W.length).length : Int) = 0 then (if wfrom (wN W) 0 τ = (bestA (wN W) W.length).2 then (if (bt683.1.length : Int) = 0 then ((trishawlaw08_alive.f k).bind fun t687 => (some t687)) else (none)) else (none)) else (if wfrom (wN W) 0 τ < (bestA (wN W) W.length).2 then ((trishawlaw08_alive.f k).bind fun t688 => (some t688)) else (if (bt683.1.length : Int) > 0 then ((trishawlaw08_alive.f k).bind fun t689 => (some t689)) else (none)))) else (none)))) true := by
          have hng : ¬ wfrom (wN W) 0 τ > (bestA (wN W) W.length).2 := by rw [hbest.2.1]; omega
          simp only [if_neg hng]
          refine Ev.bind (envy_ev W hsm _ l D) ?_
          have eB : envR W (cs (bestA (wN W) W.length).1) l D = (envN W (cs (bestA (wN W) W.length).1) l D W.length, 0) := by
            unfold envR; rw [hR, isAsg_cs hm]; simp
          simp only [eB, if_true]
          by_cases hE : EF W l D W.length τ
          · have e1 := (env_nil hτ).mpr hE
            have h1 := ef_sum hτ hm (show 0 < D by omega) hE
            have h2 := Int.le_of_mul_le_mul_right h1 (show 0 < D by omega)
            have h3 : wfrom (wN W) 0 τ = (bestA (wN W) W.length).2 := by rw [hbest.2.1]; omega
            have h4 := ef_swap hτ hm (show 0 < D by omega) hE (by rw [h3, hbest.2.1])
            have e2 := (env_nil hm).mpr h4
            simp only [e1, e2, List.length_nil, Int.natCast_zero, if_true, if_pos h3]
            exact alive_ev'
          · have e1 : ¬ ((envN W (cs τ) l D W.length).length : Int) = 0 := by
              intro h
              exact hE ((env_nil hτ).mp (List.eq_nil_of_length_eq_zero (by omega)))
            simp only [if_neg e1]
            by_cases hlt : wfrom (wN W) 0 τ < (bestA (wN W) W.length).2
            · simp only [if_pos hlt]; exact alive_ev'
            · have h3 : wfrom (wN W) 0 τ = (bestA (wN W) W.length).2 := by rw [hbest.2.1] at hlt ⊢; omega
              have e2 : ((envN W (cs (bestA (wN W) W.length).1) l D W.length).length : Int) > 0 := by
                by_cases h : envN W (cs (bestA (wN W) W.length).1) l D W.length = []
                · exact absurd (ef_swap hm hτ (show 0 < D by omega) ((env_nil hm).mp h) (by rw [h3, hbest.2.1])) hE
                · have : (envN W (cs (bestA (wN W) W.length).1) l D W.length).length ≠ 0 := fun h' => h (List.eq_nil_of_length_eq_zero h')
                  omega
              simp only [if_neg hlt, if_pos e2]; exact alive_ev'
        have hτl := perm_len hτ
        have go : ∀ (t p : List Nat), τ = p ++ t → Ev (fun k => trishawlaw08_ShareContent.l0 k W (cs τ) (cs (bestA (wN W) W.length).1) (bestA (wN W) W.length).2 (envN W (cs τ) l D W.length) (wfrom (wN W) 0 p) (p.length : Int) l D) true := by
          intro t
          induction t with
          | nil =>
            intro p e
            refine Ev.succ ?_
            have c1 : ¬ (p.length : Int) < (W.length : Int) := by
              have : p.length = W.length := by rw [← hτl, e]; simp
              omega
            have e' : p = τ := by rw [e]; simp
            simp only [trishawlaw08_ShareContent.l0, if_neg c1]
            rw [e']; exact fin
          | cons y t ih =>
            intro p e
            refine Ev.succ ?_
            have hpl : p.length < τ.length := by rw [e]; simp
            have hy : y < W.length := by
              have : y ∈ τ := by rw [e]; simp
              simpa using hτ.mem_iff.mp this
            have c1 : (p.length : Int) < (W.length : Int) := by omega
            have c2 : (0 : Int) ≤ (p.length : Int) := by omega
            have c3 : (p.length : Int) < ((cs τ).length : Int) := by rw [cs_len]; omega
            have c4 : rd (cs τ) (p.length : Int) = (y : Int) := by rw [cs_get τ hpl]; simp [e]
            have c5 : (0 : Int) ≤ (y : Int) := by omega
            have c6 : (y : Int) < ((rd_L1 W (p.length : Int)).length : Int) := by rw [hW.row _ (by omega)]; omega
            have hsm' : wfrom (wN W) 0 (p ++ [y]) = wfrom (wN W) 0 p + rd (rd_L1 W (p.length : Int)) (y : Int) := by rw [wfrom_app, Nat.zero_add]; rfl
            have hb := hW.sums (p ++ [y]) 0 (fun x hx' => by
              have : x ∈ τ := by rw [e]; simp at hx' ⊢; rcases hx' with h | h <;> simp [h]
              simpa using hτ.mem_iff.mp this) (by simp; omega)
            have hlp : (p ++ [y]).length ≤ 6 := by simp; omega
            have w1 : Aside0 (wrap64 (wfrom (wN W) 0 p + rd (rd_L1 W (p.length : Int)) (y : Int)) = wfrom (wN W) 0 (p ++ [y])) := ⟨by rw [← hsm']; exact w64 (by omega) (by omega)⟩
            have w2 : Aside0 (wrap64 ((p.length : Int) + 1) = ((p ++ [y]).length : Int)) := ⟨by rw [w64s _ (by omega)]; simp⟩
            simp only [trishawlaw08_ShareContent.l0, if_pos c1, if_pos c2, if_pos c3, c4, if_pos c5, if_pos c6, w1.out, w2.out]
            exact ih (p ++ [y]) (by rw [e]; simp)
        exact go τ [] rfl
end Go.Proofs.Ytiafiebalibkdaa.OAll
