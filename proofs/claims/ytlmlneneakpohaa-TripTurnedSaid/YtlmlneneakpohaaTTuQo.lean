/- A part of the proof of 'tripTurned_holds', for every input, without a condition. -/
import Derived.Test.YtlmlneneakpohaaTTuQn
namespace Go.Proofs.Ytlmlneneakpohaa.OAll
open Go.RowKit Go.Proofs.YtlmlneneakpohaaW.PrintWords Go.Proofs.YtlmlneneakpohaaW.PrintLast Go.Proofs.YtlmlneneakpohaaW.PrintMore
set_option linter.unusedVariables false
set_option linter.unusedSimpArgs false
theorem sumE_L (g : Nat → Int) : ∀ n : Nat, sumE g n = sumL g (List.range n)
  | 0 => rfl
  | n + 1 => by rw [List.range_succ, sumL_app]; simp only [sumE, sumL, sumE_L g n]; omega
theorem PermF.range {p : Nat → Nat} {n : Nat} (h : PermF p n) : ((List.range n).map p).Perm (List.range n) := by
  refine perm_nodup (by simp) ?_ (fun x hx => ?_)
  · rw [List.nodup_iff_pairwise_ne, List.pairwise_map]
    refine List.Pairwise.imp_of_mem (fun {a b} ha hb hab e => ?_) List.pairwise_lt_range
    have := h.inj a b (List.mem_range.mp ha) (List.mem_range.mp hb) e
    omega
  · obtain ⟨a, ha, rfl⟩ := List.mem_map.mp hx
    exact h.maps a (List.mem_range.mp ha)
theorem PermF.sum {p : Nat → Nat} {n : Nat} (h : PermF p n) (g : Nat → Int) : sumE (fun k => g (p k)) n = sumE g n := by
  rw [sumE_L, sumE_L, ← sumL_perm g h.range, sumL_map]
theorem sumE_nonneg {f : Nat → Int} : ∀ n : Nat, (∀ j, j < n → 0 ≤ f j) → 0 ≤ sumE f n
  | 0, _ => Int.le_refl 0
  | n + 1, h => by
    have := sumE_nonneg n (fun j hj => h j (by omega))
    have := h n (by omega)
    simp only [sumE]; omega
theorem sumE_le {f g : Nat → Int} : ∀ n : Nat, (∀ j, j < n → f j ≤ g j) → sumE f n ≤ sumE g n
  | 0, _ => Int.le_refl 0
  | n + 1, h => by
    have := sumE_le n (fun j hj => h j (by omega))
    have := h n (by omega)
    simp only [sumE]; omega
theorem sumE_zeros {f : Nat → Int} : ∀ n : Nat, (∀ j, j < n → f j = 0) → sumE f n = 0
  | 0, _ => rfl
  | n + 1, h => by simp only [sumE]; rw [sumE_zeros n (fun j hj => h j (by omega)), h n (by omega)]; rfl
theorem sumE_one {f : Nat → Int} {n i : Nat} (h : ∀ j, j < n → 0 ≤ f j) (hi : i < n) : f i ≤ sumE f n := by
  induction n with
  | zero => omega
  | succ n ih =>
    simp only [sumE]
    by_cases e : i = n
    · subst e
      have := sumE_nonneg i (fun j hj => h j (by omega))
      omega
    · have := ih (fun j hj => h j (by omega)) (by omega)
      have := h n (by omega)
      omega
theorem sumE_sub (f g : Nat → Int) : ∀ n : Nat, sumE (fun j => f j - g j) n = sumE f n - sumE g n
  | 0 => rfl
  | n + 1 => by simp only [sumE, sumE_sub f g n]; omega
theorem sumE_swap (f : Nat → Nat → Int) (m : Nat) : ∀ n : Nat, sumE (fun i => sumE (fun j => f i j) m) n = sumE (fun j => sumE (fun i => f i j) n) m
  | 0 => by simp only [sumE]; exact (sumE_zero m).symm
  | n + 1 => by
    simp only [sumE, sumE_swap f m n]
    rw [← sumE_add]
theorem cross_bit (h a b : Int) : 0 ≤ cross h a b ∧ cross h a b ≤ 1 := by unfold cross; split <;> omega
structure Hts (T F : Nat → Int) (n : Nat) : Prop where
  mT : ∀ i j, i ≤ j → j < n → T i ≤ T j
  mF : ∀ i j, i ≤ j → j < n → F i ≤ F j
  bT : ∀ i, i < n → 0 ≤ T i ∧ T i ≤ 1000
  bF : ∀ i, i < n → 0 ≤ F i ∧ F i ≤ 1000
section
variable {T F : Nat → Int} {n : Nat} {U D : Int} {p : Nat → Nat}
def costP (T F : Nat → Int) (n : Nat) (U D : Int) (p : Nat → Nat) : Int := sumE (fun k => climbI U D (T k) (F (p k))) n
def upP (T F : Nat → Int) (n : Nat) (p : Nat → Nat) (h : Int) : Int := sumE (fun k => cross h (T k) (F (p k))) n
def dnP (T F : Nat → Int) (n : Nat) (p : Nat → Nat) (h : Int) : Int := sumE (fun k => cross h (F (p k)) (T k)) n
theorem costP_levels (hH : Hts T F n) (hp : PermF p n) : costP T F n U D p = sumE (fun j => U * upP T F n p ((j : Int) + 1) + D * dnP T F n p ((j : Int) + 1)) 1000 := by
  unfold costP upP dnP
  rw [sumE_cg n (fun k hk => climb_levels U D (T k) (F (p k)) (hH.bT k hk) (hH.bF _ (hp.maps k hk))), sumE_swap]
  refine sumE_cg _ (fun j _ => ?_)
  rw [sumE_add, sumE_mul, sumE_mul]
theorem PermF.id (n : Nat) : PermF (fun k => k) n := ⟨fun _ h => h, fun _ _ _ _ e => e⟩
theorem up_dn_const (hp : PermF p n) (h : Int) : upP T F n p h - dnP T F n p h = upP T F n (fun k => k) h - dnP T F n (fun k => k) h := by
  have hc : ∀ a b : Int, cross h a b - cross h b a = geN h b - geN h a := fun a b => by
    unfold cross geN; split <;> split <;> split <;> split <;> omega
  unfold upP dnP
  rw [← sumE_sub, ← sumE_sub, sumE_cg n (fun k _ => hc (T k) (F (p k))), sumE_cg n (fun k _ => hc (T k) (F k)), sumE_sub, sumE_sub, hp.sum (fun k => geN h (F k))]
theorem up_or_dn (hH : Hts T F n) (h : Int) : upP T F n (fun k => k) h = 0 ∨ dnP T F n (fun k => k) h = 0 := by
  by_cases c : ∃ k, k < n ∧ T k < h ∧ h ≤ F k
  · obtain ⟨k, hk, h1, h2⟩ := c
    refine .inr (sumE_zeros n (fun j hj => ?_))
    unfold cross
    rw [if_neg]
    rintro ⟨h3, h4⟩
    have h3 : F j < h := h3
    by_cases e : j ≤ k
    · have := hH.mT j k e hk; omega
    · have := hH.mF k j (by omega) hj; omega
  · refine .inl (sumE_zeros n (fun j hj => ?_))
    unfold cross
    rw [if_neg (fun hh => c ⟨j, hj, hh⟩)]
def exP (T F : Nat → Int) (n : Nat) (p : Nat → Nat) (h : Int) : Int := upP T F n p h - upP T F n (fun k => k) h
theorem up_nonneg (p : Nat → Nat) (h : Int) : 0 ≤ upP T F n p h ∧ 0 ≤ dnP T F n p h :=
  ⟨sumE_nonneg n (fun j _ => (cross_bit h _ _).1), sumE_nonneg n (fun j _ => (cross_bit h _ _).1)⟩
theorem exP_nonneg (hH : Hts T F n) (hp : PermF p n) (h : Int) : 0 ≤ exP T F n p h := by
  have h1 := up_dn_const (T := T) (F := F) hp h
  have h2 := up_nonneg (T := T) (F := F) (n := n) p h
  unfold exP
  rcases up_or_dn hH h with h3 | h3 <;> omega
theorem costP_ex (hH : Hts T F n) (hp : PermF p n) : costP T F n U D p = costP T F n U D (fun k => k) + (U + D) * sumE (fun j => exP T F n p ((j : Int) + 1)) 1000 := by
  rw [costP_levels hH hp, costP_levels hH (PermF.id n), ← sumE_mul, ← sumE_add]
  refine sumE_cg _ (fun j _ => ?_)
  have h1 := up_dn_const (T := T) (F := F) hp ((j : Int) + 1)
  unfold exP
  have h2 : dnP T F n p ((j : Int) + 1) = dnP T F n (fun k => k) ((j : Int) + 1) + (upP T F n p ((j : Int) + 1) - upP T F n (fun k => k) ((j : Int) + 1)) := by omega
  rw [h2]; grind
def Over (n : Nat) (p : Nat → Nat) (j : Nat) : Prop := ∃ k, k ≤ j ∧ k < n ∧ j < p k
def gapH (T F : Nat → Int) (j : Nat) (h : Int) : Int := cross h (mx (T j) (F j)) (mn (T (j + 1)) (F (j + 1)))
theorem gapH_ex (hH : Hts T F n) (hp : PermF p n) {j : Nat} (hj : j + 1 < n) (h : Int) (ho : Over n p j) : gapH T F j h ≤ exP T F n p h := by
  have hn := exP_nonneg hH hp h
  unfold gapH
  by_cases c : mx (T j) (F j) < h ∧ h ≤ mn (T (j + 1)) (F (j + 1))
  · have c1 : T j < h ∧ F j < h ∧ h ≤ T (j + 1) ∧ h ≤ F (j + 1) := by
      have := c; unfold mx mn at this; revert this
      split <;> split <;> omega
    have e1 : cross h (mx (T j) (F j)) (mn (T (j + 1)) (F (j + 1))) = 1 := by unfold cross; rw [if_pos c]
    rw [e1]
    have z : upP T F n (fun k => k) h = 0 := by
      refine sumE_zeros n (fun k hk => ?_)
      unfold cross
      rw [if_neg]
      rintro ⟨h1, h2⟩
      have h2 : h ≤ F k := h2
      by_cases e : k ≤ j
      · have := hH.mF k j e (by omega); omega
      · have := hH.mT (j + 1) k (by omega) hk; omega
    obtain ⟨k, k1, k2, k3⟩ := ho
    have := sumE_one (f := fun k => cross h (T k) (F (p k))) (n := n) (fun i _ => (cross_bit h _ _).1) k2
    have e2 : cross h (T k) (F (p k)) = 1 := by
      have h1 := hH.mT k j k1 (by omega)
      have h2 := hH.mF (j + 1) (p k) k3 (hp.maps k k2)
      unfold cross
      rw [if_pos (by omega)]
    have e3 : (1 : Int) ≤ upP T F n p h := by
      unfold upP
      rw [← e2]; exact this
    unfold exP; omega
  · have e1 : cross h (mx (T j) (F j)) (mn (T (j + 1)) (F (j + 1))) = 0 := by unfold cross; rw [if_neg c]
    rw [e1]; exact hn
theorem gapH_once (hH : Hts T F n) {i j : Nat} (hij : i < j) (hj : j + 1 < n) (h : Int) : gapH T F i h = 0 ∨ gapH T F j h = 0 := by
  by_cases c : mx (T i) (F i) < h ∧ h ≤ mn (T (i + 1)) (F (i + 1))
  · refine .inr ?_
    unfold gapH cross
    rw [if_neg]
    rintro ⟨h1, h2⟩
    have h3 := hH.mT (i + 1) j (by omega) (by omega)
    have : h ≤ T (i + 1) := by have := c.2; unfold mn at this; revert this; split <;> omega
    have : T j < h := by unfold mx at h1; revert h1; split <;> omega
    omega
  · refine .inl ?_
    unfold gapH cross
    rw [if_neg c]
theorem gaps_ex (hH : Hts T F n) (hp : PermF p n) (s : Nat) (hs : ∀ j, j + 1 < n → s.testBit j = true → Over n p j) (h : Int) : ∀ m : Nat, m + 1 ≤ n → sumE (fun j => if s.testBit j = true then gapH T F j h else 0) m ≤ exP T F n p h
  | 0, _ => exP_nonneg hH hp h
  | m + 1, hm => by
    have ih := gaps_ex hH hp s hs h m (by omega)
    simp only [sumE]
    by_cases c : s.testBit m = true
    · rw [if_pos c]
      by_cases z : gapH T F m h = 0
      · rw [z]; omega
      · have : sumE (fun j => if s.testBit j = true then gapH T F j h else 0) m = 0 := by
          refine sumE_zeros m (fun j hj => ?_)
          split
          · rcases gapH_once hH hj (show m + 1 < n by omega) h with h1 | h1
            · exact h1
            · exact absurd h1 z
          · rfl
        rw [this, Int.zero_add]
        exact gapH_ex hH hp (by omega) h (hs m (by omega) c)
    · rw [if_neg c]; omega
theorem gapH_sum (hH : Hts T F n) {j : Nat} (hj : j + 1 < n) : sumE (fun i => gapH T F j ((i : Int) + 1)) 1000 = mx 0 (mn (T (j + 1)) (F (j + 1)) - mx (T j) (F j)) := by
  have h1 := hH.bT j (by omega)
  have h2 := hH.bF j (by omega)
  have h3 := hH.bT (j + 1) hj
  have h4 := hH.bF (j + 1) hj
  have a0 : 0 ≤ mx (T j) (F j) := by unfold mx; split <;> omega
  have b0 : mn (T (j + 1)) (F (j + 1)) ≤ 1000 := by unfold mn; split <;> omega
  unfold gapH
  rw [cross_count _ _ a0]
  generalize mx (T j) (F j) = a at a0
  generalize mn (T (j + 1)) (F (j + 1)) = b at b0
  unfold mx
  split <;> (try split) <;> (try split) <;> omega
theorem costP_ge (hH : Hts T F n) (hp : PermF p n) (hU : 0 ≤ U) (hD : 0 ≤ D) (hn : 1 ≤ n) (s : Nat) (hs : ∀ j, j + 1 < n → s.testBit j = true → Over n p j) :
    costP T F n U D (fun k => k) + sumE (fun j => if s.testBit j = true then (U + D) * mx 0 (mn (T (j + 1)) (F (j + 1)) - mx (T j) (F j)) else 0) (n - 1) ≤ costP T F n U D p := by
  rw [costP_ex hH hp]
  have h1 : sumE (fun j => if s.testBit j = true then (U + D) * mx 0 (mn (T (j + 1)) (F (j + 1)) - mx (T j) (F j)) else 0) (n - 1) = (U + D) * sumE (fun i => sumE (fun j => if s.testBit j = true then gapH T F j ((i : Int) + 1) else 0) (n - 1)) 1000 := by
    rw [sumE_swap, ← sumE_mul]
    refine sumE_cg _ (fun j hj => ?_)
    split
    · rw [gapH_sum hH (by omega)]
    · rw [sumE_zero, Int.mul_zero]
  rw [h1]
  have h2 : sumE (fun i => sumE (fun j => if s.testBit j = true then gapH T F j ((i : Int) + 1) else 0) (n - 1)) 1000 ≤ sumE (fun j => exP T F n p ((j : Int) + 1)) 1000 := sumE_le _ (fun i _ => gaps_ex hH hp s hs _ (n - 1) (by omega))
  have h3 := Int.mul_le_mul_of_nonneg_left h2 (show 0 ≤ U + D by omega)
  omega
end
end Go.Proofs.Ytlmlneneakpohaa.OAll
