/- A part of the proof of 'tripTurned_holds', for every input, without a condition. -/
import Derived.Test.YtlmlneneakpohaaTTuQo
namespace Go.Proofs.Ytlmlneneakpohaa.OAll
open Go.RowKit Go.Proofs.YtlmlneneakpohaaW.PrintWords Go.Proofs.YtlmlneneakpohaaW.PrintLast Go.Proofs.YtlmlneneakpohaaW.PrintMore
set_option linter.unusedVariables false
set_option linter.unusedSimpArgs false
theorem bits_ex (P : Nat → Prop) : ∀ m : Nat, ∃ s, s < 2 ^ m ∧ ∀ j, j < m → (s.testBit j = true ↔ P j)
  | 0 => ⟨0, by simp, fun j hj => by omega⟩
  | m + 1 => by
    obtain ⟨s, h1, h2⟩ := bits_ex P m
    by_cases c : P m
    · refine ⟨s ||| 2 ^ m, Nat.or_lt_two_pow (Nat.lt_of_lt_of_le h1 (Nat.pow_le_pow_right (by decide) (by omega))) (Nat.pow_lt_pow_right (by decide) (by omega)), fun j hj => ?_⟩
      rw [Nat.testBit_or, Nat.testBit_two_pow, Bool.or_eq_true, decide_eq_true_eq]
      by_cases e : j = m
      · subst e; exact ⟨fun _ => c, fun _ => .inr rfl⟩
      · rw [h2 j (by omega)]
        exact ⟨fun h => h.elim id (fun e2 => absurd e2.symm e), fun h => .inl h⟩
    · refine ⟨s, Nat.lt_of_lt_of_le h1 (Nat.pow_le_pow_right (by decide) (by omega)), fun j hj => ?_⟩
      by_cases e : j = m
      · subst e
        rw [Nat.testBit_lt_two_pow h1]
        exact ⟨fun h => (by cases h), fun h => absurd h c⟩
      · exact h2 j (by omega)
theorem gsum_sum (l : List S36) (U D : Int) (s : Nat) : ∀ k, gsum l U D s k = sumE (fun j => if s.testBit j = true then gapAt l U D j else 0) k
  | 0 => by simp [gsum, memb, sumL, sumE]
  | k + 1 => by
    rw [gsum_succ, gsum_sum l U D s k]
    simp only [sumE]
    split <;> omega
theorem pstep_le {l : List S36} {U D : Int} {st : Option (List Int × Int)} {s : Nat} {b : List Int × Int} (h : pstep l U D st s = some b) : (∀ c, st = some c → b.2 ≤ c.2) ∧ (joinB l s = true → b.2 ≤ gsum l U D s (l.length - 1)) := by
  unfold pstep at h
  split at h
  · rename_i hj
    split at h
    · obtain rfl := Option.some.inj h
      exact ⟨fun c hc => (by cases hc), fun _ => Int.le_refl _⟩
    · rename_i c0
      split at h
      · rename_i hb
        obtain rfl := Option.some.inj h
        refine ⟨fun c hc => ?_, fun _ => Int.le_refl _⟩
        obtain rfl := Option.some.inj hc
        unfold betB at hb
        split at hb
        · rename_i e; exact Int.le_of_eq e
        · exact Int.le_of_lt (of_decide_eq_true hb)
      · rename_i hb
        obtain rfl := Option.some.inj h
        refine ⟨fun c hc => by obtain rfl := Option.some.inj hc; exact Int.le_refl _, fun _ => ?_⟩
        refine Int.not_lt.mp (fun hlt => hb ?_)
        have e1 : (cand l U D s).2 = gsum l U D s (l.length - 1) := rfl
        unfold betB
        rw [e1, if_neg (by omega), decide_eq_true hlt]
  · rename_i hj
    exact ⟨fun c hc => by rw [hc] at h; obtain rfl := Option.some.inj h; exact Int.le_refl _, fun h2 => absurd h2 hj⟩
theorem pfold_le {l : List S36} {U D : Int} : ∀ (d s : Nat) (st : Option (List Int × Int)) (b : List Int × Int), pfold l U D st s d = some b → (∀ c, st = some c → b.2 ≤ c.2) ∧ ∀ x, s ≤ x → x < s + d → joinB l x = true → b.2 ≤ gsum l U D x (l.length - 1)
  | 0, s, st, b, h => ⟨fun c hc => by
      have : st = some b := h
      rw [this] at hc; obtain rfl := Option.some.inj hc; exact Int.le_refl _, fun x h1 h2 => by omega⟩
  | d + 1, s, st, b, h => by
    rw [pfold_succ] at h
    obtain ⟨h1, h2⟩ := pfold_le d (s + 1) _ b h
    refine ⟨fun c hc => ?_, fun x hx1 hx2 hj => ?_⟩
    · have hne : pstep l U D st s ≠ none := pstep_some (by rw [hc]; simp)
      obtain ⟨e, he⟩ := Option.ne_none_iff_exists'.mp hne
      have a1 := (pstep_le he).1 c hc
      have a2 := h1 e he
      omega
    · by_cases e : x = s
      · subst e
        have hne : pstep l U D st x ≠ none := by
          unfold pstep
          rw [if_pos hj]
          split
          · simp
          · split <;> simp
        obtain ⟨e, he⟩ := Option.ne_none_iff_exists'.mp hne
        have a1 := (pstep_le he).2 hj
        have a2 := h1 e he
        omega
      · exact h2 x (by omega) (by omega) hj
theorem patchI_le {l : List S36} {U D : Int} (h : Right l U D) {s : Nat} (hs : s < 2 ^ (l.length - 1)) (hj : joinB l s = true) : (patchI l U D).2 ≤ gsum l U D s (l.length - 1) :=
  (pfold_le _ _ _ _ (patchI_eq h)).2 s (by omega) (by omega) hj
theorem refR_old {l : List S36} (s : Nat) {i j : Nat} (hi : i < l.length) (hj : j < l.length) : ∀ k d, rd (refR l s k) (i : Int) = rd (refR l s k) (j : Int) → rd (refR l s (k + d)) (i : Int) = rd (refR l s (k + d)) (j : Int)
  | k, 0, h => h
  | k, d + 1, h => by
    have ih := refR_old s hi hj k d h
    rw [show k + (d + 1) = (k + d) + 1 by omega, refR]
    split
    · rw [relab_rd (by rw [refR_len]; exact hi), relab_rd (by rw [refR_len]; exact hj), ih]
    · exact ih
theorem refR_ring {l : List S36} (s : Nat) {i j : Nat} (hi : i < l.length) (hj : j < l.length) (h : loN l i = loN l j) (k : Nat) : rd (refR l s k) (i : Int) = rd (refR l s k) (j : Int) := by
  have := refR_old s hi hj 0 k (by show rd (ringI l) (i : Int) = rd (ringI l) (j : Int); rw [ringI_rd hi, ringI_rd hj, h])
  rwa [Nat.zero_add] at this
theorem refR_gap {l : List S36} (s : Nat) {j : Nat} (hj : j + 1 < l.length) (hb : s.testBit j = true) {k : Nat} (hk : j + 1 ≤ k) : rd (refR l s k) (tN l j : Int) = rd (refR l s k) (tN l (j + 1) : Int) := by
  have h0 := (tN_rd (show j < l.length by omega)).2
  have h1 := (tN_rd hj).2
  have := refR_old s h0 h1 (j + 1) (k - (j + 1)) (by
    rw [refR, if_pos hb, relab_rd (by rw [refR_len]; exact h0), relab_rd (by rw [refR_len]; exact h1), if_pos rfl]
    split <;> rfl)
  rwa [show j + 1 + (k - (j + 1)) = k by omega] at this
theorem PermF.onto {p : Nat → Nat} {n : Nat} (h : PermF p n) {v : Nat} (hv : v < n) : ∃ k, k < n ∧ p k = v := by
  have := h.range.mem_iff.mpr (List.mem_range.mpr hv)
  obtain ⟨k, hk, e⟩ := List.mem_map.mp this
  exact ⟨k, List.mem_range.mp hk, e⟩
theorem over_between {p : Nat → Nat} {n : Nat} (h : PermF p n) {k j : Nat} (hk : k < n) (hj : (k ≤ j ∧ j < p k) ∨ (p k ≤ j ∧ j < k)) : Over n p j := by
  rcases hj with ⟨h1, h2⟩ | ⟨h1, h2⟩
  · exact ⟨k, h1, hk, h2⟩
  · refine Classical.byContradiction fun hno => ?_
    have hq : PermF p (j + 1) := ⟨fun i hi => by
      refine Classical.byContradiction fun hc => hno ⟨i, by omega, by omega, by omega⟩, fun a b ha hb e => h.inj a b (by omega) (by omega) e⟩
    obtain ⟨k', k1, k2⟩ := hq.onto (show p k < j + 1 by omega)
    have := h.inj k' k (by omega) hk k2
    omega
theorem gaps_chain {l : List S36} (s : Nat) {a : Nat} : ∀ d : Nat, a + d < l.length → (∀ j, a ≤ j → j < a + d → s.testBit j = true) → rd (refR l s (l.length - 1)) (tN l a : Int) = rd (refR l s (l.length - 1)) (tN l (a + d) : Int)
  | 0, _, _ => rfl
  | d + 1, h, hb => by
    rw [gaps_chain s d (by omega) (fun j h1 h2 => hb j h1 (by omega))]
    exact refR_gap s (show a + d + 1 < l.length by omega) (hb (a + d) (by omega) (by omega)) (by omega)
end Go.Proofs.Ytlmlneneakpohaa.OAll
