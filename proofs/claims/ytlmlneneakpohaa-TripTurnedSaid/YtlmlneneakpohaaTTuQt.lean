/- A part of the proof of 'tripTurned_holds', for every input, without a condition. -/
import Derived.Test.YtlmlneneakpohaaTTuQs
namespace Go.Proofs.Ytlmlneneakpohaa.OAll
open Go.RowKit Go.Proofs.YtlmlneneakpohaaW.PrintWords Go.Proofs.YtlmlneneakpohaaW.PrintLast Go.Proofs.YtlmlneneakpohaaW.PrintMore
set_option linter.unusedVariables false
set_option linter.unusedSimpArgs false
theorem pfold_in {l : List S36} {U D : Int} : ∀ (d s : Nat) (st : Option (List Int × Int)) (b : List Int × Int), pfold l U D st s d = some b → st = some b ∨ ∃ x, s ≤ x ∧ x < s + d ∧ joinB l x = true ∧ b = cand l U D x
  | 0, s, st, b, h => .inl h
  | d + 1, s, st, b, h => by
    rw [pfold_succ] at h
    rcases pfold_in d (s + 1) _ b h with h1 | ⟨x, h1, h2, h3, h4⟩
    · unfold pstep at h1
      split at h1
      · rename_i hj
        split at h1
        · exact .inr ⟨s, by omega, by omega, hj, (Option.some.inj h1).symm⟩
        · split at h1
          · exact .inr ⟨s, by omega, by omega, hj, (Option.some.inj h1).symm⟩
          · exact .inl h1
      · exact .inl h1
    · exact .inr ⟨x, by omega, by omega, h3, h4⟩
theorem relab_self (x : Int) (o : List Int) : relab x x o = o := by
  unfold relab
  conv => rhs; rw [← List.map_id o]
  refine List.map_congr_left fun v _ => ?_
  split
  · rename_i e; exact e.symm
  · rfl
theorem refR_drop {l : List S36} {s s' k : Nat} (hb : ∀ j, j + 1 < l.length → (s'.testBit j = true ↔ s.testBit j = true ∧ j ≠ k)) (he : rd (refR l s k) (tN l k : Int) = rd (refR l s k) (tN l (k + 1) : Int)) : ∀ m, m + 1 ≤ l.length → refR l s' m = refR l s m
  | 0, _ => rfl
  | m + 1, hm => by
    have ih := refR_drop hb he m (by omega)
    have hbm := hb m (by omega)
    rw [refR, refR, ih]
    by_cases c : s'.testBit m = true
    · rw [if_pos c, if_pos (hbm.mp c).1]
    · rw [if_neg c]
      by_cases c2 : s.testBit m = true
      · have e : m = k := by
          refine Classical.byContradiction fun hne => c (hbm.mpr ⟨c2, hne⟩)
        subst e
        rw [if_pos c2, he, relab_self]
      · rw [if_neg c2]
theorem memb_drop {s s' k n : Nat} (hb : ∀ j, j < n → (s'.testBit j = true ↔ s.testBit j = true ∧ j ≠ k)) (hk : s.testBit k = true) : ∀ m, m ≤ n → (memb s' m).length + (if k < m then 1 else 0) = (memb s m).length
  | 0, _ => by simp [memb]
  | m + 1, hm => by
    have ih := memb_drop hb hk m (by omega)
    have hbm := hb m (by omega)
    rw [memb_succ, memb_succ]
    by_cases e : m = k
    · subst e
      have c : ¬ s'.testBit m = true := fun h => (hbm.mp h).2 rfl
      rw [if_neg c, if_pos hk, if_pos (by omega)]
      rw [if_neg (by omega)] at ih
      simp; omega
    · have e2 : (k < m + 1) ↔ (k < m) := by omega
      simp only [e2]
      by_cases c : s.testBit m = true
      · rw [if_pos (hbm.mpr ⟨c, e⟩), if_pos c]
        simp; omega
      · rw [if_neg (fun h => c (hbm.mp h).1), if_neg c]
        exact ih
theorem clean_ex {l : List S36} {U D : Int} (h : Right l U D) : ∃ s, s < 2 ^ (l.length - 1) ∧ joinB l s = true ∧ gsum l U D s (l.length - 1) ≤ (patchI l U D).2 ∧ ∀ k, k + 1 < l.length → s.testBit k = true → rd (refR l s k) (tN l k : Int) ≠ rd (refR l s k) (tN l (k + 1) : Int) := by
  have h9 := h.len
  obtain ⟨x, _, hx2, hx3, hx4⟩ : ∃ x, 0 ≤ x ∧ x < 0 + 2 ^ (l.length - 1) ∧ joinB l x = true ∧ patchI l U D = cand l U D x := by
    rcases pfold_in _ _ _ _ (patchI_eq h) with e | e
    · cases e
    · exact e
  obtain ⟨c0, ⟨s, h1, h2, h3, hc⟩, _, hmin⟩ := least_ex (P := fun c => ∃ s, s < 2 ^ (l.length - 1) ∧ joinB l s = true ∧ gsum l U D s (l.length - 1) ≤ (patchI l U D).2 ∧ (memb s (l.length - 1)).length = c) (memb x (l.length - 1)).length ⟨x, by omega, hx3, by rw [hx4]; exact Int.le_refl _, rfl⟩
  refine ⟨s, h1, h2, h3, fun k hk hb he => ?_⟩
  obtain ⟨s', g1, g2⟩ := bits_ex (fun j => s.testBit j = true ∧ j ≠ k) (l.length - 1)
  have hlt : (memb s' (l.length - 1)).length < c0 := by
    have := memb_drop g2 hb (l.length - 1) (Nat.le_refl _)
    rw [if_pos (by omega)] at this
    omega
  refine hmin _ hlt ⟨s', g1, ?_, ?_, rfl⟩
  · unfold joinB at h2 ⊢
    rw [refR_drop (fun j hj => g2 j (by omega)) he (l.length - 1) (by omega)]
    exact h2
  · refine Int.le_trans ?_ h3
    rw [gsum_sum, gsum_sum]
    refine sumE_le _ (fun j hj => ?_)
    have hg := gapAt_bound h (show j + 1 < l.length by omega)
    by_cases c : s'.testBit j = true
    · rw [if_pos c, if_pos ((g2 j hj).mp c).1]; exact Int.le_refl _
    · rw [if_neg c]; split <;> omega
end Go.Proofs.Ytlmlneneakpohaa.OAll
