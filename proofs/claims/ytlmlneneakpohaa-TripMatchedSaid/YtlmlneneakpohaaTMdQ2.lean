/- A part of the proof of 'tripMatched_holds', for every input, without a condition. -/
import Derived.Test.YtlmlneneakpohaaTMdQ1
import Derived.Test.YtlmlneneakpohaaTMdOAllx0
import Derived.Test.YtlmlneneakpohaaTMdOAllx3
import Derived.Test.YtlmlneneakpohaaTMdOAllx5
import Derived.Test.YtlmlneneakpohaaTMdOAllx8
import Derived.Test.YtlmlneneakpohaaTMdOAllx9
import Derived.Test.YtlmlneneakpohaaTMdOAllx4
import Derived.Test.YtlmlneneakpohaaTMdOAllx20
import Derived.Test.YtlmlneneakpohaaTMdOAllx24
namespace Go.Proofs.Ytlmlneneakpohaa.OAll
open Go.RowKit Go.Proofs.YtlmlneneakpohaaW.PrintWords Go.Proofs.YtlmlneneakpohaaW.PrintLast Go.Proofs.YtlmlneneakpohaaW.PrintMore
set_option linter.unusedVariables false
set_option linter.unusedSimpArgs false
def lqP (a b : List Int × Int) : Prop := a.2 < b.2 ∨ (a.2 = b.2 ∧ a.1.length ≤ b.1.length)
theorem lqP.trans {a b c : List Int × Int} (h1 : lqP a b) (h2 : lqP b c) : lqP a c := by unfold lqP at *; omega
theorem lqP.refl (a : List Int × Int) : lqP a a := .inr ⟨rfl, Nat.le_refl _⟩
theorem lq_of_bet {a b : List Int × Int} (h : betB a b = true) : lqP a b := by
  unfold betB at h
  split at h
  · rename_i e
    split at h
    · rename_i e2; exact .inr ⟨e, by omega⟩
    · have := of_decide_eq_true h; exact .inr ⟨e, by omega⟩
  · exact .inl (of_decide_eq_true h)
theorem lq_of_not {a b : List Int × Int} (h : ¬ betB a b = true) : lqP b a := by
  unfold betB at h
  split at h
  · rename_i e
    split at h
    · rename_i e2; exact .inr ⟨e.symm, by omega⟩
    · rw [decide_eq_true_eq] at h; exact .inr ⟨e.symm, by omega⟩
  · rename_i e
    rw [decide_eq_true_eq] at h
    exact .inl (by omega)
theorem pstep_lq {l : List S36} {U D : Int} {st : Option (List Int × Int)} {s : Nat} {b : List Int × Int} (h : pstep l U D st s = some b) : (∀ c, st = some c → lqP b c) ∧ (joinB l s = true → lqP b (cand l U D s)) := by
  unfold pstep at h
  split at h
  · rename_i hj
    split at h
    · obtain rfl := Option.some.inj h
      exact ⟨fun c hc => (by cases hc), fun _ => lqP.refl _⟩
    · rename_i c0
      split at h
      · rename_i hb
        obtain rfl := Option.some.inj h
        exact ⟨fun c hc => by obtain rfl := Option.some.inj hc; exact lq_of_bet hb, fun _ => lqP.refl _⟩
      · rename_i hb
        obtain rfl := Option.some.inj h
        exact ⟨fun c hc => by obtain rfl := Option.some.inj hc; exact lqP.refl _, fun _ => lq_of_not hb⟩
  · rename_i hj
    exact ⟨fun c hc => by rw [hc] at h; obtain rfl := Option.some.inj h; exact lqP.refl _, fun h2 => absurd h2 hj⟩
theorem pfold_lq {l : List S36} {U D : Int} : ∀ (d s : Nat) (st : Option (List Int × Int)) (b : List Int × Int), pfold l U D st s d = some b → (∀ c, st = some c → lqP b c) ∧ ∀ x, s ≤ x → x < s + d → joinB l x = true → lqP b (cand l U D x)
  | 0, s, st, b, h => ⟨fun c hc => by
      have : st = some b := h
      rw [this] at hc; obtain rfl := Option.some.inj hc; exact lqP.refl _, fun x h1 h2 => by omega⟩
  | d + 1, s, st, b, h => by
    rw [pfold_succ] at h
    obtain ⟨h1, h2⟩ := pfold_lq d (s + 1) _ b h
    refine ⟨fun c hc => ?_, fun x hx1 hx2 hj => ?_⟩
    · have hne : pstep l U D st s ≠ none := pstep_some (by rw [hc]; simp)
      obtain ⟨e, he⟩ := Option.ne_none_iff_exists'.mp hne
      exact (h1 e he).trans ((pstep_lq he).1 c hc)
    · by_cases e : x = s
      · subst e
        have hne : pstep l U D st x ≠ none := by
          unfold pstep
          rw [if_pos hj]
          split
          · simp
          · split <;> simp
        obtain ⟨e, he⟩ := Option.ne_none_iff_exists'.mp hne
        exact (h1 e he).trans ((pstep_lq he).2 hj)
      · exact h2 x (by omega) (by omega) hj
theorem patch_ex {l : List S36} {U D : Int} (h : Right l U D) : ∃ x, x < 2 ^ (l.length - 1) ∧ joinB l x = true ∧ patchI l U D = cand l U D x ∧ (headR l l.length).length = (memb x (l.length - 1)).length + 1 := by
  have h9 := h.len
  obtain ⟨x, _, hx2, hx3, hx4⟩ : ∃ x, 0 ≤ x ∧ x < 0 + 2 ^ (l.length - 1) ∧ joinB l x = true ∧ patchI l U D = cand l U D x := by
    rcases pfold_in _ _ _ _ (patchI_eq h) with e | e
    · cases e
    · exact e
  refine ⟨x, by omega, hx3, hx4, ?_⟩
  obtain ⟨s, g1, g2, g3, g4⟩ := clean_ex h
  have a1 := clean_len h9.1 g2 g4
  have a2 := join_len h9.1 hx3
  have a3 := (pfold_lq _ _ _ _ (patchI_eq h)).2 s (by omega) (by omega) g2
  have a4 := patchI_le h g1 g2
  rw [hx4] at a3 a4 g3
  have e1 : (cand l U D x).1.length = (memb x (l.length - 1)).length := nI_len _
  have e2 : (cand l U D s).1.length = (memb s (l.length - 1)).length := nI_len _
  have e3 : (cand l U D s).2 = gsum l U D s (l.length - 1) := rfl
  unfold lqP at a3
  omega
end Go.Proofs.Ytlmlneneakpohaa.OAll
