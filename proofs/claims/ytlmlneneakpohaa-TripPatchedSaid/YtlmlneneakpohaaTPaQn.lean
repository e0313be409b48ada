/- A part of the proof of 'tripPatched_holds', for every input, without a condition. -/
import Derived.Test.YtlmlneneakpohaaTPaQm
namespace Go.Proofs.Ytlmlneneakpohaa.OAll
open Go.RowKit Go.Proofs.YtlmlneneakpohaaW.PrintWords Go.Proofs.YtlmlneneakpohaaW.PrintLast Go.Proofs.YtlmlneneakpohaaW.PrintMore
set_option linter.unusedVariables false
set_option linter.unusedSimpArgs false
theorem joins_l2 (l : List S36) (o : List Int) (ho : o.length = l.length) (h9 : l.length ≤ 9) : ∀ d i : Nat, i + d = l.length → (∀ j, j < i → rd o (j : Int) = rd o 0) → Ev (fun k => trishawref06_Joins.l2 k l o (i : Int)) (allSame o)
  | 0, i, e, h => by
    refine Ev.succ ?_
    simp only [trishawref06_Joins.l2, if_neg (show ¬ (i : Int) < (l.length : Int) by omega)]
    rw [(allSame_iff o).mpr (fun j hj => h j (by omega))]
    exact Ev.pure _
  | d + 1, i, e, h => by
    refine Ev.succ ?_
    simp only [trishawref06_Joins.l2, if_pos (show (i : Int) < (l.length : Int) by omega), if_pos (show (0 : Int) ≤ (i : Int) by omega), if_pos (show (i : Int) < (o.length : Int) by omega), if_pos (show (0 : Int) < (o.length : Int) by omega)]
    by_cases c : rd o (i : Int) = rd o 0
    · simp only [if_pos c, w64s i (show i < 9223372036854775807 by omega)]
      refine joins_l2 l o ho h9 d (i + 1) (by omega) (fun j hj => ?_)
      by_cases e2 : j = i
      · subst e2; exact c
      · exact h j (by omega)
    · simp only [if_neg c]
      have : allSame o = false := by
        cases hh : allSame o with
        | false => rfl
        | true => exact absurd ((allSame_iff o).mp hh i (by omega)) c
      rw [this]; exact Ev.pure _
theorem joins_l1 (l : List S36) (x1 : Int) (x5 : List Int) (x7 a b : Int) (r : Bool) : ∀ (t p : List Int), (p ++ t).length = l.length → l.length ≤ 9 →
    Ev (fun k => trishawref06_Joins.l0 k l x1 x5 (relab b a (p ++ t)) (wrap64 (x7 + 1))) r →
    Ev (fun k => trishawref06_Joins.l1 k l x1 x5 (relab b a p ++ t) x7 a b (p.length : Int)) r
  | [], p, h, h9, hr => by
    refine Ev.succ ?_
    simp only [trishawref06_Joins.l1, if_neg (show ¬ (p.length : Int) < (l.length : Int) by rw [← h]; simp)]
    simpa using hr
  | x :: t, p, h, h9, hr => by
    refine Ev.succ ?_
    have e1 : (p.length : Int) < (l.length : Int) := by rw [← h]; exact mid_lt p t x
    have e0 : (p.length : Int) = ((relab b a p).length : Int) := by rw [relab_len]
    have e2 : (p.length : Int) < ((relab b a p ++ x :: t).length : Int) := by rw [e0]; exact mid_lt _ t x
    have e3 : rd (relab b a p ++ x :: t) (p.length : Int) = x := by rw [e0]; exact rd_mid _ t x
    have e4 := mid_next p t x (show (p ++ x :: t).length ≤ 9223372036854775807 by omega)
    have e5 : (relab b a p ++ x :: t).set p.length a = relab b a p ++ a :: t := by
      have : p.length = (relab b a p).length := (relab_len b a p).symm
      rw [this, List.set_append_right _ _ (Nat.le_refl _), Nat.sub_self]; rfl
    have ih := joins_l1 l x1 x5 x7 a b r t (p ++ [x]) (by simpa using h) h9 (by rw [← mid_assoc]; exact hr)
    have e6 : relab b a (p ++ [x]) ++ t = relab b a p ++ (if x = b then a else x) :: t := by simp [relab]
    rw [e6] at ih
    simp only [trishawref06_Joins.l1, if_pos e1, if_pos (nonneg_len p), if_pos e2, e3, e4, Int.toNat_natCast, e5]
    by_cases c : x = b
    · simp only [if_pos c]
      rw [if_pos c] at ih
      exact ih
    · simp only [if_neg c]
      rw [if_neg c] at ih
      exact ih
theorem tmod_zero (s k : Nat) (hk : k ≤ 64) : (Int.tmod (shr .i64 (s : Int) (k : Int)) 2 = 0) ↔ ¬ s.testBit k = true := by
  rw [tmod_bit s hk]
  cases s.testBit k <;> simp
theorem joins_l0 {l : List S36} (h9 : 1 ≤ l.length ∧ l.length ≤ 9) (s : Nat) : ∀ d k : Nat, k + d + 1 = l.length →
    Ev (fun f => trishawref06_Joins.l0 f l (s : Int) (sortI true l) (refR l s k) (k : Int)) (joinB l s)
  | 0, k, e => by
    refine Ev.succ ?_
    have hk : k = l.length - 1 := by omega
    simp only [trishawref06_Joins.l0, w64s k (show k < 9223372036854775807 by omega), if_neg (show ¬ ((k + 1 : Nat) : Int) < (l.length : Int) by omega)]
    unfold joinB
    rw [hk]
    exact joins_l2 l _ (refR_len l s _) h9.2 l.length 0 (by omega) (fun j hj => by omega)
  | d + 1, k, e => by
    refine Ev.succ ?_
    have hk : k + 1 < l.length := by omega
    have ih := joins_l0 h9 s d (k + 1) (by omega)
    have hz := tmod_zero s k (by omega)
    simp only [trishawref06_Joins.l0, w64s k (show k < 9223372036854775807 by omega), if_pos (show ((k + 1 : Nat) : Int) < (l.length : Int) by omega), if_pos (show (0 : Int) ≤ (k : Int) by omega)]
    by_cases c : s.testBit k = true
    · rw [refR, if_pos c] at ih
      have t0 := tN_rd (show k < l.length by omega)
      have t1 := tN_rd hk
      have hlen := refR_len l s k
      simp only [if_neg (fun e2 => hz.mp e2 c), sortI_len, if_pos (show (k : Int) < (l.length : Int) by omega), t0.1, t1.1, hlen, if_pos (show (0 : Int) ≤ (tN l k : Int) by omega), if_pos (show (tN l k : Int) < (l.length : Int) by have := t0.2; omega), if_pos (show (0 : Int) ≤ ((k + 1 : Nat) : Int) by omega), if_pos (show ((k + 1 : Nat) : Int) < (l.length : Int) by omega), if_pos (show (0 : Int) ≤ (tN l (k + 1) : Int) by omega), if_pos (show (tN l (k + 1) : Int) < (l.length : Int) by have := t1.2; omega)]
      have := joins_l1 l (s : Int) (sortI true l) (k : Int) (rd (refR l s k) (tN l k : Int)) (rd (refR l s k) (tN l (k + 1) : Int)) (joinB l s) (refR l s k) [] (by simpa using hlen) h9.2 (by rw [w64s k (by omega)]; simpa using ih)
      simpa [relab] using this
    · rw [refR, if_neg c] at ih
      simp only [if_pos (hz.mpr c)]
      exact ih
theorem joins_ev {l : List S36} {U D : Int} (h : Right l U D) (s : Nat) : Ev (fun k => trishawref06_Joins.f k l (s : Int)) (joinB l s) := by
  unfold trishawref06_Joins.f
  have h9 := h.len
  exact Ev.bind (rsort_ev h false) (Ev.bind (ringed_ev h) (joins_l0 h9 s (l.length - 1) 0 (by omega)))
theorem pstep_some {l : List S36} {U D : Int} {st : Option (List Int × Int)} {s : Nat} (h : st ≠ none) : pstep l U D st s ≠ none := by
  unfold pstep
  split
  · split
    · simp
    · split <;> simp
  · exact h
theorem pfold_some {l : List S36} {U D : Int} : ∀ (d s : Nat) (st : Option (List Int × Int)), (st ≠ none ∨ ∃ x, s ≤ x ∧ x < s + d ∧ joinB l x = true) → pfold l U D st s d ≠ none
  | 0, s, st, h => by
    rcases h with h | ⟨x, h1, h2, _⟩
    · exact h
    · omega
  | d + 1, s, st, h => by
    rw [pfold_succ]
    refine pfold_some d (s + 1) _ ?_
    rcases h with h | ⟨x, h1, h2, h3⟩
    · exact .inl (pstep_some h)
    · by_cases e : x = s
      · subst e
        left
        unfold pstep
        rw [if_pos h3]
        split
        · simp
        · split <;> simp
      · exact .inr ⟨x, by omega, by omega, h3⟩
theorem patchO_some {l : List S36} {U D : Int} (h : Right l U D) : patchO l U D ≠ none := by
  have h9 := h.len
  have hp : 0 < 2 ^ (l.length - 1) := Nat.two_pow_pos _
  refine pfold_some _ _ _ (.inr ⟨2 ^ (l.length - 1) - 1, by omega, by omega, join_full h9.1 (fun k hk => ?_)⟩)
  rw [Nat.testBit_two_pow_sub_one]
  exact decide_eq_true (by omega)
theorem pfold_ok {l : List S36} {U D : Int} (h : Right l U D) : ∀ (d s : Nat) (st : Option (List Int × Int)), StP st → StP (pfold l U D st s d)
  | 0, _, _, hs => hs
  | d + 1, s, st, hs => by rw [pfold_succ]; exact pfold_ok h d (s + 1) _ (pstep_ok h s hs)
def patchI (l : List S36) (U D : Int) : List Int × Int := (seenP (patchO l U D)).2
theorem patchI_eq {l : List S36} {U D : Int} (h : Right l U D) : patchO l U D = some (patchI l U D) := by
  unfold patchI
  cases e : patchO l U D with
  | none => exact absurd e (patchO_some h)
  | some b => rfl
theorem patchI_ok {l : List S36} {U D : Int} (h : Right l U D) : (patchI l U D).1.length ≤ 1000 ∧ 0 ≤ (patchI l U D).2 ∧ (patchI l U D).2 ≤ 20000000 :=
  pfold_ok h (2 ^ (l.length - 1)) 0 none (fun b hb => by cases hb) _ (patchI_eq h)
def patchR (l : List S36) (U D : Int) : List Int × Int × Int := if dayE l U D = 0 then ((patchI l U D).1, (patchI l U D).2, 0) else ([], 0, dayE l U D)
theorem Patches_ev (l : List S36) (U D : Int) : Ev (fun k => trip_Patches.f k l U D) (patchR l U D) := by
  unfold trip_Patches.f patchR
  simp only [read_eq, Option.bind_some]
  by_cases c : dayE l U D = 0
  · simp only [if_pos c]; exact Ev.bind (patches_ev (day_right c)) (Ev.pure _)
  · simp only [if_neg c]; exact Ev.pure _
def leastR (l : List S36) (U D : Int) : Int × Int := if dayE l U D = 0 then (worthI l U D + (patchI l U D).2, 0) else (0, dayE l U D)
theorem Least_ev (l : List S36) (U D : Int) : Ev (fun k => trip_Least.f k l U D) (leastR l U D) := by
  unfold trip_Least.f leastR
  refine Ev.bind (Matching_ev l U D) ?_
  unfold matchR
  by_cases c : dayE l U D = 0
  · have hR := day_right c
    have h1 := worthI_bound hR
    have h2 := patchI_ok hR
    have k1 : -9223372036854775808 ≤ worthI l U D + (patchI l U D).2 ∧ worthI l U D + (patchI l U D).2 ≤ 9223372036854775807 := by omega
    simp only [if_pos c, if_true]
    refine Ev.bind (patches_ev hR) ?_
    show Ev (fun k => some (wrap64 (worthI l U D + (patchI l U D).2), 0)) _
    rw [w64 k1.1 k1.2]
    exact Ev.pure _
  · simp only [if_neg c]; exact Ev.pure _
end Go.Proofs.Ytlmlneneakpohaa.OAll
