/- A part of the proof of 'tripGaps_holds', for every input, without a condition. -/
import Derived.Test.YtlmlneneakpohaaTGaQm
namespace Go.Proofs.Ytlmlneneakpohaa.OAll
open Go.RowKit Go.Proofs.YtlmlneneakpohaaW.PrintWords Go.Proofs.YtlmlneneakpohaaW.PrintLast Go.Proofs.YtlmlneneakpohaaW.PrintMore
set_option linter.unusedVariables false
set_option linter.unusedSimpArgs false
theorem joins_l2 (l : List S36) (o : List Int) (ho : o.length = l.length) (h9 : l.length ≤ 9) : ∀ d i : Nat, i + d = l.length → (∀ j, j < i → rd o (j : Int) = rd o 0) → Ev (fun k => trishawref06_Joins.l2 k l o (i : Int)) (allSame o)
  | 0, i, e, h => by
    refine Ev.succ ?_
    simp only [trishawref06_Joins.l2, if_neg (show ¬ (i : Int) < (l.length : Int) by omega)]
    rw [(allSame_iff o).mpr (fun j hj => h j (by omega))]
    exact Ev.pure _
  | d + 1, i, e, h => by
    refine Ev.succ ?_
    simp only [trishawref06_Joins.l2, if_pos (show (i : Int) < (l.length : Int) by omega), if_pos (show (0 : Int) ≤ (i : Int) by omega), if_pos (show (i : Int) < (o.length : Int) by omega), if_pos (show (0 : Int) < (o.length : Int) by omega)]
    by_cases c : rd o (i : Int) = rd o 0
    · simp only [if_pos c, w64s i (show i < 9223372036854775807 by omega)]
      refine joins_l2 l o ho h9 d (i + 1) (by omega) (fun j hj => ?_)
      by_cases e2 : j = i
      · subst e2; exact c
      · exact h j (by omega)
    · simp only [if_neg c]
      have : allSame o = false := by
        cases hh : allSame o with
        | false => rfl
        | true => exact absurd ((allSame_iff o).mp hh i (by omega)) c
      rw [this]; exact Ev.pure _
theorem joins_l1 (l : List S36) (x1 : Int) (x5 : List Int) (x7 a b : Int) (r : Bool) : ∀ (t p : List Int), (p ++ t).length = l.length → l.length ≤ 9 →
    Ev (fun k => trishawref06_Joins.l0 k l x1 x5 (relab b a (p ++ t)) (wrap64 (x7 + 1))) r →
    Ev (fun k => trishawref06_Joins.l1 k l x1 x5 (relab b a p ++ t) x7 a b (p.length : Int)) r
  | [], p, h, h9, hr => by
    refine Ev.succ ?_
    simp only [trishawref06_Joins.l1, if_neg (show ¬ (p.length : Int) < (l.length : Int) by rw [← h]; simp)]
    simpa using hr
  | x :: t, p, h, h9, hr => by
    refine Ev.succ ?_
    have e1 : (p.length : Int) < (l.length : Int) := by rw [← h]; exact mid_lt p t x
    have e0 : (p.length : Int) = ((relab b a p).length : Int) := by rw [relab_len]
    have e2 : (p.length : Int) < ((relab b a p ++ x :: t).length : Int) := by rw [e0]; exact mid_lt _ t x
    have e3 : rd (relab b a p ++ x :: t) (p.length : Int) = x := by rw [e0]; exact rd_mid _ t x
    have e4 := mid_next p t x (show (p ++ x :: t).length ≤ 9223372036854775807 by omega)
    have e5 : (relab b a p ++ x :: t).set p.length a = relab b a p ++ a :: t := by
      have : p.length = (relab b a p).length := (relab_len b a p).symm
      rw [this, List.set_append_right _ _ (Nat.le_refl _), Nat.sub_self]; rfl
    have ih := joins_l1 l x1 x5 x7 a b r t (p ++ [x]) (by simpa using h) h9 (by rw [← mid_assoc]; exact hr)
    have e6 : relab b a (p ++ [x]) ++ t = relab b a p ++ (if x = b then a else x) :: t := by simp [relab]
    rw [e6] at ih
    simp only [trishawref06_Joins.l1, if_pos e1, if_pos (nonneg_len p), if_pos e2, e3, e4, Int.toNat_natCast, e5]
    by_cases c : x = b
    · simp only [if_pos c]
      rw [if_pos c] at ih
      exact ih
    · simp only [if_neg c]
      rw [if_neg c] at ih
      exact ih
theorem tmod_zero (s k : Nat) (hk : k ≤ 64) : (Int.tmod (shr .i64 (s : Int) (k : Int)) 2 = 0) ↔ ¬ s.testBit k = true := by
  rw [tmod_bit s hk]
  cases s.testBit k <;> simp
theorem joins_l0 {l : List S36} (h9 : 1 ≤ l.length ∧ l.length ≤ 9) (s : Nat) : ∀ d k : Nat, k + d + 1 = l.length →
    Ev (fun f => trishawref06_Joins.l0 f l (s : Int) (sortI true l) (refR l s k) (k : Int)) (joinB l s)
  | 0, k, e => by
    refine Ev.succ ?_
    have hk : k = l.length - 1 := by omega
    simp only [trishawref06_Joins.l0, w64s k (show k < 9223372036854775807 by omega), if_neg (show ¬ ((k + 1 : Nat) : Int) < (l.length : Int) by omega)]
    unfold joinB
    rw [hk]
    exact joins_l2 l _ (refR_len l s _) h9.2 l.length 0 (by omega) (fun j hj => by omega)
  | d + 1, k, e => by
    refine Ev.succ ?_
    have hk : k + 1 < l.length := by omega
    have ih := joins_l0 h9 s d (k + 1) (by omega)
    have hz := tmod_zero s k (by omega)
    simp only [trishawref06_Joins.l0, w64s k (show k < 9223372036854775807 by omega), if_pos (show ((k + 1 : Nat) : Int) < (l.length : Int) by omega), if_pos (show (0 : Int) ≤ (k : Int) by omega)]
    by_cases c : s.testBit k = true
    · rw [refR, if_pos c] at ih
      have t0 := tN_rd (show k < l.length by omega)
      have t1 := tN_rd hk
      have hlen := refR_len l s k
      simp only [if_neg (fun e2 => hz.mp e2 c), sortI_len, if_pos (show (k : Int) < (l.length : Int) by omega), t0.1, t1.1, hlen, if_pos (show (0 : Int) ≤ (tN l k : Int) by omega), if_pos (show (tN l k : Int) < (l.length : Int) by have := t0.2; omega), if_pos (show (0 : Int) ≤ ((k + 1 : Nat) : Int) by omega), if_pos (show ((k + 1 : Nat) : Int) < (l.length : Int) by omega), if_pos (show (0 : Int) ≤ (tN l (k + 1) : Int) by omega), if_pos (show (tN l (k + 1) : Int) < (l.length : Int) by have := t1.2; omega)]
      have := joins_l1 l (s : Int) (sortI true l) (k : Int) (rd (refR l s k) (tN l k : Int)) (rd (refR l s k) (tN l (k + 1) : Int)) (joinB l s) (refR l s k) [] (by simpa using hlen) h9.2 (by rw [w64s k (by omega)]; simpa using ih)
      simpa [relab] using this
    · rw [refR, if_neg c] at ih
      simp only [if_pos (hz.mpr c)]
      exact ih
theorem joins_ev {l : List S36} {U D : Int} (h : Right l U D) (s : Nat) : Ev (fun k => trishawref06_Joins.f k l (s : Int)) (joinB l s) := by
  unfold trishawref06_Joins.f
  have h9 := h.len
  exact Ev.bind (rsort_ev h false) (Ev.bind (ringed_ev h) (joins_l0 h9 s (l.length - 1) 0 (by omega)))
theorem members_l0 (s : Nat) : ∀ d k : Nat, k + d = 20 → Ev (fun f => trishawref06_members.l0 f (s : Int) (nI (memb s k)) (k : Int)) (nI (memb s 20))
  | 0, k, e => by
    refine Ev.succ ?_
    obtain rfl : k = 20 := by omega
    simp only [trishawref06_members.l0, if_neg (show ¬ ((20 : Nat) : Int) < 20 by omega)]
    exact Ev.pure _
  | d + 1, k, e => by
    refine Ev.succ ?_
    have ih := members_l0 s d (k + 1) (by omega)
    have hm := memb_len s k
    have en : nI (memb s k) ++ [(k : Int)] = nI (memb s k ++ [k]) := by simp [nI]
    simp only [trishawref06_members.l0, if_pos (show (k : Int) < 20 by omega), if_pos (show (0 : Int) ≤ (k : Int) by omega), tmod_bit s (show k ≤ 64 by omega), w64s k (show k < 9223372036854775807 by omega)]
    by_cases c : s.testBit k = true
    · rw [memb_succ, if_pos c] at ih
      simp only [c, if_true, nI_len, if_pos (show (memb s k).length < 17592186044416 by omega), en]
      exact ih
    · rw [memb_succ, if_neg c] at ih
      simp only [if_neg c, if_neg (show ¬ (0 : Int) = 1 by omega)]
      exact ih
theorem memb_more {s g : Nat} (hs : s < 2 ^ g) : ∀ d : Nat, memb s (g + d) = memb s g
  | 0 => rfl
  | d + 1 => by
    rw [show g + (d + 1) = (g + d) + 1 by omega, memb_succ, Nat.testBit_lt_two_pow (Nat.lt_of_lt_of_le hs (Nat.pow_le_pow_right (by decide) (by omega)))]
    simp only [Bool.false_eq_true, if_false]
    exact memb_more hs d
theorem members_ev {s g : Nat} (hs : s < 2 ^ g) (hg : g ≤ 20) : Ev (fun k => trishawref06_members.f k (s : Int)) (nI (memb s g)) := by
  have h := members_l0 s 20 0 (by omega)
  rw [show (20 : Nat) = g + (20 - g) by omega, memb_more hs] at h
  exact h
def seenR (st : Option (List Int × Int)) : List Int × Int := match st with
  | none => ([], -1)
  | some b => b
theorem rl1 {l : List S36} {U D : Int} (h : Right l U D) (s : Nat) (hs : s < 2 ^ (l.length - 1)) (hj : joinB l s = true) (st : Option (List Int × Int)) (hst : StP st) (r : List Int × Int)
    (hr : Ev (fun k => trishawref06_patches.l0 k l (gapsI l U D) (seenR (pstep l U D st s)).1 (seenR (pstep l U D st s)).2 ((s + 1 : Nat) : Int)) r) : ∀ (t p : List Nat), p ++ t = memb s (l.length - 1) →
    Ev (fun k => trishawref06_patches.l1 k l (gapsI l U D) (seenR st).1 (seenR st).2 (s : Int) (nI (memb s (l.length - 1))) (sumL (fun j : Nat => gapAt l U D j) p) (p.length : Int)) r
  | [], p, e => by
    refine Ev.succ ?_
    have h9 := h.len
    rw [List.append_nil] at e
    have hs62 : s < 9223372036854775807 := by
      have h1 : s < 2 ^ 62 := Nat.lt_of_lt_of_le hs (Nat.pow_le_pow_right (by decide) (by omega))
      have : (2 : Nat) ^ 62 = 4611686018427387904 := by decide
      omega
    have eg : sumL (fun j : Nat => gapAt l U D j) p = gsum l U D s (l.length - 1) := by rw [e]; rfl
    have el : ¬ (p.length : Int) < ((nI (memb s (l.length - 1))).length : Int) := by rw [nI_len, e]; omega
    have hc : cand l U D s = (nI (memb s (l.length - 1)), gsum l U D s (l.length - 1)) := rfl
    have hcok := cand_ok h s
    rw [hc] at hcok
    unfold pstep at hr
    rw [if_pos hj] at hr
    generalize hA : (seenR st).1 = A
    generalize hB : (seenR st).2 = B
    simp only [trishawref06_patches.l1, if_neg el, eg, w64s s hs62]
    cases st with
    | none =>
      have hA' : ([] : List Int) = A := hA
      have hB' : (-1 : Int) = B := hB
      subst hA'; subst hB'
      simp only [seenR] at hr
      simp only [if_pos (show (-1 : Int) < 0 by omega)]
      exact hr
    | some b =>
      have hb := hst b rfl
      have hA' : b.1 = A := hA
      have hB' : b.2 = B := hB
      subst hA'; subst hB'
      simp only [] at hr
      simp only [if_neg (show ¬ b.2 < 0 by omega)]
      rw [hc] at hr
      unfold betB at hr
      dsimp only at hr
      by_cases c1 : gsum l U D s (l.length - 1) < b.2
      · rw [if_neg (show ¬ gsum l U D s (l.length - 1) = b.2 by omega), if_pos (decide_eq_true c1)] at hr
        simp only [if_pos c1]
        exact hr
      · simp only [if_neg c1]
        by_cases c2 : gsum l U D s (l.length - 1) = b.2
        · simp only [if_pos c2]
          rw [if_pos c2] at hr
          by_cases c3 : (nI (memb s (l.length - 1))).length < b.1.length
          · rw [if_neg (show ¬ (nI (memb s (l.length - 1))).length = b.1.length by omega), if_pos (decide_eq_true c3)] at hr
            simp only [if_pos (show ((nI (memb s (l.length - 1))).length : Int) < (b.1.length : Int) by omega)]
            simp only [seenR] at hr
            exact hr
          · simp only [if_neg (show ¬ ((nI (memb s (l.length - 1))).length : Int) < (b.1.length : Int) by omega)]
            by_cases c4 : (nI (memb s (l.length - 1))).length = b.1.length
            · simp only [if_pos (show ((nI (memb s (l.length - 1))).length : Int) = (b.1.length : Int) by omega)]
              rw [if_pos c4] at hr
              refine Ev.bind (less_ev c4 hcok.1) ?_
              by_cases c5 : lexB (nI (memb s (l.length - 1))) b.1 = true
              · rw [if_pos c5] at hr
                simp only [if_pos c5]
                simp only [seenR] at hr
                exact hr
              · rw [if_neg c5] at hr
                simp only [if_neg c5]
                exact hr
            · simp only [if_neg (show ¬ ((nI (memb s (l.length - 1))).length : Int) = (b.1.length : Int) by omega)]
              rw [if_neg c4, if_neg (by simpa using c3)] at hr
              exact hr
        · simp only [if_neg c2]
          rw [if_neg c2, if_neg (by simpa using c1)] at hr
          exact hr
  | x :: t, p, e => by
    refine Ev.succ ?_
    have h9 := h.len
    have hx : x < l.length - 1 := memb_lt (s := s) (by rw [← e]; simp)
    have ex : nI (memb s (l.length - 1)) = nI p ++ (x : Int) :: nI t := by rw [← e]; simp [nI]
    have e1 : (p.length : Int) < ((nI (memb s (l.length - 1))).length : Int) := by rw [nI_len, ← e]; simp; omega
    have e2 : rd (nI (memb s (l.length - 1))) (p.length : Int) = (x : Int) := by
      rw [ex]
      have := rd_mid (nI p) (nI t) (x : Int)
      rwa [nI_len] at this
    have hml := memb_len s (l.length - 1)
    have hpl : p.length < (memb s (l.length - 1)).length := by rw [← e]; simp
    have hpb : ∀ q : List Nat, (∀ j ∈ q, j + 1 < l.length) → 0 ≤ sumL (fun j : Nat => gapAt l U D j) q ∧ sumL (fun j : Nat => gapAt l U D j) q ≤ 2000000 * q.length := by
      intro q
      induction q with
      | nil => intro _; simp [sumL]
      | cons y q ihq =>
        intro hq
        have h1 := ihq (fun j hj => hq j (by simp [hj]))
        have h2 := gapAt_bound h (hq y (by simp))
        simp only [sumL, List.length_cons]
        omega
    have hp2 := hpb p (fun j hj => by have := memb_lt (s := s) (k := l.length - 1) (j := j) (by rw [← e]; simp [hj]); omega)
    have hg := gapAt_bound h (show x + 1 < l.length by omega)
    have es : sumL (fun j : Nat => gapAt l U D j) (p ++ [x]) = sumL (fun j : Nat => gapAt l U D j) p + gapAt l U D x := by rw [sumL_app]; simp only [sumL]; omega
    have ew : wrap64 (sumL (fun j : Nat => gapAt l U D j) p + gapAt l U D x) = sumL (fun j : Nat => gapAt l U D j) p + gapAt l U D x := w64 (by omega) (by omega)
    have ih := rl1 h s hs hj st hst r hr t (p ++ [x]) (by rw [← e]; simp)
    rw [es] at ih
    simp only [trishawref06_patches.l1, if_pos e1, if_pos (nonneg_len p), e2, if_pos (show (0 : Int) ≤ (x : Int) from Int.natCast_nonneg x), gapsI_len, if_pos (show (x : Int) < ((l.length - 1 : Nat) : Int) from Int.ofNat_lt.mpr hx), gaps_rd (show x + 1 < l.length from Nat.add_lt_of_lt_sub hx), ew, w64s p.length (Nat.lt_of_lt_of_le hpl (Nat.le_trans hml (Nat.le_trans (Nat.sub_le _ _) (Nat.le_trans h9.2 (by decide)))))]
    simpa using ih
theorem rl0 {l : List S36} {U D : Int} (h : Right l U D) : ∀ (d s : Nat) (st : Option (List Int × Int)), s + d = 2 ^ (l.length - 1) → StP st →
    Ev (fun k => trishawref06_patches.l0 k l (gapsI l U D) (seenR st).1 (seenR st).2 (s : Int)) (seenR (pfold l U D st s d))
  | 0, s, st, e, hst => by
    refine Ev.succ ?_
    have h9 := h.len
    simp only [trishawref06_patches.l0, gapsI_len, shl_pow (show l.length - 1 ≤ 62 by omega), if_neg (show ¬ (s : Int) < ((2 ^ (l.length - 1) : Nat) : Int) by omega)]
    exact Ev.pure _
  | d + 1, s, st, e, hst => by
    refine Ev.succ ?_
    have h9 := h.len
    rw [pfold_succ]
    have hs : s < 2 ^ (l.length - 1) := by omega
    have ih := rl0 h d (s + 1) (pstep l U D st s) (by omega) (pstep_ok h s hst)
    simp only [trishawref06_patches.l0, gapsI_len, shl_pow (show l.length - 1 ≤ 62 by omega), if_pos (show (s : Int) < ((2 ^ (l.length - 1) : Nat) : Int) by omega)]
    refine Ev.bind (joins_ev h s) ?_
    by_cases c : joinB l s = true
    · simp only [if_pos c]
      refine Ev.bind (members_ev hs (by omega)) ?_
      exact rl1 h s hs c st hst _ ih (memb s (l.length - 1)) [] rfl
    · have hs62 : s < 9223372036854775807 := by
        have h1 : s < 2 ^ 62 := Nat.lt_of_lt_of_le hs (Nat.pow_le_pow_right (by decide) (by omega))
        have : (2 : Nat) ^ 62 = 4611686018427387904 := by decide
        omega
      simp only [if_neg c, w64s s hs62]
      have e2 : pstep l U D st s = st := by unfold pstep; rw [if_neg c]
      rw [e2] at ih ⊢
      exact ih
theorem pstep_some {l : List S36} {U D : Int} {st : Option (List Int × Int)} {s : Nat} (h : st ≠ none) : pstep l U D st s ≠ none := by
  unfold pstep
  split
  · split
    · simp
    · split <;> simp
  · exact h
theorem pfold_some {l : List S36} {U D : Int} : ∀ (d s : Nat) (st : Option (List Int × Int)), (st ≠ none ∨ ∃ x, s ≤ x ∧ x < s + d ∧ joinB l x = true) → pfold l U D st s d ≠ none
  | 0, s, st, h => by
    rcases h with h | ⟨x, h1, h2, _⟩
    · exact h
    · omega
  | d + 1, s, st, h => by
    rw [pfold_succ]
    refine pfold_some d (s + 1) _ ?_
    rcases h with h | ⟨x, h1, h2, h3⟩
    · exact .inl (pstep_some h)
    · by_cases e : x = s
      · subst e
        left
        unfold pstep
        rw [if_pos h3]
        split
        · simp
        · split <;> simp
      · exact .inr ⟨x, by omega, by omega, h3⟩
theorem patchO_some {l : List S36} {U D : Int} (h : Right l U D) : patchO l U D ≠ none := by
  have h9 := h.len
  have hp : 0 < 2 ^ (l.length - 1) := Nat.two_pow_pos _
  refine pfold_some _ _ _ (.inr ⟨2 ^ (l.length - 1) - 1, by omega, by omega, join_full h9.1 (fun k hk => ?_)⟩)
  rw [Nat.testBit_two_pow_sub_one]
  exact decide_eq_true (by omega)
theorem pfold_ok {l : List S36} {U D : Int} (h : Right l U D) : ∀ (d s : Nat) (st : Option (List Int × Int)), StP st → StP (pfold l U D st s d)
  | 0, _, _, hs => hs
  | d + 1, s, st, hs => by rw [pfold_succ]; exact pfold_ok h d (s + 1) _ (pstep_ok h s hs)
def patchI (l : List S36) (U D : Int) : List Int × Int := (seenP (patchO l U D)).2
theorem patchI_eq {l : List S36} {U D : Int} (h : Right l U D) : patchO l U D = some (patchI l U D) := by
  unfold patchI
  cases e : patchO l U D with
  | none => exact absurd e (patchO_some h)
  | some b => rfl
theorem patchI_ok {l : List S36} {U D : Int} (h : Right l U D) : (patchI l U D).1.length ≤ 1000 ∧ 0 ≤ (patchI l U D).2 ∧ (patchI l U D).2 ≤ 20000000 :=
  pfold_ok h (2 ^ (l.length - 1)) 0 none (fun b hb => by cases hb) _ (patchI_eq h)
theorem rpatches_ev {l : List S36} {U D : Int} (h : Right l U D) : Ev (fun k => trishawref06_patches.f k l U D) (patchI l U D) := by
  unfold trishawref06_patches.f
  refine Ev.bind (rgaps_ev h) ?_
  have := rl0 h (2 ^ (l.length - 1)) 0 none (by omega) (fun b hb => by cases hb)
  have e : seenR (pfold l U D none 0 (2 ^ (l.length - 1))) = patchI l U D := by
    have := patchI_eq h
    unfold patchO at this
    rw [this]; rfl
  rw [e] at this
  exact this
def patchR (l : List S36) (U D : Int) : List Int × Int × Int := if dayE l U D = 0 then ((patchI l U D).1, (patchI l U D).2, 0) else ([], 0, dayE l U D)
theorem Patches_ev (l : List S36) (U D : Int) : Ev (fun k => trip_Patches.f k l U D) (patchR l U D) := by
  unfold trip_Patches.f patchR
  simp only [read_eq, Option.bind_some]
  by_cases c : dayE l U D = 0
  · simp only [if_pos c]; exact Ev.bind (patches_ev (day_right c)) (Ev.pure _)
  · simp only [if_neg c]; exact Ev.pure _
theorem rPatches_ev (l : List S36) (U D : Int) : Ev (fun k => trishawref06_Patches.f k l U D) (patchR l U D) := by
  unfold trishawref06_Patches.f patchR
  refine Ev.bind (ref_day l U D) ?_
  by_cases c : dayE l U D = 0
  · simp only [if_pos c]; exact Ev.bind (rpatches_ev (day_right c)) (Ev.pure _)
  · simp only [if_neg c]; exact Ev.pure _
def leastR (l : List S36) (U D : Int) : Int × Int := if dayE l U D = 0 then (worthI l U D + (patchI l U D).2, 0) else (0, dayE l U D)
theorem Least_ev (l : List S36) (U D : Int) : Ev (fun k => trip_Least.f k l U D) (leastR l U D) := by
  unfold trip_Least.f leastR
  refine Ev.bind (Matching_ev l U D) ?_
  unfold matchR
  by_cases c : dayE l U D = 0
  · have hR := day_right c
    have h1 := worthI_bound hR
    have h2 := patchI_ok hR
    have k1 : -9223372036854775808 ≤ worthI l U D + (patchI l U D).2 ∧ worthI l U D + (patchI l U D).2 ≤ 9223372036854775807 := by omega
    simp only [if_pos c, if_true]
    refine Ev.bind (patches_ev hR) ?_
    show Ev (fun k => some (wrap64 (worthI l U D + (patchI l U D).2), 0)) _
    rw [w64 k1.1 k1.2]
    exact Ev.pure _
  · simp only [if_neg c]; exact Ev.pure _
theorem rLeast_ev (l : List S36) (U D : Int) : Ev (fun k => trishawref06_Least.f k l U D) (leastR l U D) := by
  unfold trishawref06_Least.f leastR
  refine Ev.bind (ref_day l U D) ?_
  by_cases c : dayE l U D = 0
  · have hR := day_right c
    have h1 := worthI_bound hR
    have h2 := patchI_ok hR
    have k1 : -9223372036854775808 ≤ worthI l U D + (patchI l U D).2 ∧ worthI l U D + (patchI l U D).2 ≤ 9223372036854775807 := by omega
    simp only [if_pos c]
    refine Ev.bind (rpatches_ev hR) (Ev.bind (rmatching_ev hR) (Ev.bind (rworth_ev hR) ?_))
    rw [w64 k1.1 k1.2]
    exact Ev.pure _
  · simp only [if_neg c]; exact Ev.pure _
theorem TripGaps_ev (l : List S36) (U D : Int) : Ev (fun k => trishawlaw06_TripGaps.f k l U D) true := by
  unfold trishawlaw06_TripGaps.f
  simp only [few_nil, Option.bind_some]
  by_cases c : decide ((l.length : Int) ≤ 30) = true
  · simp only [if_pos c]
    have hl : (l.length : Int) ≤ 30 := of_decide_eq_true c
    refine Ev.bind (Gaps_ev l U D) (Ev.bind (rGaps_ev l U D) (Ev.bind (same_ev _ _ ?_) ?_))
    · unfold gapsR; split
      · show (gapsI l U D).length ≤ _; rw [gapsI_len]; omega
      · simp
    · simp only [decide_true, if_true, bne_self_eq_false]
      refine Ev.succ ?_
      simp only [trishawlaw06_TripGaps.j0, Bool.false_eq_true, if_false]
      refine Ev.bind (Patches_ev l U D) (Ev.bind (rPatches_ev l U D) (Ev.bind (same_ev _ _ ?_) ?_))
      · unfold patchR; split
        · rename_i h0
          have := (patchI_ok (day_right h0)).1
          show (patchI l U D).1.length ≤ _; omega
        · simp
      · simp only [decide_true, if_true, bne_self_eq_false]
        refine Ev.succ ?_
        simp only [trishawlaw06_TripGaps.j1, Bool.false_eq_true, if_false]
        refine Ev.bind (Least_ev l U D) (Ev.bind (rLeast_ev l U D) ?_)
        simp only [if_true]
        exact alive_ev'
  · simp only [if_neg c]; exact alive_ev'
end Go.Proofs.Ytlmlneneakpohaa.OAll
