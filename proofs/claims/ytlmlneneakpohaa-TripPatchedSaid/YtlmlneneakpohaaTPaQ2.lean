/- A part of the proof of 'tripPatched_holds', for every input, without a condition. -/
import Derived.Test.YtlmlneneakpohaaTPaQ1
import Derived.Test.YtlmlneneakpohaaTPaOAllx26
namespace Go.Proofs.Ytlmlneneakpohaa.OAll
open Go.RowKit Go.Proofs.YtlmlneneakpohaaW.PrintWords Go.Proofs.YtlmlneneakpohaaW.PrintLast Go.Proofs.YtlmlneneakpohaaW.PrintMore
set_option linter.unusedVariables false
set_option linter.unusedSimpArgs false
def lqP (a b : List Int × Int) : Prop := a.2 < b.2 ∨ (a.2 = b.2 ∧ a.1.length ≤ b.1.length)
theorem lqP.trans {a b c : List Int × Int} (h1 : lqP a b) (h2 : lqP b c) : lqP a c := by unfold lqP at *; omega
theorem lqP.refl (a : List Int × Int) : lqP a a := .inr ⟨rfl, Nat.le_refl _⟩
theorem lq_of_bet {a b : List Int × Int} (h : betB a b = true) : lqP a b := by
  unfold betB at h
  split at h
  · rename_i e
    split at h
    · rename_i e2; exact .inr ⟨e, by omega⟩
    · have := of_decide_eq_true h; exact .inr ⟨e, by omega⟩
  · exact .inl (of_decide_eq_true h)
theorem lq_of_not {a b : List Int × Int} (h : ¬ betB a b = true) : lqP b a := by
  unfold betB at h
  split at h
  · rename_i e
    split at h
    · rename_i e2; exact .inr ⟨e.symm, by omega⟩
    · rw [decide_eq_true_eq] at h; exact .inr ⟨e.symm, by omega⟩
  · rename_i e
    rw [decide_eq_true_eq] at h
    exact .inl (by omega)
theorem pstep_lq {l : List S36} {U D : Int} {st : Option (List Int × Int)} {s : Nat} {b : List Int × Int} (h : pstep l U D st s = some b) : (∀ c, st = some c → lqP b c) ∧ (joinB l s = true → lqP b (cand l U D s)) := by
  unfold pstep at h
  split at h
  · rename_i hj
    split at h
    · obtain rfl := Option.some.inj h
      exact ⟨fun c hc => (by cases hc), fun _ => lqP.refl _⟩
    · rename_i c0
      split at h
      · rename_i hb
        obtain rfl := Option.some.inj h
        exact ⟨fun c hc => by obtain rfl := Option.some.inj hc; exact lq_of_bet hb, fun _ => lqP.refl _⟩
      · rename_i hb
        obtain rfl := Option.some.inj h
        exact ⟨fun c hc => by obtain rfl := Option.some.inj hc; exact lqP.refl _, fun _ => lq_of_not hb⟩
  · rename_i hj
    exact ⟨fun c hc => by rw [hc] at h; obtain rfl := Option.some.inj h; exact lqP.refl _, fun h2 => absurd h2 hj⟩
theorem pfold_lq {l : List S36} {U D : Int} : ∀ (d s : Nat) (st : Option (List Int × Int)) (b : List Int × Int), pfold l U D st s d = some b → (∀ c, st = some c → lqP b c) ∧ ∀ x, s ≤ x → x < s + d → joinB l x = true → lqP b (cand l U D x)
  | 0, s, st, b, h => ⟨fun c hc => by
      have : st = some b := h
      rw [this] at hc; obtain rfl := Option.some.inj hc; exact lqP.refl _, fun x h1 h2 => by omega⟩
  | d + 1, s, st, b, h => by
    rw [pfold_succ] at h
    obtain ⟨h1, h2⟩ := pfold_lq d (s + 1) _ b h
    refine ⟨fun c hc => ?_, fun x hx1 hx2 hj => ?_⟩
    · have hne : pstep l U D st s ≠ none := pstep_some (by rw [hc]; simp)
      obtain ⟨e, he⟩ := Option.ne_none_iff_exists'.mp hne
      exact (h1 e he).trans ((pstep_lq he).1 c hc)
    · by_cases e : x = s
      · subst e
        have hne : pstep l U D st x ≠ none := by
          unfold pstep
          rw [if_pos hj]
          split
          · simp
          · split <;> simp
        obtain ⟨e, he⟩ := Option.ne_none_iff_exists'.mp hne
        exact (h1 e he).trans ((pstep_lq he).2 hj)
      · exact h2 x (by omega) (by omega) hj
theorem patch_ex {l : List S36} {U D : Int} (h : Right l U D) : ∃ x, x < 2 ^ (l.length - 1) ∧ joinB l x = true ∧ patchI l U D = cand l U D x ∧ (headR l l.length).length = (memb x (l.length - 1)).length + 1 := by
  have h9 := h.len
  obtain ⟨x, _, hx2, hx3, hx4⟩ : ∃ x, 0 ≤ x ∧ x < 0 + 2 ^ (l.length - 1) ∧ joinB l x = true ∧ patchI l U D = cand l U D x := by
    rcases pfold_in _ _ _ _ (patchI_eq h) with e | e
    · cases e
    · exact e
  refine ⟨x, by omega, hx3, hx4, ?_⟩
  obtain ⟨s, g1, g2, g3, g4⟩ := clean_ex h
  have a1 := clean_len h9.1 g2 g4
  have a2 := join_len h9.1 hx3
  have a3 := (pfold_lq _ _ _ _ (patchI_eq h)).2 s (by omega) (by omega) g2
  have a4 := patchI_le h g1 g2
  rw [hx4] at a3 a4 g3
  have e1 : (cand l U D x).1.length = (memb x (l.length - 1)).length := nI_len _
  have e2 : (cand l U D s).1.length = (memb s (l.length - 1)).length := nI_len _
  have e3 : (cand l U D s).2 = gsum l U D s (l.length - 1) := rfl
  unfold lqP at a3
  omega
def setN : List Nat → Nat
  | [] => 0
  | a :: t => 2 ^ a + setN t
theorem setN_app : ∀ a b : List Nat, setN (a ++ b) = setN a + setN b
  | [], b => by simp [setN]
  | x :: a, b => by simp only [List.cons_append, setN, setN_app a b]; omega
theorem setN_memb (s : Nat) : ∀ k, setN (memb s k) = s % 2 ^ k
  | 0 => by simp [memb, setN, Nat.mod_one]
  | k + 1 => by
    have h1 : s % 2 ^ (k + 1) = s % 2 ^ k + 2 ^ k * (s / 2 ^ k % 2) := Nat.mod_pow_succ
    rw [memb_succ, h1]
    have h2 : s.testBit k = decide (s / 2 ^ k % 2 = 1) := Nat.testBit_eq_decide_div_mod_eq
    split
    · rename_i hb
      rw [h2, decide_eq_true_eq] at hb
      rw [setN_app, setN_memb s k, hb]
      simp [setN]
    · rename_i hb
      rw [h2, decide_eq_true_eq] at hb
      rw [setN_memb s k, show s / 2 ^ k % 2 = 0 by omega]
      simp
theorem memb_sorted (s k : Nat) : (memb s k).Pairwise (· < ·) := List.Pairwise.filter _ List.pairwise_lt_range
theorem rd_nI_mid (q t : List Nat) (a : Nat) : rd (nI (q ++ a :: t)) (q.length : Int) = (a : Int) := by
  have := rd_mid (nI q) (nI t) (a : Int)
  rw [nI_len] at this
  rw [← this]; simp [nI]
theorem setN_bound (s k : Nat) (hk : k ≤ 62) (q t : List Nat) (e : q ++ t = memb s k) : setN q ≤ 4611686018427387904 := by
  have h1 := setN_memb s k
  rw [← e, setN_app] at h1
  have h2 := Nat.mod_lt s (Nat.two_pow_pos k)
  have h3 := pow_small hk
  omega
theorem sumL_bound {l : List S36} {U D : Int} (h : Right l U D) : ∀ q : List Nat, (∀ j ∈ q, j + 1 < l.length) → 0 ≤ sumL (fun j : Nat => gapAt l U D j) q ∧ sumL (fun j : Nat => gapAt l U D j) q ≤ 2000000 * q.length
  | [], _ => by simp [sumL]
  | a :: q, hq => by
    have ih := sumL_bound h q (fun j hj => hq j (by simp [hj]))
    have h2 := gapAt_bound h (hq a (by simp))
    simp only [sumL, List.length_cons]
    omega
theorem patched_l1 {l : List S36} {U D : Int} (h : Right l U D) (x8 : Int) (s : Nat) (hx : x8 ≤ gsum l U D s (l.length - 1)) : ∀ d k : Nat, k + d = l.length - 1 →
    Ev (fun f => trishawlaw06_TripPatched.l1 f x8 (gapsI l U D) (s : Int) (gsum l U D s k) (k : Int)) true
  | 0, k, e => by
    refine Ev.succ ?_
    obtain rfl : k = l.length - 1 := by omega
    have : gsum l U D s (l.length - 1) ≥ x8 := hx
    simp only [trishawlaw06_TripPatched.l1, gapsI_len, if_neg (show ¬ ((l.length - 1 : Nat) : Int) < ((l.length - 1 : Nat) : Int) by omega), if_pos this]
    exact alive_ev'
  | d + 1, k, e => by
    refine Ev.succ ?_
    have h9 := h.len
    have hk : k + 1 < l.length := by omega
    have hg := gapAt_bound h hk
    have hs := gsum_bound h s k (by omega)
    have ih := patched_l1 h x8 s hx d (k + 1) (by omega)
    rw [gsum_succ] at ih
    have et := tmod_bit s (j := k) (by omega)
    simp only [trishawlaw06_TripPatched.l1, gapsI_len, if_pos (show (k : Int) < ((l.length - 1 : Nat) : Int) by omega), if_pos (show (0 : Int) ≤ (k : Int) by omega), gaps_rd hk, if_neg (show ¬ gapAt l U D k < 0 by omega), et, w64s k (show k < 9223372036854775807 by omega)]
    by_cases c : s.testBit k = true
    · simp only [c, if_true, Int.mul_one]
      rw [if_pos c] at ih
      rw [w64 (n := gapAt l U D k) (by omega) (by omega), w64 (n := gsum l U D s k + gapAt l U D k) (by omega) (by omega)]
      exact ih
    · simp only [c, Bool.false_eq_true, if_false, Int.mul_zero]
      rw [if_neg c] at ih
      rw [w64 (n := 0) (by omega) (by omega), Int.add_zero, w64 (n := gsum l U D s k) (by omega) (by omega)]
      exact ih
theorem patched_j3 {l : List S36} {U D : Int} (h : Right l U D) (a : Int) (ha : 0 ≤ a ∧ a ≤ 65535) : Ev (fun f => trishawlaw06_TripPatched.j3 f l a (patchI l U D).2 (gapsI l U D) false) true := by
  refine Ev.succ ?_
  have h9 := h.len
  have hp : 0 < 2 ^ (l.length - 1) := Nat.two_pow_pos _
  obtain ⟨b, rfl⟩ := Int.eq_ofNat_of_zero_le ha.1
  have e1 : shl .i64 1 ((gapsI l U D).length : Int) = ((2 ^ (l.length - 1) : Nat) : Int) := by rw [gapsI_len]; exact shl_pow (by omega)
  have e2 : Int.tmod (wrap64 (b : Int)) ((2 ^ (l.length - 1) : Nat) : Int) = ((b % 2 ^ (l.length - 1) : Nat) : Int) := by
    rw [w64 (by omega) (by omega), Int.tmod_eq_emod_of_nonneg (Int.natCast_nonneg _)]; rfl
  simp only [trishawlaw06_TripPatched.j3, Bool.false_eq_true, if_false, e1, if_neg (show ¬ ((2 ^ (l.length - 1) : Nat) : Int) = 0 by omega), e2]
  refine Ev.bind (joins_ev h _) ?_
  by_cases c : joinB l (b % 2 ^ (l.length - 1)) = true
  · simp only [if_pos c]
    have := patched_l1 h (patchI l U D).2 (b % 2 ^ (l.length - 1)) (patchI_le h (Nat.mod_lt _ hp) c) (l.length - 1) 0 (by omega)
    exact this
  · simp only [if_neg c]
    exact alive_ev'
theorem patched_l0 {l : List S36} {U D : Int} (h : Right l U D) (a : Int) (ha : 0 ≤ a ∧ a ≤ 65535) (x : Nat) (hx : x < 2 ^ (l.length - 1)) (hj : joinB l x = true) (hp : (patchI l U D).2 = gsum l U D x (l.length - 1)) : ∀ t q : List Nat, q ++ t = memb x (l.length - 1) →
    Ev (fun f => trishawlaw06_TripPatched.l0 f l a (nI (q ++ t)) (patchI l U D).2 (gapsI l U D) (sumL (fun j : Nat => gapAt l U D j) q) ((setN q : Nat) : Int) (q.length : Int)) true
  | [], q, e => by
    refine Ev.succ ?_
    rw [List.append_nil] at e ⊢
    have es : sumL (fun j : Nat => gapAt l U D j) q = (patchI l U D).2 := by rw [hp, e]; rfl
    have en : setN q = x := by rw [e, setN_memb, Nat.mod_eq_of_lt hx]
    simp only [trishawlaw06_TripPatched.l0, nI_len, if_neg (show ¬ (q.length : Int) < (q.length : Int) by omega), es, en, if_true]
    refine Ev.bind (joins_ev h x) ?_
    rw [hj]
    exact patched_j3 h a ha
  | b :: t, q, e => by
    refine Ev.succ ?_
    have h9 := h.len
    have hb : b ∈ memb x (l.length - 1) := by rw [← e]; simp
    have hbl := memb_lt hb
    have hql : (memb x (l.length - 1)).length ≤ l.length - 1 := memb_len x _
    have hql2 : q.length < l.length - 1 := by
      have : (q ++ b :: t).length ≤ l.length - 1 := by rw [e]; exact hql
      simp at this; omega
    have ih := patched_l0 h a ha x hx hj hp t (q ++ [b]) (by rw [← e]; simp)
    rw [← mid_assoc, sumL_app, setN_app] at ih
    have hg := gapAt_bound h (show b + 1 < l.length by omega)
    have hs := sumL_bound h q (fun j hj => by
      have := memb_lt (show j ∈ memb x (l.length - 1) by rw [← e]; simp [hj])
      omega)
    have hpw := pow_small (show b ≤ 62 by omega)
    have hsn := setN_bound x (l.length - 1) (by omega) (q ++ [b]) t (by rw [← e]; simp)
    rw [setN_app] at hsn
    simp only [setN, Nat.add_zero] at hsn ih
    simp only [sumL, Int.add_zero] at ih
    have e1 : wrap64 (sumL (fun j : Nat => gapAt l U D j) q + gapAt l U D b) = sumL (fun j : Nat => gapAt l U D j) q + gapAt l U D b := w64 (by omega) (by omega)
    have e2 := (show ∀ P : Nat, setN q + P ≤ 4611686018427387904 → wrap64 (((setN q : Nat) : Int) + (P : Int)) = ((setN q + P : Nat) : Int) from fun P hP => by rw [w64 (by omega) (by omega)]; omega) _ hsn
    have e3 : wrap64 ((q.length : Int) + 1) = (((q ++ [b]).length : Nat) : Int) := by rw [w64s q.length (by omega)]; simp
    have c1 : (q.length : Int) < ((nI (q ++ b :: t)).length : Int) := by rw [nI_len]; exact mid_lt q t b
    simp only [trishawlaw06_TripPatched.l0, if_pos c1, if_pos (nonneg_len q), rd_nI_mid, if_neg (show ¬ (b : Int) < 0 by omega), gapsI_len, if_neg (show ¬ (b : Int) ≥ ((l.length - 1 : Nat) : Int) by omega), if_pos (show (0 : Int) ≤ (b : Int) by omega), if_pos (show (b : Int) < ((l.length - 1 : Nat) : Int) by omega), gaps_rd (show b + 1 < l.length by omega), shl_pow (show b ≤ 62 by omega), e1, e2, e3]
    by_cases c : (q.length : Int) > 0
    · have e4 : wrap64 ((q.length : Int) - 1) = ((q.length - 1 : Nat) : Int) := by rw [w64 (by omega) (by omega)]; omega
      obtain ⟨q', y, rfl⟩ : ∃ q' y, q = q' ++ [y] := ⟨q.dropLast, q.getLast (by intro e; rw [e] at c; simp at c), (List.dropLast_concat_getLast _).symm⟩
      have e5 : rd (nI (q' ++ [y] ++ b :: t)) (((q' ++ [y]).length - 1 : Nat) : Int) = (y : Int) := by
        have := rd_nI_mid q' (b :: t) y
        have e6 : q' ++ [y] ++ b :: t = q' ++ y :: b :: t := by simp
        rw [e6, show (q' ++ [y]).length - 1 = q'.length by simp]
        exact this
      have hlt : y < b := by
        have hs := memb_sorted x (l.length - 1)
        rw [← e] at hs
        exact (List.pairwise_append.mp hs).2.2 y (by simp) b (by simp)
      simp only [if_pos c, e4, if_pos (show (0 : Int) ≤ (((q' ++ [y]).length - 1 : Nat) : Int) by omega), if_pos (show (((q' ++ [y]).length - 1 : Nat) : Int) < ((nI (q' ++ [y] ++ b :: t)).length : Int) by rw [nI_len]; simp; omega), e5, if_neg (show ¬ (b : Int) ≤ (y : Int) by omega)]
      exact ih
    · simp only [if_neg c]
      exact ih
theorem patched_j0 (l : List S36) (a : Int) (ha : 0 ≤ a ∧ a ≤ 65535) (b : Bool) (U D : Int) (hb : b = false → dayE l U D = 0) : Ev (fun k => trishawlaw06_TripPatched.j0 k l a b U D) true := by
  refine Ev.succ ?_
  simp only [trishawlaw06_TripPatched.j0]
  cases b
  · have c := hb rfl
    have hR := day_right c
    have h9 := hR.len
    obtain ⟨x, x1, x2, x3, x4⟩ := patch_ex hR
    have w1 := worthI_bound hR
    have w2 := patchI_ok hR
    simp only [Bool.false_eq_true, if_false]
    refine Ev.bind (Patches_ev l U D) (Ev.bind (Gaps_ev l U D) (Ev.bind (Rings_ev l) (Ev.bind (Matching_ev l U D) (Ev.bind (Least_ev l U D) ?_))))
    have p1 : (patchI l U D).1 = nI (memb x (l.length - 1)) := by rw [x3]; rfl
    have p2 : (patchI l U D).2 = gsum l U D x (l.length - 1) := by rw [x3]; rfl
    have q1 : ((patchI l U D).1.length : Int) = wrap64 (((ringsN l).length : Int) - 1) := by
      have := headR_len l l.length
      rw [p1, nI_len, ringsN_len, w64 (by omega) (by omega)]; omega
    have q2 : ((gapsI l U D).length : Int) = wrap64 ((l.length : Int) - 1) := by rw [gapsI_len, w64 (by omega) (by omega)]; omega
    have q3 : (worthI l U D + (patchI l U D).2 != wrap64 (worthI l U D + (patchI l U D).2)) = false := by rw [w64 (by omega) (by omega)]; simp
    simp only [patchR, gapsR, ringsR, matchR, leastR, if_pos c, if_pos (rides_day c), if_true, if_pos q1, if_pos q2, q3]
    refine Ev.succ ?_
    simp only [trishawlaw06_TripPatched.j1, Bool.false_eq_true, if_false]
    have := patched_l0 hR a ha x x1 x2 p2 (memb x (l.length - 1)) [] rfl
    rw [p1]
    exact this
  · simp only [if_true]; exact alive_ev'
theorem TripPatched_ev (l : List S36) (U D a : Int) (hw : (Lit.int .u16 a).wf = true) : Ev (fun k => trishawlaw06_TripPatched.f k l U D a) true := by
  unfold trishawlaw06_TripPatched.f
  have ha := wf16 hw
  simp only [few_nil, Option.bind_some]
  split
  · refine Ev.bind (ref_day l U D) ?_
    exact patched_j0 l a ha _ U D (fun h => by simpa using h)
  · exact patched_j0 l a ha true U D (fun h => by cases h)
end Go.Proofs.Ytlmlneneakpohaa.OAll
