/- A part of the proof of 'tripTurned_holds', for every input, without a condition. -/
import Derived.Test.YtlmlneneakpohaaTTuQl
namespace Go.Proofs.Ytlmlneneakpohaa.OAll
open Go.RowKit Go.Proofs.YtlmlneneakpohaaW.PrintWords Go.Proofs.YtlmlneneakpohaaW.PrintLast Go.Proofs.YtlmlneneakpohaaW.PrintMore
set_option linter.unusedVariables false
set_option linter.unusedSimpArgs false
def memb (s : Nat) (k : Nat) : List Nat := (List.range k).filter (fun j => s.testBit j)
def nI (m : List Nat) : List Int := m.map fun k : Nat => (k : Int)
theorem nI_len (m : List Nat) : (nI m).length = m.length := by simp [nI]
theorem memb_succ (s k : Nat) : memb s (k + 1) = if s.testBit k = true then memb s k ++ [k] else memb s k := by
  unfold memb
  rw [List.range_succ, List.filter_append]
  split
  · rename_i h; simp [h]
  · rename_i h; simp [h]
theorem memb_len (s : Nat) : ∀ k, (memb s k).length ≤ k
  | 0 => by simp [memb]
  | k + 1 => by
    have := memb_len s k
    rw [memb_succ]
    split
    · simp; omega
    · omega
def gsum (l : List S36) (U D : Int) (s k : Nat) : Int := sumL (fun j : Nat => gapAt l U D j) (memb s k)
theorem gsum_succ (l : List S36) (U D : Int) (s k : Nat) : gsum l U D s (k + 1) = if s.testBit k = true then gsum l U D s k + gapAt l U D k else gsum l U D s k := by
  unfold gsum
  rw [memb_succ]
  split
  · rw [sumL_app]; simp only [sumL]; omega
  · rfl
theorem gsum_bound {l : List S36} {U D : Int} (h : Right l U D) (s : Nat) : ∀ k, k + 1 ≤ l.length → 0 ≤ gsum l U D s k ∧ gsum l U D s k ≤ 2000000 * k
  | 0, _ => by simp [gsum, memb, sumL]
  | k + 1, hk => by
    have ih := gsum_bound h s k (by omega)
    have hb := gapAt_bound h (show k + 1 < l.length by omega)
    rw [gsum_succ]
    split <;> omega
theorem gaps_rd {l : List S36} {U D : Int} {k : Nat} (h : k + 1 < l.length) : rd (gapsI l U D) (k : Int) = gapAt l U D k := by
  rw [rd_get (by rw [gapsI_len]; omega)]
  simp [gapsI]
def betB (a b : List Int × Int) : Bool := if a.2 = b.2 then (if a.1.length = b.1.length then lexB a.1 b.1 else decide (a.1.length < b.1.length)) else decide (a.2 < b.2)
theorem before_ev (a b : List Int × Int) (h : a.1.length ≤ 1000) : Ev (fun k => trip_patch_before.f k a.1 a.2 b.1 b.2) (betB a b) := by
  unfold trip_patch_before.f betB
  by_cases c : a.2 = b.2
  · simp only [if_pos c]
    by_cases c2 : a.1.length = b.1.length
    · simp only [if_pos c2, if_pos (show (a.1.length : Int) = (b.1.length : Int) by omega)]
      obtain ⟨r, h1, h2⟩ := compare_ev c2 h
      rw [← h2]
      exact Ev.bind h1 (Ev.pure _)
    · simp only [if_neg c2, if_neg (show ¬ (a.1.length : Int) = (b.1.length : Int) by omega)]
      have : decide (a.1.length < b.1.length) = decide ((a.1.length : Int) < (b.1.length : Int)) := decide_eq_decide.mpr (by omega)
      rw [this]; exact Ev.pure _
  · simp only [if_neg c]; exact Ev.pure _
def cand (l : List S36) (U D : Int) (s : Nat) : List Int × Int := (nI (memb s (l.length - 1)), gsum l U D s (l.length - 1))
def pstep (l : List S36) (U D : Int) (st : Option (List Int × Int)) (s : Nat) : Option (List Int × Int) :=
  if joinB l s = true then (match st with
    | none => some (cand l U D s)
    | some b => if betB (cand l U D s) b = true then some (cand l U D s) else some b) else st
def pfold (l : List S36) (U D : Int) (st : Option (List Int × Int)) (s d : Nat) : Option (List Int × Int) := (List.range' s d).foldl (pstep l U D) st
theorem pfold_succ (l : List S36) (U D : Int) (st : Option (List Int × Int)) (s d : Nat) : pfold l U D st s (d + 1) = pfold l U D (pstep l U D st s) (s + 1) d := by
  unfold pfold; rw [List.range'_succ, List.foldl_cons]
def patchO (l : List S36) (U D : Int) : Option (List Int × Int) := pfold l U D none 0 (2 ^ (l.length - 1))
def StP (st : Option (List Int × Int)) : Prop := ∀ b, st = some b → b.1.length ≤ 1000 ∧ 0 ≤ b.2 ∧ b.2 ≤ 20000000
theorem cand_ok {l : List S36} {U D : Int} (h : Right l U D) (s : Nat) : (cand l U D s).1.length ≤ 1000 ∧ 0 ≤ (cand l U D s).2 ∧ (cand l U D s).2 ≤ 20000000 := by
  have h1 := memb_len s (l.length - 1)
  have h2 := gsum_bound h s (l.length - 1) (by have := h.len; omega)
  have h9 := h.len
  unfold cand
  dsimp only
  rw [nI_len]
  omega
theorem pstep_ok {l : List S36} {U D : Int} (h : Right l U D) (s : Nat) {st : Option (List Int × Int)} (hs : StP st) : StP (pstep l U D st s) := by
  intro b hb
  unfold pstep at hb
  split at hb
  · split at hb
    · obtain rfl := Option.some.inj hb; exact cand_ok h s
    · split at hb
      · obtain rfl := Option.some.inj hb; exact cand_ok h s
      · exact hs _ hb
  · exact hs _ hb
theorem pl2 (x3 x4 x5 : List Int) (x7 : Bool) (x8 a b x29 x30 : Int) (x35 : List Int) (x36 x37 : Int) (bl : List Int) (bs : Int) (pl : List Int) (ps : Int) (r : List Int × Int) : ∀ (t p : List Int), (p ++ t).length ≤ 1000 →
    Ev (fun k => trip_day_patches.l1 k x3 x4 x5 x7 x8 (relab a b (p ++ t)) x29 x30 x35 x36 (wrap64 (x37 + 1)) bl bs pl ps) r →
    Ev (fun k => trip_day_patches.l2 k x3 x4 x5 x7 x8 (relab a b p ++ t) a b x29 x30 x35 x36 x37 ((p ++ t).length : Int) (p.length : Int) bl bs pl ps) r
  | [], p, h, hr => by
    refine Ev.succ ?_
    simp only [trip_day_patches.l2, if_neg (mid_end p)]
    simpa using hr
  | x :: t, p, h, hr => by
    refine Ev.succ ?_
    have e1 := mid_lt p t x
    have e0 : (p.length : Int) = ((relab a b p).length : Int) := by rw [relab_len]
    have e2 : (p.length : Int) < ((relab a b p ++ x :: t).length : Int) := by rw [e0]; exact mid_lt _ t x
    have e3 : rd (relab a b p ++ x :: t) (p.length : Int) = x := by rw [e0]; exact rd_mid _ t x
    have e4 := mid_next p t x (show (p ++ x :: t).length ≤ 9223372036854775807 by omega)
    have e5 : (relab a b p ++ x :: t).set p.length b = relab a b p ++ b :: t := by
      have : p.length = (relab a b p).length := (relab_len a b p).symm
      rw [this, List.set_append_right _ _ (Nat.le_refl _), Nat.sub_self]; rfl
    have ih := pl2 x3 x4 x5 x7 x8 a b x29 x30 x35 x36 x37 bl bs pl ps r t (p ++ [x]) (by simpa using h) (by rw [← mid_assoc]; exact hr)
    rw [← mid_assoc] at ih
    have e6 : relab a b (p ++ [x]) ++ t = relab a b p ++ (if x = a then b else x) :: t := by simp [relab]
    rw [e6] at ih
    simp only [trip_day_patches.l2, if_pos e1, if_pos (nonneg_len p), if_pos e2, e3, e4, Int.toNat_natCast, e5]
    by_cases c : x = a
    · simp only [if_pos c]
      rw [if_pos c] at ih
      exact ih
    · simp only [if_neg c]
      rw [if_neg c] at ih
      exact ih
def seenP (st : Option (List Int × Int)) : Bool × List Int × Int := match st with
  | none => (false, [], 0)
  | some b => (true, b.1, b.2)
theorem bit_zero (s k : Nat) (hs : s < 2 ^ 63) (hk : k ≤ 64) : (Go.bits .and .i64 (shr .i64 (s : Int) (k : Int)) 1 = 0) ↔ ¬ s.testBit k = true := by
  rw [and_bit s hs hk]
  cases s.testBit k <;> simp
theorem pl1 {l : List S36} {U D : Int} (h : Right l U D) (s : Nat) (hs : s < 2 ^ (l.length - 1)) (st : Option (List Int × Int)) (hst : StP st) (N : Int) (r : List Int × Int)
    (hr : Ev (fun k => trip_day_patches.l0 k (gapsI l U D) (sortI true l) (ringI l) (seenP (pstep l U D st s)).1 N (((s + 1 : Nat) : Int)) (seenP (pstep l U D st s)).2.1 (seenP (pstep l U D st s)).2.2) r) : ∀ d k : Nat, k + d + 1 = l.length →
    Ev (fun f => trip_day_patches.l1 f (gapsI l U D) (sortI true l) (ringI l) (seenP st).1 (s : Int) (ownP l s k) N (s : Int) (gapsI l U D) ((gapsI l U D).length : Int) (k : Int) (seenP st).2.1 (seenP st).2.2 (nI (memb s k)) (gsum l U D s k)) r
  | 0, k, e => by
    refine Ev.succ ?_
    have h9 := h.len
    have hs63 : s < 2 ^ 62 := Nat.lt_of_lt_of_le hs (Nat.pow_le_pow_right (by decide) (by omega))
    have hs62 : s < 9223372036854775807 := by
      have : (2 : Nat) ^ 62 = 4611686018427387904 := by decide
      omega
    have hk : k = l.length - 1 := by omega
    have ej : allSame (ownP l s k) = joinB l s := by rw [hk]; exact own_join h9.1 s
    have hlen := ownP_len l s k
    have hmm := minmax (o := ownP l s k) (by omega)
    simp only [trip_day_patches.l1, gapsI_len, if_neg (show ¬ (k : Int) < ((l.length - 1 : Nat) : Int) by omega), w64s s hs62]
    refine Ev.bind (min_ev (by omega) (by omega)) (Ev.bind (max_ev (by omega) (by omega)) ?_)
    unfold pstep at hr
    by_cases c : joinB l s = true
    · have hm : minI (ownP l s k) = maxI (ownP l s k) := hmm.mpr (by rw [ej]; exact c)
      simp only [if_pos hm]
      rw [if_pos c] at hr
      have ec : (nI (memb s k), gsum l U D s k) = cand l U D s := by rw [hk]; rfl
      cases st with
      | none =>
        simp only [seenP, Bool.false_eq_true, if_false]
        simp only [seenP] at hr
        rw [← ec] at hr
        exact hr
      | some b =>
        simp only [seenP, if_true]
        simp only [] at hr
        have hb := before_ev (nI (memb s k), gsum l U D s k) b (by rw [ec]; exact (cand_ok h s).1)
        refine Ev.bind hb ?_
        rw [ec]
        by_cases c2 : betB (cand l U D s) b = true
        · rw [if_pos c2] at hr
          simp only [if_pos c2]
          simp only [seenP] at hr
          rw [← ec] at hr
          exact hr
        · rw [if_neg c2] at hr
          simp only [if_neg c2]
          simp only [seenP] at hr
          exact hr
    · have hm : ¬ minI (ownP l s k) = maxI (ownP l s k) := fun e2 => c (by rw [← ej]; exact hmm.mp e2)
      simp only [if_neg hm]
      rw [if_neg c] at hr
      exact hr
  | d + 1, k, e => by
    refine Ev.succ ?_
    have h9 := h.len
    have hk : k + 1 < l.length := by omega
    have hs62 : s < 2 ^ 63 := Nat.lt_of_lt_of_le hs (Nat.pow_le_pow_right (by decide) (by omega))
    have ih := pl1 h s hs st hst N r hr d (k + 1) (by omega)
    have hbz := bit_zero s k hs62 (by omega)
    simp only [trip_day_patches.l1, gapsI_len, if_pos (show (k : Int) < ((l.length - 1 : Nat) : Int) by omega), if_pos (show (0 : Int) ≤ (k : Int) by omega), w64s k (show k < 9223372036854775807 by omega)]
    rw [gapsI_len] at ih
    by_cases c : s.testBit k = true
    · rw [ownP, if_pos c, memb_succ, if_pos c, gsum_succ, if_pos c] at ih
      have t0 := tN_rd (show k < l.length by omega)
      have t1 := tN_rd hk
      have hm := memb_len s k
      have hb := gsum_bound h s k (by omega)
      have hg := gapAt_bound h hk
      have hlen := ownP_len l s k
      have ew : wrap64 (gsum l U D s k + gapAt l U D k) = gsum l U D s k + gapAt l U D k := w64 (by omega) (by omega)
      have en : nI (memb s k) ++ [(k : Int)] = nI (memb s k ++ [k]) := by simp [nI]
      simp only [if_neg (fun e2 => hbz.mp e2 c), nI_len, if_pos (show (memb s k).length < 17592186044416 by omega), sortI_len, if_pos (show (k : Int) < (l.length : Int) by omega), t0.1, t1.1, hlen, if_pos (show (0 : Int) ≤ (tN l k : Int) by omega), if_pos (show (tN l k : Int) < (l.length : Int) by have := t0.2; omega), if_pos (show (0 : Int) ≤ ((k + 1 : Nat) : Int) by omega), if_pos (show ((k + 1 : Nat) : Int) < (l.length : Int) by omega), if_pos (show (0 : Int) ≤ (tN l (k + 1) : Int) by omega), if_pos (show (tN l (k + 1) : Int) < (l.length : Int) by have := t1.2; omega), gaps_rd hk, ew, en]
      have := pl2 (gapsI l U D) (sortI true l) (ringI l) (seenP st).1 (s : Int) (rd (ownP l s k) (tN l k : Int)) (rd (ownP l s k) (tN l (k + 1) : Int)) N (s : Int) (gapsI l U D) ((l.length - 1 : Nat) : Int) (k : Int) (seenP st).2.1 (seenP st).2.2 (nI (memb s k ++ [k])) (gsum l U D s k + gapAt l U D k) r (ownP l s k) [] (by simp; omega) (by rw [w64s k (by omega)]; simpa using ih)
      simpa [relab, hlen] using this
    · rw [ownP, if_neg c, memb_succ, if_neg c, gsum_succ, if_neg c] at ih
      simp only [if_pos (hbz.mpr c)]
      exact ih
theorem pl0 {l : List S36} {U D : Int} (h : Right l U D) : ∀ (d s : Nat) (st : Option (List Int × Int)), s + d = 2 ^ (l.length - 1) → StP st →
    Ev (fun k => trip_day_patches.l0 k (gapsI l U D) (sortI true l) (ringI l) (seenP st).1 ((2 ^ (l.length - 1) : Nat) : Int) (s : Int) (seenP st).2.1 (seenP st).2.2) (seenP (pfold l U D st s d)).2
  | 0, s, st, e, hst => by
    refine Ev.succ ?_
    simp only [trip_day_patches.l0, if_neg (show ¬ (s : Int) < ((2 ^ (l.length - 1) : Nat) : Int) by omega)]
    exact Ev.pure _
  | d + 1, s, st, e, hst => by
    refine Ev.succ ?_
    have h9 := h.len
    rw [pfold_succ]
    have ih := pl0 h d (s + 1) (pstep l U D st s) (by omega) (pstep_ok h s hst)
    have ec : slices_Clone_int_int.f (ringI l) = some (ringI l) := by
      unfold slices_Clone_int_int.f; rw [if_pos (by simp [ringI_len]; omega)]
    simp only [trip_day_patches.l0, if_pos (show (s : Int) < ((2 ^ (l.length - 1) : Nat) : Int) by omega), ec, Option.bind_some]
    exact pl1 h s (by omega) st hst _ _ ih (l.length - 1) 0 (by omega)
theorem patches_ev {l : List S36} {U D : Int} (h : Right l U D) : Ev (fun k => trip_day_patches.f k U D l) (seenP (patchO l U D)).2 := by
  unfold trip_day_patches.f
  have h9 := h.len
  refine Ev.bind (dgaps_ev h) ?_
  simp only [(sorted_eq h _).1, Option.bind_some]
  refine Ev.bind (rings_ev h) ?_
  simp only [gapsI_len, shl_pow (show l.length - 1 ≤ 62 by omega)]
  exact pl0 h (2 ^ (l.length - 1)) 0 none (by omega) (fun b hb => by cases hb)
end Go.Proofs.Ytlmlneneakpohaa.OAll
