/- A part of the proof of 'fetchStrong_holds', for every input, without a condition. -/
import Derived.Test.YtjbfbdanbpfplaaSTQu
import Derived.Test.YtjbfbdanbpfplaaSTQe
import Derived.Test.YtjbfbdanbpfplaaSTOAllx26
namespace Go.Proofs.Ytjbfbdanbpfplaa.OAll
open Go.RowKit Go.Proofs.YtjbfbdanbpfplaaW.PrintWords Go.Proofs.YtjbfbdanbpfplaaW.PrintLast Go.Proofs.YtjbfbdanbpfplaaW.PrintMore
set_option linter.unusedVariables false
set_option linter.unusedSimpArgs false
theorem rstrong_l0 {n : Nat} {st : List S34} (hs : Sane n st) : ∀ e c : Nat, c + e = n → (∀ d, d < c → reachN n st d = 2 ^ n - 1) →
    Ev (fun k => trishawref09_IsStrong.l0 k n st c) (decide (∀ d, d < n → reachN n st d = 2 ^ n - 1))
  | 0, c, hc, h => by
    refine Ev.succ ?_
    simp only [trishawref09_IsStrong.l0, if_neg (show ¬ (c : Int) < (n : Int) by omega)]
    rw [decide_eq_true (fun d hd => h d (by omega))]
    exact Ev.pure _
  | e + 1, c, hc, h => by
    refine Ev.succ ?_
    have h7 := hs.1
    have hcn : c < n := by omega
    have hp := pow_small (show n ≤ 62 by omega)
    have h1 : 1 ≤ 2 ^ n := Nat.one_le_two_pow
    have e1 : wrap64 (wrap64 (2 ^ n) - 1) = ((2 ^ n - 1 : Nat) : Int) := by
      rw [w64pow (show n ≤ 62 by omega), show (((2 ^ n : Nat) : Int) - 1) = ((2 ^ n - 1 : Nat) : Int) by omega, w64n _ (by omega)]
    simp only [trishawref09_IsStrong.l0, if_pos (show (c : Int) < (n : Int) by omega)]
    refine Ev.bind (rreached_ev hs hcn) ?_
    simp only [if_pos (Int.natCast_nonneg n), if_pos (show (n : Int) ≤ 64 by omega), Int.toNat_natCast, e1, w64s c (show c < 9223372036854775807 by omega)]
    by_cases hr : reachN n st c = 2 ^ n - 1
    · simp only [if_pos (show ((reachN n st c : Nat) : Int) = ((2 ^ n - 1 : Nat) : Int) by rw [hr])]
      refine rstrong_l0 hs e (c + 1) (by omega) (fun d hd => ?_)
      by_cases hdc : d = c
      · subst hdc; exact hr
      · exact h d (by omega)
    · simp only [if_neg (show ¬ ((reachN n st c : Nat) : Int) = ((2 ^ n - 1 : Nat) : Int) by omega)]
      rw [decide_eq_false (fun hall => hr (hall c hcn))]
      exact Ev.pure _
theorem rstrong_ev (a : Int) (st : List S34) : Ev (fun k => trishawref09_Strong.f k a st) (if codeN a st = 0 then (((partsN a.toNat st).length : Int) == 1, 0) else (false, codeN a st)) := by
  unfold trishawref09_Strong.f
  refine Ev.bind (quarter_ev a st) ?_
  by_cases h : codeN a st = 0
  · simp only [h, if_true]
    obtain ⟨hs, h2, ha, _⟩ := code_sane h
    have := rstrong_l0 hs a.toNat 0 (by omega) (fun d hd => by omega)
    rw [ha] at this
    have e : decide (∀ d, d < a.toNat → reachN a.toNat st d = 2 ^ a.toNat - 1) = (((partsN a.toNat st).length : Int) == 1) := by
      rw [Bool.eq_iff_iff, decide_eq_true_eq, beq_iff_eq, reach_cut hs, ← parts_cut hs (by omega)]
      omega
    rw [e] at this
    unfold trishawref09_IsStrong.f
    exact Ev.bind this (Ev.pure _)
  · simp only [h, if_false]
    exact Ev.pure _
theorem ropened_l0 (st : List S34) (l : List Int) (hl : l.length < 9223372036854775807) : ∀ (suf pre : List Int) (out : List S34), l = pre ++ suf → (∀ v ∈ suf, 0 ≤ v ∧ v < st.length) → out.length + suf.length ≤ 14 →
    Ev (fun k => trishawref09_Opened.l0 k st l out pre.length) (out ++ suf.map fun i => turnS (stAt st i)) := by
  intro suf
  induction suf with
  | nil =>
    intro pre out e hv ho
    have e3 : ¬ (pre.length : Int) < (l.length : Int) := by rw [e]; simp
    refine Ev.succ ?_
    simp only [trishawref09_Opened.l0, e3, if_false, List.map_nil, List.append_nil]
    exact Ev.pure _
  | cons x t ih =>
    intro pre out e hv ho
    have e3 : (pre.length : Int) < (l.length : Int) := by rw [e]; simp; omega
    have hiw : pre.length < 9223372036854775807 := by omega
    have r1 : rd l (pre.length : Int) = x := by rw [e]; exact rd_mid pre t x
    have hx := hv x (List.mem_cons_self)
    simp only [List.length_cons] at ho
    have hol : out.length < 8796093022208 := by omega
    have := ih (pre ++ [x]) (out ++ [turnS (stAt st x)]) (by rw [e]; simp) (fun v h => hv v (List.mem_cons_of_mem _ h)) (by simp; omega)
    rw [List.length_append, List.append_assoc] at this
    refine Ev.succ ?_
    simp only [trishawref09_Opened.l0, e3, if_true, Int.natCast_nonneg, r1, hx.1, hx.2, hol, w64s _ hiw]
    exact this
theorem rboth_ev (a : Int) (st : List S34) (l : List Int) (hl : l.length ≤ 1000) : Ev (fun k => trishawref09_Both.f k a st l) (if codeN a st = 0 then bothR st l else ([], codeN a st)) := by
  unfold trishawref09_Both.f
  refine Ev.bind (quarter_ev a st) ?_
  by_cases h : codeN a st = 0
  · simp only [h, if_true]
    obtain ⟨hs, _, ha, _⟩ := code_sane h
    have h14 := hs.2.1
    have hlw : l.length < 9223372036854775807 := by omega
    have s1 : ((st.length : Int) + (l.length : Int)) = ((st.length + l.length : Nat) : Int) := by omega
    have s2 : st.length + l.length ≤ 9223372036854775807 := by omega
    rw [s1, w64n _ s2]
    unfold bothR
    by_cases h1 : 14 < st.length + l.length
    · have h1' : ((st.length + l.length : Nat) : Int) > 14 := by omega
      simp only [h1, h1', if_true]; exact Ev.pure _
    · have h1' : ¬ ((st.length + l.length : Nat) : Int) > 14 := by omega
      simp only [h1, h1', if_false]
      refine Ev.bind (set_ev hs l hlw) ?_
      cases hx : ascN st.length (-1) 0 l with
      | none => simp only [ascR, Bool.false_eq_true, if_false, Option.isSome_none]; exact Ev.pure _
      | some X =>
        simp only [ascR, if_true, Option.isSome_some]
        unfold trishawref09_Opened.f
        simp only [List.length_nil, Nat.zero_add, if_pos (show st.length < 8796093022208 by omega), List.nil_append]
        exact Ev.bind (ropened_l0 st l hlw l [] st rfl (asc_range l _ _ X hx) (by omega)) (Ev.pure _)
  · simp only [h, if_false]
    exact Ev.pure _
theorem rparts_l1 {n : Nat} {st : List S34} (hs : Sane n st) (out : List (List Int)) (done c : Nat) (hc : c < n) (r : List (List Int) × Int)
    (next : Ev (fun k => (trishawref09_Members.f k ((clsN n st c : Nat) : Int)).bind fun t624 => (if out.length < 5864062014805 then (trishawref09_Parts.l0 k n st (out ++ [t624]) (Go.bits .or .i64 (done : Int) ((clsN n st c : Nat) : Int)) (wrap64 ((c : Int) + 1))) else (none))) r) : ∀ (e d : Nat), d + e = n →
    Ev (fun k => trishawref09_Parts.l1 k n st out done c ((bitsOf (clsP n st c) d : Nat) : Int) d) r := by
  have h7 := hs.1
  have c64 : (c : Int) ≤ 64 := by omega
  intro e
  induction e with
  | zero =>
    intro d hd
    obtain rfl : d = n := by omega
    have e3 : ¬ (d : Int) < (d : Int) := by omega
    refine Ev.succ ?_
    simp only [trishawref09_Parts.l1, e3, if_false]
    exact next
  | succ e ih =>
    intro d hd
    have hdn : d < n := by omega
    have e3 : (d : Int) < (n : Int) := by omega
    have d64 : (d : Int) ≤ 64 := by omega
    have d62 : d ≤ 62 := by omega
    have hdw : d < 9223372036854775807 := by omega
    have hp := pow_small d62
    have hb := bitsOf_lt (clsP n st c) d
    have hor : bitsOf (clsP n st c) d ||| 2 ^ d = bitsOf (clsP n st c) d + 2 ^ d := by
      have h2 := Nat.two_pow_add_eq_or_of_lt hb 1
      rw [Nat.mul_one] at h2
      rw [Nat.or_comm, ← h2, Nat.add_comm]
    have hw : wrap64 (((bitsOf (clsP n st c) d : Nat) : Int) + ((2 ^ d : Nat) : Int)) = ((bitsOf (clsP n st c) d ||| 2 ^ d : Nat) : Int) := by
      rw [hor, ← Int.natCast_add, w64n]; omega
    have ih' := ih (d + 1) (by omega)
    rw [bitsOf, clsP] at ih'
    refine Ev.succ ?_
    simp only [trishawref09_Parts.l1, e3, if_true]
    refine Ev.bind (rreached_ev hs hc) ?_
    simp only [Int.natCast_nonneg, d64, c64, if_true, Int.toNat_natCast, bit_mod, w64s d hdw, w64pow d62, hw]
    cases h0 : (reachN n st c).testBit d
    · rw [h0] at ih'
      simp only [Bool.false_eq_true, if_false, Int.zero_ne_one]
      exact ih'
    · rw [h0] at ih'
      simp only [if_true]
      refine Ev.bind (rreached_ev hs hdn) ?_
      simp only [bit_mod]
      cases h1 : (reachN n st d).testBit c
      · rw [h1] at ih'
        simp only [Bool.false_eq_true, if_false, Int.zero_ne_one]
        exact ih'
      · rw [h1] at ih'
        simp only [if_true]
        exact ih'
theorem rparts_l0 {n : Nat} {st : List S34} (hs : Sane n st) : ∀ (e c : Nat) (out : List (List Nat)) (done : Nat), c + e = n → out.length ≤ c → done < 2 ^ n →
    Ev (fun k => trishawref09_Parts.l0 k n st (intss out) done c) (intss (partsL n st e c out done), 0) := by
  have h7 := hs.1
  have hp7 : (2 : Nat) ^ n ≤ 2 ^ 7 := Nat.pow_le_pow_right (by decide) h7
  intro e
  induction e with
  | zero =>
    intro c out done hc ho hd
    have e3 : ¬ (c : Int) < (n : Int) := by omega
    refine Ev.succ ?_
    simp only [trishawref09_Parts.l0, e3, if_false]
    exact Ev.pure _
  | succ e ih =>
    intro c out done hc ho hd
    have hcn : c < n := by omega
    have e3 : (c : Int) < (n : Int) := by omega
    have c64 : (c : Int) ≤ 64 := by omega
    have hcw : c < 9223372036854775807 := by omega
    have hd3 : done < 2 ^ 63 := by omega
    have hcl := clsN_lt (n := n) (st := st) c
    have hcl3 : clsN n st c < 2 ^ 63 := by omega
    refine Ev.succ ?_
    simp only [trishawref09_Parts.l0, e3, if_true, Int.natCast_nonneg, c64, Int.toNat_natCast, bit_mod, w64s c hcw]
    rw [partsL]
    cases hb : done.testBit c
    · simp only [Bool.false_eq_true, if_false, Int.zero_ne_one]
      refine rparts_l1 hs (intss out) done c hcn _ ?_ n 0 (by omega)
      refine Ev.bind (members_ev _) ?_
      have hl : (intss out).length < 5864062014805 := by rw [intss, List.length_map]; omega
      simp only [hl, if_true, or_nat _ _ hd3 hcl3, w64s c hcw]
      have := ih (c + 1) (out ++ [bitsN (clsN n st c)]) (done ||| clsN n st c) (by omega) (by simp; omega) (Nat.or_lt_two_pow hd hcl)
      rw [show intss (out ++ [bitsN (clsN n st c)]) = intss out ++ [ints (bitsN (clsN n st c))] from by simp [intss]] at this
      exact this
    · simp only [if_true]
      exact ih (c + 1) out done (by omega) (by omega) hd
def partsR (a : Int) (st : List S34) : List (List Int) × Int := if codeN a st = 0 then (intss (partsN a.toNat st), 0) else ([], codeN a st)
theorem rparts_ev (a : Int) (st : List S34) : Ev (fun k => trishawref09_Parts.f k a st) (partsR a st) := by
  unfold trishawref09_Parts.f partsR
  refine Ev.bind (quarter_ev a st) ?_
  by_cases h : codeN a st = 0
  · simp only [h, if_true]
    obtain ⟨hs, _, ha, _⟩ := code_sane h
    have := rparts_l0 hs a.toNat 0 [] 0 (by omega) (by simp) (Nat.two_pow_pos _)
    rw [ha] at this
    exact this
  · simp only [h, if_false]
    exact Ev.pure _
theorem partsL_rows {n : Nat} {st : List S34} : ∀ (e c : Nat) (out : List (List Nat)) (done : Nat), c + e = n → ∀ r ∈ partsL n st e c out done, r ∈ out ∨ ∃ d, d < n ∧ r = bitsN (clsN n st d)
  | 0, c, out, done, _, r, hr => .inl hr
  | e + 1, c, out, done, hc, r, hr => by
    rw [partsL] at hr
    split at hr
    · exact partsL_rows e (c + 1) out done (by omega) r hr
    · rcases partsL_rows e (c + 1) _ _ (by omega) r hr with h | h
      · rcases List.mem_append.mp h with h | h
        · exact .inl h
        · simp only [List.mem_singleton] at h
          exact .inr ⟨c, by omega, h⟩
      · exact .inr h
theorem row_ok {n : Nat} {st : List S34} (hs : Sane n st) {r : List Nat} (hr : r ∈ partsN n st) : 0 < r.length ∧ r.length ≤ 30 := by
  have h7 := hs.1
  rcases partsL_rows n 0 [] 0 (by omega) r hr with h | ⟨d, hd, rfl⟩
  · simp at h
  · have hlt := clsN_lt (n := n) (st := st) d
    have hp7 : (2 : Nat) ^ n ≤ 2 ^ 7 := Nat.pow_le_pow_right (by decide) h7
    refine ⟨?_, by have := bitsN_len hlt; omega⟩
    have hb : (clsN n st d).testBit d = true := by
      rw [clsN, bitsOf_bit, decide_eq_true hd, clsP, (reachN_rch hs hd).1.has]
      rfl
    exact List.length_pos_of_mem ((bitsN_mem (by omega)).mpr hb)
theorem rdL1_set {x : List (List Int)} {j k : Nat} (hne : j ≠ k) (v : List Int) : rd_L1 (x.set j v) (k : Int) = rd_L1 x (k : Int) := by
  unfold rd_L1
  rw [Int.toNat_natCast, List.getD_eq_getElem?_getD, List.getD_eq_getElem?_getD, List.getElem?_set_ne hne]
theorem strong_l2 (a : Int) (st : List S34) (e : Int) (y : List (List Int)) (hy : ∀ r ∈ y, 0 < r.length ∧ r.length ≤ 30) (hyl : y.length ≤ 1000) (t : Nat) (ht : t < 2) (hr : Ev (fun k => trishawlaw09_FetchStrong.l1 k a st e y ((t + 1 : Nat) : Int)) true) : ∀ (d j : Nat) (x : List (List Int)), j + d = y.length → x.length = y.length → (∀ k, j ≤ k → rd_L1 x (k : Int) = rd_L1 y (k : Int)) →
    Ev (fun k => trishawlaw09_FetchStrong.l2 k a st e y (t : Int) x (j : Int)) true
  | 0, j, x, ej, hx, h => by
    refine Ev.succ ?_
    simp only [trishawlaw09_FetchStrong.l2, if_neg (show ¬ (j : Int) < (x.length : Int) by omega), w64s t (show t < 9223372036854775807 by omega)]
    exact hr
  | d + 1, j, x, ej, hx, h => by
    refine Ev.succ ?_
    have hj : j < y.length := by omega
    have e0 : rd_L1 y (j : Int) = y[j] := by
      unfold rd_L1
      rw [Int.toNat_natCast, List.getD_eq_getElem?_getD, List.getElem?_eq_getElem hj]; rfl
    have hrow := hy _ (List.getElem_mem hj)
    rw [← e0] at hrow
    have e1 : rd_L1 x (j : Int) = rd_L1 y (j : Int) := h j (Nat.le_refl _)
    simp only [trishawlaw09_FetchStrong.l2, if_pos (show (j : Int) < (x.length : Int) by omega), if_pos (show (0 : Int) ≤ (j : Int) by omega), if_pos (show (j : Int) < (y.length : Int) by omega), e1]
    refine Ev.bind (same_ev rfl (by omega)) ?_
    simp only [if_true, if_pos (show (0 : Int) < ((rd_L1 y (j : Int)).length : Int) by omega), w64s j (show j < 9223372036854775807 by omega), Int.toNat_natCast]
    exact strong_l2 a st e y hy hyl t ht hr d (j + 1) _ (by omega) (by rw [List.length_set]; exact hx) (fun k hk => by rw [rdL1_set (by omega)]; exact h k (by omega))
theorem partsR_rows (a : Int) (st : List S34) : (∀ r ∈ (partsR a st).1, 0 < r.length ∧ r.length ≤ 30) ∧ (partsR a st).1.length ≤ 1000 := by
  unfold partsR
  by_cases h : codeN a st = 0
  · rw [if_pos h]
    obtain ⟨hs, _, ha, _⟩ := code_sane h
    have h7 := hs.1
    refine ⟨fun r hr => ?_, ?_⟩
    · obtain ⟨q, hq, rfl⟩ := List.mem_map.mp hr
      have := row_ok hs hq
      rw [ints_len]; exact this
    · show (intss (partsN a.toNat st)).length ≤ 1000
      rw [intss, List.length_map]
      have hlen : ∀ (e c : Nat) (out : List (List Nat)) (done : Nat), (partsL a.toNat st e c out done).length ≤ out.length + e := by
        intro e
        induction e with
        | zero => intro c out done; exact Nat.le_refl _
        | succ e ih =>
          intro c out done
          rw [partsL]
          split
          · have := ih (c + 1) out done; omega
          · have := ih (c + 1) (out ++ [bitsN (clsN a.toNat st c)]) (done ||| clsN a.toNat st c)
            simp at this; omega
      have := hlen a.toNat 0 [] 0
      simp at this
      unfold partsN
      omega
  · rw [if_neg h]; simp
theorem strong_l1 (a : Int) (st : List S34) : ∀ d t : Nat, t + d = 2 → Ev (fun k => trishawlaw09_FetchStrong.l1 k a st (partsR a st).2 (partsR a st).1 (t : Int)) true
  | 0, t, e => by
    refine Ev.succ ?_
    simp only [trishawlaw09_FetchStrong.l1, if_neg (show ¬ (t : Int) < 2 by omega)]
    exact alive_ev'
  | d + 1, t, e => by
    refine Ev.succ ?_
    have ih := strong_l1 a st d (t + 1) (by omega)
    have hrows := partsR_rows a st
    simp only [trishawlaw09_FetchStrong.l1, if_pos (show (t : Int) < 2 by omega)]
    have hp : Ev (fun k => fetch_Parts.f k a st) (partsR a st) := fetch_Parts_ev a st
    refine Ev.bind hp ?_
    simp only [if_true, bne_self_eq_false]
    refine Ev.succ ?_
    simp only [trishawlaw09_FetchStrong.j4, Bool.false_eq_true, if_false]
    exact strong_l2 a st _ _ hrows.1 hrows.2 t (by omega) ih (partsR a st).1.length 0 _ (by omega) rfl (fun _ _ => rfl)
theorem strong_l0 (a : Int) (st x : List S34) (hx : x.length ≤ 2000) : ∀ t p : List S34, p ++ t = x → Ev (fun k => trishawlaw09_FetchStrong.l0 k a st x x (p.length : Int)) true
  | [], p, e => by
    refine Ev.succ ?_
    have : p.length = x.length := by rw [← e]; simp
    simp only [trishawlaw09_FetchStrong.l0, if_neg (show ¬ (p.length : Int) < (x.length : Int) by omega)]
    refine Ev.bind (rparts_ev a st) ?_
    exact strong_l1 a st 2 0 rfl
  | s :: t, p, e => by
    refine Ev.succ ?_
    have h1 : (p.length : Int) < (x.length : Int) := by rw [← e]; simp; omega
    have ih := strong_l0 a st x hx t (p ++ [s]) (by rw [← e]; simp)
    have e2 : wrap64 ((p.length : Int) + 1) = (((p ++ [s]).length : Nat) : Int) := by rw [w64s p.length (by omega)]; simp
    simp only [trishawlaw09_FetchStrong.l0, if_pos h1, if_pos (Int.natCast_nonneg p.length), beq_self_eq_true, Bool.not_true, Bool.or_self, Bool.false_eq_true, if_false, e2]
    exact ih
theorem FetchStrong_ev (a : Int) (st : List S34) (l : List Int) : Ev (fun k => trishawlaw09_FetchStrong.f k a st l) true := by
  unfold trishawlaw09_FetchStrong.f
  simp only [few_eq, Option.bind_some]
  by_cases cf : (if (st.length : Int) ≤ 40 then decide ((l.length : Int) ≤ 60) else false) = true
  · have hl : (st.length : Int) ≤ 40 ∧ (l.length : Int) ≤ 60 := by
      split at cf
      · exact ⟨by assumption, of_decide_eq_true cf⟩
      · cases cf
    simp only [if_pos cf]
    refine Ev.bind (fetch_Strong_ev a st) (Ev.bind (rstrong_ev a st) ?_)
    simp only [bne_self_eq_false, Bool.false_eq_true, if_false]
    refine Ev.succ ?_
    simp only [trishawlaw09_FetchStrong.j0, Bool.false_eq_true, if_false]
    refine Ev.bind (fetch_Both_ev a st l (by omega)) (Ev.bind (rboth_ev a st l (by omega)) ?_)
    simp only [if_true, bne_self_eq_false]
    refine Ev.succ ?_
    simp only [trishawlaw09_FetchStrong.j1, Bool.false_eq_true, if_false]
    refine strong_l0 a st _ ?_ _ [] rfl
    by_cases h : codeN a st = 0
    · rw [if_pos h]
      unfold bothR
      split
      · simp
      · split
        · simp only [bothN, List.length_append, List.length_map]; omega
        · simp
    · rw [if_neg h]; simp
  · simp only [if_neg cf]
    exact alive_ev'
end Go.Proofs.Ytjbfbdanbpfplaa.OAll
