/- A part of the proof of 'fetchCrossed_holds', for every input, without a condition. -/
import Derived.Test.YtjbfbdanbpfplaaSXQj
import Derived.Test.YtjbfbdanbpfplaaSXQk
import Derived.Test.YtjbfbdanbpfplaaSXOAllx17
namespace Go.Proofs.Ytjbfbdanbpfplaa.OAll
open Go.RowKit Go.Proofs.YtjbfbdanbpfplaaW.PrintWords Go.Proofs.YtjbfbdanbpfplaaW.PrintLast Go.Proofs.YtjbfbdanbpfplaaW.PrintMore
set_option linter.unusedVariables false
set_option linter.unusedSimpArgs false
theorem tmod_nat2 (a : Nat) {l : Nat} (h : 0 < l) : Int.tmod (a : Int) (l : Int) = ((a % l : Nat) : Int) := by
  rw [Int.tmod_eq_emod_of_nonneg (Int.natCast_nonneg _)]; omega
theorem wf8b {x : Int} (h : (Lit.int .u8 x).wf = true) : 0 ≤ x ∧ x ≤ 255 := by
  have h1 : IntKind.u8.min = 0 := by decide
  have h2 : IntKind.u8.max = 255 := by decide
  simp [Lit.wf, h1, h2] at h
  omega
structure SmallOk (st : List S34) (p : List Nat) (m w : Nat) : Prop where
  cnt : m = cntN st w
  mem : w ∈ p
  low : ∀ c ∈ p, m ≤ cntN st c
  first : ∀ c ∈ p, cntN st c = m → w ≤ c
theorem small_fold (st : List S34) : ∀ (suf pre : List Nat) (m w : Nat), (pre ++ suf).Pairwise (· < ·) → SmallOk st pre m w → ∃ m' w', suf.foldl (smallS st) (some (m, w)) = some (m', w') ∧ SmallOk st (pre ++ suf) m' w'
  | [], pre, m, w, _, h => ⟨m, w, rfl, by rw [List.append_nil]; exact h⟩
  | x :: t, pre, m, w, hp, h => by
    have hlt : ∀ c ∈ pre, c < x := fun c hc => (List.pairwise_append.mp hp).2.2 c hc x (List.mem_cons_self)
    have hp' : ((pre ++ [x]) ++ t).Pairwise (· < ·) := by rw [List.append_assoc]; exact hp
    rw [List.foldl_cons]
    by_cases hx : cntN st x < m
    · have e : smallS st (some (m, w)) x = some (cntN st x, x) := if_pos hx
      have hok : SmallOk st (pre ++ [x]) (cntN st x) x := by
        refine ⟨rfl, by simp, fun c hc => ?_, fun c hc he => ?_⟩
        · rcases List.mem_append.mp hc with h' | h'
          · have := h.low c h'; omega
          · rw [List.mem_singleton.mp h']; exact Nat.le_refl _
        · rcases List.mem_append.mp hc with h' | h'
          · have := h.low c h'; omega
          · rw [List.mem_singleton.mp h']; exact Nat.le_refl _
      obtain ⟨m', w', h1, h2⟩ := small_fold st t (pre ++ [x]) _ _ hp' hok
      rw [List.append_assoc] at h2
      exact ⟨m', w', by rw [e]; exact h1, h2⟩
    · have e : smallS st (some (m, w)) x = some (m, w) := if_neg hx
      have hok : SmallOk st (pre ++ [x]) m w := by
        refine ⟨h.cnt, List.mem_append_left _ h.mem, fun c hc => ?_, fun c hc he => ?_⟩
        · rcases List.mem_append.mp hc with h' | h'
          · exact h.low c h'
          · rw [List.mem_singleton.mp h']; omega
        · rcases List.mem_append.mp hc with h' | h'
          · exact h.first c h' he
          · rw [List.mem_singleton.mp h']; exact Nat.le_of_lt (hlt w h.mem)
      obtain ⟨m', w', h1, h2⟩ := small_fold st t (pre ++ [x]) _ _ hp' hok
      rw [List.append_assoc] at h2
      exact ⟨m', w', by rw [e]; exact h1, h2⟩
theorem cutsN_pairwise (n : Nat) (st : List S34) : (cutsN n st).Pairwise (· < ·) := List.Pairwise.filter _ List.pairwise_lt_range
theorem smallN_spec (n : Nat) (st : List S34) : (cutsN n st = [] ∧ smallN n st = none) ∨ ∃ m w, smallN n st = some (m, w) ∧ SmallOk st (cutsN n st) m w := by
  have hp := cutsN_pairwise n st
  unfold smallN
  cases hc : cutsN n st with
  | nil => exact Or.inl ⟨rfl, rfl⟩
  | cons x t =>
    rw [hc] at hp
    right
    exact small_fold st t [x] (cntN st x) x hp ⟨rfl, by simp, fun c h => by rw [List.mem_singleton.mp h]; exact Nat.le_refl _, fun c h _ => by rw [List.mem_singleton.mp h]; exact Nat.le_refl _⟩
theorem asc_mem {m : Nat} : ∀ (l : List Int) (prev : Int) (acc X j : Nat), ascN m prev acc l = some X → X.testBit j = true → acc.testBit j = true ∨ (j : Int) ∈ l
  | [], prev, acc, X, j, h, hj => by obtain rfl := Option.some.inj h; exact Or.inl hj
  | v :: t, prev, acc, X, j, h, hj => by
    rw [ascN] at h
    by_cases c : v < 0 ∨ v ≥ (m : Int) ∨ v ≤ prev
    · rw [if_pos c] at h; cases h
    · rw [if_neg c] at h
      rcases asc_mem t v _ X j h hj with h' | h'
      · rw [Nat.testBit_or, Bool.or_eq_true, Nat.testBit_two_pow, decide_eq_true_eq] at h'
        rcases h' with h' | h'
        · exact Or.inl h'
        · right
          have : (j : Int) = v := by omega
          rw [this]; exact List.mem_cons_self
      · exact Or.inr (List.mem_cons_of_mem _ h')
theorem crossed_l2 (l2 : List Int) (hl2 : l2.length < 9223372036854775807) (c : List Nat) (hc : c.length ≤ 30) (i : Nat) (hi : i < c.length) : ∀ (d j : Nat), j + d = l2.length → ((∃ q, j ≤ q ∧ ∃ h : q < l2.length, l2[q] = ((c[i] : Nat) : Int)) ∨ Ev (fun k => trishawlaw09_FetchCrossed.l1 k l2 (ints c) ((i + 1 : Nat) : Int)) true) →
    Ev (fun k => trishawlaw09_FetchCrossed.l2 k l2 (ints c) i j) true := by
  have hiw : i < 9223372036854775807 := by omega
  have e4 : (i : Int) < ((ints c).length : Int) := by rw [ints_len]; omega
  intro d
  induction d with
  | zero =>
    intro j hj h
    have e3 : ¬ (j : Int) < (l2.length : Int) := by omega
    refine Ev.succ ?_
    simp only [trishawlaw09_FetchCrossed.l2, e3, if_false, w64s i hiw]
    exact h.elim (fun ⟨q, h1, h2, _⟩ => by omega) id
  | succ d ih =>
    intro j hj h
    have e3 : (j : Int) < (l2.length : Int) := by omega
    have hjl : j < l2.length := by omega
    have hjw : j < 9223372036854775807 := by omega
    have r1 : rd l2 (j : Int) = l2[j] := by simp [rd, hjl]
    refine Ev.succ ?_
    simp only [trishawlaw09_FetchCrossed.l2, e3, e4, if_true, Int.natCast_nonneg, r1, rd_ints _ _ hi, w64s j hjw]
    by_cases he : l2[j] = ((c[i] : Nat) : Int)
    · simp only [he, if_true]; exact alive_ev'
    · simp only [he, if_false]
      refine ih (j + 1) (by omega) (h.imp (fun ⟨q, h1, h2, h3⟩ => ⟨q, ?_, h2, h3⟩) id)
      rcases Nat.lt_or_ge j q with h' | h'
      · exact h'
      · obtain rfl : q = j := by omega
        exact absurd h3 he
theorem crossed_l1 (l2 : List Int) (hl2 : l2.length < 9223372036854775807) (c : List Nat) (hc : c.length ≤ 30) : ∀ (d i : Nat), i + d = c.length → (∃ p, i ≤ p ∧ ∃ h : p < c.length, ((c[p] : Nat) : Int) ∈ l2) →
    Ev (fun k => trishawlaw09_FetchCrossed.l1 k l2 (ints c) i) true := by
  intro d
  induction d with
  | zero => intro i hi ⟨p, h1, h2, _⟩; omega
  | succ d ih =>
    intro i hi ⟨p, h1, h2, h3⟩
    have hil : i < c.length := by omega
    have e4 : (i : Int) < ((ints c).length : Int) := by rw [ints_len]; omega
    refine Ev.succ ?_
    simp only [trishawlaw09_FetchCrossed.l1, e4, if_true]
    refine crossed_l2 l2 hl2 c hc i hil l2.length 0 (by omega) ?_
    by_cases hp : p = i
    · subst hp
      left
      obtain ⟨q, hq, e⟩ := List.getElem_of_mem h3
      exact ⟨q, Nat.zero_le _, hq, e⟩
    · exact Or.inr (ih (i + 1) (by omega) ⟨p, by omega, h2, h3⟩)
theorem crossed_l0 {n : Nat} {st : List S34} (hs : Sane n st) (l2 : List Int) (Y : Nat) (b : Bool) (c : List Nat) (hc : c.length ≤ 30) (hcm : ∀ j ∈ c, ∃ s, st[j]? = some s ∧ outS Y s = true)
    (fin : Ev (fun k => if b = true then trishawlaw09_FetchCrossed.l1 k l2 (ints c) 0 else (trishawlaw09_alive.f k).bind fun t => some t) true) : ∀ (d i : Nat), i + d = c.length →
    Ev (fun k => trishawlaw09_FetchCrossed.l0 k st l2 b Y (ints c) i) true := by
  intro d
  induction d with
  | zero =>
    intro i hi
    have e3 : ¬ (i : Int) < ((ints c).length : Int) := by rw [ints_len]; omega
    refine Ev.succ ?_
    simp only [trishawlaw09_FetchCrossed.l0, e3, if_false]
    exact fin
  | succ d ih =>
    intro i hi
    have hil : i < c.length := by omega
    have e3 : (i : Int) < ((ints c).length : Int) := by rw [ints_len]; omega
    have hiw : i < 9223372036854775807 := by omega
    obtain ⟨s, hsj, ho⟩ := hcm _ (List.getElem_mem hil)
    have hjl := (List.getElem?_eq_some_iff.mp hsj).1
    have hm := hs.2.2 s (List.mem_of_getElem? hsj)
    have h7 := hs.1
    have c1 : ¬ ((c[i] : Nat) : Int) < 0 := by omega
    have c2 : ¬ ((c[i] : Nat) : Int) ≥ (st.length : Int) := by omega
    have c3 : ((c[i] : Nat) : Int) < (st.length : Int) := by omega
    have r2 : rd_T34 st ((c[i] : Nat) : Int) = s := by simp [rd_T34, hsj]
    have hl0 : s.f0 ≤ 64 := by omega
    have hl1 : s.f1 ≤ 64 := by omega
    have ho' : Y.testBit s.f0.toNat = true ∧ Y.testBit s.f1.toNat = false := by
      simpa [outS, inb] using ho
    refine Ev.succ ?_
    simp only [trishawlaw09_FetchCrossed.l0, e3, if_true, Int.natCast_nonneg, rd_ints _ _ hil, c1, c2, c3, if_false, r2, hm.1, hm.2.2.1, hl0, hl1, bit_mod, ho'.1, ho'.2, Bool.false_eq_true, w64s i hiw]
    exact ih (i + 1) (by omega)
theorem FetchCrossed_ev (a : Int) (st : List S34) (l2 : List Int) (h2 : l2.length * 8 ≤ 140737488351232) (a3 : Int) (w3 : (Lit.int .u8 a3).wf = true) : Ev (fun k => trishawlaw09_FetchCrossed.f k a st l2 a3) true := by
  have w3' := wf8b w3
  have hl2 : l2.length < 9223372036854775807 := by omega
  have easy : Ev (fun k => trishawlaw09_FetchCrossed.j0 k a st l2 a3 true) true := by
    refine Ev.succ ?_
    simp only [trishawlaw09_FetchCrossed.j0, if_true]
    exact alive_ev'
  have main : codeN a st = 0 → Ev (fun k => trishawlaw09_FetchCrossed.j0 k a st l2 a3 false) true := fun h => by
    obtain ⟨hs, hn2, ha, hcn⟩ := code_sane h
    refine Ev.succ ?_
    simp only [trishawlaw09_FetchCrossed.j0, Bool.false_eq_true, if_false]
    refine Ev.bind (fetch_Smallest_ev a st) (Ev.bind (fetch_Cuts_ev a st) (Ev.bind (fetch_IsMend_ev a st l2 hl2) ?_))
    simp only [h, if_true]
    rcases smallN_spec a.toNat st with ⟨hc, hn⟩ | ⟨m, w, hn, hok⟩
    · have e1 : ((smallR (smallN a.toNat st)).2.2 == 0) = false := by rw [hn]; rfl
      have e2 : decide (((ints (cutsN a.toNat st)).length : Int) > 0) = false := by rw [hc]; rfl
      have e3 : (smallR (smallN a.toNat st)).2.2 = 10 := by rw [hn]; rfl
      have e4 : (smallR (smallN a.toNat st)).1 = 0 := by rw [hn]; rfl
      have e5 : (smallR (smallN a.toNat st)).2.1 = 0 := by rw [hn]; rfl
      have e6 : ¬ (10 : Int) = 0 := by decide
      have e7 : wrap64 ((0 : Int) + 0) = 0 := by unfold wrap64; omega
      simp only [e1, e2, e3, e4, e5, bne_self_eq_false, Bool.false_eq_true, if_false, e6]
      refine Ev.succ ?_
      simp only [trishawlaw09_FetchCrossed.j1, Bool.false_eq_true, if_false, e6, e7, if_true]
      exact alive_ev'
    · have hne : cutsN a.toNat st ≠ [] := fun hc => by have := hok.mem; rw [hc] at this; cases this
      have hpos : 0 < (cutsN a.toNat st).length := List.length_pos_iff.mpr hne
      have e1 : ((smallR (smallN a.toNat st)).2.2 == 0) = true := by rw [hn]; rfl
      have e2 : decide (((ints (cutsN a.toNat st)).length : Int) > 0) = true := by rw [ints_len]; exact decide_eq_true (by omega)
      have e3 : (smallR (smallN a.toNat st)).2.2 = 0 := by rw [hn]; rfl
      have e4 : (smallR (smallN a.toNat st)).1 = (m : Int) := by rw [hn]; rfl
      have e5 : (smallR (smallN a.toNat st)).2.1 = (w : Int) := by rw [hn]; rfl
      simp only [e1, e2, e3, e4, e5, bne_self_eq_false, Bool.false_eq_true, if_false, if_true]
      have hsm := cutsN_small hs
      obtain ⟨q, rfl⟩ : ∃ q : Nat, a3 = (q : Int) := ⟨a3.toNat, by omega⟩
      have hqw : q ≤ 9223372036854775807 := by omega
      have hq : q % (cutsN a.toNat st).length < (cutsN a.toNat st).length := Nat.mod_lt _ hpos
      have lq : ((q % (cutsN a.toNat st).length : Nat) : Int) < ((ints (cutsN a.toNat st)).length : Int) := by rw [ints_len]; omega
      have tq : Int.tmod (q : Int) ((ints (cutsN a.toNat st)).length : Int) = ((q % (cutsN a.toNat st).length : Nat) : Int) := by rw [ints_len]; exact tmod_nat2 q hpos
      have e0' : ¬ ((ints (cutsN a.toNat st)).length : Int) = 0 := by rw [ints_len]; omega
      refine Ev.succ ?_
      simp only [trishawlaw09_FetchCrossed.j1, Bool.false_eq_true, if_false, e0', if_true, w64n q hqw, tq, Int.natCast_nonneg, lq, rd_ints _ _ hq]
      have hYm := List.getElem_mem hq
      generalize (cutsN a.toNat st)[q % (cutsN a.toNat st).length] = Y at hYm ⊢
      have cY := cutsN_mem.mp hYm
      have cw := cutsN_mem.mp hok.mem
      have kY : crossingN a.toNat st (Y : Int) = (ints (bitsN (cross st Y)), 0) := if_pos (kind_cut.mpr ⟨Int.natCast_nonneg _, cY⟩)
      have kw : crossingN a.toNat st (w : Int) = (ints (bitsN (cross st w)), 0) := if_pos (kind_cut.mpr ⟨Int.natCast_nonneg _, cw⟩)
      refine Ev.bind (fetch_Crossing_ev a st w) (Ev.bind (fetch_Crossing_ev a st Y) ?_)
      have hm : (bitsN (cross st w)).length = m := hok.cnt.symm
      have hY30 : (bitsN (cross st Y)).length ≤ 30 := bitsFrom_len _ 0 30
      have hlow : m ≤ (bitsN (cross st Y)).length := hok.low Y hYm
      have hm1 : ¬ (m : Int) < 1 := by
        have h0 := cross_ne hs (by omega) hcn cw
        have : ∃ j, (cross st w).testBit j = true := by
          apply Classical.byContradiction
          intro hno
          apply h0
          apply Nat.eq_of_testBit_eq; intro j
          rw [Nat.zero_testBit]
          cases hj : (cross st w).testBit j
          · rfl
          · exact absurd ⟨j, hj⟩ hno
        obtain ⟨j, hj⟩ := this
        have hmem := (bitsN_mem (cross_lt30 hs w)).mpr hj
        have := List.length_pos_of_mem hmem
        omega
      have hgo : Ev (fun k => trishawlaw09_FetchCrossed.j2 k st l2 (isMendN a.toNat st l2) Y (ints (bitsN (cross st Y))) false) true := by
        refine Ev.succ ?_
        simp only [trishawlaw09_FetchCrossed.j2, Bool.false_eq_true, if_false]
        refine crossed_l0 hs l2 Y (isMendN a.toNat st l2) (bitsN (cross st Y)) hY30 (fun j hj => (cross_bit st Y j).mp ((bitsN_mem (cross_lt30 hs Y)).mp hj)) ?_ (bitsN (cross st Y)).length 0 (by omega)
        cases hb : isMendN a.toNat st l2
        · simp only [Bool.false_eq_true, if_false]; exact alive_ev'
        · simp only [if_true]
          unfold isMendN at hb
          cases hx : ascN st.length (-1) 0 l2 with
          | none => rw [hx] at hb; cases hb
          | some X =>
            rw [hx] at hb
            have hh := hits_iff.mp hb (cross st Y) (List.mem_map.mpr ⟨Y, hYm, rfl⟩)
            have : ∃ j, (cross st Y &&& X).testBit j = true := by
              apply Classical.byContradiction
              intro hno
              apply hh
              apply Nat.eq_of_testBit_eq; intro j
              rw [Nat.zero_testBit]
              cases hj : (cross st Y &&& X).testBit j
              · rfl
              · exact absurd ⟨j, hj⟩ hno
            obtain ⟨j, hj⟩ := this
            rw [Nat.testBit_and, Bool.and_eq_true] at hj
            obtain ⟨p, hp, e⟩ := List.getElem_of_mem ((bitsN_mem (cross_lt30 hs Y)).mpr hj.1)
            refine crossed_l1 l2 hl2 (bitsN (cross st Y)) hY30 (bitsN (cross st Y)).length 0 (by omega) ⟨p, Nat.zero_le _, hp, ?_⟩
            rw [e]
            rcases asc_mem l2 (-1) 0 X j hx hj.2 with h' | h'
            · simp at h'
            · exact h'
      have c1 : ((bitsN (cross st w)).length : Int) = (m : Int) := by omega
      have c2 : ¬ ((bitsN (cross st Y)).length : Int) < (m : Int) := by omega
      simp only [h, if_true, kw, kY, ints_len, c1, hm1, if_false, c2]
      by_cases c3 : ((bitsN (cross st Y)).length : Int) = (m : Int)
      · have hf : decide ((Y : Int) < (w : Int)) = false := decide_eq_false (by
          have h1 : (bitsN (cross st Y)).length = m := by omega
          have := hok.first Y hYm h1; omega)
        simp only [c3, if_true, hf]; exact hgo
      · simp only [c3, if_false]; exact hgo
  unfold trishawlaw09_FetchCrossed.f
  simp only [few_eq, Option.bind_some]
  generalize (if (st.length : Int) ≤ 40 then decide ((l2.length : Int) ≤ 60) else false) = b
  cases b
  · simp only [Bool.false_eq_true, if_false]; exact easy
  · simp only [if_true]
    refine Ev.bind (quarter_ev a st) ?_
    by_cases h : codeN a st = 0
    · simp only [h, bne_self_eq_false]
      exact main h
    · have : (codeN a st != 0) = true := by rw [bne_iff_ne]; exact h
      simp only [this]
      exact easy
end Go.Proofs.Ytjbfbdanbpfplaa.OAll
