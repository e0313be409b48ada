/- A part of the proof of 'fetchMended_holds', for every input, without a condition. -/
import Derived.Test.YtjbfbdanbpfplaaSEQr
import Derived.Test.YtjbfbdanbpfplaaSEQl
namespace Go.Proofs.Ytjbfbdanbpfplaa.OAll
open Go.RowKit Go.Proofs.YtjbfbdanbpfplaaW.PrintWords Go.Proofs.YtjbfbdanbpfplaaW.PrintLast Go.Proofs.YtjbfbdanbpfplaaW.PrintMore
set_option linter.unusedVariables false
set_option linter.unusedSimpArgs false
def stAt (st : List S34) (i : Int) : S34 := rd_T34 st i
def bothN (st : List S34) (l : List Int) : List S34 := st ++ l.map fun i => turnS (stAt st i)
theorem asc_range {m : Nat} : ∀ (l : List Int) (prev : Int) (acc X : Nat), ascN m prev acc l = some X → ∀ v ∈ l, 0 ≤ v ∧ v < m
  | [], _, _, _, _, v, hv => by cases hv
  | w :: t, prev, acc, X, h, v, hv => by
    rw [ascN] at h
    by_cases c : w < 0 ∨ w ≥ (m : Int) ∨ w ≤ prev
    · rw [if_pos c] at h; cases h
    · rw [if_neg c] at h
      rcases List.mem_cons.mp hv with rfl | hv
      · omega
      · exact asc_range t w _ X h v hv
theorem asc_acc {m : Nat} : ∀ (l : List Int) (prev : Int) (acc X : Nat), ascN m prev acc l = some X → subB acc X
  | [], _, acc, X, h => by obtain rfl := Option.some.inj h; exact subB_refl _
  | w :: t, prev, acc, X, h => by
    rw [ascN] at h
    by_cases c : w < 0 ∨ w ≥ (m : Int) ∨ w ≤ prev
    · rw [if_pos c] at h; cases h
    · rw [if_neg c] at h
      exact subB_trans (subB_or _ _) (asc_acc t w _ X h)
theorem asc_has {m : Nat} : ∀ (l : List Int) (prev : Int) (acc X : Nat), ascN m prev acc l = some X → ∀ v ∈ l, X.testBit v.toNat = true
  | [], _, _, _, _, v, hv => by cases hv
  | w :: t, prev, acc, X, h, v, hv => by
    rw [ascN] at h
    by_cases c : w < 0 ∨ w ≥ (m : Int) ∨ w ≤ prev
    · rw [if_pos c] at h; cases h
    · rw [if_neg c] at h
      rcases List.mem_cons.mp hv with rfl | hv
      · exact asc_acc t v _ X h _ (by rw [Nat.testBit_or, Nat.testBit_two_pow]; simp)
      · exact asc_has t w _ X h v hv
theorem both_l0 (st : List S34) (l : List Int) (hl : l.length < 9223372036854775807) : ∀ (suf pre : List Int) (out : List S34), l = pre ++ suf → (∀ v ∈ suf, 0 ≤ v ∧ v < st.length) → out.length + suf.length ≤ 14 →
    Ev (fun k => fetch_Both.l0 k st out l (l.length : Int) pre.length) (out ++ suf.map fun i => turnS (stAt st i), 0) := by
  intro suf
  induction suf with
  | nil =>
    intro pre out e hv ho
    have e3 : ¬ (pre.length : Int) < (l.length : Int) := by rw [e]; simp
    refine Ev.succ ?_
    simp only [fetch_Both.l0, e3, if_false, List.map_nil, List.append_nil]
    exact Ev.pure _
  | cons x t ih =>
    intro pre out e hv ho
    have e3 : (pre.length : Int) < (l.length : Int) := by rw [e]; simp; omega
    have hiw : pre.length < 9223372036854775807 := by omega
    have r1 : rd l (pre.length : Int) = x := by rw [e]; exact rd_mid pre t x
    have hx := hv x (List.mem_cons_self)
    simp only [List.length_cons] at ho
    have hol : out.length < 8796093022208 := by omega
    have := ih (pre ++ [x]) (out ++ [turnS (stAt st x)]) (by rw [e]; simp) (fun v h => hv v (List.mem_cons_of_mem _ h)) (by simp; omega)
    rw [List.length_append, List.append_assoc] at this
    refine Ev.succ ?_
    simp only [fetch_Both.l0, e3, if_true, Int.natCast_nonneg, r1, hx.1, hx.2, hol, w64s _ hiw]
    exact this
def bothR (st : List S34) (l : List Int) : List S34 × Int := if 14 < st.length + l.length then ([], 3) else if (ascN st.length (-1) 0 l).isSome then (bothN st l, 0) else ([], 2)
theorem fetch_Both_ev (a : Int) (st : List S34) (l : List Int) (hl : l.length ≤ 1000) : Ev (fun k => fetch_Both.f k a st l) (if codeN a st = 0 then bothR st l else ([], codeN a st)) := by
  unfold fetch_Both.f
  refine Ev.bind (read_ev a st) ?_
  by_cases h : codeN a st = 0
  · simp only [h, if_true]
    obtain ⟨hs, _, ha, _⟩ := code_sane h
    have h14 := hs.2.1
    have hlw : l.length < 9223372036854775807 := by omega
    have s1 : ((st.length : Int) + (l.length : Int)) = ((st.length + l.length : Nat) : Int) := by omega
    have s2 : st.length + l.length ≤ 9223372036854775807 := by omega
    rw [s1, w64n _ s2]
    unfold bothR
    by_cases h1 : 14 < st.length + l.length
    · have h1' : ((st.length + l.length : Nat) : Int) > 14 := by omega
      simp only [h1, h1', if_true]; exact Ev.pure _
    · have h1' : ¬ ((st.length + l.length : Nat) : Int) > 14 := by omega
      simp only [h1, h1', if_false]
      refine Ev.bind (asc_ev hs a l hlw) ?_
      cases hx : ascN st.length (-1) 0 l with
      | none => simp only [ascR, Bool.false_eq_true, if_false, Option.isSome_none]; exact Ev.pure _
      | some X =>
        have hap : api_Pair.f st = some st := by
          rw [api_Pair.f, if_pos]; simp only [List.length_nil]; omega
        simp only [ascR, if_true, Option.isSome_some, hap, Option.bind_some]
        exact both_l0 st l hlw l [] st rfl (asc_range l _ _ X hx) (by omega)
  · simp only [h, if_false]
    exact Ev.pure _
theorem at_mem {st : List S34} {i : Int} (h0 : 0 ≤ i) (h1 : i < st.length) : stAt st i ∈ st ∧ st[i.toNat]? = some (stAt st i) := by
  have h : i.toNat < st.length := by omega
  have e : stAt st i = st[i.toNat] := by rw [stAt, rd_T34, List.getD_eq_getElem?_getD, List.getElem?_eq_getElem h]; rfl
  exact ⟨by rw [e]; exact List.getElem_mem h, by rw [e]; exact List.getElem?_eq_getElem h⟩
theorem both_mem {st : List S34} {l : List Int} {s : S34} : s ∈ bothN st l ↔ s ∈ st ∨ ∃ i ∈ l, turnS (stAt st i) = s := by
  rw [bothN, List.mem_append, List.mem_map]
theorem sane_both {n : Nat} {st : List S34} (hs : Sane n st) {l : List Int} (hl : st.length + l.length ≤ 14) (hr : ∀ v ∈ l, 0 ≤ v ∧ v < st.length) : Sane n (bothN st l) := by
  refine ⟨hs.1, by rw [bothN, List.length_append, List.length_map]; exact hl, fun s h => ?_⟩
  rcases both_mem.mp h with h | ⟨i, hi, rfl⟩
  · exact hs.2.2 s h
  · have hm := hs.2.2 _ (at_mem (hr i hi).1 (hr i hi).2).1
    exact ⟨hm.2.2.1, hm.2.2.2.1, hm.1, hm.2.1, fun e => hm.2.2.2.2 e.symm⟩
theorem conn_both {n : Nat} {st : List S34} (hs : Sane n st) {l : List Int} (hb : Sane n (bothN st l)) (h1 : 1 ≤ n) (hc : connB n st = true) : connB n (bothN st l) = true :=
  (conn_iff hb h1).mpr fun Y h2 h3 h4 => (conn_iff hs h1).mp hc Y h2 h3 fun s hs' => h4 s (both_mem.mpr (Or.inl hs'))
theorem turn_back (Y : Nat) (s : S34) : backS Y (turnS s) = outS Y s := by
  simp only [backS, outS, turnS]; cases inb Y s.f0 <;> cases inb Y s.f1 <;> rfl
theorem mend_both {n : Nat} {st : List S34} (hs : Sane n st) {l : List Int} {X : Nat} (hX : ascN st.length (-1) 0 l = some X) : isMendN n st l = true ↔ cutsN n (bothN st l) = [] := by
  have hr := asc_range l _ _ X hX
  have hm : isMendN n st l = hits ((cutsN n st).map (cross st)) X := by rw [isMendN, hX]
  rw [hm, hits_iff]
  constructor
  · intro h
    apply List.eq_nil_iff_forall_not_mem.mpr
    intro Y hY
    have hp := isCut_pos (cutsN_mem.mp hY)
    have hYs : Y ∈ cutsN n st := cutsN_mem.mpr (isCut_mk hp.1 hp.2.1 fun s hs' => hp.2.2 s (both_mem.mpr (Or.inl hs')))
    apply h _ (List.mem_map_of_mem hYs)
    apply Nat.eq_of_testBit_eq; intro j
    rw [Nat.zero_testBit, Nat.testBit_and]
    cases hj : (cross st Y).testBit j
    · rfl
    · cases hxj : X.testBit j
      · rfl
      · obtain ⟨s, e, ho⟩ := (cross_bit st Y j).mp hj
        rcases asc_mem l (-1) 0 X j hX hxj with h' | h'
        · simp at h'
        · have hi := hr _ h'
          have ea := (at_mem hi.1 hi.2).2
          rw [Int.toNat_natCast, e] at ea
          have := hp.2.2 _ (both_mem.mpr (Or.inr ⟨(j : Int), h', rfl⟩))
          rw [turn_back, ← Option.some.inj ea, ho] at this
          cases this
  · intro h c hc h0
    obtain ⟨Y, hY, rfl⟩ := List.mem_map.mp hc
    have hp := isCut_pos (cutsN_mem.mp hY)
    have : Y ∈ cutsN n (bothN st l) := cutsN_mem.mpr (isCut_mk hp.1 hp.2.1 fun s hs' => by
      rcases both_mem.mp hs' with h' | ⟨i, hi, rfl⟩
      · exact hp.2.2 s h'
      · rw [turn_back]
        cases ho : outS Y (stAt st i)
        · rfl
        · have hri := hr i hi
          have hb := (cross_bit st Y i.toNat).mpr ⟨_, (at_mem hri.1 hri.2).2, ho⟩
          have hx := asc_has l _ _ X hX i hi
          have : (cross st Y &&& X).testBit i.toNat = true := by rw [Nat.testBit_and, hb, hx]; rfl
          rw [h0, Nat.zero_testBit] at this; cases this)
    rw [h] at this; cases this
theorem mend_empty {n : Nat} {st : List S34} (hs : Sane n st) (h1 : 1 ≤ n) (hc : connB n st = true) : (mendN n st).2.1 = [] ↔ cutsN n st = [] := by
  have hsp := mend_spec hs h1 hc
  have h14 := hs.2.1
  constructor
  · intro h
    obtain ⟨X, hX, hh, e⟩ := hsp.1
    rw [h] at e
    have hX30 : X < 2 ^ 30 := Nat.lt_of_lt_of_le hX (Nat.pow_le_pow_right (by decide) (by omega))
    have hX0 : X = 0 := by
      apply Nat.eq_of_testBit_eq; intro j
      rw [Nat.zero_testBit]
      cases hj : X.testBit j
      · rfl
      · have := (bitsN_mem hX30).mpr hj
        rw [← e] at this; cases this
    apply List.eq_nil_iff_forall_not_mem.mpr
    intro Y hY
    exact hits_iff.mp hh _ (List.mem_map_of_mem hY) (by rw [hX0, Nat.and_zero])
  · intro h
    have := hsp.2 0 (Nat.two_pow_pos _) (hits_iff.mpr (by rw [h]; intro c hc; cases hc))
    have h0 : bitsN 0 = [] := by decide
    rw [h0] at this
    exact List.length_eq_zero_iff.mp (by simpa using this)
theorem FetchMended_ev (a : Int) (st : List S34) (l : List Int) : Ev (fun k => trishawlaw09_FetchMended.f k a st l) true := by
  have easy : Ev (fun k => trishawlaw09_FetchMended.j0 k a st l true) true := by
    refine Ev.succ ?_
    simp only [trishawlaw09_FetchMended.j0, if_true]
    exact alive_ev'
  have main : codeN a st = 0 → l.length ≤ 60 → Ev (fun k => trishawlaw09_FetchMended.j0 k a st l false) true := fun h hl => by
    obtain ⟨hs, h2, ha, hcn⟩ := code_sane h
    have h7 := hs.1
    have hlw : l.length < 9223372036854775807 := by omega
    have p1 := parts_cut hs (by omega)
    have m1 := mend_empty hs (by omega) hcn
    have b1 : ((((partsN a.toNat st).length : Int) == 1) != (((ints (cutsN a.toNat st)).length : Int) == 0)) = false := by
      rw [bne_eq_false_iff_eq, Bool.eq_iff_iff, beq_iff_eq, beq_iff_eq, ints_len]
      constructor
      · intro h; rw [p1.mp (by omega)]; rfl
      · intro h; have := p1.mpr (List.length_eq_zero_iff.mp (by omega)); omega
    have b2 : ((((partsN a.toNat st).length : Int) == 1) != (((ints (mendN a.toNat st).2.1).length : Int) == 0)) = false := by
      rw [bne_eq_false_iff_eq, Bool.eq_iff_iff, beq_iff_eq, beq_iff_eq, ints_len]
      constructor
      · intro h; rw [m1.mpr (p1.mp (by omega))]; rfl
      · intro h; have := p1.mpr (m1.mp (List.length_eq_zero_iff.mp (by omega))); omega
    have b3 : ((((partsN a.toNat st).length : Int) == 1) != (((intss (partsN a.toNat st)).length : Int) == 1)) = false := by
      rw [intss, List.length_map]; exact bne_self_eq_false _
    refine Ev.succ ?_
    simp only [trishawlaw09_FetchMended.j0, Bool.false_eq_true, if_false]
    refine Ev.bind (fetch_Strong_ev a st) (Ev.bind (fetch_Cuts_ev a st) (Ev.bind (fetch_Mend_ev a st) (Ev.bind (fetch_Parts_ev a st) ?_)))
    simp only [h, if_true, b1, b2, b3, Bool.false_eq_true, if_false]
    refine Ev.succ ?_
    simp only [trishawlaw09_FetchMended.j1, Bool.false_eq_true, if_false]
    refine Ev.bind (fetch_Both_ev a st l (by omega)) ?_
    simp only [h, if_true]
    unfold bothR
    by_cases c1 : 14 < st.length + l.length
    · have e3 : ¬ (3 : Int) = 0 := by decide
      have e4 : ((([] : List S34).length : Int)) = 0 := rfl
      simp only [c1, if_true, e3, if_false, e4]
      exact alive_ev'
    · simp only [c1, if_false]
      cases hx : ascN st.length (-1) 0 l with
      | none =>
        have e3 : ¬ (2 : Int) = 0 := by decide
        have e4 : ((([] : List S34).length : Int)) = 0 := rfl
        simp only [Option.isSome_none, Bool.false_eq_true, if_false, e3, e4, if_true]
        exact alive_ev'
      | some X =>
        simp only [Option.isSome_some, if_true]
        have hb := sane_both hs (l := l) (by omega) (asc_range l _ _ X hx)
        have hcb := conn_both hs hb (by omega) hcn
        have hcode : codeN a (bothN st l) = 0 := code_of (by omega) hb hcb
        refine Ev.bind (fetch_IsMend_ev a st l hlw) (Ev.bind (fetch_Strong_ev a _) ?_)
        have e5 : (isMendN a.toNat st l == (((partsN a.toNat (bothN st l)).length : Int) == 1)) = true := by
          rw [beq_iff_eq, Bool.eq_iff_iff, beq_iff_eq, mend_both hs hx, ← parts_cut hb (by omega)]
          omega
        simp only [h, hcode, if_true, e5]
        exact alive_ev'
  unfold trishawlaw09_FetchMended.f
  simp only [few_eq, Option.bind_some]
  by_cases h40 : (st.length : Int) ≤ 40
  · by_cases h60 : (l.length : Int) ≤ 60
    · simp only [h40, h60, decide_true, if_true]
      refine Ev.bind (quarter_ev a st) ?_
      by_cases h : codeN a st = 0
      · simp only [h, bne_self_eq_false]
        exact main h (by omega)
      · have : (codeN a st != 0) = true := by rw [bne_iff_ne]; exact h
        simp only [this]
        exact easy
    · simp only [h40, h60, decide_false, if_true, Bool.false_eq_true, if_false]; exact easy
  · simp only [h40, if_false, Bool.false_eq_true]; exact easy
end Go.Proofs.Ytjbfbdanbpfplaa.OAll
