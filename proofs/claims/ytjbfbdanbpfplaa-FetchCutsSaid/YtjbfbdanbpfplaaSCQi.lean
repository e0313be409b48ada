/- A part of the proof of 'fetchCuts_holds', for every input, without a condition. -/
import Derived.Test.YtjbfbdanbpfplaaSCQg
import Derived.Test.YtjbfbdanbpfplaaSCOAllx8
import Derived.Test.YtjbfbdanbpfplaaSCOAllx15
namespace Go.Proofs.Ytjbfbdanbpfplaa.OAll
open Go.RowKit Go.Proofs.YtjbfbdanbpfplaaW.PrintWords Go.Proofs.YtjbfbdanbpfplaaW.PrintLast Go.Proofs.YtjbfbdanbpfplaaW.PrintMore
set_option linter.unusedVariables false
set_option linter.unusedSimpArgs false
def crossingN (n : Nat) (st : List S34) (X : Int) : List Int × Int := if kindN n st X = 1 then (ints (bitsN (cross st X.toNat)), 0) else ([], 2)
theorem kind_cases {n : Nat} {st : List S34} {X : Int} (h : kindN n st X = 1) : ∃ Y : Nat, X = Y ∧ isCutB n st Y = true := by
  have := kind_cut.mp h
  exact ⟨X.toNat, by omega, this.2⟩
theorem cut_lt {n : Nat} {st : List S34} (hs : Sane n st) {Y : Nat} (h : isCutB n st Y = true) : Y < 2 ^ 63 := cutsN_lt hs Y (cutsN_mem.mpr h)
theorem cross_lt30 {n : Nat} {st : List S34} (hs : Sane n st) (X : Nat) : cross st X < 2 ^ 30 := by have := cross_lt hs X; omega
theorem fetch_Crossing_ev (a : Int) (st : List S34) (X : Int) : Ev (fun k => fetch_Crossing.f k a st X) (if codeN a st = 0 then crossingN a.toNat st X else ([], codeN a st)) := by
  unfold fetch_Crossing.f
  refine Ev.bind (read_ev a st) ?_
  by_cases h : codeN a st = 0
  · simp only [h, if_true]
    obtain ⟨hs, _, ha, _⟩ := code_sane h
    have hk := kind_ev hs X
    rw [ha] at hk
    refine Ev.bind hk ?_
    unfold crossingN
    by_cases h1 : kindN a.toNat st X = 1
    · simp only [h1, if_true]
      obtain ⟨Y, rfl, hY⟩ := kind_cases h1
      exact Ev.bind (crossing_ev hs a Y (cut_lt hs hY)) (Ev.bind (list_ev _ (cross_lt30 hs Y)) (Ev.pure _))
    · simp only [h1, if_false]; exact Ev.pure _
  · simp only [h, if_false]
    exact Ev.pure _
theorem ref_Crossing_ev (a : Int) (st : List S34) (X : Int) : Ev (fun k => trishawref09_Crossing.f k a st X) (if codeN a st = 0 then crossingN a.toNat st X else ([], codeN a st)) := by
  unfold trishawref09_Crossing.f
  refine Ev.bind (quarter_ev a st) ?_
  by_cases h : codeN a st = 0
  · simp only [h, if_true]
    obtain ⟨hs, _, ha, _⟩ := code_sane h
    have hk := risCut_ev hs X
    rw [ha] at hk
    refine Ev.bind hk ?_
    unfold crossingN
    by_cases h1 : kindN a.toNat st X = 1
    · simp only [h1, decide_true, if_true]
      obtain ⟨Y, rfl, hY⟩ := kind_cases h1
      exact Ev.bind (rcrossing_ev hs Y) (Ev.bind (members_ev _) (Ev.pure _))
    · simp only [h1, decide_false, Bool.false_eq_true, if_false]; exact Ev.pure _
  · simp only [h, if_false]
    exact Ev.pure _
def cntN (st : List S34) (c : Nat) : Nat := (bitsN (cross st c)).length
theorem cntN_le {n : Nat} {st : List S34} (hs : Sane n st) (c : Nat) : cntN st c ≤ st.length := by
  have key : ∀ (d i : Nat), (bitsFrom (cross st c) i d).length ≤ st.length - i := by
    intro d
    induction d with
    | zero => intro i; simp [bitsFrom]
    | succ d ih =>
      intro i
      have := ih (i + 1)
      rw [bitsFrom_succ]
      split
      · rename_i hb
        have := bit_in (cross_lt' st c) hb
        simp only [List.length_cons]; omega
      · omega
  have := key 30 0
  simpa [cntN, bitsN] using this
def smallS (st : List S34) (s : Option (Nat × Nat)) (c : Nat) : Option (Nat × Nat) :=
  match s with
  | none => some (cntN st c, c)
  | some (m, w) => if cntN st c < m then some (cntN st c, c) else some (m, w)
def smallN (n : Nat) (st : List S34) : Option (Nat × Nat) := (cutsN n st).foldl (smallS st) none
def smallR (s : Option (Nat × Nat)) : Int × Int × Int := match s with | none => (0, 0, 10) | some (m, w) => ((m : Int), (w : Int), 0)
def small9 (z : Int) (s : Option (Nat × Nat)) : Int := match s with | none => z | some (m, _) => (m : Int)
def small10 (s : Option (Nat × Nat)) : Int := match s with | none => 0 | some (_, w) => (w : Int)
theorem fsmall_l0 {n : Nat} {st : List S34} (hs : Sane n st) (a : Int) (cuts : List Nat) (hl : cuts.length ≤ 127) (hc : ∀ x ∈ cuts, x < 2 ^ 63) : ∀ (suf pre : List Nat) (s : Option (Nat × Nat)), cuts = pre ++ suf →
    Ev (fun k => fetch_Smallest.l0 k (small9 (-1) s) (small10 s) (ints cuts) (cuts.length : Int) pre.length a st) (smallR (suf.foldl (smallS st) s)) := by
  intro suf
  induction suf with
  | nil =>
    intro pre s e
    have e3 : ¬ (pre.length : Int) < (cuts.length : Int) := by rw [e]; simp
    refine Ev.succ ?_
    simp only [fetch_Smallest.l0, e3, if_false]
    cases s with
    | none => exact Ev.pure _
    | some mw =>
      have : ¬ (mw.1 : Int) < 0 := by omega
      simp only [small9, this, if_false]
      exact Ev.pure _
  | cons x t ih =>
    intro pre s e
    have e3 : (pre.length : Int) < (cuts.length : Int) := by rw [e]; simp; omega
    have e3' : (pre.length : Int) < ((ints cuts).length : Int) := by rw [ints_len]; exact e3
    have hpl : pre.length < 127 := by rw [e] at hl; simp at hl; omega
    have hiw : pre.length < 9223372036854775807 := by omega
    have r1 : rd (ints cuts) (pre.length : Int) = (x : Int) := by rw [e]; exact rd_intsmid pre t x
    have hx : x < 2 ^ 63 := hc x (by rw [e]; simp)
    refine Ev.succ ?_
    simp only [fetch_Smallest.l0, e3, e3', if_true, Int.natCast_nonneg, r1, w64s _ hiw]
    refine Ev.bind (crossing_ev hs a x hx) (Ev.bind (list_ev _ (cross_lt30 hs x)) ?_)
    have ih' := ih (pre ++ [x]) (smallS st s x) (by rw [e]; simp)
    rw [List.length_append] at ih'
    rw [ints_len, List.foldl_cons]
    cases s with
    | none =>
      have : (small9 (-1) none) < 0 := by decide
      simp only [this, if_true]
      exact ih'
    | some mw =>
      have h0 : ¬ (mw.1 : Int) < 0 := by omega
      by_cases h1 : cntN st x < mw.1
      · have h1' : ((bitsN (cross st x)).length : Int) < (mw.1 : Int) := by have : (bitsN (cross st x)).length < mw.1 := h1; omega
        simp only [small9, h0, h1', if_true, if_false]
        have e : smallS st (some mw) x = some (cntN st x, x) := by show (if _ then _ else _) = _; rw [if_pos h1]
        rw [e] at ih' ⊢
        exact ih'
      · have h1' : ¬ ((bitsN (cross st x)).length : Int) < (mw.1 : Int) := by have : ¬ (bitsN (cross st x)).length < mw.1 := h1; omega
        simp only [small9, h0, h1', if_false]
        have e : smallS st (some mw) x = some mw := by show (if _ then _ else _) = _; rw [if_neg h1]
        rw [e] at ih' ⊢
        exact ih'
theorem fetch_Smallest_ev (a : Int) (st : List S34) : Ev (fun k => fetch_Smallest.f k a st) (if codeN a st = 0 then smallR (smallN a.toNat st) else (0, 0, codeN a st)) := by
  unfold fetch_Smallest.f
  refine Ev.bind (read_ev a st) ?_
  by_cases h : codeN a st = 0
  · simp only [h, if_true]
    obtain ⟨hs, _, ha, _⟩ := code_sane h
    have hk := cuts_ev hs
    rw [ha] at hk
    refine Ev.bind hk ?_
    rw [ints_len]
    exact fsmall_l0 hs a (cutsN a.toNat st) (cutsN_small hs) (cutsN_lt hs) (cutsN a.toNat st) [] none rfl
  · simp only [h, if_false]
    exact Ev.pure _
theorem small_some (st : List S34) : ∀ (l : List Nat) (mw : Nat × Nat), ∃ mw', l.foldl (smallS st) (some mw) = some mw'
  | [], mw => ⟨mw, rfl⟩
  | x :: t, mw => by
    rw [List.foldl_cons]
    have : ∃ p, smallS st (some mw) x = some p := by
      by_cases h : cntN st x < mw.1
      · exact ⟨(cntN st x, x), if_pos h⟩
      · exact ⟨mw, if_neg h⟩
    obtain ⟨p, hp⟩ := this
    rw [hp]; exact small_some st t p
theorem rsmall_l0 {n : Nat} {st : List S34} (hs : Sane n st) (cuts : List Nat) (hl : cuts.length ≤ 127) : ∀ (suf pre : List Nat) (s : Option (Nat × Nat)), cuts = pre ++ suf →
    Ev (fun k => trishawref09_Smallest.l0 k st (ints cuts) (small9 ((st.length + 1 : Nat) : Int) s) (small10 s) pre.length) (small9 ((st.length + 1 : Nat) : Int) (suf.foldl (smallS st) s), small10 (suf.foldl (smallS st) s), 0) := by
  intro suf
  induction suf with
  | nil =>
    intro pre s e
    have e3 : ¬ (pre.length : Int) < ((ints cuts).length : Int) := by rw [ints_len, e]; simp
    refine Ev.succ ?_
    simp only [trishawref09_Smallest.l0, e3, if_false]
    exact Ev.pure _
  | cons x t ih =>
    intro pre s e
    have e3 : (pre.length : Int) < ((ints cuts).length : Int) := by rw [ints_len, e]; simp; omega
    have hpl : pre.length < 127 := by rw [e] at hl; simp at hl; omega
    have hiw : pre.length < 9223372036854775807 := by omega
    have r1 : rd (ints cuts) (pre.length : Int) = (x : Int) := by rw [e]; exact rd_intsmid pre t x
    refine Ev.succ ?_
    simp only [trishawref09_Smallest.l0, e3, if_true, Int.natCast_nonneg, r1, w64s _ hiw]
    refine Ev.bind (rcrossing_ev hs x) (Ev.bind (members_ev _) ?_)
    have ih' := ih (pre ++ [x]) (smallS st s x) (by rw [e]; simp)
    rw [List.length_append] at ih'
    rw [ints_len, List.foldl_cons]
    have hle : (bitsN (cross st x)).length ≤ st.length := cntN_le hs x
    cases s with
    | none =>
      have h1' : ((bitsN (cross st x)).length : Int) < ((st.length + 1 : Nat) : Int) := by omega
      simp only [small9, h1', if_true]
      exact ih'
    | some mw =>
      by_cases h1 : cntN st x < mw.1
      · have h1' : ((bitsN (cross st x)).length : Int) < (mw.1 : Int) := by have : (bitsN (cross st x)).length < mw.1 := h1; omega
        have e : smallS st (some mw) x = some (cntN st x, x) := by show (if _ then _ else _) = _; rw [if_pos h1]
        rw [e] at ih' ⊢
        simp only [small9, h1', if_true] at ih' ⊢
        exact ih'
      · have h1' : ¬ ((bitsN (cross st x)).length : Int) < (mw.1 : Int) := by have : ¬ (bitsN (cross st x)).length < mw.1 := h1; omega
        have e : smallS st (some mw) x = some mw := by show (if _ then _ else _) = _; rw [if_neg h1]
        rw [e] at ih' ⊢
        simp only [small9, h1', if_false] at ih' ⊢
        exact ih'
theorem ref_Smallest_ev (a : Int) (st : List S34) : Ev (fun k => trishawref09_Smallest.f k a st) (if codeN a st = 0 then smallR (smallN a.toNat st) else (0, 0, codeN a st)) := by
  unfold trishawref09_Smallest.f
  refine Ev.bind (quarter_ev a st) ?_
  by_cases h : codeN a st = 0
  · simp only [h, if_true]
    obtain ⟨hs, h2, ha, _⟩ := code_sane h
    have hk := rcuts_ev (by omega) hs
    rw [ha] at hk
    refine Ev.bind hk ?_
    rw [ints_len]
    have h14 := hs.2.1
    have hw : st.length < 9223372036854775807 := by omega
    unfold smallN
    cases hc : cutsN a.toNat st with
    | nil =>
      simp only [List.length_nil, Int.natCast_zero, if_true, List.foldl_nil]
      exact Ev.pure _
    | cons x t =>
      have e0 : ¬ (((x :: t).length : Nat) : Int) = 0 := by simp only [List.length_cons]; omega
      have := rsmall_l0 hs (x :: t) (by rw [← hc]; exact cutsN_small hs) (x :: t) [] none rfl
      simp only [e0, if_false, w64s _ hw]
      obtain ⟨mw, hm⟩ := small_some st t (cntN st x, x)
      have hm' : (x :: t).foldl (smallS st) none = some mw := hm
      rw [hm'] at this ⊢
      exact this
  · simp only [h, if_false]
    exact Ev.pure _
theorem cuts_loop (st : List S34) (hst : st.length < 9223372036854775807) (p q r s : Int) (hpq : p = q) (u v : Int) (hrs : r = s) (huv : u = v) : ∀ (suf pre : List S34), st = pre ++ suf →
    Ev (fun k => trishawlaw09_FetchCuts.l0 k st st p q r u s v pre.length) true := by
  intro suf
  induction suf with
  | nil =>
    intro pre e
    have e3 : ¬ (pre.length : Int) < (st.length : Int) := by rw [e]; simp
    refine Ev.succ ?_
    simp only [trishawlaw09_FetchCuts.l0, e3, if_false, hpq, hrs, huv, if_true]
    exact alive_ev'
  | cons x t ih =>
    intro pre e
    have e3 : (pre.length : Int) < (st.length : Int) := by rw [e]; simp; omega
    have hiw : pre.length < 9223372036854775807 := by omega
    refine Ev.succ ?_
    simp only [trishawlaw09_FetchCuts.l0, e3, if_true, Int.natCast_nonneg, beq_self_eq_true, Bool.not_true, Bool.or_self, Bool.false_eq_true, if_false, w64s _ hiw]
    have := ih (pre ++ [x]) (by rw [e]; simp)
    rw [List.length_append] at this
    exact this
theorem FetchCuts_ev (a : Int) (st : List S34) (hst : st.length * 16 ≤ 140737488351232) (X : Int) : Ev (fun k => trishawlaw09_FetchCuts.f k a st X) true := by
  unfold trishawlaw09_FetchCuts.f
  have hl1 : ([] : List S34).length + st.length < 8796093022208 ∨ 40 < st.length := by simp; omega
  have hst2 : st.length < 9223372036854775807 := by omega
  simp only [few_eq, Option.bind_some]
  by_cases h40 : (st.length : Int) ≤ 40
  · have hl : ([] : List S34).length + st.length < 8796093022208 := by simp; omega
    have e0 : decide ((([] : List Int).length : Int) ≤ 60) = true := by decide
    simp only [h40, if_true, e0, hl, List.nil_append]
    refine Ev.bind (fetch_Cuts_ev a st) (Ev.bind (ref_Cuts_ev a st) (Ev.bind (a := true) ?_ ?_))
    · by_cases h : codeN a st = 0
      · simp only [h, if_true]
        obtain ⟨hs, _⟩ := code_sane h
        exact same_ev rfl (by rw [ints_len]; have := cutsN_small hs; omega)
      · simp only [h, if_false]
        exact same_ev rfl (by simp)
    · simp only [if_true, bne_self_eq_false]
      refine Ev.succ ?_
      simp only [trishawlaw09_FetchCuts.j0, Bool.false_eq_true, if_false]
      refine Ev.bind (fetch_Crossing_ev a st X) (Ev.bind (ref_Crossing_ev a st X) (Ev.bind (a := true) ?_ ?_))
      · by_cases h : codeN a st = 0
        · simp only [h, if_true]
          refine same_ev rfl ?_
          unfold crossingN
          split
          · rw [ints_len]; have := bitsFrom_len (cross st X.toNat) 0 30; rw [bitsN]; omega
          · simp
        · simp only [h, if_false]
          exact same_ev rfl (by simp)
      · simp only [if_true, bne_self_eq_false]
        refine Ev.succ ?_
        simp only [trishawlaw09_FetchCuts.j1, Bool.false_eq_true, if_false]
        refine Ev.bind (fetch_Smallest_ev a st) (Ev.bind (ref_Smallest_ev a st) ?_)
        exact cuts_loop st hst2 _ _ _ _ rfl _ _ rfl rfl st [] rfl
  · simp only [h40, if_false, Bool.false_eq_true]
    exact alive_ev'
end Go.Proofs.Ytjbfbdanbpfplaa.OAll
