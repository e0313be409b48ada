/- A part of the proof of 'fetchCrossed_holds', for every input, without a condition. -/
import Derived.Test.YtjbfbdanbpfplaaSXQg
import Derived.Test.YtjbfbdanbpfplaaSXOAllx8
import Derived.Test.YtjbfbdanbpfplaaSXOAllx15
namespace Go.Proofs.Ytjbfbdanbpfplaa.OAll
open Go.RowKit Go.Proofs.YtjbfbdanbpfplaaW.PrintWords Go.Proofs.YtjbfbdanbpfplaaW.PrintLast Go.Proofs.YtjbfbdanbpfplaaW.PrintMore
set_option linter.unusedVariables false
set_option linter.unusedSimpArgs false
def crossingN (n : Nat) (st : List S34) (X : Int) : List Int × Int := if kindN n st X = 1 then (ints (bitsN (cross st X.toNat)), 0) else ([], 2)
theorem kind_cases {n : Nat} {st : List S34} {X : Int} (h : kindN n st X = 1) : ∃ Y : Nat, X = Y ∧ isCutB n st Y = true := by
  have := kind_cut.mp h
  exact ⟨X.toNat, by omega, this.2⟩
theorem cut_lt {n : Nat} {st : List S34} (hs : Sane n st) {Y : Nat} (h : isCutB n st Y = true) : Y < 2 ^ 63 := cutsN_lt hs Y (cutsN_mem.mpr h)
theorem cross_lt30 {n : Nat} {st : List S34} (hs : Sane n st) (X : Nat) : cross st X < 2 ^ 30 := by have := cross_lt hs X; omega
theorem fetch_Crossing_ev (a : Int) (st : List S34) (X : Int) : Ev (fun k => fetch_Crossing.f k a st X) (if codeN a st = 0 then crossingN a.toNat st X else ([], codeN a st)) := by
  unfold fetch_Crossing.f
  refine Ev.bind (read_ev a st) ?_
  by_cases h : codeN a st = 0
  · simp only [h, if_true]
    obtain ⟨hs, _, ha, _⟩ := code_sane h
    have hk := kind_ev hs X
    rw [ha] at hk
    refine Ev.bind hk ?_
    unfold crossingN
    by_cases h1 : kindN a.toNat st X = 1
    · simp only [h1, if_true]
      obtain ⟨Y, rfl, hY⟩ := kind_cases h1
      exact Ev.bind (crossing_ev hs a Y (cut_lt hs hY)) (Ev.bind (list_ev _ (cross_lt30 hs Y)) (Ev.pure _))
    · simp only [h1, if_false]; exact Ev.pure _
  · simp only [h, if_false]
    exact Ev.pure _
def cntN (st : List S34) (c : Nat) : Nat := (bitsN (cross st c)).length
def smallS (st : List S34) (s : Option (Nat × Nat)) (c : Nat) : Option (Nat × Nat) :=
  match s with
  | none => some (cntN st c, c)
  | some (m, w) => if cntN st c < m then some (cntN st c, c) else some (m, w)
def smallN (n : Nat) (st : List S34) : Option (Nat × Nat) := (cutsN n st).foldl (smallS st) none
def smallR (s : Option (Nat × Nat)) : Int × Int × Int := match s with | none => (0, 0, 10) | some (m, w) => ((m : Int), (w : Int), 0)
def small9 (z : Int) (s : Option (Nat × Nat)) : Int := match s with | none => z | some (m, _) => (m : Int)
def small10 (s : Option (Nat × Nat)) : Int := match s with | none => 0 | some (_, w) => (w : Int)
theorem fsmall_l0 {n : Nat} {st : List S34} (hs : Sane n st) (a : Int) (cuts : List Nat) (hl : cuts.length ≤ 127) (hc : ∀ x ∈ cuts, x < 2 ^ 63) : ∀ (suf pre : List Nat) (s : Option (Nat × Nat)), cuts = pre ++ suf →
    Ev (fun k => fetch_Smallest.l0 k (small9 (-1) s) (small10 s) (ints cuts) (cuts.length : Int) pre.length a st) (smallR (suf.foldl (smallS st) s)) := by
  intro suf
  induction suf with
  | nil =>
    intro pre s e
    have e3 : ¬ (pre.length : Int) < (cuts.length : Int) := by rw [e]; simp
    refine Ev.succ ?_
    simp only [fetch_Smallest.l0, e3, if_false]
    cases s with
    | none => exact Ev.pure _
    | some mw =>
      have : ¬ (mw.1 : Int) < 0 := by omega
      simp only [small9, this, if_false]
      exact Ev.pure _
  | cons x t ih =>
    intro pre s e
    have e3 : (pre.length : Int) < (cuts.length : Int) := by rw [e]; simp; omega
    have e3' : (pre.length : Int) < ((ints cuts).length : Int) := by rw [ints_len]; exact e3
    have hpl : pre.length < 127 := by rw [e] at hl; simp at hl; omega
    have hiw : pre.length < 9223372036854775807 := by omega
    have r1 : rd (ints cuts) (pre.length : Int) = (x : Int) := by rw [e]; exact rd_intsmid pre t x
    have hx : x < 2 ^ 63 := hc x (by rw [e]; simp)
    refine Ev.succ ?_
    simp only [fetch_Smallest.l0, e3, e3', if_true, Int.natCast_nonneg, r1, w64s _ hiw]
    refine Ev.bind (crossing_ev hs a x hx) (Ev.bind (list_ev _ (cross_lt30 hs x)) ?_)
    have ih' := ih (pre ++ [x]) (smallS st s x) (by rw [e]; simp)
    rw [List.length_append] at ih'
    rw [ints_len, List.foldl_cons]
    cases s with
    | none =>
      have : (small9 (-1) none) < 0 := by decide
      simp only [this, if_true]
      exact ih'
    | some mw =>
      have h0 : ¬ (mw.1 : Int) < 0 := by omega
      by_cases h1 : cntN st x < mw.1
      · have h1' : ((bitsN (cross st x)).length : Int) < (mw.1 : Int) := by have : (bitsN (cross st x)).length < mw.1 := h1; omega
        simp only [small9, h0, h1', if_true, if_false]
        have e : smallS st (some mw) x = some (cntN st x, x) := by show (if _ then _ else _) = _; rw [if_pos h1]
        rw [e] at ih' ⊢
        exact ih'
      · have h1' : ¬ ((bitsN (cross st x)).length : Int) < (mw.1 : Int) := by have : ¬ (bitsN (cross st x)).length < mw.1 := h1; omega
        simp only [small9, h0, h1', if_false]
        have e : smallS st (some mw) x = some mw := by show (if _ then _ else _) = _; rw [if_neg h1]
        rw [e] at ih' ⊢
        exact ih'
theorem fetch_Smallest_ev (a : Int) (st : List S34) : Ev (fun k => fetch_Smallest.f k a st) (if codeN a st = 0 then smallR (smallN a.toNat st) else (0, 0, codeN a st)) := by
  unfold fetch_Smallest.f
  refine Ev.bind (read_ev a st) ?_
  by_cases h : codeN a st = 0
  · simp only [h, if_true]
    obtain ⟨hs, _, ha, _⟩ := code_sane h
    have hk := cuts_ev hs
    rw [ha] at hk
    refine Ev.bind hk ?_
    rw [ints_len]
    exact fsmall_l0 hs a (cutsN a.toNat st) (cutsN_small hs) (cutsN_lt hs) (cutsN a.toNat st) [] none rfl
  · simp only [h, if_false]
    exact Ev.pure _
end Go.Proofs.Ytjbfbdanbpfplaa.OAll
