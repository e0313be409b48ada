/- A part of the proof of 'fetchIs_holds', for every input, without a condition. -/
import Derived.Test.YtjbfbdanbpfplaaSIQg
import Derived.Test.YtjbfbdanbpfplaaSIOAllx14
namespace Go.Proofs.Ytjbfbdanbpfplaa.OAll
open Go.RowKit Go.Proofs.YtjbfbdanbpfplaaW.PrintWords Go.Proofs.YtjbfbdanbpfplaaW.PrintLast Go.Proofs.YtjbfbdanbpfplaaW.PrintMore
set_option linter.unusedVariables false
set_option linter.unusedSimpArgs false
def hits (all : List Nat) (X : Nat) : Bool := all.all fun c => !(c &&& X == 0)
theorem rmends_l0 {n : Nat} {st : List S34} (hs : Sane n st) (cuts : List Nat) (hl : cuts.length ≤ 127) (X : Nat) (hX : X < 2 ^ 63) : ∀ (suf pre : List Nat), cuts = pre ++ suf →
    Ev (fun k => trishawref09_mends.l0 k st (ints cuts) X pre.length) (hits (suf.map (cross st)) X) := by
  intro suf
  induction suf with
  | nil =>
    intro pre e
    have e3 : ¬ (pre.length : Int) < ((ints cuts).length : Int) := by rw [ints_len, e]; simp
    refine Ev.succ ?_
    simp only [trishawref09_mends.l0, e3, if_false]
    exact Ev.pure _
  | cons x t ih =>
    intro pre e
    have e3 : (pre.length : Int) < ((ints cuts).length : Int) := by rw [ints_len, e]; simp; omega
    have hpl : pre.length < 127 := by rw [e] at hl; simp at hl; omega
    have hiw : pre.length < 9223372036854775807 := by omega
    have r1 : rd (ints cuts) (pre.length : Int) = (x : Int) := by rw [e]; exact rd_intsmid pre t x
    have hx3 : cross st x < 2 ^ 63 := by have := cross_lt hs x; omega
    refine Ev.succ ?_
    simp only [trishawref09_mends.l0, e3, if_true, Int.natCast_nonneg, r1, w64s _ hiw]
    refine Ev.bind (rcrossing_ev hs x) ?_
    simp only [and_nat _ _ hx3 hX, Int.natCast_eq_zero]
    rw [List.map_cons, hits, List.all_cons]
    by_cases h : cross st x &&& X = 0
    · have hb : (cross st x &&& X == 0) = true := by rw [h]; rfl
      simp only [h, if_true, hb, Bool.not_true, Bool.false_and]; exact Ev.pure _
    · have hb : (cross st x &&& X == 0) = false := beq_eq_false_iff_ne.mpr h
      simp only [h, if_false, hb, Bool.not_false, Bool.true_and]
      have := ih (pre ++ [x]) (by rw [e]; simp)
      rw [List.length_append] at this
      exact this
theorem rmends_ev {n : Nat} {st : List S34} (hs : Sane n st) (X : Nat) (hX : X < 2 ^ 63) : Ev (fun k => trishawref09_mends.f k st (ints (cutsN n st)) X) (hits ((cutsN n st).map (cross st)) X) :=
  rmends_l0 hs (cutsN n st) (cutsN_small hs) X hX (cutsN n st) [] rfl
end Go.Proofs.Ytjbfbdanbpfplaa.OAll
