/- A part of the proof of 'fetchStrong_holds', for every input, without a condition. -/
import Derived.Test.YtjbfbdanbpfplaaSTQr
import Derived.Test.YtjbfbdanbpfplaaSTQj
import Derived.Test.YtjbfbdanbpfplaaSTQk
import Derived.Test.YtjbfbdanbpfplaaSTOAllx0
import Derived.Test.YtjbfbdanbpfplaaSTOAllx6
import Derived.Test.YtjbfbdanbpfplaaSTOAllx7
import Derived.Test.YtjbfbdanbpfplaaSTOAllx8
import Derived.Test.YtjbfbdanbpfplaaSTOAllx9
import Derived.Test.YtjbfbdanbpfplaaSTOAllx2
import Derived.Test.YtjbfbdanbpfplaaSTOAllx3
import Derived.Test.YtjbfbdanbpfplaaSTOAllx4
import Derived.Test.YtjbfbdanbpfplaaSTOAllx13
import Derived.Test.YtjbfbdanbpfplaaSTOAllx16
namespace Go.Proofs.Ytjbfbdanbpfplaa.OAll
open Go.RowKit Go.Proofs.YtjbfbdanbpfplaaW.PrintWords Go.Proofs.YtjbfbdanbpfplaaW.PrintLast Go.Proofs.YtjbfbdanbpfplaaW.PrintMore
set_option linter.unusedVariables false
set_option linter.unusedSimpArgs false
def stAt (st : List S34) (i : Int) : S34 := rd_T34 st i
def bothN (st : List S34) (l : List Int) : List S34 := st ++ l.map fun i => turnS (stAt st i)
theorem asc_range {m : Nat} : ∀ (l : List Int) (prev : Int) (acc X : Nat), ascN m prev acc l = some X → ∀ v ∈ l, 0 ≤ v ∧ v < m
  | [], _, _, _, _, v, hv => by cases hv
  | w :: t, prev, acc, X, h, v, hv => by
    rw [ascN] at h
    by_cases c : w < 0 ∨ w ≥ (m : Int) ∨ w ≤ prev
    · rw [if_pos c] at h; cases h
    · rw [if_neg c] at h
      rcases List.mem_cons.mp hv with rfl | hv
      · omega
      · exact asc_range t w _ X h v hv
theorem both_l0 (st : List S34) (l : List Int) (hl : l.length < 9223372036854775807) : ∀ (suf pre : List Int) (out : List S34), l = pre ++ suf → (∀ v ∈ suf, 0 ≤ v ∧ v < st.length) → out.length + suf.length ≤ 14 →
    Ev (fun k => fetch_Both.l0 k st out l (l.length : Int) pre.length) (out ++ suf.map fun i => turnS (stAt st i), 0) := by
  intro suf
  induction suf with
  | nil =>
    intro pre out e hv ho
    have e3 : ¬ (pre.length : Int) < (l.length : Int) := by rw [e]; simp
    refine Ev.succ ?_
    simp only [fetch_Both.l0, e3, if_false, List.map_nil, List.append_nil]
    exact Ev.pure _
  | cons x t ih =>
    intro pre out e hv ho
    have e3 : (pre.length : Int) < (l.length : Int) := by rw [e]; simp; omega
    have hiw : pre.length < 9223372036854775807 := by omega
    have r1 : rd l (pre.length : Int) = x := by rw [e]; exact rd_mid pre t x
    have hx := hv x (List.mem_cons_self)
    simp only [List.length_cons] at ho
    have hol : out.length < 8796093022208 := by omega
    have := ih (pre ++ [x]) (out ++ [turnS (stAt st x)]) (by rw [e]; simp) (fun v h => hv v (List.mem_cons_of_mem _ h)) (by simp; omega)
    rw [List.length_append, List.append_assoc] at this
    refine Ev.succ ?_
    simp only [fetch_Both.l0, e3, if_true, Int.natCast_nonneg, r1, hx.1, hx.2, hol, w64s _ hiw]
    exact this
def bothR (st : List S34) (l : List Int) : List S34 × Int := if 14 < st.length + l.length then ([], 3) else if (ascN st.length (-1) 0 l).isSome then (bothN st l, 0) else ([], 2)
theorem fetch_Both_ev (a : Int) (st : List S34) (l : List Int) (hl : l.length ≤ 1000) : Ev (fun k => fetch_Both.f k a st l) (if codeN a st = 0 then bothR st l else ([], codeN a st)) := by
  unfold fetch_Both.f
  refine Ev.bind (read_ev a st) ?_
  by_cases h : codeN a st = 0
  · simp only [h, if_true]
    obtain ⟨hs, _, ha, _⟩ := code_sane h
    have h14 := hs.2.1
    have hlw : l.length < 9223372036854775807 := by omega
    have s1 : ((st.length : Int) + (l.length : Int)) = ((st.length + l.length : Nat) : Int) := by omega
    have s2 : st.length + l.length ≤ 9223372036854775807 := by omega
    rw [s1, w64n _ s2]
    unfold bothR
    by_cases h1 : 14 < st.length + l.length
    · have h1' : ((st.length + l.length : Nat) : Int) > 14 := by omega
      simp only [h1, h1', if_true]; exact Ev.pure _
    · have h1' : ¬ ((st.length + l.length : Nat) : Int) > 14 := by omega
      simp only [h1, h1', if_false]
      refine Ev.bind (asc_ev hs a l hlw) ?_
      cases hx : ascN st.length (-1) 0 l with
      | none => simp only [ascR, Bool.false_eq_true, if_false, Option.isSome_none]; exact Ev.pure _
      | some X =>
        have hap : api_Pair.f st = some st := by
          rw [api_Pair.f, if_pos]; simp only [List.length_nil]; omega
        simp only [ascR, if_true, Option.isSome_some, hap, Option.bind_some]
        exact both_l0 st l hlw l [] st rfl (asc_range l _ _ X hx) (by omega)
  · simp only [h, if_false]
    exact Ev.pure _
end Go.Proofs.Ytjbfbdanbpfplaa.OAll
