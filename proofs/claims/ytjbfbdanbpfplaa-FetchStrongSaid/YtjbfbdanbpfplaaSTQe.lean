/- A part of the proof of 'fetchStrong_holds', for every input, without a condition. -/
import Derived.Test.YtjbfbdanbpfplaaSTQd
import Derived.Test.YtjbfbdanbpfplaaSTOAllx7
import Derived.Test.YtjbfbdanbpfplaaSTOAllx9
namespace Go.Proofs.Ytjbfbdanbpfplaa.OAll
open Go.RowKit Go.Proofs.YtjbfbdanbpfplaaW.PrintWords Go.Proofs.YtjbfbdanbpfplaaW.PrintLast Go.Proofs.YtjbfbdanbpfplaaW.PrintMore
set_option linter.unusedVariables false
set_option linter.unusedSimpArgs false
theorem alive_ev : Ev (fun k => trishawlaw09_alive.f k) true :=
  Ev.mono (fun k => trishawlaw09_alive.mono k) (k := 200) (by kernel_rfl)
theorem alive_ev' : Ev (fun k => (trishawlaw09_alive.f k).bind fun t => some t) true := Ev.bind alive_ev (Ev.pure _)
theorem same_l0 (l : List Int) (hl : l.length < 9223372036854775807) : ∀ (suf pre : List Int), l = pre ++ suf → Ev (fun k => trishawlaw09_same.l0 k l l pre.length) true := by
  intro suf
  induction suf with
  | nil =>
    intro pre e
    have e3 : ¬ (pre.length : Int) < (l.length : Int) := by rw [e]; simp
    refine Ev.succ ?_
    simp only [trishawlaw09_same.l0, e3, if_false]
    exact Ev.pure _
  | cons s t ih =>
    intro pre e
    have e0 : pre.length < l.length := by rw [e]; simp
    have e1 : wrap64 ((pre.length : Int) + 1) = (((pre ++ [s]).length : Nat) : Int) := by
      rw [w64s _ (by omega)]; simp
    have e3 : (pre.length : Int) < (l.length : Int) := by omega
    refine Ev.succ ?_
    simp only [trishawlaw09_same.l0, e1, e3, if_true, nonneg_len]
    exact ih (pre ++ [s]) (by rw [e]; simp)
theorem same_ev {l l' : List Int} (e : l = l') (hl : l.length < 9223372036854775807) : Ev (fun k => trishawlaw09_same.f k l l') true := by
  subst e
  simp only [trishawlaw09_same.f, if_true]
  exact same_l0 l hl l [] rfl
theorem ints_len (l : List Nat) : (ints l).length = l.length := by simp [ints]
theorem cutsN_mem {n : Nat} {st : List S34} {X : Nat} : X ∈ cutsN n st ↔ isCutB n st X = true := by
  rw [cutsN, List.mem_filter, List.mem_range]
  exact ⟨fun h => h.2, fun h => ⟨(isCut_pos h).2.1, h⟩⟩
theorem few_eq (l : List S34) (l' : List Int) : trishawlaw09_few.f l l' = some (if (l.length : Int) ≤ 40 then decide ((l'.length : Int) ≤ 60) else false) := by
  unfold trishawlaw09_few.f; split <;> rfl
end Go.Proofs.Ytjbfbdanbpfplaa.OAll
