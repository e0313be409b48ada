/- A part of the proof of 'fetchMended_holds', for every input, without a condition. -/
import Derived.Test.YtjbfbdanbpfplaaSEQd
import Derived.Test.YtjbfbdanbpfplaaSEOAllx7
import Derived.Test.YtjbfbdanbpfplaaSEOAllx9
namespace Go.Proofs.Ytjbfbdanbpfplaa.OAll
open Go.RowKit Go.Proofs.YtjbfbdanbpfplaaW.PrintWords Go.Proofs.YtjbfbdanbpfplaaW.PrintLast Go.Proofs.YtjbfbdanbpfplaaW.PrintMore
set_option linter.unusedVariables false
set_option linter.unusedSimpArgs false
theorem alive_ev : Ev (fun k => trishawlaw09_alive.f k) true :=
  Ev.mono (fun k => trishawlaw09_alive.mono k) (k := 200) (by kernel_rfl)
theorem alive_ev' : Ev (fun k => (trishawlaw09_alive.f k).bind fun t => some t) true := Ev.bind alive_ev (Ev.pure _)
theorem ints_len (l : List Nat) : (ints l).length = l.length := by simp [ints]
theorem cutsN_len (n : Nat) (st : List S34) : (cutsN n st).length ≤ 2 ^ n - 1 := by
  have := List.length_filter_le (isCutB n st) (List.range (2 ^ n - 1))
  rw [List.length_range] at this
  exact this
theorem cutsN_small {n : Nat} {st : List S34} (hs : Sane n st) : (cutsN n st).length ≤ 127 := by
  have h7 : (2 : Nat) ^ n ≤ 2 ^ 7 := Nat.pow_le_pow_right (by decide) hs.1
  have := cutsN_len n st
  omega
theorem fetch_Cuts_ev (a : Int) (st : List S34) : Ev (fun k => fetch_Cuts.f k a st) (if codeN a st = 0 then (ints (cutsN a.toNat st), 0) else ([], codeN a st)) := by
  unfold fetch_Cuts.f
  refine Ev.bind (read_ev a st) ?_
  by_cases h : codeN a st = 0
  · simp only [h, if_true]
    obtain ⟨hs, _, ha, _⟩ := code_sane h
    refine Ev.bind ?_ (Ev.pure _)
    have := cuts_ev hs
    rw [ha] at this
    exact this
  · simp only [h, if_false]
    exact Ev.pure _
theorem rd_ints (c : List Nat) (i : Nat) (h : i < c.length) : rd (ints c) (i : Int) = ((c[i] : Nat) : Int) := by
  simp [rd, ints, h]
theorem cutsN_mem {n : Nat} {st : List S34} {X : Nat} : X ∈ cutsN n st ↔ isCutB n st X = true := by
  rw [cutsN, List.mem_filter, List.mem_range]
  exact ⟨fun h => h.2, fun h => ⟨(isCut_pos h).2.1, h⟩⟩
theorem cutsN_lt {n : Nat} {st : List S34} (hs : Sane n st) : ∀ x ∈ cutsN n st, x < 2 ^ 63 := fun x hx => by
  have := (isCut_pos (cutsN_mem.mp hx)).2.1
  have h7 : (2 : Nat) ^ n ≤ 2 ^ 7 := Nat.pow_le_pow_right (by decide) hs.1
  omega
theorem few_eq (l : List S34) (l' : List Int) : trishawlaw09_few.f l l' = some (if (l.length : Int) ≤ 40 then decide ((l'.length : Int) ≤ 60) else false) := by
  unfold trishawlaw09_few.f; split <;> rfl
end Go.Proofs.Ytjbfbdanbpfplaa.OAll
