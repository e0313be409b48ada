/- A part of the proof of 'topReach_holds', for every input, without a condition. -/
import Derived.Test.YtknecgmmpjggiaaDoorTReQa
namespace Go.Proofs.YtknecgmmpjggiaaDoor.OAll
open Go.RowKit Go.Proofs.YtknecgmmpjggiaaDoorW.PrintWords Go.Proofs.YtknecgmmpjggiaaDoorW.PrintLast Go.Proofs.YtknecgmmpjggiaaDoorW.PrintMore
set_option linter.unusedVariables false
set_option linter.unusedSimpArgs false
def StrP (n : Nat) (A : S30 → Prop) : Prop := ∀ X, 0 < X → X < 2 ^ n - 1 → ∃ s, A s ∧ backS X s = true
theorem StrP.imp {n : Nat} {A B : S30 → Prop} (h : StrP n A) (hi : ∀ s, A s → B s) : StrP n B := fun X h0 h1 => by
  obtain ⟨s, hs, hb⟩ := h X h0 h1
  exact ⟨s, hi s hs, hb⟩
theorem back_iff (X : Nat) (s : S30) : backS X s = true ↔ inb X s.f0 = false ∧ inb X s.f1 = true := by
  unfold backS; cases inb X s.f0 <;> cases inb X s.f1 <;> simp
def Ends (n : Nat) (s : S30) : Prop := 0 ≤ s.f0 ∧ s.f0 < n ∧ 0 ≤ s.f1 ∧ s.f1 < n ∧ s.f0 ≠ s.f1
theorem ends_turn {n : Nat} {s : S30} (h : Ends n (turnS s)) : Ends n s := ⟨h.2.2.1, h.2.2.2.1, h.1, h.2.1, fun e => h.2.2.2.2 e.symm⟩
theorem str_cuts {n : Nat} {st : List S30} : cutsN n st = [] ↔ StrP n (fun r => r ∈ st) := by
  constructor
  · intro h X X0 X1
    refine Classical.byContradiction fun hn => ?_
    have : X ∈ cutsN n st := cutsN_mem.2 (isCut_mk X0 X1 fun s hm => by
      cases hb : backS X s
      · rfl
      · exact absurd ⟨s, hm, hb⟩ hn)
    rw [h] at this; cases this
  · intro h
    refine List.eq_nil_iff_forall_not_mem.2 fun X hX => ?_
    obtain ⟨X0, X1, hb⟩ := isCut_pos (cutsN_mem.1 hX)
    obtain ⟨s, hm, hs⟩ := h X X0 X1
    rw [hb s hm] at hs; cases hs
end Go.Proofs.YtknecgmmpjggiaaDoor.OAll
