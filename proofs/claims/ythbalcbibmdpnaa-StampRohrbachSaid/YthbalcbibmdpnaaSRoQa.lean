/- A part of the proof of 'stampRohrbach_holds', for every input, without a condition. -/
import Derived.Test.YthbalcbibmdpnaaSRoOAllx0
namespace Go.Proofs.Ythbalcbibmdpnaa.OAll
open Go.RowKit Go.Proofs.YthbalcbibmdpnaaW.PrintWords Go.Proofs.YthbalcbibmdpnaaW.PrintLast Go.Proofs.YthbalcbibmdpnaaW.PrintMore
set_option linter.unusedVariables false
set_option linter.unusedSimpArgs false
def Ev {α : Type} (g : Nat → Option α) (r : α) : Prop := ∃ K, ∀ k, K ≤ k → g k = some r
theorem Ev.bind {α β : Type} {g : Nat → Option α} {h : Nat → α → Option β} {a : α} {r : β} (hg : Ev g a) (hh : Ev (fun k => h k a) r) : Ev (fun k => (g k).bind (h k)) r := by
  obtain ⟨K, hK⟩ := hg; obtain ⟨L, hL⟩ := hh
  exact ⟨max K L, fun k hk => by show (g k).bind (h k) = _; rw [hK k (by omega), Option.bind_some]; exact hL k (by omega)⟩
end Go.Proofs.Ythbalcbibmdpnaa.OAll
