/- A part of the proof of 'stampFewest_holds', for every input, without a condition. -/
import Derived.Test.YthbalcbibmdpnaaSFeQg
namespace Go.Proofs.Ythbalcbibmdpnaa.OAll
open Go.RowKit Go.Proofs.YthbalcbibmdpnaaW.PrintWords Go.Proofs.YthbalcbibmdpnaaW.PrintLast Go.Proofs.YthbalcbibmdpnaaW.PrintMore
set_option linter.unusedVariables false
set_option linter.unusedSimpArgs false
def SumN (l : List Int) : Nat → Int → Prop
  | 0, a => a = 0
  | m + 1, a => ∃ v, v ∈ l ∧ SumN l m (a - v)
theorem SumN.add {l : List Int} : ∀ (m n : Nat) (a b : Int), SumN l m a → SumN l n b → SumN l (m + n) (a + b)
  | 0, n, a, b, h, k => by
    have : a = 0 := h
    rw [this, Nat.zero_add, Int.zero_add]; exact k
  | m + 1, n, a, b, h, k => by
    obtain ⟨v, hv, h⟩ := h
    have := SumN.add m n _ b h k
    rw [show m + 1 + n = (m + n) + 1 by omega]
    exact ⟨v, hv, by rw [show a + b - v = a - v + b by omega]; exact this⟩
theorem fewI_len (h : Int) (l : List Int) : (fewI h l).length = topN h l + 1 := fwP_len h l _
end Go.Proofs.Ythbalcbibmdpnaa.OAll
