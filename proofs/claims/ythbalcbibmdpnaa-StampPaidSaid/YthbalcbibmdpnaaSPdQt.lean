/- A part of the proof of 'stampPaid_holds', for every input, without a condition. -/
import Derived.Test.YthbalcbibmdpnaaSPdQo
import Derived.Test.YthbalcbibmdpnaaSPdQh
import Derived.Test.YthbalcbibmdpnaaSPdQi
import Derived.Test.YthbalcbibmdpnaaSPdOAllx6
import Derived.Test.YthbalcbibmdpnaaSPdRr
import Derived.Test.YthbalcbibmdpnaaSPdRm
import Derived.Test.YthbalcbibmdpnaaSPdOAllx0
import Derived.Test.YthbalcbibmdpnaaSPdOAllx2
import Derived.Test.YthbalcbibmdpnaaSPdOAllx3
namespace Go.Proofs.Ythbalcbibmdpnaa.OAll
open Go.RowKit Go.Proofs.YthbalcbibmdpnaaW.PrintWords Go.Proofs.YthbalcbibmdpnaaW.PrintLast Go.Proofs.YthbalcbibmdpnaaW.PrintMore
set_option linter.unusedVariables false
set_option linter.unusedSimpArgs false
def wayI (h : Int) (l : List Int) (a : Int) : Int × Int := if askI h l a = 0 then (((atM l (h.toNat + 1) l.length a : Nat) : Int), 0) else (0, askI h l a)
theorem ways_all (h : Int) (l : List Int) (a : Int) : Ev (fun k => stamp_Ways.f k h l a) (wayI h l a) := by
  unfold stamp_Ways.f wayI
  refine Ev.bind (asked_ev h l a) ?_
  by_cases c : askI h l a = 0
  · obtain ⟨o, s, a0, a1⟩ := askI_zero c
    have hl := s.len
    have hh := o.h
    obtain ⟨et, ht, ht1⟩ := o.top
    have hok : okL l h.toNat a := ⟨⟨by omega, by omega⟩, fun v hv => by have := o.val v hv; omega, by omega, by omega⟩
    have hb := atM_le l l.length a hl.2 (h.toNat + 1) (by omega)
    simp only [if_pos c, if_pos (And.intro (show 0 ≤ h by omega) hok)]
    rw [waysN_atM s, w64n _ (by omega)]
    exact Ev.pure _
  · simp only [if_neg c]
    exact Ev.pure _
end Go.Proofs.Ythbalcbibmdpnaa.OAll
