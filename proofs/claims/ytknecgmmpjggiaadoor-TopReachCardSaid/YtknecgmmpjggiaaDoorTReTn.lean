/- A part of the proof of 'topReach_holds', for every input, without a condition. -/
import Derived.Test.YtknecgmmpjggiaaDoorTReTm
import Derived.Test.YtknecgmmpjggiaaDoorTReTe
import Derived.Test.YtknecgmmpjggiaaDoorTReQe
namespace Go.Proofs.YtknecgmmpjggiaaDoor.OAll
open Go.RowKit Go.Proofs.YtknecgmmpjggiaaDoorW.PrintWords Go.Proofs.YtknecgmmpjggiaaDoorW.PrintLast Go.Proofs.YtknecgmmpjggiaaDoorW.PrintMore
set_option linter.unusedVariables false
set_option linter.unusedSimpArgs false
def trishawtop_streets.f : Option Bool := some true
theorem trishawtop_streets.calls (r : Bool) (w : World) (h : trishawtop_streets.f = some r) : Calls Tryd.prog 5 #[] w fun e w' => e = .returned (.bool r) ∧ Below w.heap.size w w' := by
  obtain rfl := Option.some.inj h
  exact top_streets w
theorem signFrom_mem (s : ByteArray) : ∀ (l : List S30) (i : Nat) (r : S30), r ∈ signFrom s i l → ∃ x, x ∈ l ∧ (r = x ∨ r = turnS x)
  | [], _, r, h => by cases h
  | x :: t, i, r, h => by
    have h' : r ∈ (if bt s i = 60 then (⟨x.f1, x.f0⟩ : S30) else x) :: signFrom s (i + 1) t := h
    rcases List.mem_cons.1 h' with e | h'
    · refine ⟨x, List.mem_cons_self, ?_⟩
      rw [e]; split
      · exact .inr rfl
      · exact .inl rfl
    · obtain ⟨y, hy, hr⟩ := signFrom_mem s t (i + 1) r h'
      exact ⟨y, List.mem_cons_of_mem _ hy, hr⟩
theorem sign_sane {n : Nat} {st : List S30} (hs : Sane n st) (s : ByteArray) : Sane n (signFrom s 0 st) :=
  ⟨hs.1, by rw [signFrom_len]; exact hs.2.1, fun r hr => by
    obtain ⟨x, hx, rfl | rfl⟩ := signFrom_mem s st 0 r hr
    · exact hs.2.2 _ hx
    · exact ends_turn (hs.2.2 x hx)⟩
theorem sane_arcs {n : Nat} {st : List S30} (hs : Sane n st) : Arcs n st := ⟨hs.1, by have := hs.2.1; omega, hs.2.2⟩
end Go.Proofs.YtknecgmmpjggiaaDoor.OAll
