/- A part of the proof of 'topBridge_holds', for every input, without a condition. -/
import Derived.Test.YtknecgmmpjggiaaDoorTBrTp
import Derived.Test.YtknecgmmpjggiaaDoorTBrTe
import Derived.Test.YtknecgmmpjggiaaDoorTBrQe
namespace Go.Proofs.YtknecgmmpjggiaaDoor.OAll
open Go.RowKit Go.Proofs.YtknecgmmpjggiaaDoorW.PrintWords Go.Proofs.YtknecgmmpjggiaaDoorW.PrintLast Go.Proofs.YtknecgmmpjggiaaDoorW.PrintMore
set_option linter.unusedVariables false
set_option linter.unusedSimpArgs false
def trishawtop_streets.f : Option Bool := some true
theorem trishawtop_streets.calls (r : Bool) (w : World) (h : trishawtop_streets.f = some r) : Calls Tryd.prog 5 #[] w fun e w' => e = .returned (.bool r) ∧ Below w.heap.size w w' := by
  obtain rfl := Option.some.inj h
  exact top_streets w
theorem signFrom_mem (s : ByteArray) : ∀ (l : List S30) (i : Nat) (r : S30), r ∈ signFrom s i l → ∃ x, x ∈ l ∧ (r = x ∨ r = turnS x)
  | [], _, r, h => by cases h
  | x :: t, i, r, h => by
    have h' : r ∈ (if bt s i = 60 then (⟨x.f1, x.f0⟩ : S30) else x) :: signFrom s (i + 1) t := h
    rcases List.mem_cons.1 h' with e | h'
    · refine ⟨x, List.mem_cons_self, ?_⟩
      rw [e]; split
      · exact .inr rfl
      · exact .inl rfl
    · obtain ⟨y, hy, hr⟩ := signFrom_mem s t (i + 1) r h'
      exact ⟨y, List.mem_cons_of_mem _ hy, hr⟩
theorem sign_sane {n : Nat} {st : List S30} (hs : Sane n st) (s : ByteArray) : Sane n (signFrom s 0 st) :=
  ⟨hs.1, by rw [signFrom_len]; exact hs.2.1, fun r hr => by
    obtain ⟨x, hx, rfl | rfl⟩ := signFrom_mem s st 0 r hr
    · exact hs.2.2 _ hx
    · exact ends_turn (hs.2.2 x hx)⟩
theorem sane_arcs {n : Nat} {st : List S30} (hs : Sane n st) : Arcs n st := ⟨hs.1, by have := hs.2.1; omega, hs.2.2⟩
def sbN (n : Nat) (st : List S30) (k : Nat) : Bool := (cutsN n (signFrom (strB (sgn st.length k)) 0 st)).isEmpty
def firstN (n : Nat) (st : List S30) : Option Nat := firstFrom (sbN n st) (2 ^ st.length) 0
def oneway_First.f (a0 : Int) (l1 : List S30) : Option (ByteArray × Int) := if readO a0 l1 = 0 then some (firstS l1.length (firstN a0.toNat l1), firstE (firstN a0.toNat l1)) else none
theorem oneway_First.calls (a0 : Int) (A1 : Option Addr) (c1 : Nat) (l1 : List S30) (r1 : ByteArray) (r2 : Int) (w : World) (hr1 : Kd.C k30 w A1 l1.length l1) (hc1 : l1.length ≤ c1) (h : oneway_First.f a0 l1 = some (r1, r2)) :
    Calls Tryd.prog 12 #[.int .i64 a0, .slice A1 l1.length c1] w fun e w' => e = .returned (.tuple #[.string r1, .int .i64 r2]) ∧ Below w.heap.size w w' := by
  unfold oneway_First.f at h
  split at h
  · rename_i h0
    simp only [Option.some.injEq, Prod.mk.injEq] at h
    obtain ⟨rfl, rfl⟩ := h
    obtain ⟨hs, h1, ha⟩ := read_sane h0
    have hrd := oread_ev a0 l1
    rw [if_pos h0] at hrd
    obtain ⟨Kr, hKr⟩ := hrd.ex
    refine first_calls a0 A1 c1 l1 (sbN a0.toNat l1) w hr1 hc1 hs.2.1 Kr hKr fun k hk => ?_
    have := strong_ev (sane_arcs (sign_sane hs (strB (sgn l1.length k))))
    rw [ha] at this
    exact this.ex
  · cases h
end Go.Proofs.YtknecgmmpjggiaaDoor.OAll
