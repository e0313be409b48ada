/- A part of the proof of 'fetchMended_holds', for every input, without a condition. -/
import Derived.Test.YtjbfbdanbpfplaaSEQj
import Derived.Test.YtjbfbdanbpfplaaSEQk
import Derived.Test.YtjbfbdanbpfplaaSEOAllx17
namespace Go.Proofs.Ytjbfbdanbpfplaa.OAll
open Go.RowKit Go.Proofs.YtjbfbdanbpfplaaW.PrintWords Go.Proofs.YtjbfbdanbpfplaaW.PrintLast Go.Proofs.YtjbfbdanbpfplaaW.PrintMore
set_option linter.unusedVariables false
set_option linter.unusedSimpArgs false
structure SmallOk (st : List S34) (p : List Nat) (m w : Nat) : Prop where
  cnt : m = cntN st w
  mem : w ∈ p
  low : ∀ c ∈ p, m ≤ cntN st c
  first : ∀ c ∈ p, cntN st c = m → w ≤ c
theorem asc_mem {m : Nat} : ∀ (l : List Int) (prev : Int) (acc X j : Nat), ascN m prev acc l = some X → X.testBit j = true → acc.testBit j = true ∨ (j : Int) ∈ l
  | [], prev, acc, X, j, h, hj => by obtain rfl := Option.some.inj h; exact Or.inl hj
  | v :: t, prev, acc, X, j, h, hj => by
    rw [ascN] at h
    by_cases c : v < 0 ∨ v ≥ (m : Int) ∨ v ≤ prev
    · rw [if_pos c] at h; cases h
    · rw [if_neg c] at h
      rcases asc_mem t v _ X j h hj with h' | h'
      · rw [Nat.testBit_or, Bool.or_eq_true, Nat.testBit_two_pow, decide_eq_true_eq] at h'
        rcases h' with h' | h'
        · exact Or.inl h'
        · right
          have : (j : Int) = v := by omega
          rw [this]; exact List.mem_cons_self
      · exact Or.inr (List.mem_cons_of_mem _ h')
end Go.Proofs.Ytjbfbdanbpfplaa.OAll
