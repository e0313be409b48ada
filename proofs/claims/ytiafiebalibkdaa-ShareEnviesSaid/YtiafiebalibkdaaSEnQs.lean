/- A part of the proof of 'shareEnvies_holds', for every input, without a condition. -/
import Derived.Test.YtiafiebalibkdaaSEnQr
import Derived.Test.YtiafiebalibkdaaSEnQa
import Derived.Test.YtiafiebalibkdaaSEnOAllx3
import Derived.Test.YtiafiebalibkdaaSEnOAllx4
import Derived.Test.YtiafiebalibkdaaSEnOAllx9
import Derived.Test.YtiafiebalibkdaaSEnOAllx0
import Derived.Test.YtiafiebalibkdaaSEnOAllx16
namespace Go.Proofs.Ytiafiebalibkdaa.OAll
open Go.RowKit Go.Proofs.YtiafiebalibkdaaW.PrintWords Go.Proofs.YtiafiebalibkdaaW.PrintLast Go.Proofs.YtiafiebalibkdaaW.PrintMore
set_option linter.unusedVariables false
set_option linter.unusedSimpArgs false
def cs (m : List Nat) : List Int := m.map fun k : Nat => (k : Int)
structure Wish (W : List (List Int)) (n : Nat) (rent : Int) : Prop where
  len : W.length = n
  pos : 1 ≤ n
  five : n ≤ 5
  row : ∀ j, j < n → (rd_L1 W (j : Int)).length = n
  ent : ∀ j k, j < n → k < n → 0 ≤ rd (rd_L1 W (j : Int)) (k : Int) ∧ rd (rd_L1 W (j : Int)) (k : Int) ≤ 1000
  sum : ∀ j, j < n → isum (rd_L1 W (j : Int)) = rent
def wN (W : List (List Int)) (j k : Nat) : Int := rd (rd_L1 W (j : Int)) (k : Int)
theorem fl_succ {n i : Nat} (h : i < n) : List.range' i (n - i) = i :: List.range' (i + 1) (n - (i + 1)) := by
  rw [show n - i = (n - (i + 1)) + 1 by omega, List.range'_succ]
theorem fl_end {n i : Nat} (h : n ≤ i) : List.range' i (n - i) = [] := by rw [show n - i = 0 by omega]; rfl
end Go.Proofs.Ytiafiebalibkdaa.OAll
