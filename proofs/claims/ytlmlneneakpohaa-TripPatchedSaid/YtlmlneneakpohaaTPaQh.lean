/- A part of the proof of 'tripPatched_holds', for every input, without a condition. -/
import Derived.Test.YtlmlneneakpohaaTPaQg
import Derived.Test.YtlmlneneakpohaaTPaQb
import Derived.Test.YtlmlneneakpohaaTPaOAllx0
import Derived.Test.YtlmlneneakpohaaTPaOAllx3
import Derived.Test.YtlmlneneakpohaaTPaOAllx5
import Derived.Test.YtlmlneneakpohaaTPaOAllx9
import Derived.Test.YtlmlneneakpohaaTPaOAllx14
import Derived.Test.YtlmlneneakpohaaTPaOAllx2
import Derived.Test.YtlmlneneakpohaaTPaOAllx16
import Derived.Test.YtlmlneneakpohaaTPaOAllx4
import Derived.Test.YtlmlneneakpohaaTPaOAllx8
namespace Go.Proofs.Ytlmlneneakpohaa.OAll
open Go.RowKit Go.Proofs.YtlmlneneakpohaaW.PrintWords Go.Proofs.YtlmlneneakpohaaW.PrintLast Go.Proofs.YtlmlneneakpohaaW.PrintMore
set_option linter.unusedVariables false
set_option linter.unusedSimpArgs false
def hts (e : Bool) (l : List S36) : List Int := (sortI e l).map (hAt e l)
theorem hts_len (e : Bool) (l : List S36) : (hts e l).length = l.length := by simp [hts, sortI_len]
theorem hts_in {l : List S36} {U D : Int} (h : Right l U D) (e : Bool) : ∀ x ∈ hts e l, 0 ≤ x ∧ x ≤ 1000 := by
  intro x hx
  simp only [hts, List.mem_map] at hx
  obtain ⟨y, hy, rfl⟩ := hx
  exact hAt_bound h e (sortI_in e l y hy)
def sumL {α : Type} (g : α → Int) : List α → Int
  | [] => 0
  | x :: t => g x + sumL g t
theorem sumL_app {α : Type} (g : α → Int) : ∀ a b : List α, sumL g (a ++ b) = sumL g a + sumL g b
  | [], b => by simp [sumL]
  | x :: a, b => by simp only [List.cons_append, sumL, sumL_app g a b]; omega
theorem placeI_out : ∀ (T F m : List Int) (x : Int), inN m.length T → 0 ≤ x → x ∉ T → rd (placeI m T F) x = rd m x
  | [], F, m, x, _, _, _ => by simp [placeI]
  | t :: T, [], m, x, _, _, _ => by simp [placeI]
  | t :: T, f :: F, m, x, hT, hx, hn => by
    have ht := hT t (by simp)
    rw [placeI, placeI_out T F _ x (fun y hy => by rw [List.length_set]; exact hT y (by simp [hy])) hx (fun h => hn (by simp [h]))]
    have hne : t.toNat ≠ x.toNat := fun e => hn (by simp; omega)
    simp [rd, List.getD_eq_getElem?_getD, List.getElem?_set_ne hne]
end Go.Proofs.Ytlmlneneakpohaa.OAll
