/- A part of the proof of 'tripTurned_holds', for every input, without a condition. -/
import Derived.Test.YtlmlneneakpohaaTTuQh
import Derived.Test.YtlmlneneakpohaaTTuOAllx0
import Derived.Test.YtlmlneneakpohaaTTuOAllx3
import Derived.Test.YtlmlneneakpohaaTTuOAllx4
import Derived.Test.YtlmlneneakpohaaTTuOAllx8
import Derived.Test.YtlmlneneakpohaaTTuOAllx9
import Derived.Test.YtlmlneneakpohaaTTuOAllx2
namespace Go.Proofs.Ytlmlneneakpohaa.OAll
open Go.RowKit Go.Proofs.YtlmlneneakpohaaW.PrintWords Go.Proofs.YtlmlneneakpohaaW.PrintLast Go.Proofs.YtlmlneneakpohaaW.PrintMore
set_option linter.unusedVariables false
set_option linter.unusedSimpArgs false
theorem hts_at (e : Bool) (l : List S36) {j : Nat} (h : j < l.length) : rd (hts e l) (j : Int) = hAt e l (rd (sortI e l) (j : Int)) := by
  rw [rd_get (by rw [hts_len]; exact h), rd_get (by rw [sortI_len]; exact h)]
  simp [hts]
def gapAt (l : List S36) (U D : Int) (j : Nat) : Int := (U + D) * mx 0 (mn (rd (hts true l) ((j + 1 : Nat) : Int)) (rd (hts false l) ((j + 1 : Nat) : Int)) - mx (rd (hts true l) (j : Int)) (rd (hts false l) (j : Int)))
def gapsI (l : List S36) (U D : Int) : List Int := (List.range (l.length - 1)).map (gapAt l U D)
theorem gapsI_len (l : List S36) (U D : Int) : (gapsI l U D).length = l.length - 1 := by simp [gapsI]
theorem hts_rd {l : List S36} {U D : Int} (h : Right l U D) (e : Bool) {j : Nat} (hj : j < l.length) : 0 ≤ rd (hts e l) (j : Int) ∧ rd (hts e l) (j : Int) ≤ 1000 :=
  hts_in h e _ (rd_mem (by rw [hts_len]; exact hj))
theorem gap_parts {l : List S36} {U D : Int} (h : Right l U D) {j : Nat} (hj : j + 1 < l.length) :
    0 ≤ mx 0 (mn (rd (hts true l) ((j + 1 : Nat) : Int)) (rd (hts false l) ((j + 1 : Nat) : Int)) - mx (rd (hts true l) (j : Int)) (rd (hts false l) (j : Int))) ∧ mx 0 (mn (rd (hts true l) ((j + 1 : Nat) : Int)) (rd (hts false l) ((j + 1 : Nat) : Int)) - mx (rd (hts true l) (j : Int)) (rd (hts false l) (j : Int))) ≤ 1000 ∧
    -1000 ≤ mn (rd (hts true l) ((j + 1 : Nat) : Int)) (rd (hts false l) ((j + 1 : Nat) : Int)) - mx (rd (hts true l) (j : Int)) (rd (hts false l) (j : Int)) ∧ mn (rd (hts true l) ((j + 1 : Nat) : Int)) (rd (hts false l) ((j + 1 : Nat) : Int)) - mx (rd (hts true l) (j : Int)) (rd (hts false l) (j : Int)) ≤ 1000 := by
  have h1 := hts_rd h true (show j < l.length by omega)
  have h2 := hts_rd h false (show j < l.length by omega)
  have h3 := hts_rd h true hj
  have h4 := hts_rd h false hj
  unfold mx mn
  refine ⟨?_, ?_, ?_, ?_⟩ <;> (repeat' split) <;> omega
theorem gapAt_bound {l : List S36} {U D : Int} (h : Right l U D) {j : Nat} (hj : j + 1 < l.length) : 0 ≤ gapAt l U D j ∧ gapAt l U D j ≤ 2000000 := by
  have hp := gap_parts h hj
  have hU := h.U_
  have hD := h.D_
  unfold gapAt
  generalize mx 0 (mn (rd (hts true l) ((j + 1 : Nat) : Int)) (rd (hts false l) ((j + 1 : Nat) : Int)) - mx (rd (hts true l) (j : Int)) (rd (hts false l) (j : Int))) = g at hp
  have h1 := mul_bound hU ⟨hp.1, hp.2.1⟩
  have h2 := mul_bound hD ⟨hp.1, hp.2.1⟩
  have e : (U + D) * g = U * g + D * g := by grind
  omega
theorem gap_step {l : List S36} {U D : Int} (h : Right l U D) {j : Nat} (hj : j + 1 < l.length) :
    wrap64 ((wrap64 (U + D)) * (mx 0 (wrap64 ((mn ((rd_T36 l (rd (sortI true l) ((j + 1 : Nat) : Int))).f1) ((rd_T36 l (rd (sortI false l) ((j + 1 : Nat) : Int))).f0)) - (mx ((rd_T36 l (rd (sortI true l) (j : Int))).f1) ((rd_T36 l (rd (sortI false l) (j : Int))).f0)))))) = gapAt l U D j := by
  have e1 : (rd_T36 l (rd (sortI true l) ((j + 1 : Nat) : Int))).f1 = rd (hts true l) ((j + 1 : Nat) : Int) := (hts_at true l hj).symm
  have e2 : (rd_T36 l (rd (sortI false l) ((j + 1 : Nat) : Int))).f0 = rd (hts false l) ((j + 1 : Nat) : Int) := (hts_at false l hj).symm
  have e3 : (rd_T36 l (rd (sortI true l) (j : Int))).f1 = rd (hts true l) (j : Int) := (hts_at true l (by omega)).symm
  have e4 : (rd_T36 l (rd (sortI false l) (j : Int))).f0 = rd (hts false l) (j : Int) := (hts_at false l (by omega)).symm
  have hp := gap_parts h hj
  have hb := gapAt_bound h hj
  have hU := h.U_
  have hD := h.D_
  rw [e1, e2, e3, e4, w64 (n := U + D) (by omega) (by omega), w64 (n := mn _ _ - mx _ _) (by omega) (by omega)]
  exact w64 (n := gapAt l U D j) (by omega) (by omega)
theorem range_snoc (l : List S36) (U D : Int) (j : Nat) : (List.range j).map (gapAt l U D) ++ [gapAt l U D j] = (List.range (j + 1)).map (gapAt l U D) := by simp [List.range_succ]
theorem gaps_l0 {l : List S36} {U D : Int} (h : Right l U D) : ∀ r j : Nat, j + r + 1 = l.length →
    Ev (fun k => trip_day_gaps.l0 k (sortI true l) (sortI false l) ((List.range j).map (gapAt l U D)) (j : Int) U D l) (gapsI l U D)
  | 0, j, e => by
    refine Ev.succ ?_
    have h9 := h.len
    simp only [trip_day_gaps.l0, w64s j (show j < 9223372036854775807 by omega), sortI_len, if_neg (show ¬ ((j + 1 : Nat) : Int) < (l.length : Int) by omega)]
    unfold gapsI
    rw [show l.length - 1 = j by omega]
    exact Ev.pure _
  | r + 1, j, e => by
    refine Ev.succ ?_
    have h9 := h.len
    have hj : j + 1 < l.length := by omega
    have t0 := sortI_in true l _ (rd_mem (show j < (sortI true l).length by rw [sortI_len]; omega))
    have t1 := sortI_in true l _ (rd_mem (show j + 1 < (sortI true l).length by rw [sortI_len]; omega))
    have f0 := sortI_in false l _ (rd_mem (show j < (sortI false l).length by rw [sortI_len]; omega))
    have f1 := sortI_in false l _ (rd_mem (show j + 1 < (sortI false l).length by rw [sortI_len]; omega))
    have ih := gaps_l0 h r (j + 1) (by omega)
    simp only [trip_day_gaps.l0, w64s j (show j < 9223372036854775807 by omega), sortI_len, if_pos (show ((j + 1 : Nat) : Int) < (l.length : Int) by omega), if_pos (show (0 : Int) ≤ (j : Int) by omega), if_pos (show (j : Int) < (l.length : Int) by omega), if_pos (show (0 : Int) ≤ ((j + 1 : Nat) : Int) by omega), if_pos t0.1, if_pos t0.2, if_pos t1.1, if_pos t1.2, if_pos f0.1, if_pos f0.2, if_pos f1.1, if_pos f1.2, gap_step h hj, List.length_map, List.length_range, if_pos (show j < 17592186044416 by omega), range_snoc]
    exact ih
theorem dgaps_ev {l : List S36} {U D : Int} (h : Right l U D) : Ev (fun k => trip_day_gaps.f k U D l) (gapsI l U D) := by
  unfold trip_day_gaps.f
  simp only [(sorted_eq h _).1, (sorted_eq h _).2, Option.bind_some]
  have := h.len
  exact gaps_l0 h (l.length - 1) 0 (by omega)
end Go.Proofs.Ytlmlneneakpohaa.OAll
