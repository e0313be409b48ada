/- A part of the proof of 'stampMirrors_holds', for every input, without a condition. -/
import Derived.Test.YthbalcbibmdpnaaSMiQc
import Derived.Test.YthbalcbibmdpnaaSMiOAllx5
namespace Go.Proofs.Ythbalcbibmdpnaa.OAll
open Go.RowKit Go.Proofs.YthbalcbibmdpnaaW.PrintWords Go.Proofs.YthbalcbibmdpnaaW.PrintLast Go.Proofs.YthbalcbibmdpnaaW.PrintMore
set_option linter.unusedVariables false
set_option linter.unusedSimpArgs false
theorem mirW_len (l : List Int) (h : 1 ≤ l.length) : (mirW l).length = l.length := by
  simp [mirW, bw_len]; omega
def mirI (l : List Int) : List Int × Int := if valI l = 0 then (mirW l, 0) else ([], valI l)
theorem mirrored_ev (l : List Int) : Ev (fun k => stamp_Mirrored.f k l) (mirI l) := by
  unfold stamp_Mirrored.f mirI
  refine Ev.bind (valued_ev l) ?_
  by_cases h : valI l = 0
  · obtain ⟨h1, h2, _⟩ := valI_zero h
    simp only [if_pos h, if_pos (show 0 < l.length ∧ l.length ≤ 6 from ⟨by omega, h2⟩)]
    exact Ev.pure _
  · simp only [if_neg h]
    exact Ev.pure _
theorem rd_take (l : List Int) (n k : Nat) (h : k < n) : rd (l.take n) (k : Int) = rd l (k : Int) := by
  simp [rd, List.getElem?_take, h]
theorem rmir_loop (l : List Int) (n : Nat) (hn : l.length = n + 1) (hl : n ≤ 5) : ∀ d k : Nat, k + d = n →
    Ev (fun q => trishawref04_Mirrored.l0 q l (((bw (l.take n)).take k).map (mirF (rd l (n : Int)))) ((n : Int) - 1 - (k : Int))) (mirW l, 0)
  | 0, k, hk => by
    have hzl : (l.take n).length = n := by rw [List.length_take]; omega
    have hw1 : wrap64 ((l.length : Int) - 1) = (n : Int) := by rw [w64 (by omega) (by omega)]; omega
    have e1 : (bw (l.take n)).take k = bw (l.take n) := List.take_of_length_le (by rw [bw_len, hzl]; omega)
    refine Ev.succ ?_
    simp only [trishawref04_Mirrored.l0, hw1, e1]
    simp only [if_neg (show ¬ ((n : Int) - 1 - (k : Int)) ≥ 0 by omega), if_pos (show (0 : Int) ≤ (n : Int) by omega), if_pos (show (n : Int) < (l.length : Int) by omega), if_pos (show ((bw (l.take n)).map (mirF (rd l (n : Int)))).length < 17592186044416 by rw [List.length_map, bw_len, hzl]; omega)]
    have : mirW l = (bw (l.take n)).map (mirF (rd l (n : Int))) ++ [rd l (n : Int)] := by
      unfold mirW
      rw [show l.length - 1 = n by omega]
    rw [← this]
    exact Ev.pure _
  | d + 1, k, hk => by
    have hzl : (l.take n).length = n := by rw [List.length_take]; omega
    have hw1 : wrap64 ((l.length : Int) - 1) = (n : Int) := by rw [w64 (by omega) (by omega)]; omega
    have ei : (n : Int) - 1 - (k : Int) = ((n - 1 - k : Nat) : Int) := by omega
    have hw2 : wrap64 (((n - 1 - k : Nat) : Int) - 1) = (n : Int) - 1 - ((k + 1 : Nat) : Int) := by rw [w64 (by omega) (by omega)]; omega
    have hts := bw_take_succ (l.take n) (k := k) (by omega)
    rw [hzl, rd_take _ _ _ (by omega)] at hts
    have ih := rmir_loop l n hn hl d (k + 1) (by omega)
    rw [hts, List.map_append] at ih
    refine Ev.succ ?_
    simp only [trishawref04_Mirrored.l0, hw1, ei, hw2]
    simp only [if_pos (show ((n - 1 - k : Nat) : Int) ≥ 0 by omega), if_pos (show (0 : Int) ≤ (n : Int) by omega), if_pos (show (n : Int) < (l.length : Int) by omega), if_pos (show (0 : Int) ≤ ((n - 1 - k : Nat) : Int) by omega), if_pos (show ((n - 1 - k : Nat) : Int) < (l.length : Int) by omega)]
    simp only [if_pos (show (((bw (l.take n)).take k).map (mirF (rd l (n : Int)))).length < 17592186044416 by rw [List.length_map, List.length_take]; omega)]
    exact ih
theorem rmirrored_ev (l : List Int) : Ev (fun k => trishawref04_Mirrored.f k l) (mirI l) := by
  unfold trishawref04_Mirrored.f mirI
  refine Ev.bind (rvalues_ev l) ?_
  by_cases h : valI l = 0
  · obtain ⟨h1, h2, _⟩ := valI_zero h
    simp only [if_pos h]
    have := rmir_loop l (l.length - 1) (by omega) (by omega) (l.length - 1) 0 (by omega)
    rw [show wrap64 ((l.length : Int) - 2) = ((l.length - 1 : Nat) : Int) - 1 - ((0 : Nat) : Int) by rw [w64 (by omega) (by omega)]; omega]
    simpa using this
  · simp only [if_neg h]
    exact Ev.pure _
theorem mirI_len (l : List Int) : (mirI l).1.length ≤ 6 := by
  unfold mirI
  split
  · rename_i h
    obtain ⟨h1, h2, _⟩ := valI_zero h
    show (mirW l).length ≤ 6
    rw [mirW_len l h1]; exact h2
  · simp
theorem StampMirrors_ev (l0 : List Int) : Ev (fun k => trishawlaw04_StampMirrors.f k l0) true := by
  unfold trishawlaw04_StampMirrors.f
  by_cases c1 : (l0.length : Int) > 30
  · simp only [if_pos c1]
    exact alive_ev'
  · simp only [if_neg c1, Option.bind_some]
    simp only [List.nil_append, List.length_nil, Nat.zero_add, if_pos (show l0.length < 17592186044416 by omega)]
    refine Ev.bind (mirrored_ev l0) (Ev.bind (rmirrored_ev l0) (Ev.bind (same_ev _ (by have := mirI_len l0; omega)) ?_))
    simp only [if_true]
    refine Ev.bind (same_ev l0 (by omega)) ?_
    simp only [if_true]
    exact alive_ev'
end Go.Proofs.Ythbalcbibmdpnaa.OAll
