/- A part of the proof of 'shareRenumbered_holds', for every input, without a condition. -/
import Derived.Test.YtiafiebalibkdaaRows
import Derived.ProofKit
import Derived.SizedLaws
import Derived.Deep.SlicePairs
import Derived.Lib.SmallJoins
import Derived.Test.YtiafiebalibkdaaSRnOAllx0
namespace Go.Proofs.Ytiafiebalibkdaa.OAll
open Go.ChangeShapes Go.WideShapes Go.ChangeAt Go.RowKit Go.Joins Go.Deep Go.Proofs.YtiafiebalibkdaaW.PrintWords
set_option linter.unusedVariables false
set_option linter.unusedSimpArgs false
section
variable {H : Type} {enc : TypeId × Value → H} {P : Program} {W : World} {base : Nat} {held : Bool}
theorem open_rw_rows {t e e2 : TypeId} {a : Option Addr} {len cap : Nat} {d : DataW H} {ps : List MemPlace} (hu : P.underlying t = some (.slice e)) (he : P.underlying e = some (.slice e2)) (hi : P.underlying e2 = some (.int .i64)) (hc : P.cellsOf e = 1) (hc2 : P.cellsOf e2 = 1)
    (h : DataW.Trod enc P W base (fun _ => true) held t (.slice a len cap) d ps) :
    ∃ l : List (List Int), len = l.length ∧ Kd.C (Kd.slice 3 (Kd.int .i64)) W a l.length l ∧ l.length ≤ cap ∧ l.length ≤ maxLen ∧ ∀ r ∈ l, ∀ x ∈ r, (Lit.int .i64 x).wf = true := by
  obtain ⟨fuel, hf⟩ := h
  rcases open_slice1 hu hc hf with ⟨hcs, _⟩ | ⟨ad, len', cap', m, n, V, D, Pl, hcs, _, hl, hm, hmm, hx, hV⟩
  · simp [Value.cells] at hcs
    obtain ⟨rfl, rfl, rfl⟩ := hcs
    exact ⟨[], rfl, ⟨rfl, by simp, fun hp => by simp at hp⟩, Nat.le_refl _, Nat.zero_le _, fun x hx => by cases hx⟩
  · simp [Value.cells] at hcs
    obtain ⟨rfl, rfl, rfl⟩ := hcs
    simp only [if_true] at hmm
    subst hmm
    have each : ∀ i, i < m → ∃ r : List Int, (∃ A0 c0, V i = .slice A0 r.length c0 ∧ r.length ≤ c0 ∧ Kd.C (Kd.int .i64) W A0 r.length r) ∧ ∀ x ∈ r, (Lit.int .i64 x).wf = true := by
      intro i him
      rcases open_ints he hi hc2 (hV i him).2 with ⟨hcs, _⟩ | ⟨x, l, c, zs, hcs, _, hl, hm, hz, _, hcell, hwz⟩
      · simp only [List.cons.injEq, and_true] at hcs
        exact ⟨[], ⟨none, 0, hcs, Nat.le_refl _, rfl, by simp, fun hp => by simp at hp⟩, fun x hx => by cases hx⟩
      · simp only [List.cons.injEq, and_true] at hcs
        have hz' : zs.length = c := by simpa using hz
        have hlen : (zs.take l).length = l := by rw [List.length_take]; omega
        refine ⟨zs.take l, ⟨some x, c, by rw [hlen]; exact hcs, by omega, ?_⟩, fun y hy => hwz y (List.mem_of_mem_take hy)⟩
        refine Kd.C_of_reads (d := (0 : Int)) (h1 := fun _ => rfl) ⟨rfl, by rw [hlen]; simp only [maxLen] at hm; omega, fun hp => ⟨x, rfl, fun j hj => ?_⟩⟩
        rw [hcell j (by omega)]
        congr 2
        rw [List.getD_eq_getElem?_getD, List.getD_eq_getElem?_getD, List.getElem?_take, if_pos (by omega)]
    obtain ⟨q, hq⟩ := choose_lt each
    refine ⟨(List.range len).map q, by simp, ⟨rfl, by simp only [List.length_map, List.length_range, maxLen] at hm ⊢; omega, fun hp => ⟨ad, rfl, fun j p hj => ?_⟩⟩, by simpa using hl, by simp only [List.length_map, List.length_range]; omega, ?_⟩
    · simp only [List.getElem?_map, Option.map_eq_some_iff] at hj
      obtain ⟨j', hj', rfl⟩ := hj
      rw [List.getElem?_eq_some_iff] at hj'
      obtain ⟨hjl, hj'⟩ := hj'
      rw [List.getElem_range] at hj'
      subst hj'
      rw [List.length_range] at hjl
      obtain ⟨⟨A0, c0, hv, hl0, hC0⟩, _⟩ := hq j (by omega)
      refine ⟨[V j], rfl, ⟨A0, c0, by rw [hv], hl0, hC0⟩, fun i u hu => ?_⟩
      rcases i with _ | i
      · simp only [List.getElem?_cons_zero, Option.some.injEq] at hu
        rw [← hu]
        have := (hV j (by omega)).1
        show W.cell? (ad.add (j * 1 + 0)) = _
        rw [Nat.mul_one, Nat.add_zero]; exact this
      · simp at hu
    · intro r hr
      simp only [List.mem_map, List.mem_range] at hr
      obtain ⟨i, hi', rfl⟩ := hr
      exact (hq i (by omega)).2
end
end Go.Proofs.Ytiafiebalibkdaa.OAll
