/- A part of the proof of 'shareContent_holds', for every input, without a condition. -/
import Derived.Test.YtiafiebalibkdaaRows
import Derived.ProofKit
import Derived.SizedLaws
import Derived.Deep.SlicePairs
import Derived.Lib.SmallJoins
import Derived.Test.YtiafiebalibkdaaSCoOAllx0
namespace Go.Proofs.Ytiafiebalibkdaa.OAll
open Go.ChangeShapes Go.WideShapes Go.ChangeAt Go.RowKit Go.Joins Go.Deep Go.Proofs.YtiafiebalibkdaaW.PrintWords
set_option linter.unusedVariables false
set_option linter.unusedSimpArgs false
section
variable {H : Type} {enc : TypeId × Value → H} {P : Program} {W : World} {base : Nat} {held : Bool}
theorem open_rw_ints {t e : TypeId} {k : IntKind} {a : Option Addr} {len cap : Nat} {d : DataW H} {ps : List MemPlace} (hu : P.underlying t = some (.slice e)) (he : P.underlying e = some (.int k)) (hc : P.cellsOf e = 1)
    (h : DataW.Trod enc P W base (fun _ => true) held t (.slice a len cap) d ps) :
    ∃ l : List Int, len = l.length ∧ Kd.C (Kd.int k) W a l.length l ∧ l.length ≤ cap ∧ l.length ≤ maxLen ∧ ∀ x ∈ l, (Lit.int k x).wf = true := by
  obtain ⟨fuel, hf⟩ := h
  have hrow : (a = none ∧ len = 0 ∧ cap = 0 ∧ ([] : List Int) = []) ∨ ∃ zs : List Int, ∃ x, a = some x ∧ len ≤ cap ∧ cap ≤ maxLen ∧ zs.length = cap ∧ (∀ i, i < zs.length → W.cell? (x.add i) = some (.int k (zs.getD i 0))) ∧ ∀ n ∈ zs, (Lit.int k n).wf = true := by
    rcases open_ints hu he hc hf with ⟨hcs, _⟩ | ⟨x, l, c, zs, hcs, _, hl, hm, hz, _, hcell, hwz⟩
    · simp [Value.cells] at hcs
      obtain ⟨rfl, rfl, rfl⟩ := hcs
      exact .inl ⟨rfl, rfl, rfl, rfl⟩
    · simp [Value.cells] at hcs
      obtain ⟨rfl, rfl, rfl⟩ := hcs
      exact .inr ⟨zs, _, rfl, hl, hm, by simpa using hz, hcell, hwz⟩
  rcases hrow with ⟨rfl, rfl, rfl, _⟩ | ⟨zs, x, rfl, hl, hm, hz, hcell, hwz⟩
  · exact ⟨[], rfl, ⟨rfl, by simp, fun hp => by simp at hp⟩, Nat.le_refl _, Nat.zero_le _, fun x hx => by cases hx⟩
  · have hlen : (zs.take len).length = len := by rw [List.length_take]; omega
    refine ⟨zs.take len, hlen.symm, ?_, by omega, by omega, fun y hy => hwz y (List.mem_of_mem_take hy)⟩
    refine Kd.C_of_reads (d := (0 : Int)) (h1 := fun _ => rfl) ⟨rfl, by rw [hlen]; simp only [maxLen] at hm; omega, fun hp => ⟨x, rfl, fun j hj => ?_⟩⟩
    rw [hcell j (by omega)]
    congr 2
    rw [List.getD_eq_getElem?_getD, List.getD_eq_getElem?_getD, List.getElem?_take, if_pos (by omega)]
theorem open_rw_parts {t e : TypeId} {f0 f1 : Field} {v : Value} {d : DataW H} {p : List MemPlace} (hs : P.underlying t = some (.struct #[f0, f1])) (hone : oneCellFields P #[f0, f1] = true) (hC : P.cellsOf t = 2) (u0 : P.underlying f0.type = some (.slice e)) (he : P.underlying e = some (.int .i64)) (hc : P.cellsOf e = 1) (u1 : P.underlying f1.type = some (.int .i64))
    {r : Reach} {b0 : Nat} (hv : Value.okWide P W r b0 t v) (h : DataW.Trod enc P W base (fun _ => true) held t v d p) :
    ∃ (A : Option Addr) (cap : Nat) (l : List Int) (b : Int), v = .agg #[.slice A l.length cap, .int .i64 b] ∧ Kd.C (Kd.int .i64) W A l.length l ∧ l.length ≤ cap ∧ l.length ≤ maxLen ∧ (∀ x ∈ l, (Lit.int .i64 x).wf = true) ∧ (Lit.int .i64 b).wf = true := by
  obtain ⟨v0, v1, y0, y1, n, rfl, rfl, rfl, h0, h1⟩ := open_agg2 hs hone hC hv h
  obtain ⟨b, hb, _, wb⟩ := DataW.trod_int u1 h1
  simp only [List.cons.injEq, and_true] at hb
  subst hb
  have hrow : (∃ a len cap, v0 = .slice a len cap ∧ a = none ∧ len = 0 ∧ cap = 0) ∨ ∃ (zs : List Int) (x : Addr) (len cap : Nat), v0 = .slice (some x) len cap ∧ len ≤ cap ∧ cap ≤ maxLen ∧ zs.length = cap ∧ (∀ i, i < zs.length → W.cell? (x.add i) = some (.int .i64 (zs.getD i 0))) ∧ ∀ n ∈ zs, (Lit.int .i64 n).wf = true := by
    rcases open_ints u0 he hc h0 with ⟨hcs, _⟩ | ⟨x, l, c, zs, hcs, _, hl, hm, hz, _, hcell, hwz⟩
    · simp only [List.cons.injEq, and_true] at hcs
      exact .inl ⟨_, _, _, hcs, rfl, rfl, rfl⟩
    · simp only [List.cons.injEq, and_true] at hcs
      exact .inr ⟨zs, _, _, _, hcs, hl, hm, by simpa using hz, hcell, hwz⟩
  rcases hrow with ⟨a, len, cap, rfl, rfl, rfl, rfl⟩ | ⟨zs, x, len, cap, rfl, hl, hm, hz, hcell, hwz⟩
  · exact ⟨none, 0, [], b, rfl, ⟨rfl, by simp, fun hp => by simp at hp⟩, Nat.le_refl _, Nat.zero_le _, (fun x hx => by cases hx), wb⟩
  · have hlen : (zs.take len).length = len := by rw [List.length_take]; omega
    refine ⟨some x, cap, zs.take len, b, by rw [hlen], ?_, by omega, by omega, fun y hy => hwz y (List.mem_of_mem_take hy), wb⟩
    refine Kd.C_of_reads (d := (0 : Int)) (h1 := fun _ => rfl) ⟨rfl, by rw [hlen]; simp only [maxLen] at hm; omega, fun hp => ⟨x, rfl, fun j hj => ?_⟩⟩
    rw [hcell j (by omega)]
    congr 2
    rw [List.getD_eq_getElem?_getD, List.getD_eq_getElem?_getD, List.getElem?_take, if_pos (by omega)]
theorem open_rw_rows {t e e2 : TypeId} {a : Option Addr} {len cap : Nat} {d : DataW H} {ps : List MemPlace} (hu : P.underlying t = some (.slice e)) (he : P.underlying e = some (.slice e2)) (hi : P.underlying e2 = some (.int .i64)) (hc : P.cellsOf e = 1) (hc2 : P.cellsOf e2 = 1)
    (h : DataW.Trod enc P W base (fun _ => true) held t (.slice a len cap) d ps) :
    ∃ l : List (List Int), len = l.length ∧ Kd.C (Kd.slice 3 (Kd.int .i64)) W a l.length l ∧ l.length ≤ cap ∧ l.length ≤ maxLen ∧ ∀ r ∈ l, ∀ x ∈ r, (Lit.int .i64 x).wf = true := by
  obtain ⟨fuel, hf⟩ := h
  rcases open_slice1 hu hc hf with ⟨hcs, _⟩ | ⟨ad, len', cap', m, n, V, D, Pl, hcs, _, hl, hm, hmm, hx, hV⟩
  · simp [Value.cells] at hcs
    obtain ⟨rfl, rfl, rfl⟩ := hcs
    exact ⟨[], rfl, ⟨rfl, by simp, fun hp => by simp at hp⟩, Nat.le_refl _, Nat.zero_le _, fun x hx => by cases hx⟩
  · simp [Value.cells] at hcs
    obtain ⟨rfl, rfl, rfl⟩ := hcs
    simp only [if_true] at hmm
    subst hmm
    have each : ∀ i, i < m → ∃ r : List Int, (∃ A0 c0, V i = .slice A0 r.length c0 ∧ r.length ≤ c0 ∧ Kd.C (Kd.int .i64) W A0 r.length r) ∧ ∀ x ∈ r, (Lit.int .i64 x).wf = true := by
      intro i him
      rcases open_ints he hi hc2 (hV i him).2 with ⟨hcs, _⟩ | ⟨x, l, c, zs, hcs, _, hl, hm, hz, _, hcell, hwz⟩
      · simp only [List.cons.injEq, and_true] at hcs
        exact ⟨[], ⟨none, 0, hcs, Nat.le_refl _, rfl, by simp, fun hp => by simp at hp⟩, fun x hx => by cases hx⟩
      · simp only [List.cons.injEq, and_true] at hcs
        have hz' : zs.length = c := by simpa using hz
        have hlen : (zs.take l).length = l := by rw [List.length_take]; omega
        refine ⟨zs.take l, ⟨some x, c, by rw [hlen]; exact hcs, by omega, ?_⟩, fun y hy => hwz y (List.mem_of_mem_take hy)⟩
        refine Kd.C_of_reads (d := (0 : Int)) (h1 := fun _ => rfl) ⟨rfl, by rw [hlen]; simp only [maxLen] at hm; omega, fun hp => ⟨x, rfl, fun j hj => ?_⟩⟩
        rw [hcell j (by omega)]
        congr 2
        rw [List.getD_eq_getElem?_getD, List.getD_eq_getElem?_getD, List.getElem?_take, if_pos (by omega)]
    obtain ⟨q, hq⟩ := choose_lt each
    refine ⟨(List.range len).map q, by simp, ⟨rfl, by simp only [List.length_map, List.length_range, maxLen] at hm ⊢; omega, fun hp => ⟨ad, rfl, fun j p hj => ?_⟩⟩, by simpa using hl, by simp only [List.length_map, List.length_range]; omega, ?_⟩
    · simp only [List.getElem?_map, Option.map_eq_some_iff] at hj
      obtain ⟨j', hj', rfl⟩ := hj
      rw [List.getElem?_eq_some_iff] at hj'
      obtain ⟨hjl, hj'⟩ := hj'
      rw [List.getElem_range] at hj'
      subst hj'
      rw [List.length_range] at hjl
      obtain ⟨⟨A0, c0, hv, hl0, hC0⟩, _⟩ := hq j (by omega)
      refine ⟨[V j], rfl, ⟨A0, c0, by rw [hv], hl0, hC0⟩, fun i u hu => ?_⟩
      rcases i with _ | i
      · simp only [List.getElem?_cons_zero, Option.some.injEq] at hu
        rw [← hu]
        have := (hV j (by omega)).1
        show W.cell? (ad.add (j * 1 + 0)) = _
        rw [Nat.mul_one, Nat.add_zero]; exact this
      · simp at hu
    · intro r hr
      simp only [List.mem_map, List.mem_range] at hr
      obtain ⟨i, hi', rfl⟩ := hr
      exact (hq i (by omega)).2
end
end Go.Proofs.Ytiafiebalibkdaa.OAll
