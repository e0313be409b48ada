/- A part of the proof of 'topReach_holds', for every input, without a condition. -/
import Derived.Test.YtknecgmmpjggiaaDoorRows
import Derived.ProofKit
import Derived.SizedLaws
import Derived.Deep.SlicePairs
import Derived.Lib.SmallJoins
import Derived.Test.YtknecgmmpjggiaaDoorTReOAllx0
namespace Go.Proofs.YtknecgmmpjggiaaDoor.OAll
open Go.ChangeShapes Go.WideShapes Go.ChangeAt Go.RowKit Go.Joins Go.Deep Go.Proofs.YtknecgmmpjggiaaDoorW.PrintWords
set_option linter.unusedVariables false
set_option linter.unusedSimpArgs false
section
variable {H : Type} {enc : TypeId × Value → H} {P : Program} {W : World} {base : Nat} {held : Bool}
theorem open_rw_pairs30 {t e : TypeId} {f0 f1 : Field} {a : Option Addr} {len cap : Nat} {d : DataW H} {ps : List MemPlace} {ts : List TypeId} {ds : List (DataW H)} {j : Nat}
    (hsz : (DataW.weightsEach P ts ds).all (· ≤ reachBytes) = true) (htj : ts[j]? = some t) (hdj : ds[j]? = some d) (hu : P.underlying t = some (.slice e)) (he : P.underlying e = some (.struct #[f0, f1]))
    (hall : (decide (P.cellsOf e = 2) && decide (f0.offset = 0) && decide (f1.offset = 1) && decide (P.cellsOf f0.type = 1) && decide (P.cellsOf f1.type = 1) && decide (P.bytesOf e = 16)) = true)
    (u0 : P.underlying f0.type = some (.int .i64)) (u1 : P.underlying f1.type = some (.int .i64))
    (h : DataW.Trod enc P W base (fun _ => true) held t (.slice a len cap) d ps) :
    ∃ l : List S30, len = l.length ∧ Kd.C k30 W a l.length l ∧ l.length ≤ cap ∧ l.length * 16 ≤ 140737488351232 ∧ ∀ x ∈ l, (Lit.int .i64 x.f0).wf = true ∧ (Lit.int .i64 x.f1).wf = true := by
  simp only [Bool.and_eq_true, decide_eq_true_eq] at hall
  obtain ⟨⟨⟨⟨⟨ce, o0⟩, o1⟩, c0⟩, c1⟩, hby⟩ := hall
  obtain ⟨fuel, hf⟩ := h
  rcases open_slice_pairs hu he ce o0 o1 c0 c1 hf with ⟨hcs, _⟩ | ⟨ad, len', cap', m, n, V0, V1, D0, D1, P0, P1, hcs, _, hl, hm, hmm, hx, hi⟩
  · simp [Value.cells] at hcs
    obtain ⟨rfl, rfl, rfl⟩ := hcs
    exact ⟨[], rfl, ⟨rfl, by simp, fun hp => by simp at hp⟩, Nat.le_refl _, by simp, fun x hx => by cases hx⟩
  · simp [Value.cells] at hcs
    obtain ⟨rfl, rfl, rfl⟩ := hcs
    simp only [if_true] at hmm
    subst hmm
    obtain ⟨hd, _⟩ := Prod.mk.inj hx
    subst hd
    have z := sized_slice hsz htj hdj hu
    rw [hby] at z
    simp only [List.length_map, List.length_range] at z
    have each : ∀ i, i < m → ∃ q : Int × Int, V0 i = .int .i64 q.1 ∧ V1 i = .int .i64 q.2 ∧ (Lit.int .i64 q.1).wf = true ∧ (Lit.int .i64 q.2).wf = true := by
      intro i him
      obtain ⟨_, _, h0, h1⟩ := hi i him
      obtain ⟨a, ha, _, wa⟩ := DataW.trod_int u0 h0
      obtain ⟨b, hb, _, wb⟩ := DataW.trod_int u1 h1
      simp only [List.cons.injEq, and_true] at ha hb
      exact ⟨(a, b), ha, hb, wa, wb⟩
    obtain ⟨q, hq⟩ := choose_lt each
    refine ⟨(List.range len).map fun i => ⟨(q i).1, (q i).2⟩, by simp, ⟨rfl, by simp only [List.length_map, List.length_range, maxLen] at hm ⊢; omega, fun hp => ⟨ad, rfl, fun j p hj => ?_⟩⟩, by simpa using hl, ?_, ?_⟩
    · simp only [List.getElem?_map, Option.map_eq_some_iff] at hj
      obtain ⟨j', hj', rfl⟩ := hj
      rw [List.getElem?_eq_some_iff] at hj'
      obtain ⟨hjl, hj'⟩ := hj'
      rw [List.getElem_range] at hj'
      subst hj'
      rw [List.length_range] at hjl
      refine ⟨_, rfl, k30_mk W _, fun i u hu => ?_⟩
      obtain ⟨e0, e1, _, _⟩ := hi j (by omega)
      obtain ⟨q0, q1, _, _⟩ := hq j (by omega)
      rcases i with _ | _ | i
      · simp only [List.getElem?_cons_zero, Option.some.injEq] at hu
        rw [← hu, ← q0, ← e0]; rfl
      · simp only [List.getElem?_cons_succ, List.getElem?_cons_zero, Option.some.injEq] at hu
        rw [← hu, ← q1, ← e1]; rfl
      · simp at hu
    · simp only [List.length_map, List.length_range]
      have hr : reachBytes = 140737488351232 := rfl
      rw [hr] at z
      omega
    · intro x hx
      simp only [List.mem_map, List.mem_range] at hx
      obtain ⟨i, hi', rfl⟩ := hx
      exact ⟨(hq i (by omega)).2.2.1, (hq i (by omega)).2.2.2⟩
end
end Go.Proofs.YtknecgmmpjggiaaDoor.OAll
