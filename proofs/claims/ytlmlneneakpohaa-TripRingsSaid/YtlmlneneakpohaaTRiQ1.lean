/- A part of the proof of 'tripRings_holds', for every input, without a condition. -/
import Derived.Test.YtlmlneneakpohaaTRiQs
import Derived.Test.YtlmlneneakpohaaTRiOAllx0
import Derived.Test.YtlmlneneakpohaaTRiOAllx3
import Derived.Test.YtlmlneneakpohaaTRiOAllx8
import Derived.Test.YtlmlneneakpohaaTRiOAllx9
import Derived.Test.YtlmlneneakpohaaTRiOAllx24
namespace Go.Proofs.Ytlmlneneakpohaa.OAll
open Go.RowKit Go.Proofs.YtlmlneneakpohaaW.PrintWords Go.Proofs.YtlmlneneakpohaaW.PrintLast Go.Proofs.YtlmlneneakpohaaW.PrintMore
set_option linter.unusedVariables false
set_option linter.unusedSimpArgs false
def memR (l : List S36) (i n : Nat) : List Nat := (List.range n).filter (fun k => loN l k == i)
def headR (l : List S36) (n : Nat) : List Nat := (List.range n).filter (fun i => loN l i == i)
def ringsN (l : List S36) : List (List Int) := (headR l l.length).map (fun i => nI (memR l i l.length))
theorem memR_succ (l : List S36) (i n : Nat) : memR l i (n + 1) = if loN l n = i then memR l i n ++ [n] else memR l i n := by
  unfold memR
  rw [List.range_succ, List.filter_append]
  split
  · rename_i h; simp [h]
  · rename_i h; simp [h]
theorem headR_succ (l : List S36) (n : Nat) : headR l (n + 1) = if loN l n = n then headR l n ++ [n] else headR l n := by
  unfold headR
  rw [List.range_succ, List.filter_append]
  split
  · rename_i h; simp [h]
  · rename_i h; simp [h]
theorem memR_in {l : List S36} {i n k : Nat} : k ∈ memR l i n ↔ k < n ∧ loN l k = i := by
  unfold memR
  rw [List.mem_filter, List.mem_range, beq_iff_eq]
theorem headR_in {l : List S36} {n i : Nat} : i ∈ headR l n ↔ i < n ∧ loN l i = i := by
  unfold headR
  rw [List.mem_filter, List.mem_range, beq_iff_eq]
theorem memR_len (l : List S36) (i : Nat) : ∀ n, (memR l i n).length ≤ n
  | 0 => by simp [memR]
  | n + 1 => by
    have := memR_len l i n
    rw [memR_succ]
    split
    · simp; omega
    · omega
theorem headR_len (l : List S36) : ∀ n, (headR l n).length ≤ n
  | 0 => by simp [headR]
  | n + 1 => by
    have := headR_len l n
    rw [headR_succ]
    split
    · simp; omega
    · omega
theorem lo_head {l : List S36} {k : Nat} (hk : k < l.length) : loN l (loN l k) = loN l k := by
  obtain ⟨s, hs⟩ := (loN_low hk).1
  have h1 : it (nxt l) s k = loN l k := hs
  have h2 := loN_it hk s
  rw [h1] at h2
  exact h2
theorem memR_head {l : List S36} {i : Nat} (hi : i < l.length) (h : loN l i = i) : memR l i l.length ≠ [] := by
  intro e
  have : i ∈ memR l i l.length := memR_in.mpr ⟨hi, h⟩
  rw [e] at this
  simp at this
theorem memR_none {l : List S36} {i : Nat} (hi : i < l.length) (h : loN l i ≠ i) : memR l i l.length = [] := by
  refine List.eq_nil_iff_forall_not_mem.mpr (fun k hk => h ?_)
  obtain ⟨h1, h2⟩ := memR_in.mp hk
  have := lo_head h1
  rw [h2] at this
  exact this
theorem Rings_l1 {l : List S36} (h9 : l.length ≤ 9) {i : Nat} (x5 : List (List Int)) {r : List (List Int) × Int} (hx5 : x5.length ≤ 1000)
    (hr : Ev (fun k => trip_Rings.l0 k (if memR l i l.length = [] then x5 else x5 ++ [nI (memR l i l.length)]) (ringI l) (l.length : Int) (wrap64 ((i : Int) + 1))) r) : ∀ d j : Nat, j + d = l.length →
    Ev (fun k => trip_Rings.l1 k x5 (ringI l) (i : Int) (nI (memR l i j)) (l.length : Int) (i : Int) (ringI l) ((ringI l).length : Int) (j : Int)) r
  | 0, j, e => by
    refine Ev.succ ?_
    obtain rfl : j = l.length := by omega
    simp only [trip_Rings.l1, ringI_len, if_neg (show ¬ (l.length : Int) < (l.length : Int) by omega), nI_len]
    by_cases c : memR l i l.length = []
    · rw [if_pos c] at hr
      simp only [c, List.length_nil, Int.natCast_zero, if_true]
      exact hr
    · rw [if_neg c] at hr
      have : 0 < (memR l i l.length).length := List.length_pos_iff.mpr c
      simp only [if_neg (show ¬ ((memR l i l.length).length : Int) = 0 by omega), if_pos (show x5.length < 5864062014805 by omega)]
      exact hr
  | d + 1, j, e => by
    refine Ev.succ ?_
    have hj : j < l.length := by omega
    have ih := Rings_l1 h9 x5 hx5 hr d (j + 1) (by omega)
    have hm := memR_len l i j
    rw [memR_succ] at ih
    simp only [trip_Rings.l1, ringI_len, if_pos (show (j : Int) < (l.length : Int) by omega), if_pos (show (0 : Int) ≤ (j : Int) by omega), ringI_rd hj, w64s j (show j < 9223372036854775807 by omega), nI_len, if_pos (show (memR l i j).length < 17592186044416 by omega)]
    simp only [ringI_len] at ih
    by_cases c : loN l j = i
    · simp only [if_pos (show (loN l j : Int) = (i : Int) by omega)]
      rw [if_pos c] at ih
      have e2 : nI (memR l i j) ++ [(j : Int)] = nI (memR l i j ++ [j]) := by simp [nI]
      rw [e2]
      exact ih
    · simp only [if_neg (show ¬ (loN l j : Int) = (i : Int) by omega)]
      rw [if_neg c] at ih
      exact ih
theorem Rings_l0 {l : List S36} (h9 : l.length ≤ 9) : ∀ d i : Nat, i + d = l.length → Ev (fun k => trip_Rings.l0 k ((headR l i).map (fun i => nI (memR l i l.length))) (ringI l) (l.length : Int) (i : Int)) (ringsN l, 0)
  | 0, i, e => by
    refine Ev.succ ?_
    obtain rfl : i = l.length := by omega
    simp only [trip_Rings.l0, if_neg (show ¬ (l.length : Int) < (l.length : Int) by omega)]
    exact Ev.pure _
  | d + 1, i, e => by
    refine Ev.succ ?_
    have hi : i < l.length := by omega
    have ih := Rings_l0 h9 d (i + 1) (by omega)
    have hh := headR_len l i
    simp only [trip_Rings.l0, if_pos (show (i : Int) < (l.length : Int) by omega)]
    refine Rings_l1 h9 (i := i) _ (by rw [List.length_map]; omega) ?_ l.length 0 (by omega)
    rw [w64s i (show i < 9223372036854775807 by omega)]
    rw [headR_succ] at ih
    by_cases c : loN l i = i
    · rw [if_neg (memR_head hi c)]
      rw [if_pos c, List.map_append] at ih
      exact ih
    · rw [if_pos (memR_none hi c)]
      rw [if_neg c] at ih
      exact ih
def ringsR (l : List S36) : List (List Int) × Int := if ridesE l = 0 then (ringsN l, 0) else ([], ridesE l)
theorem Rings_ev (l : List S36) : Ev (fun k => trip_Rings.f k l) (ringsR l) := by
  unfold trip_Rings.f ringsR
  simp only [toured_eq, Option.bind_some]
  by_cases c : ridesE l = 0
  · simp only [if_pos c]
    have hr := rides_right c
    have hR : Right l 0 0 := ⟨hr.1, hr.2, by omega, by omega⟩
    refine Ev.bind (rings_ev hR) ?_
    have := Rings_l0 hr.1.2 l.length 0 (by omega)
    simp only [ringI_len]
    exact this
  · simp only [if_neg c]
    exact Ev.pure _
theorem ringsN_len (l : List S36) : (ringsN l).length = (headR l l.length).length := by simp [ringsN]
theorem rides_day {l : List S36} {U D : Int} (h : dayE l U D = 0) : ridesE l = 0 := by
  unfold dayE at h
  split at h
  · assumption
  · exact h
theorem filter_drop {n x : Nat} (hx : x < n) {P Q : Nat → Bool} (hP : P x = true) (hQ : ∀ v, v < n → (Q v = true ↔ P v = true ∧ v ≠ x)) : ((List.range n).filter Q).length + 1 = ((List.range n).filter P).length := by
  induction n with
  | zero => omega
  | succ n ih =>
    rw [List.range_succ, List.filter_append, List.filter_append, List.length_append, List.length_append]
    by_cases e : x = n
    · subst e
      have h1 : (List.range x).filter Q = (List.range x).filter P := by
        refine List.filter_congr (fun v hv => ?_)
        have hv := List.mem_range.mp hv
        have := hQ v (by omega)
        cases hq : Q v <;> cases hp : P v <;> simp_all <;> omega
      have h2 : Q x = false := by
        cases hq : Q x with
        | false => rfl
        | true => exact absurd rfl ((hQ x (by omega)).mp hq).2
      rw [h1]
      simp [hP, h2]
    · have h3 := ih (by omega) (fun v hv => hQ v (by omega))
      have h4 : Q n = P n := by
        have := hQ n (by omega)
        cases hq : Q n <;> cases hp : P n <;> simp_all
      simp only [List.filter_cons, List.filter_nil, h4]
      omega
end Go.Proofs.Ytlmlneneakpohaa.OAll
