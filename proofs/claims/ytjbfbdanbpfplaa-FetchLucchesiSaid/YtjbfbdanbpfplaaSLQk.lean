/- A part of the proof of 'fetchLucchesi_holds', for every input, without a condition. -/
import Derived.Test.YtjbfbdanbpfplaaSLQh
import Derived.Test.YtjbfbdanbpfplaaSLOAllx12
namespace Go.Proofs.Ytjbfbdanbpfplaa.OAll
open Go.RowKit Go.Proofs.YtjbfbdanbpfplaaW.PrintWords Go.Proofs.YtjbfbdanbpfplaaW.PrintLast Go.Proofs.YtjbfbdanbpfplaaW.PrintMore
set_option linter.unusedVariables false
set_option linter.unusedSimpArgs false
def compN (n X : Nat) : Nat := (2 ^ n - 1) ^^^ X
theorem compN_bit {n X : Nat} (hX : X < 2 ^ n) (i : Nat) : (compN n X).testBit i = (decide (i < n) && !X.testBit i) := by
  rw [compN, Nat.testBit_xor, full_bit]
  by_cases h : i < n
  · simp [h]
  · have : X.testBit i = false := Nat.testBit_lt_two_pow (Nat.lt_of_lt_of_le hX (Nat.pow_le_pow_right (by decide) (by omega)))
    simp [h, this]
theorem compN_lt {n X : Nat} (hX : X < 2 ^ n) : compN n X < 2 ^ n := Nat.xor_lt_two_pow (by have := Nat.two_pow_pos n; omega) hX
theorem compN_inb {n X : Nat} (hX : X < 2 ^ n) {v : Int} (h0 : 0 ≤ v) (h1 : v < n) : inb (compN n X) v = !inb X v := by
  rw [inb, inb, compN_bit hX, decide_eq_true (by omega), Bool.true_and]
theorem cross_ne {n : Nat} {st : List S34} (hs : Sane n st) (h1 : 1 ≤ n) (hc : connB n st = true) {X : Nat} (hX : isCutB n st X = true) : cross st X ≠ 0 := by
  intro h
  have hp := isCut_pos hX
  have hX2 : X < 2 ^ n := by omega
  have hio : ∀ s ∈ st, inb X s.f0 = inb X s.f1 := fun s hs' => by
    have hb := hp.2.2 s hs'
    have ho : outS X s = false := by
      obtain ⟨j, hj, e⟩ := List.getElem_of_mem hs'
      cases ho : outS X s
      · rfl
      · have := (cross_bit st X j).mpr ⟨s, by rw [List.getElem?_eq_getElem hj, e], ho⟩
        rw [h] at this; simp at this
    unfold outS at ho; unfold backS at hb
    revert ho hb
    cases inb X s.f0 <;> cases inb X s.f1 <;> simp
  have hci := (conn_iff hs h1).mp hc
  cases h0 : X.testBit 0
  · have hY0 : (compN n X).testBit 0 = true := by rw [compN_bit hX2, h0, decide_eq_true (by omega)]; rfl
    have hYs : shut true st (compN n X) := fun s hs' => by
      have hm := hs.2.2 s hs'
      have e := hio s hs'
      rw [shutS, compN_inb hX2 hm.1 hm.2.1, compN_inb hX2 hm.2.2.1 hm.2.2.2.1, e]
      exact ⟨id, fun _ => id⟩
    have hY := hci _ (compN_lt hX2) hY0 hYs
    apply Nat.ne_of_gt hp.1
    apply Nat.eq_of_testBit_eq; intro i
    rw [Nat.zero_testBit]
    cases hi : X.testBit i
    · rfl
    · have := compN_bit hX2 i
      rw [hY, full_bit, hi] at this
      have hin := bit_in hX2 hi
      rw [decide_eq_true hin] at this; cases this
  · have := hci X hX2 h0 (fun s hs' => by rw [shutS, hio s hs']; exact ⟨id, fun _ => id⟩)
    omega
structure Least (all : List Nat) (i : Nat) (s : Bool × List Nat × Nat) : Prop where
  low : ∀ X, X < i → hits all X = true → s.1 = true ∧ s.2.1.length ≤ (bitsN X).length
  is : s.1 = true → ∃ X, X < i ∧ hits all X = true ∧ s.2.1 = bitsN X
theorem least_step {all : List Nat} {i : Nat} {s : Bool × List Nat × Nat} (h : Least all i s) : Least all (i + 1) (tellN all s i) := by
  unfold tellN
  cases hh : hits all i
  · rw [if_neg (by decide)]
    refine ⟨fun X hX hX' => ?_, fun hs => ?_⟩
    · rcases Nat.lt_or_ge X i with h' | h'
      · exact h.low X h' hX'
      · obtain rfl : X = i := by omega
        rw [hh] at hX'; cases hX'
    · obtain ⟨X, hX, hX'⟩ := h.is hs
      exact ⟨X, by omega, hX'⟩
  · rw [if_pos rfl]
    by_cases hc : s.1 = false ∨ (bitsN i).length < s.2.1.length
    · rw [if_pos hc]
      refine ⟨fun X hX hX' => ⟨rfl, ?_⟩, fun _ => ⟨i, by omega, hh, rfl⟩⟩
      show (bitsN i).length ≤ _
      rcases Nat.lt_or_ge X i with h' | h'
      · have := h.low X h' hX'
        rcases hc with hc | hc
        · rw [hc] at this; exact absurd this.1 (by decide)
        · omega
      · obtain rfl : X = i := by omega
        exact Nat.le_refl _
    · rw [if_neg hc]
      have hc1 : s.1 = true := by cases h : s.1 <;> simp_all
      have hc2 : ¬ (bitsN i).length < s.2.1.length := fun h => hc (Or.inr h)
      by_cases he : (bitsN i).length = s.2.1.length
      · rw [if_pos he]
        refine ⟨fun X hX hX' => ⟨hc1, ?_⟩, fun _ => ?_⟩
        · have hl : (if lexN (bitsN i) s.2.1 = true then bitsN i else s.2.1).length = s.2.1.length := by
            split
            · exact he
            · rfl
          show (if lexN (bitsN i) s.2.1 = true then bitsN i else s.2.1).length ≤ _
          rw [hl]
          rcases Nat.lt_or_ge X i with h' | h'
          · exact (h.low X h' hX').2
          · obtain rfl : X = i := by omega
            omega
        · by_cases hx : lexN (bitsN i) s.2.1 = true
          · exact ⟨i, by omega, hh, if_pos hx⟩
          · obtain ⟨X, hX, hX', e⟩ := h.is hc1
            exact ⟨X, by omega, hX', (if_neg hx).trans e⟩
      · rw [if_neg he]
        refine ⟨fun X hX hX' => ?_, fun hs => ?_⟩
        · rcases Nat.lt_or_ge X i with h' | h'
          · exact h.low X h' hX'
          · obtain rfl : X = i := by omega
            exact ⟨hc1, by omega⟩
        · obtain ⟨X, hX, hX'⟩ := h.is hs
          exact ⟨X, by omega, hX'⟩
theorem least_all (all : List Nat) : ∀ m, Least all m (fewN all m)
  | 0 => ⟨fun X h => by omega, fun h => by cases h⟩
  | m + 1 => by
    have := least_step (least_all all m)
    rw [fewN, List.range_succ, List.foldl_append]
    exact this
theorem hits_iff {all : List Nat} {X : Nat} : hits all X = true ↔ ∀ c ∈ all, c &&& X ≠ 0 := by
  simp [hits, List.all_eq_true]
theorem and_full {m c : Nat} (h : c < 2 ^ m) : c &&& (2 ^ m - 1) = c := by
  apply Nat.eq_of_testBit_eq; intro i
  rw [Nat.testBit_and, full_bit]
  cases hi : c.testBit i
  · rfl
  · rw [decide_eq_true (bit_in h hi)]; rfl
theorem mend_spec {n : Nat} {st : List S34} (hs : Sane n st) (h1 : 1 ≤ n) (hc : connB n st = true) :
    (∃ X, X < 2 ^ st.length ∧ hits ((cutsN n st).map (cross st)) X = true ∧ (mendN n st).2.1 = bitsN X) ∧
    ∀ X, X < 2 ^ st.length → hits ((cutsN n st).map (cross st)) X = true → (mendN n st).2.1.length ≤ (bitsN X).length := by
  have hl := least_all ((cutsN n st).map (cross st)) (2 ^ st.length)
  refine ⟨hl.is ?_, fun X hX hX' => (hl.low X hX hX').2⟩
  have hp := Nat.two_pow_pos st.length
  refine (hl.low (2 ^ st.length - 1) (by omega) (hits_iff.mpr fun c hc' => ?_)).1
  obtain ⟨X, hX, rfl⟩ := List.mem_map.mp hc'
  rw [and_full (cross_lt' st X)]
  exact cross_ne hs h1 hc (cutsN_mem.mp hX)
end Go.Proofs.Ytjbfbdanbpfplaa.OAll
