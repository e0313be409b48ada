/- A part of the proof of 'tripTurned_holds', for every input, without a condition. -/
import Derived.Test.YtlmlneneakpohaaTTuQk
namespace Go.Proofs.Ytlmlneneakpohaa.OAll
open Go.RowKit Go.Proofs.YtlmlneneakpohaaW.PrintWords Go.Proofs.YtlmlneneakpohaaW.PrintLast Go.Proofs.YtlmlneneakpohaaW.PrintMore
set_option linter.unusedVariables false
set_option linter.unusedSimpArgs false
def relab (x y : Int) (o : List Int) : List Int := o.map (fun v => if v = x then y else v)
theorem relab_len (x y : Int) (o : List Int) : (relab x y o).length = o.length := by simp [relab]
theorem relab_rd {x y : Int} {o : List Int} {j : Nat} (h : j < o.length) : rd (relab x y o) (j : Int) = if rd o (j : Int) = x then y else rd o (j : Int) := by
  rw [rd_get (by rw [relab_len]; exact h), rd_get h]
  simp [relab]
def tN (l : List S36) (k : Nat) : Nat := (rd (sortI true l) (k : Int)).toNat
theorem tN_rd {l : List S36} {k : Nat} (h : k < l.length) : rd (sortI true l) (k : Int) = (tN l k : Int) ∧ tN l k < l.length := by
  have := sortI_in true l _ (rd_mem (show k < (sortI true l).length by rw [sortI_len]; exact h))
  unfold tN; omega
def ownP (l : List S36) (s : Nat) : Nat → List Int
  | 0 => ringI l
  | k + 1 => if s.testBit k = true then relab (rd (ownP l s k) (tN l k : Int)) (rd (ownP l s k) (tN l (k + 1) : Int)) (ownP l s k) else ownP l s k
def refR (l : List S36) (s : Nat) : Nat → List Int
  | 0 => ringI l
  | k + 1 => if s.testBit k = true then relab (rd (refR l s k) (tN l (k + 1) : Int)) (rd (refR l s k) (tN l k : Int)) (refR l s k) else refR l s k
theorem ownP_len (l : List S36) (s : Nat) : ∀ k, (ownP l s k).length = l.length
  | 0 => ringI_len l
  | k + 1 => by
    rw [ownP]
    split
    · rw [relab_len]; exact ownP_len l s k
    · exact ownP_len l s k
theorem refR_len (l : List S36) (s : Nat) : ∀ k, (refR l s k).length = l.length
  | 0 => ringI_len l
  | k + 1 => by
    rw [refR]
    split
    · rw [relab_len]; exact refR_len l s k
    · exact refR_len l s k
def Ker (n : Nat) (o r : List Int) : Prop := ∀ i j, i < n → j < n → (rd o (i : Int) = rd o (j : Int) ↔ rd r (i : Int) = rd r (j : Int))
theorem ker_step {n : Nat} {o r : List Int} (ho : o.length = n) (hr : r.length = n) (h : Ker n o r) {a b : Nat} (ha : a < n) (hb : b < n) : Ker n (relab (rd o (a : Int)) (rd o (b : Int)) o) (relab (rd r (b : Int)) (rd r (a : Int)) r) := by
  intro i j hi hj
  rw [relab_rd (by omega), relab_rd (by omega), relab_rd (by omega), relab_rd (by omega)]
  have h1 := h i j hi hj
  have h2 := h i a hi ha
  have h3 := h i b hi hb
  have h4 := h j a hj ha
  have h5 := h j b hj hb
  have h6 := h a b ha hb
  split <;> split <;> split <;> split <;> omega
theorem ker_all {l : List S36} (s : Nat) : ∀ k, k + 1 ≤ l.length → Ker l.length (ownP l s k) (refR l s k)
  | 0, _ => fun i j _ _ => Iff.rfl
  | k + 1, h => by
    have ih := ker_all (l := l) s k (by omega)
    rw [ownP, refR]
    split
    · exact ker_step (ownP_len l s k) (refR_len l s k) ih (tN_rd (show k < l.length by omega)).2 (tN_rd (show k + 1 < l.length by omega)).2
    · exact ih
def allSame (o : List Int) : Bool := o.all (fun x => x == rd o 0)
theorem allSame_iff (o : List Int) : allSame o = true ↔ ∀ i, i < o.length → rd o (i : Int) = rd o 0 := by
  unfold allSame
  rw [List.all_eq_true]
  constructor
  · intro h i hi
    exact beq_iff_eq.mp (h _ (rd_mem hi))
  · intro h x hx
    obtain ⟨i, hi, rfl⟩ := List.getElem_of_mem hx
    rw [beq_iff_eq, ← rd_get hi]
    exact h i hi
def joinB (l : List S36) (s : Nat) : Bool := allSame (refR l s (l.length - 1))
theorem own_join {l : List S36} (hl : 1 ≤ l.length) (s : Nat) : allSame (ownP l s (l.length - 1)) = joinB l s := by
  have h := ker_all (l := l) s (l.length - 1) (by omega)
  unfold joinB
  rw [Bool.eq_iff_iff, allSame_iff, allSame_iff, ownP_len, refR_len]
  constructor
  · intro h1 i hi
    exact (h i 0 hi (by omega)).mp (h1 i hi)
  · intro h1 i hi
    exact (h i 0 hi (by omega)).mpr (h1 i hi)
theorem refR_full {l : List S36} {s : Nat} (hs : ∀ k, k + 1 < l.length → s.testBit k = true) : ∀ k, k + 1 ≤ l.length → ∀ a, a ≤ k → rd (refR l s k) (tN l a : Int) = rd (refR l s k) (tN l k : Int)
  | 0, _, a, ha => by rw [show a = 0 by omega]
  | k + 1, h, a, ha => by
    have hk := (tN_rd (show k < l.length by omega)).2
    have hk1 := (tN_rd (show k + 1 < l.length by omega)).2
    have hta := (tN_rd (show a < l.length by omega)).2
    rw [refR, if_pos (hs k (by omega)), relab_rd (by rw [refR_len]; exact hta), relab_rd (by rw [refR_len]; exact hk1)]
    by_cases e : a = k + 1
    · rw [e]
    · have ih := refR_full hs k (by omega) a (by omega)
      rw [ih, if_pos rfl]
      split <;> omega
theorem tN_onto {l : List S36} {i : Nat} (hi : i < l.length) : ∃ a, a < l.length ∧ tN l a = i := by
  obtain ⟨a, ha, e⟩ := List.getElem_of_mem (nat_mem_sort true l hi)
  rw [sortI_len] at ha
  refine ⟨a, ha, ?_⟩
  rw [← rd_get (by rw [sortI_len]; exact ha)] at e
  unfold tN; rw [e]; rfl
theorem join_full {l : List S36} (hl : 1 ≤ l.length) {s : Nat} (hs : ∀ k, k + 1 < l.length → s.testBit k = true) : joinB l s = true := by
  unfold joinB
  rw [allSame_iff, refR_len]
  intro i hi
  obtain ⟨a, ha, rfl⟩ := tN_onto hi
  obtain ⟨b, hb, e⟩ := tN_onto (show 0 < l.length by omega)
  have h1 := refR_full hs (l.length - 1) (by omega) a (by omega)
  have h2 := refR_full hs (l.length - 1) (by omega) b (by omega)
  rw [e] at h2
  rw [h1]; exact h2.symm
def minI : List Int → Int
  | [] => 0
  | x :: t => t.foldl mn x
def maxI : List Int → Int
  | [] => 0
  | x :: t => t.foldl mx x
theorem min_l0 : ∀ (t p : List Int) (m : Int), (p ++ t).length ≤ 1000 → Ev (fun k => slices_Min_int_int.l0 k (p ++ t) m (p.length : Int)) (t.foldl mn m)
  | [], p, m, h => by
    refine Ev.succ ?_
    simp only [slices_Min_int_int.l0, if_neg (mid_end p)]
    exact Ev.pure _
  | x :: t, p, m, h => by
    refine Ev.succ ?_
    have ih := min_l0 t (p ++ [x]) (mn m x) (by simpa using h)
    rw [← mid_assoc] at ih
    simp only [slices_Min_int_int.l0, if_pos (mid_lt p t x), if_pos (nonneg_len p), rd_mid, mid_next p t x (show (p ++ x :: t).length ≤ 9223372036854775807 by omega)]
    exact ih
theorem max_l0 : ∀ (t p : List Int) (m : Int), (p ++ t).length ≤ 1000 → Ev (fun k => slices_Max_int_int.l0 k (p ++ t) m (p.length : Int)) (t.foldl mx m)
  | [], p, m, h => by
    refine Ev.succ ?_
    simp only [slices_Max_int_int.l0, if_neg (mid_end p)]
    exact Ev.pure _
  | x :: t, p, m, h => by
    refine Ev.succ ?_
    have ih := max_l0 t (p ++ [x]) (mx m x) (by simpa using h)
    rw [← mid_assoc] at ih
    simp only [slices_Max_int_int.l0, if_pos (mid_lt p t x), if_pos (nonneg_len p), rd_mid, mid_next p t x (show (p ++ x :: t).length ≤ 9223372036854775807 by omega)]
    exact ih
theorem min_ev {o : List Int} (h0 : 1 ≤ o.length) (h : o.length ≤ 1000) : Ev (fun k => slices_Min_int_int.f k o) (minI o) := by
  cases o with
  | nil => simp at h0
  | cons x t =>
    unfold slices_Min_int_int.f
    simp only [if_neg (show ¬ ((x :: t).length : Int) < 1 by simp; omega)]
    exact min_l0 t [x] x (by simpa using h)
theorem max_ev {o : List Int} (h0 : 1 ≤ o.length) (h : o.length ≤ 1000) : Ev (fun k => slices_Max_int_int.f k o) (maxI o) := by
  cases o with
  | nil => simp at h0
  | cons x t =>
    unfold slices_Max_int_int.f
    simp only [if_neg (show ¬ ((x :: t).length : Int) < 1 by simp; omega)]
    exact max_l0 t [x] x (by simpa using h)
theorem fold_mn : ∀ (t : List Int) (m : Int), t.foldl mn m ≤ m ∧ (∀ x ∈ t, t.foldl mn m ≤ x)
  | [], m => ⟨Int.le_refl _, by simp⟩
  | y :: t, m => by
    obtain ⟨h1, h2⟩ := fold_mn t (mn m y)
    have h3 : mn m y ≤ m ∧ mn m y ≤ y := by unfold mn; split <;> omega
    refine ⟨by simp only [List.foldl_cons]; omega, fun x hx => ?_⟩
    simp only [List.foldl_cons]
    rcases List.mem_cons.mp hx with rfl | hx
    · omega
    · exact h2 x hx
theorem fold_mx : ∀ (t : List Int) (m : Int), m ≤ t.foldl mx m ∧ (∀ x ∈ t, x ≤ t.foldl mx m)
  | [], m => ⟨Int.le_refl _, by simp⟩
  | y :: t, m => by
    obtain ⟨h1, h2⟩ := fold_mx t (mx m y)
    have h3 : m ≤ mx m y ∧ y ≤ mx m y := by unfold mx; split <;> omega
    refine ⟨by simp only [List.foldl_cons]; omega, fun x hx => ?_⟩
    simp only [List.foldl_cons]
    rcases List.mem_cons.mp hx with rfl | hx
    · omega
    · exact h2 x hx
theorem fold_const : ∀ (t : List Int) (m : Int), (∀ x ∈ t, x = m) → t.foldl mn m = m ∧ t.foldl mx m = m
  | [], m, _ => ⟨rfl, rfl⟩
  | y :: t, m, h => by
    obtain rfl := h y (by simp)
    have h1 : mn y y = y := by unfold mn; split <;> rfl
    have h2 : mx y y = y := by unfold mx; split <;> rfl
    simp only [List.foldl_cons, h1, h2]
    exact fold_const t y (fun x hx => h x (by simp [hx]))
theorem minmax {o : List Int} (h0 : 1 ≤ o.length) : minI o = maxI o ↔ allSame o = true := by
  cases o with
  | nil => simp at h0
  | cons x t =>
    have e0 : rd (x :: t) 0 = x := rfl
    unfold allSame
    rw [List.all_eq_true, e0]
    constructor
    · intro e y hy
      have e : t.foldl mn x = t.foldl mx x := e
      have h1 := fold_mn t x
      have h2 := fold_mx t x
      rw [beq_iff_eq]
      rcases List.mem_cons.mp hy with rfl | hy
      · rfl
      · have := h1.2 y hy; have := h2.2 y hy; omega
    · intro h
      have := fold_const t x (fun y hy => beq_iff_eq.mp (h y (by simp [hy])))
      show t.foldl mn x = t.foldl mx x
      rw [this.1, this.2]
def lexB : List Int → List Int → Bool
  | x :: a, y :: b => if x = y then lexB a b else decide (x < y)
  | _, _ => false
theorem compare_l0 : ∀ (a b p q : List Int), a.length = b.length → p.length = q.length → (p ++ a).length ≤ 1000 →
    ∃ c : Int, Ev (fun k => slices_Compare_int_int.l0 k (p ++ a) (q ++ b) (p ++ a) ((p ++ a).length : Int) (p.length : Int)) c ∧ decide (c < 0) = lexB a b
  | [], b, p, q, h1, h2, h3 => by
    have : b = [] := List.eq_nil_of_length_eq_zero h1.symm
    subst this
    refine ⟨0, Ev.succ ?_, rfl⟩
    simp only [slices_Compare_int_int.l0, if_neg (mid_end p), List.append_nil, if_neg (show ¬ (p.length : Int) < (q.length : Int) by omega), if_neg (show ¬ (p.length : Int) < (p.length : Int) by omega)]
    exact Ev.pure _
  | x :: a, [], p, q, h1, h2, h3 => by simp at h1
  | x :: a, y :: b, p, q, h1, h2, h3 => by
    have e1 := mid_lt p a x
    have e2 : (p.length : Int) < ((q ++ y :: b).length : Int) := by rw [h2]; exact mid_lt q b y
    have e3 : rd (q ++ y :: b) (p.length : Int) = y := by rw [h2]; exact rd_mid q b y
    have e4 := mid_next p a x (show (p ++ x :: a).length ≤ 9223372036854775807 by omega)
    have cm : cmp_Compare_int.f x y = some (if x < y then -1 else if x > y then 1 else 0) := by
      unfold cmp_Compare_int.f cmp_isNaN_int.f
      simp only [Option.bind_some, bne_self_eq_false, Bool.false_eq_true, if_false]
      split
      · rfl
      · split <;> rfl
    by_cases c : x = y
    · subst c
      obtain ⟨r, ih, hr⟩ := compare_l0 a b (p ++ [x]) (q ++ [x]) (by simpa using h1) (by simp [h2]) (by simpa using h3)
      rw [← mid_assoc, ← mid_assoc] at ih
      refine ⟨r, Ev.succ ?_, by rw [hr, lexB, if_pos rfl]⟩
      simp only [slices_Compare_int_int.l0, if_pos e1, if_pos (nonneg_len p), if_neg (show ¬ (p.length : Int) ≥ ((q ++ x :: b).length : Int) by omega), if_pos e2, rd_mid, e3, cm, Option.bind_some, Int.lt_irrefl, gt_iff_lt, if_false, if_true, e4]
      exact ih
    · refine ⟨if x < y then -1 else if x > y then 1 else 0, Ev.succ ?_, ?_⟩
      · simp only [slices_Compare_int_int.l0, if_pos e1, if_pos (nonneg_len p), if_neg (show ¬ (p.length : Int) ≥ ((q ++ y :: b).length : Int) by omega), if_pos e2, rd_mid, e3, cm, Option.bind_some]
        have : ¬ (if x < y then (-1 : Int) else if x > y then 1 else 0) = 0 := by
          split
          · omega
          · split <;> omega
        simp only [if_neg this]
        exact Ev.pure _
      · rw [lexB, if_neg c]
        by_cases c2 : x < y
        · rw [if_pos c2, decide_eq_true c2]; rfl
        · rw [if_neg c2, decide_eq_false c2, if_pos (by omega)]; rfl
theorem compare_ev {a b : List Int} (h1 : a.length = b.length) (h3 : a.length ≤ 1000) : ∃ c : Int, Ev (fun k => slices_Compare_int_int.f k a b) c ∧ decide (c < 0) = lexB a b :=
  compare_l0 a b [] [] h1 rfl (by simpa using h3)
end Go.Proofs.Ytlmlneneakpohaa.OAll
