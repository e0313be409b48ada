/- A part of the proof of 'fetchStrong_holds', for every input, without a condition. -/
import Derived.Test.YtjbfbdanbpfplaaSTQd
import Derived.Test.YtjbfbdanbpfplaaSTOAllx21
namespace Go.Proofs.Ytjbfbdanbpfplaa.OAll
open Go.RowKit Go.Proofs.YtjbfbdanbpfplaaW.PrintWords Go.Proofs.YtjbfbdanbpfplaaW.PrintLast Go.Proofs.YtjbfbdanbpfplaaW.PrintMore
set_option linter.unusedVariables false
set_option linter.unusedSimpArgs false
def stepD (X : Nat) (s : S34) : Nat := if inb X s.f0 then X ||| 2 ^ s.f1.toNat else X
def passD (st : List S34) (X : Nat) : Nat := st.foldl stepD X
def iterD (st : List S34) : Nat → Nat → Nat
  | 0, X => X
  | d + 1, X => iterD st d (passD st X)
theorem stepD_lt {n X : Nat} {s : S34} (hX : X < 2 ^ n) (hm : 0 ≤ s.f0 ∧ s.f0 < n ∧ 0 ≤ s.f1 ∧ s.f1 < n ∧ s.f0 ≠ s.f1) : stepD X s < 2 ^ n := by
  unfold stepD; split
  · exact Nat.or_lt_two_pow hX (bit_lt hm.2.2.1 hm.2.2.2.1)
  · exact hX
theorem stepD_sub (X : Nat) (s : S34) : subB X (stepD X s) := by
  unfold stepD; split
  · exact subB_or _ _
  · exact subB_refl X
theorem passLD_sub : ∀ (l : List S34) (X : Nat), subB X (l.foldl stepD X)
  | [], X => subB_refl X
  | s :: t, X => subB_trans (stepD_sub X s) (passLD_sub t _)
theorem passLD_least {Y : Nat} : ∀ (l : List S34) (X : Nat), shut false l Y → subB X Y → subB (l.foldl stepD X) Y
  | [], _, _, h => h
  | s :: t, X, hY, h => by
    refine passLD_least t _ (fun s' h' => hY s' (List.mem_cons_of_mem _ h')) ?_
    unfold stepD; split
    · rename_i hc
      exact or_subB h (pow_subB ((hY s (List.mem_cons_self)).1 (h _ hc)))
    · exact h
theorem stepD_fix {X : Nat} {s : S34} (h : stepD X s = X) : shutS false X s := by
  refine ⟨fun hc => ?_, fun h => by cases h⟩
  rw [stepD, if_pos hc] at h
  rw [inb, ← h, Nat.testBit_or, Nat.testBit_two_pow]; simp
theorem passLD_fix : ∀ (l : List S34) (X : Nat), l.foldl stepD X = X → shut false l X
  | [], _, _ => fun _ h => by cases h
  | s :: t, X, h => by
    have h1 : subB (stepD X s) X := by
      have := passLD_sub t (stepD X s)
      rw [List.foldl_cons] at h
      rw [h] at this; exact this
    have h2 : stepD X s = X := subB_antisymm h1 (stepD_sub X s)
    rw [List.foldl_cons, h2] at h
    intro s' hs'
    rcases List.mem_cons.mp hs' with rfl | h'
    · exact stepD_fix h2
    · exact passLD_fix t X h s' h'
theorem passD_lt {n : Nat} {st : List S34} (hs : Sane n st) {X : Nat} (hX : X < 2 ^ n) : passD st X < 2 ^ n := by
  have : ∀ (l : List S34) (X : Nat), (∀ s ∈ l, s ∈ st) → X < 2 ^ n → l.foldl stepD X < 2 ^ n := by
    intro l
    induction l with
    | nil => intro X _ h; exact h
    | cons s t ih => intro X hm h; exact ih _ (fun s' h' => hm s' (List.mem_cons_of_mem _ h')) (stepD_lt h (hs.2.2 s (hm s (List.mem_cons_self))))
  exact this st X (fun _ h => h) hX
theorem iterD_shut {st : List S34} : ∀ (d X : Nat), shut false st X → iterD st d X = X
  | 0, _, _ => rfl
  | d + 1, X, h => by
    have : passD st X = X := subB_antisymm (passLD_least st X h (subB_refl X)) (passLD_sub st X)
    rw [iterD, this]; exact iterD_shut d X h
theorem iterD_grow {n : Nat} {st : List S34} (hs : Sane n st) : ∀ (d X : Nat), X < 2 ^ n → shut false st (iterD st d X) ∨ cntB X n + d ≤ cntB (iterD st d X) n
  | 0, X, _ => Or.inr (Nat.le_refl _)
  | d + 1, X, hX => by
    by_cases hc : passD st X = X
    · have := passLD_fix st X hc
      rw [iterD_shut (d + 1) X this]
      exact Or.inl this
    · obtain ⟨i, hi, hi'⟩ := sub_ne_bit (passLD_sub st X) (fun h => hc h.symm)
      have hl := passD_lt hs hX
      have h1 := cntB_lt (passLD_sub st X) hi hi' n (bit_in hl hi')
      rcases iterD_grow hs d (passD st X) hl with h | h
      · exact Or.inl h
      · refine Or.inr ?_
        rw [iterD]
        have h2 : cntB X n < cntB (passD st X) n := h1
        omega
theorem iterD_lt {n : Nat} {st : List S34} (hs : Sane n st) : ∀ (d X : Nat), X < 2 ^ n → iterD st d X < 2 ^ n
  | 0, _, h => h
  | d + 1, X, h => iterD_lt hs d _ (passD_lt hs h)
theorem iterD_sub {st : List S34} : ∀ (d X : Nat), subB X (iterD st d X)
  | 0, X => subB_refl X
  | d + 1, X => subB_trans (passLD_sub st X) (iterD_sub d _)
theorem iterD_least {st : List S34} {Y : Nat} (hY : shut false st Y) : ∀ (d X : Nat), subB X Y → subB (iterD st d X) Y
  | 0, _, h => h
  | d + 1, X, h => iterD_least hY d _ (passLD_least st X hY h)
def reachN (n : Nat) (st : List S34) (c : Nat) : Nat := iterD st n (2 ^ c)
theorem reachN_rch {n : Nat} {st : List S34} (hs : Sane n st) {c : Nat} (hc : c < n) : Rch n st false c (reachN n st c) ∧ shut false st (reachN n st c) := by
  have hX : (2 : Nat) ^ c < 2 ^ n := Nat.pow_lt_pow_right (by decide) hc
  have hb : (2 ^ c).testBit c = true := by simp
  refine ⟨⟨iterD_lt hs n _ hX, iterD_sub n _ c hb, fun Y hY hY' => iterD_least hY' n _ (pow_subB hY)⟩, ?_⟩
  rcases iterD_grow hs n (2 ^ c) hX with h | h
  · exact h
  · exfalso
    have : 1 ≤ cntB (2 ^ c) n := by
      have := cntB_lt (X := 0) (Y := 2 ^ c) (fun i h => by simp at h) (i := c) (by simp) hb n hc
      omega
    have := cntB_le (iterD st n (2 ^ c)) n
    omega
theorem rreached_ev {n : Nat} {st : List S34} (hs : Sane n st) {c : Nat} (hc : c < n) : Ev (fun k => trishawref09_reached.f k st c false) ((reachN n st c : Nat) : Int) := by
  obtain ⟨R, hR, h1, h2⟩ := reached_ev hs false c hc
  have := reachN_rch hs hc
  rw [rch_unique h1 h2 this.1 this.2] at hR
  exact hR
theorem freach_l1 {n : Nat} {st : List S34} (hs : Sane n st) (j : Nat) (r : Int) : ∀ (suf pre : List S34) (X : Nat), st = pre ++ suf → X < 2 ^ n →
    (Ev (fun k => fetch_quarter_reach.l0 k ((suf.foldl stepD X : Nat) : Int) n (wrap64 ((j : Int) + 1)) n st) r) → Ev (fun k => fetch_quarter_reach.l1 k X n j st st.length pre.length n st) r := by
  intro suf
  induction suf with
  | nil =>
    intro pre X e hX h
    have e3 : ¬ (pre.length : Int) < (st.length : Int) := by rw [e]; simp
    refine Ev.succ ?_
    simp only [fetch_quarter_reach.l1, e3, if_false]
    exact h
  | cons s t ih =>
    intro pre X e hX h
    have hm := sane_mem hs e
    have hl := sane_le hs e
    have hn := sane_len hs e
    have h77 := hs.1
    have h7 : (2 : Nat) ^ n ≤ 2 ^ 7 := Nat.pow_le_pow_right (by decide) hs.1
    have g1 := bit_lt hm.2.2.1 hm.2.2.2.1
    have hX3 : X < 2 ^ 63 := by omega
    have g3 : 2 ^ s.f1.toNat < 2 ^ 63 := by omega
    have g62 : s.f1.toNat ≤ 62 := by omega
    have hiw : pre.length < 9223372036854775807 := by omega
    have e7 : (pre ++ [s]).length = pre.length + 1 := by simp
    have ih1 := ih (pre ++ [s]) (stepD X s) (by rw [e]; simp) (stepD_lt hX hm) h
    rw [e7] at ih1
    have e2 : rd_T34 st (pre.length : Int) = s := by rw [e]; exact rd34_mid _ _ _
    have e3 : (pre.length : Int) < (st.length : Int) := by rw [e]; exact mid_lt _ _ _
    refine Ev.succ ?_
    simp only [fetch_quarter_reach.l1, w64s _ hiw, e2, e3, w64pow g62, or_nat _ _ hX3 g3, hm.1, hm.2.2.1, hl.1, hl.2, if_true, nonneg_len, bit_and X _ hX3]
    rw [stepD, inb] at ih1
    rcases Bool.eq_false_or_eq_true (X.testBit s.f0.toNat) with h0 | h0
    · rw [h0] at ih1; simp only [h0, if_true]; exact ih1
    · rw [h0] at ih1; simp only [h0, Bool.false_eq_true, if_false, Int.zero_ne_one]; exact ih1
theorem freach_l0 {n : Nat} {st : List S34} (hs : Sane n st) : ∀ (d j X : Nat), j + d = n → X < 2 ^ n →
    Ev (fun k => fetch_quarter_reach.l0 k X n j n st) ((iterD st d X : Nat) : Int) := by
  intro d
  induction d with
  | zero =>
    intro j X e hX
    have e3 : ¬ (j : Int) < (n : Int) := by omega
    refine Ev.succ ?_
    simp only [fetch_quarter_reach.l0, e3, if_false]
    exact Ev.pure _
  | succ d ih =>
    intro j X e hX
    have e3 : (j : Int) < (n : Int) := by omega
    have e1 : wrap64 ((j : Int) + 1) = ((j + 1 : Nat) : Int) := w64s _ (by have := hs.1; omega)
    refine Ev.succ ?_
    simp only [fetch_quarter_reach.l0, e3, if_true]
    refine freach_l1 hs j _ st [] X rfl hX ?_
    rw [e1]
    exact ih (j + 1) (passD st X) (by omega) (passD_lt hs hX)
theorem freach_ev {n : Nat} {st : List S34} (hs : Sane n st) {c : Nat} (hc : c < n) : Ev (fun k => fetch_quarter_reach.f k n st c) ((reachN n st c : Nat) : Int) := by
  have h7 := hs.1
  have h64 : (c : Int) ≤ 64 := by omega
  have h62 : c ≤ 62 := by omega
  simp only [fetch_quarter_reach.f, Int.natCast_nonneg, h64, if_true, Int.toNat_natCast, w64pow h62]
  exact freach_l0 hs n 0 _ (by omega) (Nat.pow_lt_pow_right (by decide) hc)
end Go.Proofs.Ytjbfbdanbpfplaa.OAll
