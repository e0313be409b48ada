/- A part of the proof of 'fetchStrong_holds', for every input, without a condition. -/
import Derived.Test.YtjbfbdanbpfplaaSTQc
namespace Go.Proofs.Ytjbfbdanbpfplaa.OAll
open Go.RowKit Go.Proofs.YtjbfbdanbpfplaaW.PrintWords Go.Proofs.YtjbfbdanbpfplaaW.PrintLast Go.Proofs.YtjbfbdanbpfplaaW.PrintMore
set_option linter.unusedVariables false
set_option linter.unusedSimpArgs false
def stepF (X : Nat) (s : S34) : Nat := if inb X s.f0 || inb X s.f1 then addS X s else X
def passF (st : List S34) (X : Nat) : Nat := st.foldl stepF X
def iterF (st : List S34) : Nat → Nat → Nat
  | 0, X => X
  | d + 1, X => iterF st d (passF st X)
def connB (n : Nat) (st : List S34) : Bool := iterF st n 1 == 2 ^ n - 1
def badS (n : Int) (s : S34) : Bool := decide (s.f0 < 0) || decide (s.f0 ≥ n) || decide (s.f1 < 0) || decide (s.f1 ≥ n) || decide (s.f0 = s.f1)
def codeN (a : Int) (st : List S34) : Int := if a < 2 ∨ a > 7 then 2 else if st.length > 14 then 3 else if st.any (badS a) then 2 else if connB a.toNat st then 0 else 9
theorem sane_of {a : Int} {st : List S34} (h0 : ¬ (a < 2 ∨ a > 7)) (h1 : ¬ st.length > 14) (h2 : ¬ st.any (badS a) = true) : Sane a.toNat st := by
  refine ⟨by omega, by omega, fun s hs => ?_⟩
  have : ¬ badS a s = true := fun h => h2 (List.any_eq_true.mpr ⟨s, hs, h⟩)
  simp only [badS, Bool.or_eq_true, decide_eq_true_eq, not_or] at this
  omega
theorem stepF_lt {n X : Nat} {s : S34} (hX : X < 2 ^ n) (hm : 0 ≤ s.f0 ∧ s.f0 < n ∧ 0 ≤ s.f1 ∧ s.f1 < n ∧ s.f0 ≠ s.f1) : stepF X s < 2 ^ n := by
  unfold stepF; split
  · exact addS_lt hX hm
  · exact hX
theorem read_l2 {n : Nat} {st : List S34} (hs : Sane n st) (j : Nat) (r : Int × List S34 × Int) : ∀ (suf pre : List S34) (X : Nat), st = pre ++ suf → X < 2 ^ n →
    (Ev (fun k => fetch_read.l1 k st ((suf.foldl stepF X : Nat) : Int) n (wrap64 ((j : Int) + 1)) n st) r) → Ev (fun k => fetch_read.l2 k st X n j st st.length pre.length n st) r := by
  intro suf
  induction suf with
  | nil =>
    intro pre X e hX h
    have e3 : ¬ (pre.length : Int) < (st.length : Int) := by rw [e]; simp
    refine Ev.succ ?_
    simp only [fetch_read.l2, e3, if_false]
    exact h
  | cons s t ih =>
    intro pre X e hX h
    have hm := sane_mem hs e
    have hl := sane_le hs e
    have hn := sane_len hs e
    have h7 : (2 : Nat) ^ n ≤ 2 ^ 7 := Nat.pow_le_pow_right (by decide) hs.1
    have g0 := bit_lt hm.1 hm.2.1
    have g1 := bit_lt hm.2.2.1 hm.2.2.2.1
    have g2 : 2 ^ s.f0.toNat ||| 2 ^ s.f1.toNat < 2 ^ n := Nat.or_lt_two_pow g0 g1
    have hX3 : X < 2 ^ 63 := by omega
    have h77 := hs.1
    have ih1 := ih (pre ++ [s]) (stepF X s) (by rw [e]; simp) (stepF_lt hX hm) h
    have e6 : Go.bits .or .i64 (X : Int) (Go.bits .or .i64 (wrap64 (2 ^ s.f0.toNat)) (wrap64 (2 ^ s.f1.toNat))) = ((addS X s : Nat) : Int) := by
      rw [w64pow (by omega), w64pow (by omega), or_nat _ _ (by omega) (by omega), or_nat _ _ hX3 (by omega), addS, Nat.or_assoc]
    have e7 : (pre ++ [s]).length = pre.length + 1 := by simp
    have e1 : wrap64 ((pre.length : Int) + 1) = (((pre ++ [s]).length : Nat) : Int) := by
      rw [w64s _ (by omega), e7]
    have e2 : rd_T34 st (pre.length : Int) = s := by rw [e]; exact rd34_mid _ _ _
    have e3 : (pre.length : Int) < (st.length : Int) := by rw [e]; exact mid_lt _ _ _
    have un : (fun k => fetch_read.l2 (k + 1) st X n j st st.length (pre.length : Int) n st) = fun k => fetch_read.l2 k st ((stepF X s : Nat) : Int) n j st st.length (((pre ++ [s]).length : Nat) : Int) n st := by
      funext k
      simp only [fetch_read.l2, e1, e2, e3, e6, hm.1, hm.2.2.1, hl.1, hl.2, if_true, nonneg_len, bit_and X _ hX3, inb, stepF]
      rcases Bool.eq_false_or_eq_true (X.testBit s.f0.toNat) with h0 | h0 <;> rcases Bool.eq_false_or_eq_true (X.testBit s.f1.toNat) with h1 | h1 <;> simp [h0, h1]
    refine Ev.succ ?_
    rw [un]
    exact ih1
theorem passF_lt {n : Nat} {st : List S34} (hs : Sane n st) {X : Nat} (hX : X < 2 ^ n) : passF st X < 2 ^ n := by
  have : ∀ (l : List S34) (X : Nat), (∀ s ∈ l, s ∈ st) → X < 2 ^ n → l.foldl stepF X < 2 ^ n := by
    intro l
    induction l with
    | nil => intro X _ h; exact h
    | cons s t ih => intro X hm h; exact ih _ (fun s' h' => hm s' (List.mem_cons_of_mem _ h')) (stepF_lt h (hs.2.2 s (hm s (List.mem_cons_self))))
  exact this st X (fun _ h => h) hX
theorem read_l1 {n : Nat} {st : List S34} (hs : Sane n st) : ∀ (d j X : Nat), j + d = n → X < 2 ^ n →
    Ev (fun k => fetch_read.l1 k st X n j n st) (if iterF st d X == 2 ^ n - 1 then ((n : Int), st, 0) else (0, [], 9)) := by
  intro d
  induction d with
  | zero =>
    intro j X e hX
    have e3 : ¬ (j : Int) < (n : Int) := by omega
    refine Ev.succ ?_
    simp only [fetch_read.l1, e3, if_false, everybody_eq hs.1, Option.bind_some, iterF, Int.natCast_inj, beq_iff_eq]
    split
    · exact Ev.pure _
    · exact Ev.pure _
  | succ d ih =>
    intro j X e hX
    have e3 : (j : Int) < (n : Int) := by omega
    have e1 : wrap64 ((j : Int) + 1) = ((j + 1 : Nat) : Int) := w64s _ (by have := hs.1; omega)
    refine Ev.succ ?_
    simp only [fetch_read.l1, e3, if_true]
    refine read_l2 hs j _ st [] X rfl hX ?_
    rw [e1]
    exact ih (j + 1) (passF st X) (by omega) (passF_lt hs hX)
theorem mn_eq (a b : Int) : mn a b < 0 ↔ a < 0 ∨ b < 0 := by unfold mn; split <;> omega
theorem mx_eq (a b n : Int) : mx a b ≥ n ↔ a ≥ n ∨ b ≥ n := by unfold mx; split <;> omega
theorem badS_iff (n : Int) (s : S34) : badS n s = true ↔ s.f0 < 0 ∨ s.f1 < 0 ∨ s.f0 ≥ n ∨ s.f1 ≥ n ∨ s.f0 = s.f1 := by
  simp only [badS, Bool.or_eq_true, decide_eq_true_eq]; omega
theorem read_l0 {a : Int} {st : List S34} (h14 : ¬ st.length > 14) (r : Int × List S34 × Int) (hr : ¬ st.any (badS a) = true → Ev (fun k => fetch_read.l1 k st 1 a 0 a st) r) : ∀ (suf pre : List S34), st = pre ++ suf → ¬ pre.any (badS a) = true →
    Ev (fun k => fetch_read.l0 k a st st st.length pre.length a st) (if st.any (badS a) then (0, [], 2) else r) := by
  intro suf
  induction suf with
  | nil =>
    intro pre e hp
    have e3 : ¬ (pre.length : Int) < (st.length : Int) := by rw [e]; simp
    have hq : ¬ st.any (badS a) = true := by rw [e, List.append_nil]; exact hp
    refine Ev.succ ?_
    rw [if_neg hq]
    simp only [fetch_read.l0, e3, if_false]
    exact hr hq
  | cons s t ih =>
    intro pre e hp
    have hn : pre.length < 14 := by rw [e] at h14; simp at h14; omega
    have e7 : (pre ++ [s]).length = pre.length + 1 := by simp
    have e1 : wrap64 ((pre.length : Int) + 1) = (((pre ++ [s]).length : Nat) : Int) := by
      rw [w64s _ (by omega), e7]
    have e2 : rd_T34 st (pre.length : Int) = s := by rw [e]; exact rd34_mid _ _ _
    have e3 : (pre.length : Int) < (st.length : Int) := by rw [e]; exact mid_lt _ _ _
    refine Ev.succ ?_
    simp only [fetch_read.l0, e1, e2, e3, if_true, nonneg_len, mn_eq, mx_eq]
    cases hb : badS a s
    · have hb' := mt (badS_iff a s).mpr (by rw [hb]; decide)
      simp only [not_or] at hb'
      simp only [hb', or_self, if_false]
      refine ih (pre ++ [s]) (by rw [e]; simp) ?_
      rw [List.any_append, List.any_cons, hb]
      simpa using hp
    · have hb' := (badS_iff a s).mp hb
      have : st.any (badS a) = true := by rw [e, List.any_append, List.any_cons, hb]; simp
      rw [if_pos this]
      by_cases c1 : s.f0 < 0 ∨ s.f1 < 0
      · simp only [c1, if_true]; exact Ev.pure _
      · by_cases c2 : s.f0 ≥ a ∨ s.f1 ≥ a
        · simp only [c1, c2, if_true, if_false]; exact Ev.pure _
        · have c3 : s.f0 = s.f1 := by omega
          simp only [c1, c2, if_false]; exact Ev.congr (fun k => if_pos c3) (Ev.pure _)
theorem read_ev (a : Int) (st : List S34) : Ev (fun k => fetch_read.f k a st) (if codeN a st = 0 then (a, st, 0) else (0, [], codeN a st)) := by
  unfold fetch_read.f codeN
  by_cases h0 : a < 2 ∨ a > 7
  · have e : (fun k => if a < 2 then fetch_read.j0 k a st true else fetch_read.j0 k a st (decide (a > 7))) = fun k => fetch_read.j0 k a st true := by
      funext k
      by_cases h : a < 2
      · rw [if_pos h]
      · rw [if_neg h, decide_eq_true (by omega)]
    rw [e]
    refine Ev.succ ?_
    simp only [fetch_read.j0, h0, if_true, Int.reduceEq, if_false]
    exact Ev.pure _
  · have e : (fun k => if a < 2 then fetch_read.j0 k a st true else fetch_read.j0 k a st (decide (a > 7))) = fun k => fetch_read.j0 k a st false := by
      funext k
      rw [if_neg (by omega), decide_eq_false (by omega)]
    rw [e]
    refine Ev.succ ?_
    by_cases h1 : st.length > 14
    · have h1' : (st.length : Int) > 14 := by omega
      simp only [fetch_read.j0, Bool.false_eq_true, h0, h1, h1', if_true, Int.reduceEq, if_false]
      exact Ev.pure _
    · have h1' : ¬ (st.length : Int) > 14 := by omega
      simp only [fetch_read.j0, Bool.false_eq_true, h0, h1, h1', if_true, if_false]
      obtain ⟨n, rfl⟩ : ∃ n : Nat, a = (n : Int) := ⟨a.toNat, by omega⟩
      have := read_l0 (a := (n : Int)) h1 (if iterF st n 1 == 2 ^ n - 1 then ((n : Int), st, 0) else (0, [], 9)) (fun hq => by
        have hs : Sane n st := sane_of h0 h1 hq
        refine read_l1 hs n 0 1 (by omega) (Nat.one_lt_two_pow (by omega))) st [] rfl (by simp)
      rw [Int.toNat_natCast, connB]
      refine Ev.congr (fun _ => rfl) ?_
      revert this
      by_cases h2 : st.any (badS (n : Int)) = true
      · simp only [h2, if_true, Int.reduceEq, if_false]; exact id
      · by_cases h3 : (iterF st n 1 == 2 ^ n - 1) = true
        · simp only [h2, h3, if_true, if_false]; exact id
        · simp only [h2, h3, Int.reduceEq, if_false]; exact id
def cntB (X : Nat) : Nat → Nat
  | 0 => 0
  | n + 1 => cntB X n + (X.testBit n).toNat
theorem cntB_le (X : Nat) : ∀ n, cntB X n ≤ n
  | 0 => Nat.le_refl _
  | n + 1 => by have := cntB_le X n; have := Bool.toNat_le (X.testBit n); simp only [cntB]; omega
theorem cntB_sub {X Y : Nat} (h : subB X Y) : ∀ n, cntB X n ≤ cntB Y n
  | 0 => Nat.le_refl _
  | n + 1 => by
    have := cntB_sub h n
    have : (X.testBit n).toNat ≤ (Y.testBit n).toNat := by
      cases hx : X.testBit n
      · simp
      · rw [h n hx]; simp
    simp only [cntB]; omega
theorem cntB_lt {X Y : Nat} (h : subB X Y) {i : Nat} (hi : X.testBit i = false) (hi' : Y.testBit i = true) : ∀ n, i < n → cntB X n < cntB Y n
  | 0, hn => by omega
  | n + 1, hn => by
    have h0 := cntB_sub h n
    have h1 : (X.testBit n).toNat ≤ (Y.testBit n).toNat := by
      cases hx : X.testBit n
      · simp
      · rw [h n hx]; simp
    rcases Nat.lt_or_ge i n with h2 | h2
    · have := cntB_lt h hi hi' n h2
      simp only [cntB]; omega
    · obtain rfl : i = n := by omega
      simp only [cntB, hi, hi', Bool.toNat_false, Bool.toNat_true]; omega
theorem sub_ne_bit {X Y : Nat} (h : subB X Y) (hne : X ≠ Y) : ∃ i, X.testBit i = false ∧ Y.testBit i = true := by
  apply Classical.byContradiction
  intro hc
  apply hne
  apply Nat.eq_of_testBit_eq; intro i
  cases hx : X.testBit i
  · cases hy : Y.testBit i
    · rfl
    · exact absurd ⟨i, hx, hy⟩ hc
  · rw [h i hx]
theorem bit_in {n X i : Nat} (hX : X < 2 ^ n) (h : X.testBit i = true) : i < n :=
  Nat.lt_of_not_le fun hn => by rw [Nat.testBit_lt_two_pow (Nat.lt_of_lt_of_le hX (Nat.pow_le_pow_right (by decide) hn))] at h; cases h
theorem stepF_sub (X : Nat) (s : S34) : subB X (stepF X s) := by
  unfold stepF; split
  · exact addS_sub X s
  · exact subB_refl X
theorem passL_sub : ∀ (l : List S34) (X : Nat), subB X (l.foldl stepF X)
  | [], X => subB_refl X
  | s :: t, X => subB_trans (stepF_sub X s) (passL_sub t _)
theorem passL_least {Y : Nat} : ∀ (l : List S34) (X : Nat), shut true l Y → subB X Y → subB (l.foldl stepF X) Y
  | [], _, _, h => h
  | s :: t, X, hY, h => by
    refine passL_least t _ (fun s' h' => hY s' (List.mem_cons_of_mem _ h')) ?_
    unfold stepF; split
    · rename_i hc
      refine addS_least h (hY s (List.mem_cons_self)) ?_
      rw [Bool.or_eq_true] at hc
      exact hc.imp id fun h => ⟨rfl, h⟩
    · exact h
theorem stepF_fix {X : Nat} {s : S34} (h : stepF X s = X) : shutS true X s := by
  unfold stepF at h
  by_cases hc : (inb X s.f0 || inb X s.f1) = true
  · rw [if_pos hc] at h
    have := addS_bits X s
    rw [h] at this
    exact ⟨fun _ => this.2, fun _ _ => this.1⟩
  · rw [Bool.or_eq_true, not_or] at hc
    exact ⟨fun h => absurd h hc.1, fun _ h => absurd h hc.2⟩
theorem passL_fix : ∀ (l : List S34) (X : Nat), l.foldl stepF X = X → shut true l X
  | [], _, _ => fun _ h => by cases h
  | s :: t, X, h => by
    have h1 : subB (stepF X s) X := by
      have := passL_sub t (stepF X s)
      rw [List.foldl_cons] at h
      rw [h] at this; exact this
    have h2 : stepF X s = X := subB_antisymm h1 (stepF_sub X s)
    rw [List.foldl_cons, h2] at h
    intro s' hs'
    rcases List.mem_cons.mp hs' with rfl | h'
    · exact stepF_fix h2
    · exact passL_fix t X h s' h'
theorem iterF_shut {st : List S34} : ∀ (d X : Nat), shut true st X → iterF st d X = X
  | 0, _, _ => rfl
  | d + 1, X, h => by
    have : passF st X = X := subB_antisymm (passL_least st X h (subB_refl X)) (passL_sub st X)
    rw [iterF, this]; exact iterF_shut d X h
theorem iterF_grow {n : Nat} {st : List S34} (hs : Sane n st) : ∀ (d X : Nat), X < 2 ^ n → shut true st (iterF st d X) ∨ cntB X n + d ≤ cntB (iterF st d X) n
  | 0, X, _ => Or.inr (Nat.le_refl _)
  | d + 1, X, hX => by
    by_cases hc : passF st X = X
    · have := passL_fix st X hc
      rw [iterF_shut (d + 1) X this]
      exact Or.inl this
    · obtain ⟨i, hi, hi'⟩ := sub_ne_bit (passL_sub st X) (fun h => hc h.symm)
      have hl := passF_lt hs hX
      have h1 := cntB_lt (passL_sub st X) hi hi' n (bit_in hl hi')
      rcases iterF_grow hs d (passF st X) hl with h | h
      · exact Or.inl h
      · refine Or.inr ?_
        rw [iterF]
        have h2 : cntB X n < cntB (passF st X) n := h1
        omega
theorem iterF_lt {n : Nat} {st : List S34} (hs : Sane n st) : ∀ (d X : Nat), X < 2 ^ n → iterF st d X < 2 ^ n
  | 0, _, h => h
  | d + 1, X, h => iterF_lt hs d _ (passF_lt hs h)
theorem iterF_sub {st : List S34} : ∀ (d X : Nat), subB X (iterF st d X)
  | 0, X => subB_refl X
  | d + 1, X => subB_trans (passL_sub st X) (iterF_sub d _)
theorem iterF_least {st : List S34} {Y : Nat} (hY : shut true st Y) : ∀ (d X : Nat), subB X Y → subB (iterF st d X) Y
  | 0, _, h => h
  | d + 1, X, h => iterF_least hY d _ (passL_least st X hY h)
theorem iterF_rch {n : Nat} {st : List S34} (hs : Sane n st) (h1 : 1 ≤ n) : Rch n st true 0 (iterF st n 1) ∧ shut true st (iterF st n 1) := by
  have hX : (1 : Nat) < 2 ^ n := Nat.one_lt_two_pow (by omega)
  refine ⟨⟨iterF_lt hs n 1 hX, iterF_sub n 1 0 (by decide), fun Y hY hY' => iterF_least hY' n 1 (pow_subB (j := 0) hY)⟩, ?_⟩
  rcases iterF_grow hs n 1 hX with h | h
  · exact h
  · exfalso
    have : 1 ≤ cntB 1 n := by
      have := cntB_lt (X := 0) (Y := 1) (fun i h => by simp at h) (i := 0) (by decide) (by decide) n h1
      omega
    have := cntB_le (iterF st n 1) n
    omega
theorem rch_unique {n : Nat} {st : List S34} {b : Bool} {c X Y : Nat} (hX : Rch n st b c X) (hX' : shut b st X) (hY : Rch n st b c Y) (hY' : shut b st Y) : X = Y :=
  subB_antisymm (hX.least Y hY.has hY') (hY.least X hX.has hX')
theorem quarter_l0 {a : Int} {st : List S34} (h14 : ¬ st.length > 14) (r : Int) (hr : ¬ st.any (badS a) = true → Ev (fun k => (trishawref09_reached.f k st 0 true).bind fun t144 => (if 0 ≤ a then (if a ≤ 64 then (if t144 = (wrap64 ((wrap64 (2 ^ a.toNat)) - 1)) then (some 0) else (some 9)) else (none)) else (none))) r) : ∀ (suf pre : List S34), st = pre ++ suf → ¬ pre.any (badS a) = true →
    Ev (fun k => trishawref09_Quarter.l0 k a st pre.length) (if st.any (badS a) then 2 else r) := by
  intro suf
  induction suf with
  | nil =>
    intro pre e hp
    have e3 : ¬ (pre.length : Int) < (st.length : Int) := by rw [e]; simp
    have hq : ¬ st.any (badS a) = true := by rw [e, List.append_nil]; exact hp
    refine Ev.succ ?_
    rw [if_neg hq]
    simp only [trishawref09_Quarter.l0, e3, if_false]
    exact hr hq
  | cons s t ih =>
    intro pre e hp
    have hn : pre.length < 14 := by rw [e] at h14; simp at h14; omega
    have e7 : (pre ++ [s]).length = pre.length + 1 := by simp
    have e1 : wrap64 ((pre.length : Int) + 1) = (((pre ++ [s]).length : Nat) : Int) := by
      rw [w64s _ (by omega), e7]
    have e2 : rd_T34 st (pre.length : Int) = s := by rw [e]; exact rd34_mid _ _ _
    have e3 : (pre.length : Int) < (st.length : Int) := by rw [e]; exact mid_lt _ _ _
    refine Ev.succ ?_
    simp only [trishawref09_Quarter.l0, e1, e2, e3, if_true, nonneg_len]
    cases hb : badS a s
    · have hb' := mt (badS_iff a s).mpr (by rw [hb]; decide)
      simp only [not_or] at hb'
      simp only [hb', if_false]
      refine ih (pre ++ [s]) (by rw [e]; simp) ?_
      rw [List.any_append, List.any_cons, hb]
      simpa using hp
    · have hb' := (badS_iff a s).mp hb
      have : st.any (badS a) = true := by rw [e, List.any_append, List.any_cons, hb]; simp
      rw [if_pos this]
      by_cases c1 : s.f0 < 0
      · simp only [c1, if_true]; exact Ev.pure _
      · by_cases c2 : s.f0 ≥ a
        · simp only [c1, c2, if_true, if_false]; exact Ev.pure _
        · by_cases c3 : s.f1 < 0
          · simp only [c1, c2, c3, if_true, if_false]; exact Ev.pure _
          · by_cases c4 : s.f1 ≥ a
            · simp only [c1, c2, c3, c4, if_true, if_false]; exact Ev.pure _
            · have c5 : s.f0 = s.f1 := by omega
              simp only [c1, c2, c3, c4, if_false]
              exact Ev.congr (fun k => if_pos c5) (Ev.pure _)
theorem quarter_ev (a : Int) (st : List S34) : Ev (fun k => trishawref09_Quarter.f k a st) (codeN a st) := by
  unfold trishawref09_Quarter.f codeN
  by_cases h0 : a < 2 ∨ a > 7
  · have e : (fun k => if a < 2 then trishawref09_Quarter.j0 k a st true else trishawref09_Quarter.j0 k a st (decide (a > 7))) = fun k => trishawref09_Quarter.j0 k a st true := by
      funext k
      by_cases h : a < 2
      · rw [if_pos h]
      · rw [if_neg h, decide_eq_true (by omega)]
    rw [e]
    refine Ev.succ ?_
    simp only [trishawref09_Quarter.j0, h0, if_true]
    exact Ev.pure _
  · have e : (fun k => if a < 2 then trishawref09_Quarter.j0 k a st true else trishawref09_Quarter.j0 k a st (decide (a > 7))) = fun k => trishawref09_Quarter.j0 k a st false := by
      funext k
      rw [if_neg (by omega), decide_eq_false (by omega)]
    rw [e]
    refine Ev.succ ?_
    by_cases h1 : st.length > 14
    · have h1' : (st.length : Int) > 14 := by omega
      simp only [trishawref09_Quarter.j0, Bool.false_eq_true, h0, h1, h1', if_true, if_false]
      exact Ev.pure _
    · have h1' : ¬ (st.length : Int) > 14 := by omega
      simp only [trishawref09_Quarter.j0, Bool.false_eq_true, h0, h1, h1', if_false]
      obtain ⟨n, rfl⟩ : ∃ n : Nat, a = (n : Int) := ⟨a.toNat, by omega⟩
      refine quarter_l0 (a := (n : Int)) h1 (if connB (n : Int).toNat st then 0 else 9) (fun hq => ?_) st [] rfl (by simp)
      have hs : Sane n st := sane_of h0 h1 hq
      have h64 : (n : Int) ≤ 64 := by omega
      have hn1 : 1 ≤ n := by omega
      obtain ⟨R, hR, hg⟩ := reached_ev hs true 0 (by omega)
      refine Ev.bind hR ?_
      have hi := iterF_rch hs hn1
      have e : R = iterF st n 1 := rch_unique hg.1 hg.2 hi.1 hi.2
      simp only [Int.natCast_nonneg, h64, if_true, full_w hs.1, e, Int.natCast_inj]
      rw [Int.toNat_natCast]
      by_cases h3 : iterF st n 1 = 2 ^ n - 1
      · have hc : connB n st = true := by rw [connB, h3]; exact beq_self_eq_true _
        simp only [hc, h3, if_true]; exact Ev.pure _
      · have hc : ¬ connB n st = true := by rw [connB, beq_iff_eq]; exact h3
        simp only [hc, h3, if_false]; exact Ev.pure _
theorem code_sane {a : Int} {st : List S34} (h : codeN a st = 0) : Sane a.toNat st ∧ 2 ≤ a.toNat ∧ ((a.toNat : Nat) : Int) = a ∧ connB a.toNat st = true := by
  unfold codeN at h
  by_cases h0 : a < 2 ∨ a > 7
  · rw [if_pos h0] at h; cases h
  · rw [if_neg h0] at h
    by_cases h1 : st.length > 14
    · rw [if_pos h1] at h; cases h
    · rw [if_neg h1] at h
      by_cases h2 : st.any (badS a) = true
      · rw [if_pos h2] at h; cases h
      · rw [if_neg h2] at h
        refine ⟨sane_of h0 h1 h2, by omega, by omega, ?_⟩
        by_cases h3 : connB a.toNat st = true
        · exact h3
        · rw [if_neg h3] at h; cases h
end Go.Proofs.Ytjbfbdanbpfplaa.OAll
