/- A part of the proof of 'topReach_holds', for every input, without a condition. -/
import Derived.Test.YtknecgmmpjggiaaDoorTReQb
import Derived.Test.YtknecgmmpjggiaaDoorTReOAllx5
namespace Go.Proofs.YtknecgmmpjggiaaDoor.OAll
open Go.RowKit Go.Proofs.YtknecgmmpjggiaaDoorW.PrintWords Go.Proofs.YtknecgmmpjggiaaDoorW.PrintLast Go.Proofs.YtknecgmmpjggiaaDoorW.PrintMore
set_option linter.unusedVariables false
set_option linter.unusedSimpArgs false
def Arcs (n : Nat) (st : List S30) : Prop := n ≤ 7 ∧ st.length ≤ 28 ∧ ∀ s ∈ st, Ends n s
def stepA (d : Int) (x : List Int) (s : S30) : List Int := if rd x s.f0 = d then (if rd x s.f1 < 0 then x.set s.f1.toNat (d + 1) else x) else x
def iterA (st : List S30) : Nat → Nat → List Int → List Int
  | 0, _, x => x
  | r + 1, d, x => iterA st r (d + 1) (st.foldl (stepA (d : Int)) x)
def farN (n : Nat) (st : List S30) (c : Nat) : List Int := iterA st n 0 ((List.replicate n (-1)).set c 0)
theorem stepA_len (d : Int) (x : List Int) (s : S30) : (stepA d x s).length = x.length := by
  unfold stepA; split
  · split
    · exact List.length_set
    · rfl
  · rfl
theorem passA_len (d : Int) : ∀ (st : List S30) (x : List Int), (st.foldl (stepA d) x).length = x.length
  | [], _ => rfl
  | s :: t, x => by rw [List.foldl_cons, passA_len d t, stepA_len]
theorem iterA_len (st : List S30) : ∀ (r d : Nat) (x : List Int), (iterA st r d x).length = x.length
  | 0, _, _ => rfl
  | r + 1, d, x => by rw [iterA, iterA_len st r, passA_len]
theorem farN_len (n : Nat) (st : List S30) (c : Nat) : (farN n st c).length = n := by rw [farN, iterA_len]; simp
theorem far_l2 {n : Nat} {st : List S30} (hs : Arcs n st) (d : Nat) (hd : d ≤ 64) (r : List Int) : ∀ (suf pre : List S30) (x : List Int), st = pre ++ suf → x.length = n →
    Ev (fun k => oneway_arcs_far.l1 k st (suf.foldl (stepA (d : Int)) x) n (wrap64 ((d : Int) + 1))) r → Ev (fun k => oneway_arcs_far.l2 k st x d n d st st.length pre.length) r := by
  intro suf
  induction suf with
  | nil =>
    intro pre x e hx h
    have e3 : ¬ (pre.length : Int) < (st.length : Int) := by rw [e]; simp
    refine Ev.succ ?_
    simp only [oneway_arcs_far.l2, e3, if_false]
    exact h
  | cons s t ih =>
    intro pre x e hx h
    have hm : Ends n s := hs.2.2 s (by rw [e]; simp)
    have hn : pre.length < 28 := by have := hs.2.1; rw [e] at this; simp at this; omega
    have ih1 := ih (pre ++ [s]) (stepA d x s) (by rw [e]; simp) (by rw [stepA_len, hx]) h
    have e7 : (pre ++ [s]).length = pre.length + 1 := by simp
    have e1 : wrap64 ((pre.length : Int) + 1) = (((pre ++ [s]).length : Nat) : Int) := by
      rw [w64s _ (by omega), e7]
    have e2 : rd_T30 st (pre.length : Int) = s := by rw [e]; exact rd30_mid _ _ _
    have e3 : (pre.length : Int) < (st.length : Int) := by rw [e]; exact mid_lt _ _ _
    have e4 : (x.length : Int) = (n : Int) := by rw [hx]
    have e5 : wrap64 ((d : Int) + 1) = (d : Int) + 1 := w64 (by omega) (by omega)
    have un : (fun k => oneway_arcs_far.l2 (k + 1) st x d n d st st.length (pre.length : Int)) = fun k => oneway_arcs_far.l2 k st (stepA d x s) d n d st st.length (((pre ++ [s]).length : Nat) : Int) := by
      funext k
      simp only [oneway_arcs_far.l2, e1, e2, e3, e4, e5, hm.1, hm.2.1, hm.2.2.1, hm.2.2.2.1, if_true, nonneg_len, stepA]
      by_cases h0 : rd x s.f0 = (d : Int)
      · by_cases h1 : rd x s.f1 < 0
        · simp only [h0, h1, if_true]
        · simp only [h0, h1, if_true, if_false]
      · simp only [h0, if_false]
    refine Ev.succ ?_
    rw [un]
    exact ih1
theorem far_l1 {n : Nat} {st : List S30} (hs : Arcs n st) : ∀ (r d : Nat) (x : List Int), d + r = n → x.length = n → Ev (fun k => oneway_arcs_far.l1 k st x n d) (iterA st r d x) := by
  intro r
  induction r with
  | zero =>
    intro d x e hx
    have e3 : ¬ (d : Int) < (n : Int) := by omega
    refine Ev.succ ?_
    simp only [oneway_arcs_far.l1, e3, if_false]
    exact Ev.pure _
  | succ r ih =>
    intro d x e hx
    have e3 : (d : Int) < (n : Int) := by omega
    have h7 := hs.1
    have e1 : wrap64 ((d : Int) + 1) = ((d + 1 : Nat) : Int) := w64s _ (by omega)
    refine Ev.succ ?_
    simp only [oneway_arcs_far.l1, e3, if_true]
    refine far_l2 hs d (by omega) _ st [] x rfl hx ?_
    rw [e1]
    exact ih (d + 1) _ (by omega) (by rw [passA_len, hx])
theorem far_l0 {n : Nat} {st : List S30} (hs : Arcs n st) {c : Nat} (hc : c < n) : ∀ (r i : Nat) (x : List Int), i + r = n → x.length = n → (∀ j, j < i → x[j]? = some (-1)) → Ev (fun k => oneway_arcs_far.l0 k st n c x n i) (farN n st c) := by
  intro r
  induction r with
  | zero =>
    intro i x e hx hj
    have e3 : ¬ (i : Int) < (n : Int) := by omega
    have ex : x = List.replicate n (-1) := List.ext_getElem? fun j => by
      rcases Nat.lt_or_ge j n with h | h
      · rw [hj j (by omega), List.getElem?_replicate, if_pos h]
      · rw [List.getElem?_eq_none (by omega), List.getElem?_eq_none (by simpa using h)]
    have e4 : (x.length : Int) = (n : Int) := by rw [hx]
    refine Ev.succ ?_
    simp only [oneway_arcs_far.l0, e3, e4, if_false, nonneg_len, Int.natCast_nonneg, if_true, show (c : Int) < (n : Int) by omega, Int.toNat_natCast]
    rw [ex, farN]
    exact far_l1 hs n 0 _ (by omega) (by simp)
  | succ r ih =>
    intro i x e hx hj
    have h7 := hs.1
    have e3 : (i : Int) < (n : Int) := by omega
    have e4 : (x.length : Int) = (n : Int) := by rw [hx]
    have e1 : wrap64 ((i : Int) + 1) = ((i + 1 : Nat) : Int) := w64s _ (by omega)
    refine Ev.succ ?_
    simp only [oneway_arcs_far.l0, e1, e3, e4, if_true, Int.natCast_nonneg, Int.toNat_natCast]
    refine ih (i + 1) _ (by omega) (by rw [List.length_set, hx]) fun j hj' => ?_
    rw [List.getElem?_set]
    split
    · rename_i h; subst h; rw [if_pos (by omega)]
    · exact hj j (by omega)
theorem far_ev {n : Nat} {st : List S30} (hs : Arcs n st) {c : Nat} (hc : c < n) : Ev (fun k => oneway_arcs_far.f k st n c) (farN n st c) := by
  have h7 := hs.1
  unfold oneway_arcs_far.f
  simp only [Int.natCast_nonneg, if_true, Int.toNat_natCast, show n ≤ 35184372088832 by omega, Option.bind_some, List.length_replicate]
  exact far_l0 hs hc n 0 _ (by omega) (by simp) (fun j hj => by omega)
theorem rd_set {x : List Int} {i : Nat} (hi : i < x.length) (v : Int) {j : Int} (hj : 0 ≤ j) : rd (x.set i v) j = if j = (i : Int) then v else rd x j := by
  unfold rd
  rw [List.getD_eq_getElem?_getD, List.getElem?_set]
  by_cases h : j = (i : Int)
  · subst h; simp [hi]
  · rw [if_neg (by omega), if_neg h, ← List.getD_eq_getElem?_getD]
theorem stepA_rd {n : Nat} {d : Int} {x : List Int} {s : S30} (hx : x.length = n) (he : Ends n s) {j : Int} (hj : 0 ≤ j) : rd (stepA d x s) j = if rd x s.f0 = d ∧ rd x s.f1 < 0 ∧ j = s.f1 then d + 1 else rd x j := by
  have h1 := he.2.2.1
  have h2 := he.2.2.2.1
  unfold stepA
  by_cases c0 : rd x s.f0 = d
  · rw [if_pos c0]
    by_cases c1 : rd x s.f1 < 0
    · rw [if_pos c1, rd_set (by omega) _ hj]
      by_cases c2 : j = s.f1
      · rw [if_pos (by omega), if_pos ⟨c0, c1, c2⟩]
      · rw [if_neg (by omega), if_neg (fun h => c2 h.2.2)]
    · rw [if_neg c1, if_neg (fun h => c1 h.2.1)]
  · rw [if_neg c0, if_neg (fun h => c0 h.1)]
theorem stepA_keep {n : Nat} {d : Int} {x : List Int} {s : S30} (hx : x.length = n) (he : Ends n s) {j : Int} (hj : 0 ≤ j) (h : 0 ≤ rd x j) : rd (stepA d x s) j = rd x j := by
  rw [stepA_rd hx he hj]
  split
  · rename_i g; rw [g.2.2] at h; omega
  · rfl
theorem passA_keep {n : Nat} {d : Int} : ∀ (l : List S30) (x : List Int), x.length = n → (∀ s ∈ l, Ends n s) → ∀ {j : Int}, 0 ≤ j → 0 ≤ rd x j → rd (l.foldl (stepA d) x) j = rd x j
  | [], _, _, _, _, _, _ => rfl
  | s :: t, x, hx, hs, j, hj, h => by
    have he := hs s (List.mem_cons_self)
    rw [List.foldl_cons, passA_keep t _ (by rw [stepA_len, hx]) (fun q hq => hs q (List.mem_cons_of_mem _ hq)) hj (by rw [stepA_keep hx he hj h]; exact h), stepA_keep hx he hj h]
theorem passA_new {n : Nat} {d : Int} : ∀ (l : List S30) (x : List Int), x.length = n → (∀ s ∈ l, Ends n s) → ∀ {j : Int}, 0 ≤ j → rd (l.foldl (stepA d) x) j = rd x j ∨ rd (l.foldl (stepA d) x) j = d + 1
  | [], _, _, _, _, _ => .inl rfl
  | s :: t, x, hx, hs, j, hj => by
    have he := hs s (List.mem_cons_self)
    rw [List.foldl_cons]
    rcases passA_new (d := d) t (stepA d x s) (by rw [stepA_len, hx]) (fun q hq => hs q (List.mem_cons_of_mem _ hq)) hj with h | h
    · rw [h, stepA_rd hx he hj]
      split
      · exact .inr rfl
      · exact .inl rfl
    · exact .inr h
theorem passA_sat {n : Nat} {d : Int} (hd : 0 ≤ d) : ∀ (l : List S30) (x : List Int), x.length = n → (∀ s ∈ l, Ends n s) → ∀ s ∈ l, rd x s.f0 = d → 0 ≤ rd (l.foldl (stepA d) x) s.f1
  | [], _, _, _, s, hm, _ => by cases hm
  | q :: t, x, hx, hs, s, hm, h => by
    have he := hs q (List.mem_cons_self)
    have ht : ∀ s ∈ t, Ends n s := fun q hq => hs q (List.mem_cons_of_mem _ hq)
    rw [List.foldl_cons]
    rcases List.mem_cons.1 hm with rfl | hm
    · have h1 : 0 ≤ rd (stepA d x s) s.f1 := by
        rw [stepA_rd hx he he.2.2.1]
        split
        · omega
        · rename_i g
          by_cases c : rd x s.f1 < 0
          · exact absurd ⟨h, c, rfl⟩ g
          · omega
      rw [passA_keep t _ (by rw [stepA_len, hx]) ht he.2.2.1 h1]; exact h1
    · refine passA_sat hd t _ (by rw [stepA_len, hx]) ht s hm ?_
      rw [stepA_keep hx he (ht s hm).1 (by omega)]; exact h
def maskOf (p : Nat → Bool) : Nat → Nat
  | 0 => 0
  | n + 1 => maskOf p n + (if p n then 2 ^ n else 0)
theorem maskOf_lt (p : Nat → Bool) : ∀ n, maskOf p n < 2 ^ n
  | 0 => Nat.one_pos
  | n + 1 => by
    have := maskOf_lt p n
    rw [maskOf, Nat.pow_succ]
    split <;> omega
theorem maskOf_bit (p : Nat → Bool) : ∀ n i, (maskOf p n).testBit i = (decide (i < n) && p i)
  | 0, i => by simp [maskOf]
  | n + 1, i => by
    have hlt := maskOf_lt p n
    rw [maskOf]
    cases hp : p n
    · simp only [Bool.false_eq_true, if_false, Nat.add_zero]
      rw [maskOf_bit p n i]
      rcases Nat.lt_trichotomy i n with h | h | h
      · simp [h, Nat.lt_succ_of_lt h]
      · subst h; simp [hp]
      · simp [show ¬ i < n by omega, show ¬ i < n + 1 by omega]
    · simp only [if_true]
      rw [Nat.add_comm]
      rcases Nat.lt_trichotomy i n with h | h | h
      · rw [Nat.testBit_two_pow_add_gt h, maskOf_bit p n i]; simp [h, Nat.lt_succ_of_lt h]
      · subst h
        rw [Nat.testBit_two_pow_add_eq, maskOf_bit p i i]; simp [hp]
      · have : 2 ^ n + maskOf p n < 2 ^ i := by
          have : 2 ^ (n + 1) ≤ 2 ^ i := Nat.pow_le_pow_right (by decide) h
          rw [Nat.pow_succ] at this; omega
        rw [Nat.testBit_lt_two_pow this]
        simp [show ¬ i < n + 1 by omega]
def reachX (n : Nat) (x : List Int) : Nat := maskOf (fun j => decide (0 ≤ rd x (j : Int))) n
theorem reachX_inb {n : Nat} (x : List Int) {v : Int} (h0 : 0 ≤ v) (h1 : v < n) : inb (reachX n x) v = true ↔ 0 ≤ rd x v := by
  unfold inb reachX
  rw [maskOf_bit, Int.toNat_of_nonneg h0]
  simp; omega
theorem reachX_lt (n : Nat) (x : List Int) : reachX n x < 2 ^ n := maskOf_lt _ n
theorem reachX_bit {n : Nat} (x : List Int) {j : Nat} (hj : j < n) : (reachX n x).testBit j = decide (0 ≤ rd x (j : Int)) := by unfold reachX; rw [maskOf_bit]; simp [hj]
def CL (st : List S30) (x : List Int) : Prop := ∀ s ∈ st, 0 ≤ rd x s.f0 → 0 ≤ rd x s.f1
theorem passA_CL {n : Nat} {d : Int} (hd : 0 ≤ d) : ∀ (l : List S30) (x : List Int), CL l x → l.foldl (stepA d) x = x
  | [], _, _ => rfl
  | s :: t, x, h => by
    have e : stepA d x s = x := by
      unfold stepA
      split
      · rename_i h0
        have := h s (List.mem_cons_self) (by omega)
        rw [if_neg (by omega)]
      · rfl
    rw [List.foldl_cons, e, passA_CL (n := n) hd t x fun q hq => h q (List.mem_cons_of_mem _ hq)]
theorem iterA_CL {st : List S30} : ∀ (r d : Nat) (x : List Int), CL st x → iterA st r d x = x
  | 0, _, _, _ => rfl
  | r + 1, d, x, h => by rw [iterA, passA_CL (n := 0) (by omega) st x h, iterA_CL r (d + 1) x h]
theorem iterA_grow {n : Nat} {st : List S30} (hs : ∀ s ∈ st, Ends n s) : ∀ (r d : Nat) (x : List Int), x.length = n → (∀ j : Nat, j < n → rd x (j : Int) ≤ d) → (∀ s ∈ st, 0 ≤ rd x s.f0 → rd x s.f0 < d → 0 ≤ rd x s.f1) →
    (CL st x ∨ d + 1 ≤ cntB (reachX n x) n) → CL st (iterA st r d x) ∨ d + r + 1 ≤ cntB (reachX n (iterA st r d x)) n
  | 0, d, x, hx, hv, hsat, h => h
  | r + 1, d, x, hx, hv, hsat, h => by
    rcases h with h | h
    · rw [iterA_CL (r + 1) d x h]; exact .inl h
    · rw [iterA]
      obtain ⟨y, hy⟩ : ∃ y, y = st.foldl (stepA (d : Int)) x := ⟨_, rfl⟩
      rw [← hy]
      have hyl : y.length = n := by rw [hy, passA_len, hx]
      have hyn : ∀ {j : Int}, 0 ≤ j → rd y j = rd x j ∨ rd y j = (d : Int) + 1 := fun {j} hj => by rw [hy]; exact passA_new st x hx hs hj
      have hyk : ∀ {j : Int}, 0 ≤ j → 0 ≤ rd x j → rd y j = rd x j := fun {j} hj h0 => by rw [hy]; exact passA_keep st x hx hs hj h0
      have hyv : ∀ j : Nat, j < n → rd y (j : Int) ≤ ((d + 1 : Nat) : Int) := fun j hj => by
        rcases hyn (j := (j : Int)) (by omega) with h1 | h1
        · have := hv j hj; rw [h1]; omega
        · rw [h1]; omega
      have hvi : ∀ {v : Int}, 0 ≤ v → v < n → rd x v ≤ d := fun {v} h0 h1 => by
        have := hv v.toNat (by omega)
        rwa [Int.toNat_of_nonneg h0] at this
      have hysat : ∀ s ∈ st, 0 ≤ rd y s.f0 → rd y s.f0 < ((d + 1 : Nat) : Int) → 0 ≤ rd y s.f1 := fun s hm h0 h1 => by
        have he := hs s hm
        have e0 : rd y s.f0 = rd x s.f0 := by
          rcases hyn (j := s.f0) he.1 with h2 | h2
          · exact h2
          · rw [h2] at h1; omega
        rcases Int.lt_or_le (rd x s.f0) d with h2 | h2
        · have := hsat s hm (by omega) h2
          rw [hyk he.2.2.1 this]; exact this
        · rw [hy]; exact passA_sat (by omega) st x hx hs s hm (by have := hvi he.1 he.2.1; omega)
      have hsub : subB (reachX n x) (reachX n y) := fun i hi => by
        have hin := bit_in (reachX_lt n x) hi
        rw [reachX_bit x hin] at hi
        rw [reachX_bit y hin]
        have h0 : 0 ≤ rd x (i : Int) := of_decide_eq_true hi
        exact decide_eq_true (by rw [hyk (by omega) h0]; exact h0)
      have hnext : CL st y ∨ (d + 1) + 1 ≤ cntB (reachX n y) n := by
        rcases Classical.em (CL st y) with hc | hc
        · exact .inl hc
        · refine .inr ?_
          have hex : ∃ s, s ∈ st ∧ 0 ≤ rd y s.f0 ∧ rd y s.f1 < 0 := Classical.byContradiction fun hn => hc fun s hm h0 => by
            rcases Int.lt_or_le (rd y s.f1) 0 with h1 | h1
            · exact absurd ⟨s, hm, h0, h1⟩ hn
            · exact h1
          obtain ⟨s, hm, h0, h1⟩ := hex
          have he := hs s hm
          have h2 : ¬ rd y s.f0 < ((d + 1 : Nat) : Int) := fun h2 => by have := hysat s hm h0 h2; omega
          have h3 : rd x s.f0 < 0 := by
            rcases Int.lt_or_le (rd x s.f0) 0 with h3 | h3
            · exact h3
            · have := hvi he.1 he.2.1
              rw [hyk he.1 h3] at h2; omega
          have hlt := cntB_lt hsub (i := s.f0.toNat) (by rw [reachX_bit x (by have := he.1; have := he.2.1; omega), Int.toNat_of_nonneg he.1]; exact decide_eq_false (by omega)) (by rw [reachX_bit y (by have := he.1; have := he.2.1; omega), Int.toNat_of_nonneg he.1]; exact decide_eq_true h0) n (by have := he.1; have := he.2.1; omega)
          omega
      have := iterA_grow hs r (d + 1) y hyl hyv hysat hnext
      rcases this with h' | h'
      · exact .inl h'
      · exact .inr (by omega)
theorem farN_CL {n : Nat} {st : List S30} (hs : ∀ s ∈ st, Ends n s) {c : Nat} (hc : c < n) : CL st (farN n st c) := by
  have hx : ((List.replicate n (-1 : Int)).set c 0).length = n := by simp
  have hr : ∀ j : Nat, j < n → rd ((List.replicate n (-1 : Int)).set c 0) (j : Int) = if j = c then 0 else -1 := fun j hj => by
    rw [rd_set (by simpa using hc) _ (by omega)]
    by_cases h : j = c
    · subst h; simp
    · rw [if_neg (by omega), if_neg h]; unfold rd; rw [List.getD_eq_getElem?_getD]; simp [List.getElem?_replicate, hj]
  have h := iterA_grow hs n 0 _ hx (fun j hj => by rw [hr j hj]; split <;> omega) (fun s hm h0 h1 => by omega) (.inr (by
    have : cntB 0 n < cntB (reachX n ((List.replicate n (-1 : Int)).set c 0)) n := cntB_lt (fun i hi => by simp at hi) (i := c) (by simp) (by rw [reachX_bit _ hc, hr c hc]; simp) n hc
    omega))
  rcases h with h | h
  · exact h
  · have := cntB_le (reachX n (iterA st n 0 ((List.replicate n (-1 : Int)).set c 0))) n
    omega
theorem iterA_in {n : Nat} {st : List S30} (hs : ∀ s ∈ st, Ends n s) (P : Int → Prop) (hP : ∀ s ∈ st, P s.f0 → P s.f1) : ∀ (r d : Nat) (x : List Int), x.length = n → (∀ j : Int, 0 ≤ j → j < n → 0 ≤ rd x j → P j) → ∀ j : Int, 0 ≤ j → j < n → 0 ≤ rd (iterA st r d x) j → P j := by
  have hpass : ∀ (d : Nat) (l : List S30), (∀ s ∈ l, s ∈ st) → ∀ (x : List Int), x.length = n → (∀ j : Int, 0 ≤ j → j < n → 0 ≤ rd x j → P j) → ∀ j : Int, 0 ≤ j → j < n → 0 ≤ rd (l.foldl (stepA (d : Int)) x) j → P j := by
    intro d l
    induction l with
    | nil => intro _ x _ h; exact h
    | cons s t ih =>
      intro hl x hx h
      have hm := hl s (List.mem_cons_self)
      rw [List.foldl_cons]
      refine ih (fun q hq => hl q (List.mem_cons_of_mem _ hq)) _ (by rw [stepA_len, hx]) fun j hj hjn h0 => ?_
      rw [stepA_rd hx (hs s hm) hj] at h0
      split at h0
      · rename_i g
        rw [g.2.2]
        exact hP s hm (h _ (hs s hm).1 (hs s hm).2.1 (by rw [g.1]; omega))
      · exact h j hj hjn h0
  intro r
  induction r with
  | zero => intro d x _ h; exact h
  | succ r ih =>
    intro d x hx h
    rw [iterA]
    exact ih (d + 1) _ (by rw [passA_len, hx]) (hpass d st (fun _ h => h) x hx h)
theorem farN_in {n : Nat} {st : List S30} (hs : ∀ s ∈ st, Ends n s) {c : Nat} (hc : c < n) (P : Int → Prop) (hP : ∀ s ∈ st, P s.f0 → P s.f1) (h0 : P (c : Int)) : ∀ j : Int, 0 ≤ j → j < n → 0 ≤ rd (farN n st c) j → P j := by
  intro j hj hjn h
  refine iterA_in hs P hP n 0 ((List.replicate n (-1)).set c 0) (by simp) (fun i hi hin hr => ?_) j hj hjn h
  rw [rd_set (by simpa using hc) _ hi] at hr
  split at hr
  · rename_i e; rw [e]; exact h0
  · exfalso
    unfold rd at hr
    rw [List.getD_eq_getElem?_getD, List.getElem?_replicate] at hr
    rw [if_pos (by omega)] at hr
    simp at hr
theorem farN_self {n : Nat} {st : List S30} (hs : ∀ s ∈ st, Ends n s) {c : Nat} (hc : c < n) : 0 ≤ rd (farN n st c) (c : Int) := by
  have hx : ((List.replicate n (-1 : Int)).set c 0).length = n := by simp
  have hk : ∀ (r d : Nat) (x : List Int), x.length = n → 0 ≤ rd x (c : Int) → 0 ≤ rd (iterA st r d x) (c : Int) := by
    intro r
    induction r with
    | zero => intro d x _ h; exact h
    | succ r ih =>
      intro d x hx h
      rw [iterA]
      exact ih (d + 1) _ (by rw [passA_len, hx]) (by rw [passA_keep st x hx hs (by omega) h]; exact h)
  exact hk n 0 _ hx (by rw [rd_set (by simpa using hc) _ (by omega), if_pos rfl]; omega)
end Go.Proofs.YtknecgmmpjggiaaDoor.OAll
