/- A part of the proof of 'topReach_holds', for every input, without a condition. -/
import Derived.Test.YtknecgmmpjggiaaDoorTReQc
namespace Go.Proofs.YtknecgmmpjggiaaDoor.OAll
open Go.RowKit Go.Proofs.YtknecgmmpjggiaaDoorW.PrintWords Go.Proofs.YtknecgmmpjggiaaDoorW.PrintLast Go.Proofs.YtknecgmmpjggiaaDoorW.PrintMore
set_option linter.unusedVariables false
set_option linter.unusedSimpArgs false
theorem index_l0 {l : List Int} (hl : l.length < 1000000) (a : Int) : ∀ (suf pre : List Int), l = pre ++ suf → ∃ r : Int, Ev (fun k => slices_Index_int_int.l0 k l a l.length pre.length) r ∧ (0 ≤ r ↔ a ∈ suf) := by
  intro suf
  induction suf with
  | nil =>
    intro pre e
    have e3 : ¬ (pre.length : Int) < (l.length : Int) := by rw [e]; simp
    refine ⟨-1, Ev.succ ?_, by simp⟩
    simp only [slices_Index_int_int.l0, e3, if_false]
    exact Ev.pure _
  | cons x t ih =>
    intro pre e
    have hn : pre.length < l.length := by rw [e]; simp
    have e7 : (pre ++ [x]).length = pre.length + 1 := by simp
    have e1 : wrap64 ((pre.length : Int) + 1) = (((pre ++ [x]).length : Nat) : Int) := by rw [w64s _ (by omega), e7]
    have e2 : rd l (pre.length : Int) = x := by rw [e]; exact rd_mid _ _ _
    have e3 : (pre.length : Int) < (l.length : Int) := by rw [e]; exact mid_lt _ _ _
    by_cases hx : a = x
    · refine ⟨pre.length, Ev.succ ?_, ⟨fun _ => by rw [hx]; exact List.mem_cons_self, fun _ => Int.natCast_nonneg _⟩⟩
      simp only [slices_Index_int_int.l0, e1, e2, e3, nonneg_len, if_true, if_pos hx]
      exact Ev.pure _
    · obtain ⟨r, h1, h2⟩ := ih (pre ++ [x]) (by rw [e]; simp)
      refine ⟨r, Ev.succ ?_, h2.trans ⟨fun h => List.mem_cons_of_mem _ h, fun h => (List.mem_cons.1 h).resolve_left hx⟩⟩
      simp only [slices_Index_int_int.l0, e1, e2, e3, nonneg_len, if_true, if_neg hx]
      exact h1
theorem contains_ev {l : List Int} (hl : l.length < 1000000) (a : Int) : Ev (fun k => slices_Contains_int_int.f k l a) (decide (a ∈ l)) := by
  obtain ⟨r, h1, h2⟩ := index_l0 hl a l [] rfl
  unfold slices_Contains_int_int.f slices_Index_int_int.f
  refine Ev.bind h1 ?_
  have : decide (r ≥ 0) = decide (a ∈ l) := decide_eq_decide.2 h2
  rw [this]
  exact Ev.pure _
theorem mx_ge (a b : Int) : a ≤ mx a b := by unfold mx; split <;> omega
theorem width_l0 {n : Nat} {st : List S30} (hs : Arcs n st) : ∀ (r c : Nat) (most : Int), c + r = n → 0 ≤ most → ∃ v : Int, Ev (fun k => oneway_arcs_width.l0 k st n most n c) v ∧ (0 ≤ v ↔ ∀ c', c ≤ c' → c' < n → (-1 : Int) ∉ farN n st c') := by
  intro r
  induction r with
  | zero =>
    intro c most e hm
    have e3 : ¬ (c : Int) < (n : Int) := by omega
    refine ⟨most, Ev.succ ?_, ⟨fun _ c' h1 h2 => by omega, fun _ => hm⟩⟩
    simp only [oneway_arcs_width.l0, e3, if_false]
    exact Ev.pure _
  | succ r ih =>
    intro c most e hm
    have h7 := hs.1
    have e3 : (c : Int) < (n : Int) := by omega
    have hc : c < n := by omega
    have hl := farN_len n st c
    have e1 : wrap64 ((c : Int) + 1) = ((c + 1 : Nat) : Int) := w64s _ (by omega)
    by_cases hin : (-1 : Int) ∈ farN n st c
    · refine ⟨-1, Ev.succ ?_, ⟨fun h => by omega, fun h => absurd hin (h c (Nat.le_refl _) hc)⟩⟩
      simp only [oneway_arcs_width.l0, e3, if_true]
      refine Ev.bind (far_ev hs hc) (Ev.bind (contains_ev (by omega) (-1)) ?_)
      rw [decide_eq_true hin]
      simp only [if_true]
      exact Ev.pure _
    · obtain ⟨v, h1, h2⟩ := ih (c + 1) (mx most (Lib.maxOf (farN n st c))) (by omega) (Int.le_trans hm (mx_ge _ _))
      refine ⟨v, Ev.succ ?_, h2.trans ⟨fun h c' g1 g2 => ?_, fun h c' g1 g2 => h c' (by omega) g2⟩⟩
      · simp only [oneway_arcs_width.l0, e3, if_true]
        refine Ev.bind (far_ev hs hc) (Ev.bind (contains_ev (by omega) (-1)) ?_)
        rw [decide_eq_false hin]
        simp only [Bool.false_eq_true, if_false, slices_Max_int_int.f, hl, if_pos (show 0 < n by omega), Option.bind_some, e1]
        exact h1
      · rcases Nat.eq_or_lt_of_le g1 with g | g
        · rw [← g]; exact hin
        · exact h c' g g2
theorem farN_vals {n : Nat} {st : List S30} (c : Nat) : ∀ v ∈ farN n st c, v = -1 ∨ 0 ≤ v := by
  have hstep : ∀ (d : Int) (x : List Int) (s : S30), 0 ≤ d → (∀ v ∈ x, v = -1 ∨ 0 ≤ v) → ∀ v ∈ stepA d x s, v = -1 ∨ 0 ≤ v := by
    intro d x s hd h v hv
    unfold stepA at hv
    split at hv
    · split at hv
      · rcases List.mem_or_eq_of_mem_set hv with h1 | h1
        · exact h v h1
        · exact .inr (by omega)
      · exact h v hv
    · exact h v hv
  have hpass : ∀ (d : Int) (l : List S30) (x : List Int), 0 ≤ d → (∀ v ∈ x, v = -1 ∨ 0 ≤ v) → ∀ v ∈ l.foldl (stepA d) x, v = -1 ∨ 0 ≤ v := by
    intro d l
    induction l with
    | nil => intro x _ h; exact h
    | cons s t ih => intro x hd h; rw [List.foldl_cons]; exact ih _ hd (hstep d x s hd h)
  have hit : ∀ (r d : Nat) (x : List Int), (∀ v ∈ x, v = -1 ∨ 0 ≤ v) → ∀ v ∈ iterA st r d x, v = -1 ∨ 0 ≤ v := by
    intro r
    induction r with
    | zero => intro d x h; exact h
    | succ r ih => intro d x h; rw [iterA]; exact ih (d + 1) _ (hpass _ st x (by omega) h)
  refine hit n 0 _ fun v hv => ?_
  rcases List.mem_or_eq_of_mem_set hv with h1 | h1
  · exact .inl (List.eq_of_mem_replicate h1)
  · exact .inr (by omega)
theorem rd_mem {x : List Int} {j : Nat} (hj : j < x.length) : rd x (j : Int) ∈ x := by
  unfold rd
  rw [Int.toNat_natCast, List.getD_eq_getElem?_getD, List.getElem?_eq_getElem hj]
  exact List.getElem_mem hj
theorem farN_no {n : Nat} {st : List S30} (c : Nat) : (-1 : Int) ∉ farN n st c ↔ ∀ j : Nat, j < n → 0 ≤ rd (farN n st c) (j : Int) := by
  have hl := farN_len n st c
  constructor
  · intro h j hj
    rcases farN_vals c _ (rd_mem (x := farN n st c) (j := j) (by omega)) with h1 | h1
    · exact absurd (h1 ▸ rd_mem (x := farN n st c) (j := j) (by omega)) h
    · exact h1
  · intro h hm
    obtain ⟨j, hj, e⟩ := List.getElem_of_mem hm
    have := h j (by omega)
    unfold rd at this
    rw [Int.toNat_natCast, List.getD_eq_getElem?_getD, List.getElem?_eq_getElem hj, e] at this
    simp at this
theorem strong_str {n : Nat} {st : List S30} (hs : Arcs n st) : (∀ c, c < n → (-1 : Int) ∉ farN n st c) ↔ StrP n (fun s => s ∈ st) := by
  constructor
  · intro h X X0 X1
    refine Classical.byContradiction fun hn => ?_
    have hno : ∀ s ∈ st, backS X s = false := fun s hm => by
      cases hb : backS X s
      · rfl
      · exact absurd ⟨s, hm, hb⟩ hn
    have hX : X < 2 ^ n := by omega
    obtain ⟨c, hc, hcX⟩ : ∃ c, c < n ∧ X.testBit c = false := by
      refine Classical.byContradiction fun h1 => ?_
      have : X = 2 ^ n - 1 := Nat.eq_of_testBit_eq fun i => by
        rw [full_bit]
        by_cases hi : i < n
        · rw [decide_eq_true hi]
          cases hb : X.testBit i
          · exact absurd ⟨i, hi, hb⟩ h1
          · rfl
        · rw [decide_eq_false hi]
          cases hb : X.testBit i
          · rfl
          · exact absurd (bit_in hX hb) hi
      omega
    obtain ⟨i, hi⟩ := Nat.exists_testBit_of_ne_zero (Nat.pos_iff_ne_zero.1 X0)
    have hin := bit_in hX hi
    have h1 := farN_in hs.2.2 hc (fun v => inb X v = false) (fun s hm h0 => by
      cases h2 : inb X s.f1
      · rfl
      · have := hno s hm
        rw [(back_iff X s).2 ⟨h0, h2⟩] at this; cases this) (by unfold inb; rw [Int.toNat_natCast]; exact hcX) (i : Int) (by omega) (by omega) ((farN_no c).1 (h c hc) i hin)
    unfold inb at h1
    rw [Int.toNat_natCast, hi] at h1
    cases h1
  · intro h c hc
    rw [farN_no]
    refine fun j hj => Classical.byContradiction fun hneg => ?_
    obtain ⟨R, hR⟩ : ∃ R, R = reachX n (farN n st c) := ⟨_, rfl⟩
    have hRlt : R < 2 ^ n := by rw [hR]; exact reachX_lt _ _
    have hself : R.testBit c = true := by rw [hR, reachX_bit _ hc]; exact decide_eq_true (farN_self hs.2.2 hc)
    have hj0 : R.testBit j = false := by rw [hR, reachX_bit _ hj]; exact decide_eq_false hneg
    have hcj : (compN n R).testBit j = true := by rw [compN_bit hRlt, hj0]; simp [hj]
    have hcc : (compN n R).testBit c = false := by rw [compN_bit hRlt, hself]; simp
    have c0 : 0 < compN n R := Nat.pos_of_ne_zero fun e => by rw [e] at hcj; simp at hcj
    have c1 : compN n R < 2 ^ n - 1 := by
      have := compN_lt hRlt
      rcases Nat.lt_or_ge (compN n R) (2 ^ n - 1) with h1 | h1
      · exact h1
      · have e : compN n R = 2 ^ n - 1 := by omega
        rw [e, full_bit, decide_eq_true hc] at hcc; cases hcc
    obtain ⟨s, hm, hb⟩ := h (compN n R) c0 c1
    obtain ⟨b0, b1⟩ := (back_iff _ _).1 hb
    have he := hs.2.2 s hm
    rw [compN_inb hRlt he.1 he.2.1] at b0
    rw [compN_inb hRlt he.2.2.1 he.2.2.2.1] at b1
    have g0 : inb R s.f0 = true := by simpa using b0
    have g1 : inb R s.f1 = false := by simpa using b1
    rw [hR, reachX_inb _ he.1 he.2.1] at g0
    have := farN_CL hs.2.2 hc s hm g0
    rw [← reachX_inb _ he.2.2.1 he.2.2.2.1, ← hR, g1] at this
    cases this
theorem strong_ev {n : Nat} {st : List S30} (hs : Arcs n st) : Ev (fun k => oneway_arcs_strong.f k st n) (cutsN n st).isEmpty := by
  obtain ⟨v, h1, h2⟩ := width_l0 hs n 0 0 (by omega) (Int.le_refl _)
  unfold oneway_arcs_strong.f oneway_arcs_width.f
  refine Ev.bind h1 ?_
  have : decide (v ≥ 0) = (cutsN n st).isEmpty := by
    rw [Bool.eq_iff_iff, decide_eq_true_iff, List.isEmpty_iff, str_cuts, ← strong_str hs]
    exact h2.trans ⟨fun h c hc => h c (Nat.zero_le _) hc, fun h c _ hc => h c hc⟩
  rw [this]
  exact Ev.pure _
end Go.Proofs.YtknecgmmpjggiaaDoor.OAll
