/- A part of the proof of 'fetchLucchesi_holds', for every input, without a condition. -/
import Derived.Test.YtjbfbdanbpfplaaSLQa
import Derived.Test.YtjbfbdanbpfplaaSLOAllx6
import Derived.Test.YtjbfbdanbpfplaaSLOAllx9
namespace Go.Proofs.Ytjbfbdanbpfplaa.OAll
open Go.RowKit Go.Proofs.YtjbfbdanbpfplaaW.PrintWords Go.Proofs.YtjbfbdanbpfplaaW.PrintLast Go.Proofs.YtjbfbdanbpfplaaW.PrintMore
set_option linter.unusedVariables false
set_option linter.unusedSimpArgs false
theorem sane_mem {n : Nat} {st : List S34} (h : Sane n st) {p t : List S34} {s : S34} (e : st = p ++ s :: t) : 0 ≤ s.f0 ∧ s.f0 < n ∧ 0 ≤ s.f1 ∧ s.f1 < n ∧ s.f0 ≠ s.f1 :=
  h.2.2 s (by rw [e]; simp)
theorem sane_len {n : Nat} {st : List S34} (h : Sane n st) {p t : List S34} {s : S34} (e : st = p ++ s :: t) : p.length < 14 := by
  have := h.2.1; rw [e] at this; simp at this; omega
theorem sane_le {n : Nat} {st : List S34} (h : Sane n st) {p t : List S34} {s : S34} (e : st = p ++ s :: t) : s.f0 ≤ 64 ∧ s.f1 ≤ 64 := by
  have := sane_mem h e; have := h.1; omega
theorem crossing_l0 {n : Nat} {st : List S34} (hs : Sane n st) (X : Nat) (hX : X < 2 ^ 63) : ∀ (suf pre : List S34) (acc : Nat), st = pre ++ suf → acc < 2 ^ 62 →
    Ev (fun k => fetch_quarter_crossing.l0 k X acc st st.length pre.length) ((acc ||| crossFrom X suf pre.length : Nat) : Int)
  | [], pre, acc, e, _ => by
    refine Ev.succ ?_
    subst e
    simp only [fetch_quarter_crossing.l0, mid_end, if_false, crossFrom, Nat.or_zero]
    exact Ev.pure _
  | s :: t, pre, acc, e, ha => by
    refine Ev.succ ?_
    have hm := sane_mem hs e
    have hl := sane_le hs e
    have hn := sane_len hs e
    have hp : (2 : Nat) ^ pre.length < 2 ^ 62 := Nat.pow_lt_pow_right (by decide) (by omega)
    have ha3 : acc < 2 ^ 63 := by omega
    have hp3 : 2 ^ pre.length < 2 ^ 63 := by omega
    have e1 : wrap64 ((pre.length : Int) + 1) = (((pre ++ [s]).length : Nat) : Int) := by
      rw [w64s _ (by omega)]; simp
    have e2 : rd_T34 st (pre.length : Int) = s := by rw [e]; exact rd34_mid _ _ _
    have e3 : (pre.length : Int) < (st.length : Int) := by rw [e]; exact mid_lt _ _ _
    have e4 : (pre.length : Int) ≤ 64 := by omega
    have e5 : wrap64 (2 ^ pre.length) = ((2 ^ pre.length : Nat) : Int) := w64pow (by omega)
    have e6 : Go.bits .or .i64 (acc : Int) ((2 ^ pre.length : Nat) : Int) = ((acc ||| 2 ^ pre.length : Nat) : Int) := or_nat _ _ ha3 hp3
    have ih := crossing_l0 hs X hX t (pre ++ [s])
    have ih1 := ih acc (by rw [e]; simp) ha
    have ih2 := ih (acc ||| 2 ^ pre.length) (by rw [e]; simp) (Nat.or_lt_two_pow ha hp)
    have e7 : (pre ++ [s]).length = pre.length + 1 := by simp
    simp only [fetch_quarter_crossing.l0, e1, e2, e3, e4, e5, e6, hm.1, hm.2.2.1, hl.1, hl.2, if_true, nonneg_len, bit_and X _ hX, Int.toNat_natCast]
    rw [crossFrom, outS, inb, inb]
    rw [e7] at ih1 ih2 ⊢
    cases h0 : X.testBit s.f0.toNat <;> cases h1 : X.testBit s.f1.toNat <;> simp only [Bool.and_true, Bool.and_false, Bool.not_true, Bool.not_false, if_true, Bool.false_eq_true, if_false, Nat.zero_or, Int.reduceEq, Int.zero_ne_one, Int.one_ne_zero]
    · exact ih1
    · exact ih1
    · rw [← Nat.or_assoc]; exact ih2
    · exact ih1
theorem crossing_ev {n : Nat} {st : List S34} (hs : Sane n st) (a : Int) (X : Nat) (hX : X < 2 ^ 63) : Ev (fun k => fetch_quarter_crossing.f k a st X) ((cross st X : Nat) : Int) := by
  have := crossing_l0 hs X hX st [] 0 rfl (by decide)
  simp only [Nat.zero_or] at this
  exact this
theorem full_w {n : Nat} (h : n ≤ 7) : wrap64 (wrap64 (2 ^ (n : Int).toNat) - 1) = ((2 ^ n - 1 : Nat) : Int) := by
  have hp : (2 : Nat) ^ n ≤ 2 ^ 7 := Nat.pow_le_pow_right (by decide) h
  have : 1 ≤ 2 ^ n := Nat.one_le_two_pow
  rw [Int.toNat_natCast, w64pow (by omega), w64] <;> omega
theorem everybody_eq {n : Nat} (h : n ≤ 7) (st : List S34) : fetch_quarter_everybody.f (n : Int) st = some ((2 ^ n - 1 : Nat) : Int) := by
  have : (n : Int) ≤ 64 := by omega
  simp only [fetch_quarter_everybody.f, nonneg_len, Int.natCast_nonneg, this, if_true, full_w h]
theorem kind_l0 {n : Nat} {st : List S34} (hs : Sane n st) (X : Nat) (hX : X < 2 ^ 63) : ∀ (suf pre : List S34), st = pre ++ suf →
    Ev (fun k => fetch_quarter_kind.l0 k X st st.length pre.length) (if suf.all (fun s => !backS X s) then 1 else 0)
  | [], pre, e => by
    refine Ev.succ ?_
    subst e
    simp only [fetch_quarter_kind.l0, mid_end, if_false, List.all_nil, if_true]
    exact Ev.pure _
  | s :: t, pre, e => by
    refine Ev.succ ?_
    have hm := sane_mem hs e
    have hl := sane_le hs e
    have hn := sane_len hs e
    have e1 : wrap64 ((pre.length : Int) + 1) = (((pre ++ [s]).length : Nat) : Int) := by
      rw [w64s _ (by omega)]; simp
    have e2 : rd_T34 st (pre.length : Int) = s := by rw [e]; exact rd34_mid _ _ _
    have e3 : (pre.length : Int) < (st.length : Int) := by rw [e]; exact mid_lt _ _ _
    have ih := kind_l0 hs X hX t (pre ++ [s]) (by rw [e]; simp)
    simp only [fetch_quarter_kind.l0, e1, e2, e3, hm.1, hm.2.2.1, hl.1, hl.2, if_true, nonneg_len, bit_and X _ hX]
    rw [List.all_cons, backS, inb, inb]
    cases h0 : X.testBit s.f0.toNat <;> cases h1 : X.testBit s.f1.toNat <;> simp only [Bool.and_true, Bool.and_false, Bool.true_and, Bool.false_and, Bool.not_true, Bool.not_false, if_true, Bool.false_eq_true, if_false, Int.reduceEq, Int.zero_ne_one, Int.one_ne_zero]
    · exact ih
    · exact Ev.pure _
    · exact ih
    · exact ih
def kindN (n : Nat) (st : List S34) (X : Int) : Int := if X ≤ 0 ∨ ((2 ^ n - 1 : Nat) : Int) ≤ X then 2 else if isCutB n st X.toNat then 1 else 0
theorem kind_ev {n : Nat} {st : List S34} (hs : Sane n st) (X : Int) : Ev (fun k => fetch_quarter_kind.f k n st X) (kindN n st X) := by
  unfold fetch_quarter_kind.f kindN
  by_cases h : X ≤ 0
  · simp only [h, if_true, true_or]
    refine Ev.succ ?_
    simp only [fetch_quarter_kind.j0, if_true]
    exact Ev.pure _
  · simp only [h, if_false, false_or, everybody_eq hs.1, Option.bind_some]
    refine Ev.succ ?_
    by_cases h' : ((2 ^ n - 1 : Nat) : Int) ≤ X
    · simp only [fetch_quarter_kind.j0, ge_iff_le, h', decide_true, if_true]
      exact Ev.pure _
    · have hp : (2 : Nat) ^ n ≤ 2 ^ 7 := Nat.pow_le_pow_right (by decide) hs.1
      obtain ⟨Y, rfl⟩ : ∃ Y : Nat, X = (Y : Int) := ⟨X.toNat, by omega⟩
      have hY : Y < 2 ^ n - 1 := by omega
      have := kind_l0 hs Y (by omega) st [] rfl
      simp only [fetch_quarter_kind.j0, ge_iff_le, h', decide_false, Bool.false_eq_true, if_false, isCutB, Int.toNat_natCast]
      simp only [show decide (0 < Y) = true from decide_eq_true (by omega), show decide (Y < 2 ^ n - 1) = true from decide_eq_true hY, Bool.true_and]
      exact this
theorem isCut_pos {n : Nat} {st : List S34} {X : Nat} (h : isCutB n st X = true) : 0 < X ∧ X < 2 ^ n - 1 ∧ ∀ s ∈ st, backS X s = false := by
  simp only [isCutB, Bool.and_eq_true, decide_eq_true_eq, List.all_eq_true] at h
  exact ⟨h.1.1, h.1.2, fun s hs => by simpa using h.2 s hs⟩
theorem isCut_mk {n : Nat} {st : List S34} {X : Nat} (h0 : 0 < X) (h1 : X < 2 ^ n - 1) (h2 : ∀ s ∈ st, backS X s = false) : isCutB n st X = true := by
  simp only [isCutB, Bool.and_eq_true, decide_eq_true_eq, List.all_eq_true]
  exact ⟨⟨h0, h1⟩, fun s hs => by simp [h2 s hs]⟩
theorem kind_cut {n : Nat} {st : List S34} {X : Int} : kindN n st X = 1 ↔ 0 ≤ X ∧ isCutB n st X.toNat = true := by
  unfold kindN
  split
  · refine ⟨fun h => by simp at h, fun h => ?_⟩
    have := isCut_pos h.2; omega
  · split
    · exact ⟨fun _ => ⟨by omega, by assumption⟩, fun _ => rfl⟩
    · exact ⟨fun h => by simp at h, fun h => by simp_all⟩
def cutsFrom (n : Nat) (st : List S34) : Nat → Nat → List Nat
  | _, 0 => []
  | i, d + 1 => if isCutB n st i then i :: cutsFrom n st (i + 1) d else cutsFrom n st (i + 1) d
theorem cutsFrom_eq (n : Nat) (st : List S34) : ∀ (d i : Nat), cutsFrom n st i d = (List.range' i d).filter (isCutB n st)
  | 0, _ => rfl
  | d + 1, i => by
    rw [cutsFrom, List.range'_succ, List.filter_cons, cutsFrom_eq n st d (i + 1)]
theorem cuts_l0 {n : Nat} {st : List S34} (hs : Sane n st) : ∀ (d i : Nat) (acc : List Int), i + d = 2 ^ n - 1 → acc.length ≤ i →
    Ev (fun k => fetch_quarter_cuts.l0 k acc ((2 ^ n - 1 : Nat) : Int) i n st) (acc ++ ints (cutsFrom n st i d))
  | 0, i, acc, e, _ => by
    refine Ev.succ ?_
    have : ¬ (i : Int) < ((2 ^ n - 1 : Nat) : Int) := by omega
    simp only [fetch_quarter_cuts.l0, this, if_false, cutsFrom, ints, List.map_nil, List.append_nil]
    exact Ev.pure _
  | d + 1, i, acc, e, ha => by
    refine Ev.succ ?_
    have hp : (2 : Nat) ^ n ≤ 2 ^ 7 := Nat.pow_le_pow_right (by decide) hs.1
    have : (i : Int) < ((2 ^ n - 1 : Nat) : Int) := by omega
    have hl : acc.length < 17592186044416 := by omega
    simp only [fetch_quarter_cuts.l0, this, if_true, hl, w64s i (by omega)]
    refine Ev.bind (kind_ev hs i) ?_
    simp only [kind_cut, Int.toNat_natCast, Int.natCast_nonneg, true_and]
    rw [cutsFrom]
    cases h : isCutB n st i
    · simp only [Bool.false_eq_true, if_false]
      exact cuts_l0 hs d (i + 1) acc (by omega) (by omega)
    · simp only [if_true]
      have := cuts_l0 hs d (i + 1) (acc ++ [(i : Int)]) (by omega) (by simp; omega)
      rw [List.append_assoc] at this
      exact this
theorem cutsFrom_cutsN (n : Nat) (st : List S34) : cutsFrom n st 0 (2 ^ n - 1) = cutsN n st := by
  rw [cutsFrom_eq, cutsN, List.range_eq_range']
theorem cuts_ev {n : Nat} {st : List S34} (hs : Sane n st) : Ev (fun k => fetch_quarter_cuts.f k n st) (ints (cutsN n st)) := by
  unfold fetch_quarter_cuts.f
  simp only [everybody_eq hs.1, Option.bind_some]
  have := cuts_l0 hs (2 ^ n - 1) 0 [] (by omega) (by simp)
  rw [cutsFrom_cutsN] at this
  exact this
end Go.Proofs.Ytjbfbdanbpfplaa.OAll
