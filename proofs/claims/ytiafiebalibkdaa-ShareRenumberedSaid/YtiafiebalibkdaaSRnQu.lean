/- A part of the proof of 'shareRenumbered_holds', for every input, without a condition. -/
import Derived.Test.YtiafiebalibkdaaSRnQt
import Derived.Test.YtiafiebalibkdaaSRnOAllx16
namespace Go.Proofs.Ytiafiebalibkdaa.OAll
open Go.RowKit Go.Proofs.YtiafiebalibkdaaW.PrintWords Go.Proofs.YtiafiebalibkdaaW.PrintLast Go.Proofs.YtiafiebalibkdaaW.PrintMore
set_option linter.unusedVariables false
set_option linter.unusedSimpArgs false
def inW (x : Int) : Bool := decide (0 ≤ x) && decide (x ≤ 1000)
def rowOk (n : Nat) (s : Int) (r : List Int) : Bool := decide (r.length = n) && (r.all inW && decide (isum r = s))
def rowsOk (W : List (List Int)) (s : Int) (i : Nat) : Bool := (List.range' i (W.length - i)).all fun j : Nat => rowOk W.length s (rd_L1 W (j : Int))
def rentR (W : List (List Int)) : Option Int := if 1 ≤ W.length ∧ W.length ≤ 5 ∧ rowsOk W (isum (rd_L1 W 0)) 0 = true then some (isum (rd_L1 W 0)) else none
theorem inW_iff {x : Int} : inW x = true ↔ 0 ≤ x ∧ x ≤ 1000 := by simp [inW]
theorem isum_inW : ∀ (l : List Int), l.all inW = true → 0 ≤ isum l ∧ isum l ≤ 1000 * (l.length : Int)
  | [], _ => by simp [isum]
  | x :: l, h => by
    rw [List.all_cons, Bool.and_eq_true] at h
    have h1 := inW_iff.mp h.1
    have h2 := isum_inW l h.2
    simp only [isum, List.length_cons]; omega
theorem rowsOk_succ {W : List (List Int)} {s : Int} {i : Nat} (h : i < W.length) : rowsOk W s i = (rowOk W.length s (rd_L1 W (i : Int)) && rowsOk W s (i + 1)) := by
  unfold rowsOk; rw [fl_succ h, List.all_cons]
theorem rowsOk_end {W : List (List Int)} {s : Int} {i : Nat} (h : W.length ≤ i) : rowsOk W s i = true := by
  unfold rowsOk; rw [fl_end h]; rfl
theorem rent_wish {W : List (List Int)} {s : Int} (h : rentR W = some s) : Wish W W.length s := by
  unfold rentR at h
  split at h
  · rename_i hc
    obtain ⟨h1, h5, h2⟩ := hc
    have hs := Option.some.inj h
    have hr : ∀ j : Nat, j < W.length → rowOk W.length s (rd_L1 W (j : Int)) = true := fun j hj => by
      unfold rowsOk at h2
      rw [List.all_eq_true] at h2
      rw [← hs]
      exact h2 j (by rw [Nat.sub_zero, ← List.range_eq_range']; simpa using hj)
    simp only [rowOk, Bool.and_eq_true, decide_eq_true_eq] at hr
    refine ⟨rfl, h1, h5, fun j hj => (hr j hj).1, fun j k hj hk => ?_, fun j hj => (hr j hj).2.2⟩
    have h3 := (hr j hj).2.1
    have h4 : k < (rd_L1 W (j : Int)).length := by rw [(hr j hj).1]; exact hk
    rw [rd_get h4]
    exact inW_iff.mp (List.all_eq_true.mp h3 _ (List.getElem_mem h4))
  · cases h
theorem rrow_ev (W : List (List Int)) (h5 : W.length ≤ 5) (i : Nat) (hi : i < W.length) (x4 : Int) (R : Int × Bool) : ∀ (t p : List Int) (acc : Int), rd_L1 W (i : Int) = p ++ t → (p ++ t).length = W.length → 0 ≤ acc → acc ≤ 1000 * (p.length : Int) →
    (t.all inW = true → Ev (fun k => if (i : Int) > 0 then (if acc + isum t = x4 then trishawref08_Rent.l0 k W (acc + isum t) (wrap64 ((i : Int) + 1)) else some (0, false)) else trishawref08_Rent.l0 k W (acc + isum t) (wrap64 ((i : Int) + 1))) R) →
    (t.all inW = false → R = (0, false)) → Ev (fun k => trishawref08_Rent.l1 k W x4 (i : Int) acc (p.length : Int)) R
  | [], p, acc, e, hl, h0, h1, ok, bad => by
    refine Ev.succ ?_
    have c1 : ¬ (p.length : Int) < (W.length : Int) := by simp at hl; omega
    simp only [trishawref08_Rent.l1, if_neg c1]
    have := ok rfl
    simp only [isum, Int.add_zero] at this
    exact this
  | y :: t, p, acc, e, hl, h0, h1, ok, bad => by
    refine Ev.succ ?_
    have hl' : p.length < W.length := by simp at hl; omega
    have c1 : (p.length : Int) < (W.length : Int) := by omega
    have c2 : (0 : Int) ≤ (i : Int) := by omega
    have c3 : (i : Int) < (W.length : Int) := by omega
    have c4 : (0 : Int) ≤ (p.length : Int) := by omega
    have c5 : (p.length : Int) < ((rd_L1 W (i : Int)).length : Int) := by rw [e, hl]; omega
    have c6 : rd (rd_L1 W (i : Int)) (p.length : Int) = y := by rw [e]; exact rd_mid _ _ _
    simp only [trishawref08_Rent.l1, if_pos c1, if_pos c2, if_pos c3, if_pos c4, if_pos c5, c6]
    by_cases a1 : y < 0
    · simp only [if_pos a1]
      rw [bad (by rw [List.all_cons, Bool.and_eq_false_iff]; left; simp [inW]; omega)]
      exact Ev.pure _
    · by_cases a2 : y > 1000
      · simp only [if_neg a1, if_pos a2]
        rw [bad (by rw [List.all_cons, Bool.and_eq_false_iff]; left; simp [inW]; omega)]
        exact Ev.pure _
      · have hy : inW y = true := inW_iff.mpr (by omega)
        have w1 : wrap64 (acc + y) = acc + y := w64 (by omega) (by omega)
        have w2 : wrap64 ((p.length : Int) + 1) = ((p ++ [y]).length : Int) := by rw [w64s _ (by omega)]; simp
        simp only [if_neg a1, if_neg a2, w1, w2]
        refine rrow_ev W h5 i hi x4 R t (p ++ [y]) (acc + y) (by rw [e]; simp) (by rw [← hl]; simp) (by omega) (by simp; omega) (fun h => ?_) (fun h => bad (by rw [List.all_cons, h, Bool.and_false]))
        have := ok (by rw [List.all_cons, hy, h]; rfl)
        simp only [isum, ← Int.add_assoc] at this
        exact this
theorem rrent_l0 (W : List (List Int)) (h5 : W.length ≤ 5) (s : Int) (hs : s = isum (rd_L1 W 0)) : ∀ (c i : Nat) (x4 : Int), W.length - i = c → i ≤ W.length → (0 < i → x4 = s) → (i = 0 → W.length ≠ 0) →
    Ev (fun k => trishawref08_Rent.l0 k W x4 (i : Int)) (if rowsOk W s i = true then (s, true) else (0, false)) := by
  intro c
  induction c with
  | zero =>
    intro i x4 hc hi hx h0
    refine Ev.succ ?_
    have c1 : ¬ (i : Int) < (W.length : Int) := by omega
    simp only [trishawref08_Rent.l0, if_neg c1]
    rw [rowsOk_end (by omega), if_pos rfl, hx (by rcases Nat.eq_zero_or_pos i with h | h <;> first | exact absurd (by omega) (h0 h) | exact h)]
    exact Ev.pure _
  | succ c ih =>
    intro i x4 hc hi hx h0
    refine Ev.succ ?_
    have c1 : (i : Int) < (W.length : Int) := by omega
    have c2 : (0 : Int) ≤ (i : Int) := by omega
    simp only [trishawref08_Rent.l0, if_pos c1, if_pos c2]
    rw [rowsOk_succ (by omega)]
    by_cases hl : (rd_L1 W (i : Int)).length = W.length
    · have c3 : ((rd_L1 W (i : Int)).length : Int) = (W.length : Int) := by omega
      simp only [if_pos c3]
      refine rrow_ev W h5 i (by omega) x4 _ (rd_L1 W (i : Int)) [] 0 (by simp) (by simpa using hl) (Int.le_refl _) (by simp) (fun ha => ?_) (fun ha => by simp [rowOk, ha])
      have w1 : wrap64 ((i : Int) + 1) = ((i + 1 : Nat) : Int) := w64s i (by omega)
      simp only [Int.zero_add, w1]
      by_cases hi0 : i = 0
      · subst hi0
        have hne : ¬ ((0 : Nat) : Int) > 0 := by omega
        have hr : rowOk W.length s (rd_L1 W ((0 : Nat) : Int)) = true := by
          simp only [rowOk, hl, ha, decide_true, Bool.true_and, hs]; simp
        have e0 : isum (rd_L1 W ((0 : Nat) : Int)) = s := hs.symm
        simp only [if_neg hne, hr, Bool.true_and, e0]
        exact ih 1 s (by omega) (by omega) (fun _ => rfl) (fun h => absurd h (by decide))
      · have hpos : (i : Int) > 0 := by omega
        have hxs := hx (by omega)
        simp only [if_pos hpos]
        by_cases he : isum (rd_L1 W (i : Int)) = x4
        · have hr : rowOk W.length s (rd_L1 W (i : Int)) = true := by simp [rowOk, hl, ha, he, hxs]
          simp only [if_pos he, hr, Bool.true_and]
          exact ih (i + 1) _ (by omega) (by omega) (fun _ => by rw [he, hxs]) (fun h => absurd h (by omega))
        · have hr : rowOk W.length s (rd_L1 W (i : Int)) = false := by simp only [rowOk, hl, ha, decide_true, Bool.true_and, decide_eq_false_iff_not]; rw [← hxs]; exact he
          simp only [if_neg he, hr, Bool.false_and, Bool.false_eq_true, if_false]
          exact Ev.pure _
    · have c3 : ¬ ((rd_L1 W (i : Int)).length : Int) = (W.length : Int) := by omega
      have hr : rowOk W.length s (rd_L1 W (i : Int)) = false := by simp [rowOk, hl]
      simp only [if_neg c3, hr, Bool.false_and, Bool.false_eq_true, if_false]
      exact Ev.pure _
def rentB (W : List (List Int)) : Int × Bool := match rentR W with
  | some s => (s, true)
  | none => (0, false)
theorem rrent_ev (W : List (List Int)) : Ev (fun k => trishawref08_Rent.f k W) (rentB W) := by
  unfold trishawref08_Rent.f
  by_cases h1 : (W.length : Int) < 1
  · have hn : rentR W = none := by unfold rentR; rw [if_neg (by omega)]
    simp only [if_pos h1, rentB, hn]
    refine Ev.succ ?_
    simp only [trishawref08_Rent.j0, if_true]
    exact Ev.pure _
  · simp only [if_neg h1]
    refine Ev.succ ?_
    simp only [trishawref08_Rent.j0]
    by_cases h5 : (W.length : Int) > 5
    · have hn : rentR W = none := by unfold rentR; rw [if_neg (by omega)]
      simp only [h5, decide_true, if_true, rentB, hn]
      exact Ev.pure _
    · simp only [h5, decide_false, Bool.false_eq_true, if_false]
      have := rrent_l0 W (by omega) _ rfl W.length 0 0 (by omega) (by omega) (fun h => absurd h (by decide)) (fun _ => by omega)
      have e : (if rowsOk W (isum (rd_L1 W 0)) 0 = true then (isum (rd_L1 W 0), true) else (0, false)) = rentB W := by
        unfold rentB rentR
        by_cases hr : rowsOk W (isum (rd_L1 W 0)) 0 = true
        · rw [if_pos hr, if_pos ⟨by omega, by omega, hr⟩]
        · rw [if_neg hr, if_neg (fun h => hr h.2.2)]
      rw [e] at this
      exact this
theorem prow_ev (W : List (List Int)) (hW : W.length ≤ 5) (i : Nat) (x5 : Int) (r : List Int) (hr : r.length ≤ 20) (R : Int × Int) : ∀ (t p : List Int) (acc : Int), r = p ++ t → 0 ≤ acc → acc ≤ 1000 * (p.length : Int) →
    (t.all inW = true → Ev (fun k => if (r.length : Int) = (W.length : Int) then (if x5 ≥ 0 then (if acc + isum t = x5 then share_wished.l0 k (W.length : Int) (acc + isum t) W (W.length : Int) (wrap64 ((i : Int) + 1)) else some (0, 2)) else share_wished.l0 k (W.length : Int) (acc + isum t) W (W.length : Int) (wrap64 ((i : Int) + 1))) else some (0, 2)) R) →
    (t.all inW = false → R = (0, 2)) → Ev (fun k => share_wished.l1 k (W.length : Int) x5 r acc W (W.length : Int) (i : Int) r (r.length : Int) (p.length : Int)) R
  | [], p, acc, e, h0, h1, ok, bad => by
    refine Ev.succ ?_
    have c1 : ¬ (p.length : Int) < (r.length : Int) := by rw [e]; simp
    simp only [share_wished.l1, if_neg c1]
    have := ok rfl
    simp only [isum, Int.add_zero] at this
    exact this
  | y :: t, p, acc, e, h0, h1, ok, bad => by
    refine Ev.succ ?_
    have hl' : p.length < r.length := by rw [e]; simp
    have c1 : (p.length : Int) < (r.length : Int) := by omega
    have c4 : (0 : Int) ≤ (p.length : Int) := by omega
    have c6 : rd r (p.length : Int) = y := by rw [e]; exact rd_mid _ _ _
    simp only [share_wished.l1, if_pos c1, if_pos c4, c6]
    by_cases a1 : y < 0
    · simp only [if_pos a1]
      rw [bad (by rw [List.all_cons, Bool.and_eq_false_iff]; left; simp [inW]; omega)]
      exact Ev.pure _
    · by_cases a2 : y > 1000
      · simp only [if_neg a1, if_pos a2]
        rw [bad (by rw [List.all_cons, Bool.and_eq_false_iff]; left; simp [inW]; omega)]
        exact Ev.pure _
      · have hy : inW y = true := inW_iff.mpr (by omega)
        have w1 : wrap64 (acc + y) = acc + y := w64 (by omega) (by omega)
        have w2 : wrap64 ((p.length : Int) + 1) = ((p ++ [y]).length : Int) := by rw [w64s _ (by omega)]; simp
        simp only [if_neg a1, if_neg a2, w1, w2]
        refine prow_ev W hW i x5 r hr R t (p ++ [y]) (acc + y) (by rw [e]; simp) (by omega) (by simp; omega) (fun h => ?_) (fun h => bad (by rw [List.all_cons, h, Bool.and_false]))
        have := ok (by rw [List.all_cons, hy, h]; rfl)
        simp only [isum, ← Int.add_assoc] at this
        exact this
theorem wished_l0 (W : List (List Int)) (h5 : W.length ≤ 5) (hsm : ∀ j : Nat, (rd_L1 W (j : Int)).length ≤ 20) (s : Int) (hs : s = isum (rd_L1 W 0)) : ∀ (c i : Nat) (x5 : Int), W.length - i = c → i ≤ W.length → (0 < i → x5 = s ∧ 0 ≤ s) → (i = 0 → W.length ≠ 0 ∧ x5 = -1) →
    Ev (fun k => share_wished.l0 k (W.length : Int) x5 W (W.length : Int) (i : Int)) (if rowsOk W s i = true then (s, 0) else (0, 2)) := by
  intro c
  induction c with
  | zero =>
    intro i x4 hc hi hx h0
    refine Ev.succ ?_
    have c1 : ¬ (i : Int) < (W.length : Int) := by omega
    simp only [share_wished.l0, if_neg c1]
    rw [rowsOk_end (by omega), if_pos rfl, (hx (by rcases Nat.eq_zero_or_pos i with h | h <;> first | exact absurd (by omega) (h0 h).1 | exact h)).1]
    exact Ev.pure _
  | succ c ih =>
    intro i x4 hc hi hx h0
    refine Ev.succ ?_
    have c1 : (i : Int) < (W.length : Int) := by omega
    have c2 : (0 : Int) ≤ (i : Int) := by omega
    simp only [share_wished.l0, if_pos c1, if_pos c2]
    rw [rowsOk_succ (by omega)]
    refine prow_ev W h5 i x4 (rd_L1 W (i : Int)) (hsm i) _ (rd_L1 W (i : Int)) [] 0 (by simp) (Int.le_refl _) (by simp) (fun ha => ?_) (fun ha => by simp [rowOk, ha])
    have w1 : wrap64 ((i : Int) + 1) = ((i + 1 : Nat) : Int) := w64s i (by omega)
    simp only [Int.zero_add, w1]
    have hnn := (isum_inW _ ha).1
    by_cases hl : (rd_L1 W (i : Int)).length = W.length
    · have c3 : ((rd_L1 W (i : Int)).length : Int) = (W.length : Int) := by omega
      simp only [if_pos c3]
      by_cases hi0 : i = 0
      · subst hi0
        have hne : ¬ x4 ≥ 0 := by have := (h0 rfl).2; omega
        have hr : rowOk W.length s (rd_L1 W ((0 : Nat) : Int)) = true := by
          simp only [rowOk, hl, ha, decide_true, Bool.true_and, hs]; simp
        have e0 : isum (rd_L1 W ((0 : Nat) : Int)) = s := hs.symm
        simp only [if_neg hne, hr, Bool.true_and, e0]
        exact ih 1 s (by omega) (by omega) (fun _ => ⟨rfl, by rw [← e0]; exact hnn⟩) (fun h => absurd h (by decide))
      · obtain ⟨hxs, hs0⟩ := hx (by omega)
        have hpos : x4 ≥ 0 := by omega
        simp only [if_pos hpos]
        by_cases he : isum (rd_L1 W (i : Int)) = x4
        · have hr : rowOk W.length s (rd_L1 W (i : Int)) = true := by simp [rowOk, hl, ha, he, hxs]
          simp only [if_pos he, hr, Bool.true_and]
          exact ih (i + 1) _ (by omega) (by omega) (fun _ => ⟨by rw [he, hxs], hs0⟩) (fun h => absurd h (by omega))
        · have hr : rowOk W.length s (rd_L1 W (i : Int)) = false := by simp only [rowOk, hl, ha, decide_true, Bool.true_and, decide_eq_false_iff_not]; rw [← hxs]; exact he
          simp only [if_neg he, hr, Bool.false_and, Bool.false_eq_true, if_false]
          exact Ev.pure _
    · have c3 : ¬ ((rd_L1 W (i : Int)).length : Int) = (W.length : Int) := by omega
      have hr : rowOk W.length s (rd_L1 W (i : Int)) = false := by simp [rowOk, hl]
      simp only [if_neg c3, hr, Bool.false_and, Bool.false_eq_true, if_false]
      exact Ev.pure _
def rentP (W : List (List Int)) : Int × Int := match rentR W with
  | some s => (s, 0)
  | none => (0, 2)
def smallB (W : List (List Int)) : Bool := decide (W.length ≤ 20) && W.all fun r => decide (r.length ≤ 20)
theorem smallB_row {W : List (List Int)} (h : smallB W = true) (j : Nat) : (rd_L1 W (j : Int)).length ≤ 20 := by
  simp only [smallB, Bool.and_eq_true, List.all_eq_true, decide_eq_true_eq] at h
  by_cases hj : j < W.length
  · rw [rd_L1_get hj]; exact h.2 _ (List.getElem_mem hj)
  · have : rd_L1 W (j : Int) = [] := by simp [rd_L1, List.getElem?_eq_none (show W.length ≤ j by omega)]
    rw [this]; simp
theorem wished_ev (W : List (List Int)) (hsm : smallB W = true) : Ev (fun k => share_wished.f k W) (rentP W) := by
  unfold share_wished.f
  by_cases h1 : (W.length : Int) < 1
  · have hn : rentR W = none := by unfold rentR; rw [if_neg (by omega)]
    simp only [if_pos h1, rentP, hn]
    refine Ev.succ ?_
    simp only [share_wished.j0, if_true]
    exact Ev.pure _
  · simp only [if_neg h1]
    refine Ev.succ ?_
    simp only [share_wished.j0]
    by_cases h5 : (W.length : Int) > 5
    · have hn : rentR W = none := by unfold rentR; rw [if_neg (by omega)]
      simp only [h5, decide_true, if_true, rentP, hn]
      exact Ev.pure _
    · simp only [h5, decide_false, Bool.false_eq_true, if_false]
      have := wished_l0 W (by omega) (smallB_row hsm) _ rfl W.length 0 (-1) (by omega) (by omega) (fun h => absurd h (by decide)) (fun _ => ⟨by omega, rfl⟩)
      have e : (if rowsOk W (isum (rd_L1 W 0)) 0 = true then (isum (rd_L1 W 0), (0 : Int)) else (0, 2)) = rentP W := by
        unfold rentP rentR
        by_cases hr : rowsOk W (isum (rd_L1 W 0)) 0 = true
        · rw [if_pos hr, if_pos ⟨by omega, by omega, hr⟩]
        · rw [if_neg hr, if_neg (fun h => hr h.2.2)]
      rw [e] at this
      exact this
theorem small_ev (W : List (List Int)) : Ev (fun k => trishawlaw08_small.f k W) (smallB W) := by
  have go : ∀ (t p : List (List Int)), W = p ++ t → p.length ≤ 20 → p.all (fun r => decide (r.length ≤ 20)) = true → Ev (fun k => trishawlaw08_small.l0 k W (p.length : Int)) (smallB W) := by
    intro t
    induction t with
    | nil =>
      intro p e hp ha
      refine Ev.succ ?_
      have c1 : ¬ (p.length : Int) < (W.length : Int) := by rw [e]; simp
      simp only [trishawlaw08_small.l0, if_neg c1]
      have : smallB W = true := by rw [e, List.append_nil]; simp only [smallB, ha, Bool.and_true, decide_eq_true_eq]; exact hp
      rw [this]; exact Ev.pure _
    | cons y t ih =>
      intro p e hp ha
      refine Ev.succ ?_
      have hlt : p.length < W.length := by rw [e]; simp
      have c1 : (p.length : Int) < (W.length : Int) := by omega
      have c2 : (0 : Int) ≤ (p.length : Int) := by omega
      have hy : rd_L1 W (p.length : Int) = y := by rw [rd_L1_get hlt]; simp [e]
      simp only [trishawlaw08_small.l0, if_pos c1, if_pos c2, hy]
      by_cases h20 : (p.length : Int) ≥ 20
      · have : smallB W = false := by simp only [smallB, Bool.and_eq_false_iff, decide_eq_false_iff_not]; left; omega
        simp only [if_pos h20, this]; exact Ev.pure _
      · by_cases hr : (y.length : Int) > 20
        · have : smallB W = false := by
            simp only [smallB, Bool.and_eq_false_iff]; right
            rw [e, List.all_append, List.all_cons, Bool.and_eq_false_iff, Bool.and_eq_false_iff]
            right; left; simp only [decide_eq_false_iff_not]; omega
          simp only [if_neg h20, if_pos hr, this]; exact Ev.pure _
        · have w2 : wrap64 ((p.length : Int) + 1) = ((p ++ [y]).length : Int) := by rw [w64s _ (by omega)]; simp
          simp only [if_neg h20, if_neg hr, w2]
          exact ih (p ++ [y]) (by rw [e]; simp) (by simp; omega) (by rw [List.all_append, ha]; simp; omega)
  exact go W [] rfl (by simp) rfl
end Go.Proofs.Ytiafiebalibkdaa.OAll
