/- A part of the proof of 'fetchLucchesi_holds', for every input, without a condition. -/
import Derived.Test.YtjbfbdanbpfplaaSLQd
import Derived.Test.YtjbfbdanbpfplaaSLOAllx7
import Derived.Test.YtjbfbdanbpfplaaSLOAllx9
namespace Go.Proofs.Ytjbfbdanbpfplaa.OAll
open Go.RowKit Go.Proofs.YtjbfbdanbpfplaaW.PrintWords Go.Proofs.YtjbfbdanbpfplaaW.PrintLast Go.Proofs.YtjbfbdanbpfplaaW.PrintMore
set_option linter.unusedVariables false
set_option linter.unusedSimpArgs false
theorem alive_ev : Ev (fun k => trishawlaw09_alive.f k) true :=
  Ev.mono (fun k => trishawlaw09_alive.mono k) (k := 200) (by kernel_rfl)
theorem alive_ev' : Ev (fun k => (trishawlaw09_alive.f k).bind fun t => some t) true := Ev.bind alive_ev (Ev.pure _)
theorem ints_len (l : List Nat) : (ints l).length = l.length := by simp [ints]
theorem cutsN_len (n : Nat) (st : List S34) : (cutsN n st).length ≤ 2 ^ n - 1 := by
  have := List.length_filter_le (isCutB n st) (List.range (2 ^ n - 1))
  rw [List.length_range] at this
  exact this
theorem cutsN_small {n : Nat} {st : List S34} (hs : Sane n st) : (cutsN n st).length ≤ 127 := by
  have h7 : (2 : Nat) ^ n ≤ 2 ^ 7 := Nat.pow_le_pow_right (by decide) hs.1
  have := cutsN_len n st
  omega
def longN (st : List S34) (c : List Nat) : Nat → Nat → Nat → List Nat → List Nat → List Nat
  | 0, _, _, _, best => best
  | d + 1, i, used, now, best =>
    if h : i < c.length then
      if cross st c[i] &&& used = 0 then
        let y := longN st c d (i + 1) (used ||| cross st c[i]) (now ++ [c[i]]) (now ++ [c[i]])
        longN st c d (i + 1) used now (if y.length > best.length then y else best)
      else longN st c d (i + 1) used now best
    else best
theorem rd_ints (c : List Nat) (i : Nat) (h : i < c.length) : rd (ints c) (i : Int) = ((c[i] : Nat) : Int) := by
  simp [rd, ints, h]
theorem ints_app (l : List Nat) (x : Nat) : ints l ++ [(x : Int)] = ints (l ++ [x]) := by simp [ints]
theorem longN_ge (st : List S34) (c : List Nat) : ∀ (d i used : Nat) (now best : List Nat), best.length ≤ (longN st c d i used now best).length := by
  intro d
  induction d with
  | zero => intro i used now best; exact Nat.le_refl _
  | succ d ih =>
    intro i used now best
    rw [longN]
    split
    · split
      · refine Nat.le_trans ?_ (ih _ _ _ _)
        split <;> omega
      · exact ih _ _ _ _
    · exact Nat.le_refl _
theorem longN_merge (st : List S34) (c : List Nat) : ∀ (d i used : Nat) (now b0 best : List Nat), b0.length ≤ best.length →
    longN st c d i used now best = if (longN st c d i used now b0).length > best.length then longN st c d i used now b0 else best := by
  intro d
  induction d with
  | zero => intro i used now b0 best h; rw [longN, longN, if_neg (by omega)]
  | succ d ih =>
    intro i used now b0 best h
    by_cases hi : i < c.length
    · by_cases hx : cross st c[i] &&& used = 0
      · have e : ∀ b, longN st c (d + 1) i used now b = longN st c d (i + 1) used now (if (longN st c d (i + 1) (used ||| cross st c[i]) (now ++ [c[i]]) (now ++ [c[i]])).length > b.length then longN st c d (i + 1) (used ||| cross st c[i]) (now ++ [c[i]]) (now ++ [c[i]]) else b) := fun b => by
          rw [longN, dif_pos hi, if_pos hx]
        rw [e, e]
        generalize longN st c d (i + 1) (used ||| cross st c[i]) (now ++ [c[i]]) (now ++ [c[i]]) = y
        by_cases h1 : y.length > best.length
        · have h2 : y.length > b0.length := by omega
          rw [if_pos h1, if_pos h2]
          have := longN_ge st c d (i + 1) used now y
          rw [if_pos (by omega)]
        · rw [if_neg h1]
          exact ih _ _ _ _ _ (by split <;> omega)
      · have e : ∀ b, longN st c (d + 1) i used now b = longN st c d (i + 1) used now b := fun b => by
          rw [longN, dif_pos hi, if_neg hx]
        rw [e, e]; exact ih _ _ _ _ _ h
    · have e : ∀ b, longN st c (d + 1) i used now b = b := fun b => by
        rw [longN, dif_neg hi]
      rw [e, e, if_neg (by omega)]
theorem cross_or_lt {n : Nat} {st : List S34} (hs : Sane n st) {used : Nat} (hu : used < 2 ^ 14) (X : Nat) : used ||| cross st X < 2 ^ 14 := Nat.or_lt_two_pow hu (cross_lt hs X)
theorem flongest_ev {n : Nat} {st : List S34} (hs : Sane n st) (a : Int) (c : List Nat) (hc : c.length ≤ 127) (hcl : ∀ x ∈ c, x < 2 ^ 63) : ∀ (d i used : Nat) (now best : List Nat), d + i = c.length → now.length ≤ i → used < 2 ^ 14 →
    Ev (fun k => fetch_Apart.l0 k a st (ints c) used (ints now) (ints best) i) (ints (longN st c d i used now best)) := by
  intro d
  induction d with
  | zero =>
    intro i used now best hd hn hu
    have e3 : ¬ (i : Int) < ((ints c).length : Int) := by rw [ints_len]; omega
    refine Ev.succ ?_
    simp only [fetch_Apart.l0, e3, if_false]
    exact Ev.pure _
  | succ d ih =>
    intro i used now best hd hn hu
    have hi : i < c.length := by omega
    have e3 : (i : Int) < ((ints c).length : Int) := by rw [ints_len]; omega
    have e4 : (ints now).length < 17592186044415 := by rw [ints_len]; omega
    have hc1 : cross st c[i] < 2 ^ 14 := cross_lt hs c[i]
    have hc3 : cross st c[i] < 2 ^ 63 := by omega
    have hu3 : used < 2 ^ 63 := by omega
    have hiw : i < 9223372036854775807 := by omega
    refine Ev.succ ?_
    simp only [fetch_Apart.l0, w64s i hiw, e3, e4, if_true, Int.natCast_nonneg, rd_ints c i hi]
    refine Ev.bind (crossing_ev hs a c[i] (hcl _ (List.getElem_mem hi))) ?_
    simp only [and_nat _ _ hc3 hu3, or_nat _ _ hu3 hc3, Int.natCast_eq_zero]
    rw [longN, dif_pos hi]
    by_cases hx : cross st c[i] &&& used = 0
    · simp only [hx, if_true]
      refine Ev.bind (a := ints (if (longN st c d (i + 1) (used ||| cross st c[i]) (now ++ [c[i]]) (now ++ [c[i]])).length > best.length then (longN st c d (i + 1) (used ||| cross st c[i]) (now ++ [c[i]]) (now ++ [c[i]])) else best)) ?_ ?_
      · refine Ev.succ ?_
        simp only [fetch_Apart.on, ints_app, ints_len]
        by_cases hb : (now ++ [c[i]]).length > best.length
        · have hb' : ((now ++ [c[i]]).length : Int) > (best.length : Int) := by omega
          have hg := longN_ge st c d (i + 1) (used ||| cross st c[i]) (now ++ [c[i]]) (now ++ [c[i]])
          rw [if_pos (by omega)]
          have hcl : slices_Clone_int_int.f (ints (now ++ [c[i]])) = some (ints (now ++ [c[i]])) := by
            rw [slices_Clone_int_int.f, if_pos]
            simp only [List.length_nil, ints_len, List.length_append, List.length_cons]; omega
          simp only [hb', if_true, hcl, Option.bind_some]
          exact ih (i + 1) _ _ _ (by omega) (by simp; omega) (cross_or_lt hs hu _)
        · have hb' : ¬ ((now ++ [c[i]]).length : Int) > (best.length : Int) := by omega
          rw [← longN_merge st c d (i + 1) (used ||| cross st c[i]) (now ++ [c[i]]) (now ++ [c[i]]) best (by omega)]
          simp only [hb', if_false]
          exact ih (i + 1) _ _ _ (by omega) (by simp; omega) (cross_or_lt hs hu _)
      · exact ih (i + 1) _ _ _ (by omega) (by omega) hu
    · simp only [hx, if_false]
      exact ih (i + 1) _ _ _ (by omega) (by omega) hu
def apartN (n : Nat) (st : List S34) : List Nat := longN st (cutsN n st) (cutsN n st).length 0 0 [] []
theorem cutsN_mem {n : Nat} {st : List S34} {X : Nat} : X ∈ cutsN n st ↔ isCutB n st X = true := by
  rw [cutsN, List.mem_filter, List.mem_range]
  exact ⟨fun h => h.2, fun h => ⟨(isCut_pos h).2.1, h⟩⟩
theorem cutsN_lt {n : Nat} {st : List S34} (hs : Sane n st) : ∀ x ∈ cutsN n st, x < 2 ^ 63 := fun x hx => by
  have := (isCut_pos (cutsN_mem.mp hx)).2.1
  have h7 : (2 : Nat) ^ n ≤ 2 ^ 7 := Nat.pow_le_pow_right (by decide) hs.1
  omega
theorem fetch_Apart_ev (a : Int) (st : List S34) : Ev (fun k => fetch_Apart.f k a st) (if codeN a st = 0 then (ints (apartN a.toNat st), 0) else ([], codeN a st)) := by
  unfold fetch_Apart.f
  refine Ev.bind (read_ev a st) ?_
  by_cases h : codeN a st = 0
  · simp only [h, if_true]
    obtain ⟨hs, _, ha, _⟩ := code_sane h
    have hc := cuts_ev hs
    rw [ha] at hc
    refine Ev.bind hc (Ev.bind ?_ (Ev.pure _))
    refine Ev.succ ?_
    have := flongest_ev hs a (cutsN a.toNat st) (cutsN_small hs) (cutsN_lt hs) (cutsN a.toNat st).length 0 0 [] [] (by omega) (by simp) (by decide)
    simp only [fetch_Apart.on, List.length_nil, gt_iff_lt, Int.lt_irrefl, if_false]
    exact this
  · simp only [h, if_false]
    exact Ev.pure _
theorem few_eq (l : List S34) (l' : List Int) : trishawlaw09_few.f l l' = some (if (l.length : Int) ≤ 40 then decide ((l'.length : Int) ≤ 60) else false) := by
  unfold trishawlaw09_few.f; split <;> rfl
end Go.Proofs.Ytjbfbdanbpfplaa.OAll
