/- A part of the proof of 'shareScores_holds', for every input, without a condition. -/
import Derived.Test.YtiafiebalibkdaaSScQm
import Derived.Test.YtiafiebalibkdaaSScOAllx31
import Derived.Test.YtiafiebalibkdaaSScOAllx32
namespace Go.Proofs.Ytiafiebalibkdaa.OAll
open Go.RowKit Go.Proofs.YtiafiebalibkdaaW.PrintWords Go.Proofs.YtiafiebalibkdaaW.PrintLast Go.Proofs.YtiafiebalibkdaaW.PrintMore
set_option linter.unusedVariables false
set_option linter.unusedSimpArgs false
def okOne (N : List Int) (D : Int) (x : S78) : Bool := !(decide (0 < rd N x.f1) && decide (kindP x = 2)) && !(decide (rd N x.f1 < D) && decide (kindP x = 0))
def okPair (N : List Int) (D : Int) (x y : S78) : Bool := !(decide (0 < rd N x.f1) && decide (rd N y.f1 < D) && decide (x.f0.f0 * y.f0.f1 < y.f0.f0 * x.f0.f1))
def effB (L : List S78) (N : List Int) (D : Int) : Bool := L.all fun x => okOne N D x && L.all (okPair N D x)
theorem ordIn_get : ∀ (Z : List S76) (i j : Nat), (ordIn i Z)[j]? = (Z[j]?).map fun z => (⟨z, ((i + j : Nat) : Int)⟩ : S78)
  | [], i, j => by simp [ordIn]
  | z :: Z, i, 0 => by simp [ordIn]
  | z :: Z, i, j + 1 => by
    rw [ordIn, List.getElem?_cons_succ, List.getElem?_cons_succ, ordIn_get Z (i + 1) j, show i + 1 + j = i + (j + 1) by omega]
theorem ordIn_at {Z : List S76} {pre t : List S78} {y : S78} (h : ordIn 0 Z = pre ++ y :: t) : y.f1 = (pre.length : Int) ∧ rd_T76 Z (pre.length : Int) = y.f0 ∧ pre.length < Z.length := by
  have hlt : pre.length < Z.length := by
    have := congrArg List.length h
    rw [ordIn_len, List.length_append, List.length_cons] at this; omega
  have h1 := ordIn_get Z 0 pre.length
  rw [h] at h1
  rw [List.getElem?_append_right (Nat.le_refl _), Nat.sub_self, List.getElem?_cons_zero, List.getElem?_eq_getElem hlt, Option.map_some, Option.some.injEq] at h1
  rw [h1]
  refine ⟨by show ((0 + pre.length : Nat) : Int) = _; omega, ?_, hlt⟩
  simp [rd_T76, hlt]
theorem pkind_ev (x : S78) : Ev (fun k => share_point_kind.f k x.f0.f0 x.f0.f1) (kindP x) := Ev.mono (fun k => share_point_kind.mono _ _ k) (kindP_f x)
theorem ahead_eq {x y : S78} (hx : Vl x) (hy : Vl y) : share_point_ahead.f y.f0.f0 y.f0.f1 x.f0.f0 x.f0.f1 = some (decide (x.f0.f0 * y.f0.f1 < y.f0.f0 * x.f0.f1)) := by
  have h1 := mul_le_104 hx.1 hx.2.1 hy.2.2.1 hy.2.2.2
  have h2 := mul_le_104 hy.1 hy.2.1 hx.2.2.1 hx.2.2.2
  rw [share_point_ahead.f, w64 (by omega) (by omega), w64 (by omega) (by omega)]
theorem eff_l1 {a b : List Int} {Z : List S76} {N : List Int} {D : Int} {x : S78} (hZ : Z.length ≤ 8) (hN : N.length = Z.length) (hx : At a b x) (hxl : x.f1 < (Z.length : Int)) (hat : ∀ y ∈ ordIn 0 Z, At a b y) {r : Bool × Int}
    (hr : Ev (fun k => share_Efficient.l0 k Z Z (Z.length : Int) (wrap64 (x.f1 + 1)) N D) r) : ∀ (suf pre : List S78), ordIn 0 Z = pre ++ suf →
    Ev (fun k => share_Efficient.l1 k Z x.f1 Z (Z.length : Int) x.f1 Z (Z.length : Int) pre.length N D x.f0.f0 x.f0.f1) (if suf.all (okPair N D x) = true then r else (false, 0))
  | [], pre, e => by
    refine Ev.succ ?_
    have hl : pre.length = Z.length := by rw [List.append_nil] at e; rw [← e, ordIn_len]
    have e3 : ¬ (pre.length : Int) < (Z.length : Int) := by omega
    simp only [share_Efficient.l1, e3, if_false, List.all_nil, if_true]
    exact hr
  | y :: t, pre, e => by
    refine Ev.succ ?_
    obtain ⟨y1, y2, y3⟩ := ordIn_at e
    have hy := hat y (by rw [e]; simp)
    have e3 : (pre.length : Int) < (Z.length : Int) := by omega
    have e4 : x.f1 < (N.length : Int) := by rw [hN]; exact hxl
    have e5 : (pre.length : Int) < (N.length : Int) := by omega
    have e1 : wrap64 ((pre.length : Int) + 1) = (((pre ++ [y]).length : Nat) : Int) := by rw [w64s _ (by omega)]; simp
    have ih := eff_l1 hZ hN hx hxl hat hr t (pre ++ [y]) (by rw [e]; simp)
    simp only [share_Efficient.l1, e3, e4, e5, hx.n0, nonneg_len, if_true, y2, e1, ahead_eq hx.vl hy.vl, Option.bind_some]
    rw [← y1]
    rw [List.all_cons]
    by_cases c1 : rd N x.f1 > 0
    · by_cases c2 : rd N y.f1 < D
      · by_cases c3 : x.f0.f0 * y.f0.f1 < y.f0.f0 * x.f0.f1
        · have : okPair N D x y = false := by simp [okPair, c2, c3]; omega
          simp only [c1, c2, c3, decide_true, if_true, this, Bool.false_and, Bool.false_eq_true, if_false]
          exact Ev.pure _
        · have : okPair N D x y = true := by simp [okPair, c2, c3]
          simp only [c1, c2, c3, decide_false, Bool.false_eq_true, if_true, if_false, this, Bool.true_and]
          exact ih
      · have : okPair N D x y = true := by simp [okPair, c2]
        simp only [c1, c2, if_true, if_false, this, Bool.true_and]
        exact ih
    · have : okPair N D x y = true := by simp [okPair]; intros; omega
      simp only [c1, if_false, this, Bool.true_and]
      exact ih
theorem eff_l0 {a b : List Int} {Z : List S76} {N : List Int} {D : Int} (hZ : Z.length ≤ 8) (hN : N.length = Z.length) (hat : ∀ y ∈ ordIn 0 Z, At a b y) : ∀ (suf pre : List S78), ordIn 0 Z = pre ++ suf →
    Ev (fun k => share_Efficient.l0 k Z Z (Z.length : Int) pre.length N D) (suf.all (fun x => okOne N D x && (ordIn 0 Z).all (okPair N D x)), 0)
  | [], pre, e => by
    refine Ev.succ ?_
    have hl : pre.length = Z.length := by rw [List.append_nil] at e; rw [← e, ordIn_len]
    have e3 : ¬ (pre.length : Int) < (Z.length : Int) := by omega
    simp only [share_Efficient.l0, e3, if_false, List.all_nil]
    exact Ev.pure _
  | x :: t, pre, e => by
    obtain ⟨y1, y2, y3⟩ := ordIn_at e
    have hx := hat x (by rw [e]; simp)
    have e3 : (pre.length : Int) < (Z.length : Int) := by omega
    have e5 : (pre.length : Int) < (N.length : Int) := by omega
    have e1 : wrap64 ((pre.length : Int) + 1) = (((pre ++ [x]).length : Nat) : Int) := by rw [w64s _ (by omega)]; simp
    have ih := eff_l0 (D := D) hZ hN hat t (pre ++ [x]) (by rw [e]; simp)
    rw [← e1, ← y1] at ih
    have J : ∀ bb : Bool, bb = !okOne N D x → Ev (fun k => share_Efficient.j1 k Z x.f1 Z (Z.length : Int) x.f1 bb N D x.f0.f0 x.f0.f1) ((x :: t).all (fun x => okOne N D x && (ordIn 0 Z).all (okPair N D x)), 0) := fun bb hb => by
      refine Ev.succ ?_
      rw [hb, List.all_cons]
      cases ho : okOne N D x
      · simp only [share_Efficient.j1, Bool.not_false, if_true, Bool.false_and]
        exact Ev.pure _
      · simp only [share_Efficient.j1, Bool.not_true, Bool.false_eq_true, if_false, Bool.true_and]
        have := eff_l1 hZ hN hx (by omega) hat ih (ordIn 0 Z) [] rfl
        cases hp : (ordIn 0 Z).all (okPair N D x)
        · rw [hp] at this
          simpa using this
        · rw [hp] at this
          simpa using this
    refine Ev.succ ?_
    simp only [share_Efficient.l0, e3, e5, nonneg_len, if_true, y2]
    rw [← y1]
    by_cases c1 : rd N x.f1 > 0
    · simp only [c1, if_true]
      refine Ev.bind (pkind_ev x) ?_
      by_cases c2 : kindP x = 2
      · simp only [c2, if_true]
        exact J true (by simp [okOne, c2]; omega)
      · simp only [c2, if_false]
        by_cases c3 : rd N x.f1 < D
        · simp only [c3, if_true]
          refine Ev.bind (pkind_ev x) ?_
          exact J _ (by simp [okOne, c2, c3]; rfl)
        · simp only [c3, if_false]
          exact J false (by simp [okOne, c2, c3])
    · simp only [c1, if_false]
      by_cases c3 : rd N x.f1 < D
      · simp only [c3, if_true]
        refine Ev.bind (pkind_ev x) ?_
        exact J _ (by simp [okOne, c1, c3]; rfl)
      · simp only [c3, if_false]
        exact J false (by simp [okOne, c1, c3])
def effR (a b l : List Int) (D : Int) : Bool × Int := if codeS a b l D = 0 then (effB (ordIn 0 (zipS a b)) l D, 0) else (false, codeS a b l D)
theorem at_all {a b : List Int} (hc : codeP a b = 0) : ∀ y ∈ ordIn 0 (zipS a b), At a b y := fun y hy =>
  (at_ordIn a b [] [] y (codeP_ok hc).2.2.2 rfl (all_zip hc).1 (all_zip hc).2 hy).1
theorem Efficient_ev (a b l : List Int) (D : Int) : Ev (fun k => share_Efficient.f k a b l D) (effR a b l D) := by
  unfold share_Efficient.f effR
  refine Ev.bind (divided_ev a b l D) ?_
  by_cases hs : codeS a b l D = 0
  · have ⟨hc, hp⟩ := codeS_ok hs
    have h8 := codeP_ok hc
    have hq := partsOk_of hp
    have hl := zipS_len a b h8.2.2.2
    simp only [hs, hc, if_true]
    exact eff_l0 (by omega) (by omega) (at_all hc) _ [] rfl
  · simp only [hs, if_false]; exact Ev.pure _
theorem reff_l1 {a b : List Int} {N : List Int} {D : Int} {x : S78} (hl : a.length ≤ 8) (hab : a.length = b.length) (hN : N.length = a.length) (hx : At a b x) (hat : ∀ y ∈ ordIn 0 (zipS a b), At a b y) {r : Bool × Int}
    (hr : Ev (fun k => trishawref08_Efficient.l0 k a b (wrap64 (x.f1 + 1)) N D) r) : ∀ (suf pre : List S78), ordIn 0 (zipS a b) = pre ++ suf →
    Ev (fun k => trishawref08_Efficient.l1 k a b x.f1 pre.length N D) (if suf.all (fun y => okPair N D y x) = true then r else (false, 0))
  | [], pre, e => by
    refine Ev.succ ?_
    have hz := zipS_len a b hab
    have hl : pre.length = a.length := by rw [List.append_nil] at e; rw [← e, ordIn_len, hz]
    have e3 : ¬ (pre.length : Int) < (a.length : Int) := by omega
    simp only [trishawref08_Efficient.l1, e3, if_false, List.all_nil, if_true]
    exact hr
  | y :: t, pre, e => by
    refine Ev.succ ?_
    have hz := zipS_len a b hab
    obtain ⟨y1, y2, y3⟩ := ordIn_at e
    have hy := hat y (by rw [e]; simp)
    have e3 : (pre.length : Int) < (a.length : Int) := by omega
    have e3b : (pre.length : Int) < (b.length : Int) := by omega
    have e4 : x.f1 < (N.length : Int) := by rw [hN]; exact hx.na
    have e5 : (pre.length : Int) < (N.length : Int) := by omega
    have e1 : wrap64 ((pre.length : Int) + 1) = (((pre ++ [y]).length : Nat) : Int) := by rw [w64s _ (by omega)]; simp
    have ih := reff_l1 hl hab hN hx hat hr t (pre ++ [y]) (by rw [e]; simp)
    have h1 := mul_le_104 hx.vl.1 hx.vl.2.1 hy.vl.2.2.1 hy.vl.2.2.2
    have h2 := mul_le_104 hy.vl.1 hy.vl.2.1 hx.vl.2.2.1 hx.vl.2.2.2
    have ra : rd a (pre.length : Int) = y.f0.f0 := by rw [← y1]; exact hy.ra
    have rb : rd b (pre.length : Int) = y.f0.f1 := by rw [← y1]; exact hy.rb
    have w1 : wrap64 (x.f0.f0 * y.f0.f1) = x.f0.f0 * y.f0.f1 := w64 (by omega) (by omega)
    have w2 : wrap64 (y.f0.f0 * x.f0.f1) = y.f0.f0 * x.f0.f1 := w64 (by omega) (by omega)
    simp only [trishawref08_Efficient.l1, e3, e3b, e4, e5, hx.n0, hx.na, hx.nb, hx.ra, hx.rb, ra, rb, w1, w2, nonneg_len, if_true, e1]
    rw [← y1, List.all_cons]
    by_cases c1 : rd N x.f1 < D
    · by_cases c2 : rd N y.f1 > 0
      · by_cases c3 : x.f0.f0 * y.f0.f1 > y.f0.f0 * x.f0.f1
        · have : okPair N D y x = false := by simp [okPair, c1]; omega
          simp only [c1, c2, c3, if_true, this, Bool.false_and, Bool.false_eq_true, if_false]
          exact Ev.pure _
        · have : okPair N D y x = true := by simp [okPair, c1]; omega
          simp only [c1, c2, c3, if_true, if_false, this, Bool.true_and]
          exact ih
      · have : okPair N D y x = true := by simp [okPair]; intros; omega
        simp only [c1, c2, if_true, if_false, this, Bool.true_and]
        exact ih
    · have : okPair N D y x = true := by simp [okPair, c1]
      simp only [c1, if_false, this, Bool.true_and]
      exact ih
theorem reff_l0 {a b : List Int} {N : List Int} {D : Int} (hl : a.length ≤ 8) (hab : a.length = b.length) (hN : N.length = a.length) (hat : ∀ y ∈ ordIn 0 (zipS a b), At a b y) : ∀ (suf pre : List S78), ordIn 0 (zipS a b) = pre ++ suf →
    Ev (fun k => trishawref08_Efficient.l0 k a b pre.length N D) (suf.all (fun x => okOne N D x && (ordIn 0 (zipS a b)).all (fun y => okPair N D y x)), 0)
  | [], pre, e => by
    refine Ev.succ ?_
    have hz := zipS_len a b hab
    have hl : pre.length = a.length := by rw [List.append_nil] at e; rw [← e, ordIn_len, hz]
    have e3 : ¬ (pre.length : Int) < (a.length : Int) := by omega
    simp only [trishawref08_Efficient.l0, e3, if_false, List.all_nil]
    exact Ev.pure _
  | x :: t, pre, e => by
    have hz := zipS_len a b hab
    obtain ⟨y1, y2, y3⟩ := ordIn_at e
    have hx := hat x (by rw [e]; simp)
    have e3 : (pre.length : Int) < (a.length : Int) := by omega
    have e3b : (pre.length : Int) < (b.length : Int) := by omega
    have e5 : (pre.length : Int) < (N.length : Int) := by omega
    have e1 : wrap64 ((pre.length : Int) + 1) = (((pre ++ [x]).length : Nat) : Int) := by rw [w64s _ (by omega)]; simp
    have ih := reff_l0 (D := D) hl hab hN hat t (pre ++ [x]) (by rw [e]; simp)
    rw [← e1, ← y1] at ih
    have ra : rd a (pre.length : Int) = x.f0.f0 := by rw [← y1]; exact hx.ra
    have rb : rd b (pre.length : Int) = x.f0.f1 := by rw [← y1]; exact hx.rb
    have J : ∀ bb : Bool, bb = !okOne N D x → Ev (fun k => trishawref08_Efficient.j3 k a b x.f1 bb N D) ((x :: t).all (fun x => okOne N D x && (ordIn 0 (zipS a b)).all (fun y => okPair N D y x)), 0) := fun bb hb => by
      refine Ev.succ ?_
      rw [hb, List.all_cons]
      cases ho : okOne N D x
      · simp only [trishawref08_Efficient.j3, Bool.not_false, if_true, Bool.false_and]
        exact Ev.pure _
      · simp only [trishawref08_Efficient.j3, Bool.not_true, Bool.false_eq_true, if_false, Bool.true_and]
        have := reff_l1 hl hab hN hx hat ih (ordIn 0 (zipS a b)) [] rfl
        cases hp : (ordIn 0 (zipS a b)).all (fun y => okPair N D y x)
        · rw [hp] at this
          simpa using this
        · rw [hp] at this
          simpa using this
    refine Ev.succ ?_
    simp only [trishawref08_Efficient.l0, e3, e3b, e5, nonneg_len, if_true, ra, rb]
    rw [← y1]
    refine Ev.bind (kind_ev x) ?_
    by_cases c0 : kindP x = 0
    · simp only [c0, if_true]
      by_cases c1 : rd N x.f1 < D
      · simp only [c1, if_true]
        exact J true (by simp [okOne, c0, c1])
      · simp only [c1, if_false]
        refine Ev.bind (kind_ev x) ?_
        have c2 : ¬ kindP x = 2 := by omega
        simp only [c2, if_false]
        exact J false (by simp [okOne, c0, c1])
    · simp only [c0, if_false]
      refine Ev.bind (kind_ev x) ?_
      by_cases c2 : kindP x = 2
      · simp only [c2, if_true]
        exact J _ (by simp [okOne, c2])
      · simp only [c2, if_false]
        exact J false (by simp [okOne, c0, c2])
theorem effB_eq (L : List S78) (N : List Int) (D : Int) : (L.all fun x => okOne N D x && L.all (fun y => okPair N D y x)) = effB L N D := by
  rw [effB, Bool.eq_iff_iff]
  simp only [List.all_eq_true, Bool.and_eq_true]
  exact ⟨fun h x hx => ⟨(h x hx).1, fun y hy => (h y hy).2 x hx⟩, fun h x hx => ⟨(h x hx).1, fun y hy => (h y hy).2 x hx⟩⟩
theorem rEfficient_ev (a b l : List Int) (D : Int) : Ev (fun k => trishawref08_Efficient.f k a b l D) (effR a b l D) := by
  unfold trishawref08_Efficient.f
  refine Ev.bind (points_ev a b) ?_
  have j1 : ∀ c : Int, c = codeS a b l D → Ev (fun k => trishawref08_Efficient.j1 k a b c l D) (effR a b l D) := fun c hcc => by
    refine Ev.succ ?_
    unfold effR
    simp only [trishawref08_Efficient.j1]
    by_cases hs : codeS a b l D = 0
    · have ⟨hc, hp⟩ := codeS_ok hs
      have h8 := codeP_ok hc
      have hq := partsOk_of hp
      have hcz : c = 0 := by rw [hcc, hs]
      simp only [hs, hcz, if_true]
      have := reff_l0 (N := l) (D := D) h8.1 h8.2.2.2 (by omega) (at_all hc) _ [] rfl
      rw [effB_eq] at this
      exact this
    · have hcz : ¬ c = 0 := by rw [hcc]; exact hs
      simp only [hs, hcz, if_false]
      rw [hcc]; exact Ev.pure _
  by_cases hc : codeP a b = 0
  · have h8 := codeP_ok hc
    simp only [hc, if_true]
    refine Ev.bind (isParts_ev l D a.length (by omega)) ?_
    refine Ev.succ ?_
    cases hp : partsOk l D a.length
    · simp only [trishawref08_Efficient.j0, Bool.not_false, if_true]
      exact j1 2 (by rw [codeS, if_pos hc, hp]; rfl)
    · simp only [trishawref08_Efficient.j0, Bool.not_true, Bool.false_eq_true, if_false]
      exact j1 0 (by rw [codeS, if_pos hc, hp]; rfl)
  · simp only [hc, if_false]
    refine Ev.succ ?_
    simp only [trishawref08_Efficient.j0, Bool.false_eq_true, if_false]
    exact j1 _ (by rw [codeS, if_neg hc])
end Go.Proofs.Ytiafiebalibkdaa.OAll
