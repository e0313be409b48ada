/- A part of the proof of 'shareScores_holds', for every input, without a condition. -/
import Derived.Test.YtiafiebalibkdaaSScQa
import Derived.Test.YtiafiebalibkdaaSScOAllx4
import Derived.Test.YtiafiebalibkdaaSScOAllx10
namespace Go.Proofs.Ytiafiebalibkdaa.OAll
open Go.RowKit Go.Proofs.YtiafiebalibkdaaW.PrintWords Go.Proofs.YtiafiebalibkdaaW.PrintLast Go.Proofs.YtiafiebalibkdaaW.PrintMore
set_option linter.unusedVariables false
set_option linter.unusedSimpArgs false
def inR (x : Int) : Bool := decide (0 ≤ x) && decide (x ≤ 100)
def okP (l : List Int) : Bool := l.all inR && decide (l.sum = 100)
def pointedN (l : List Int) : Int := if 8 < l.length then 3 else if okP l then 0 else 2
theorem inR_iff {x : Int} : inR x = true ↔ 0 ≤ x ∧ x ≤ 100 := by simp [inR]
theorem sum_bound : ∀ (l : List Int), l.all inR = true → 0 ≤ l.sum ∧ l.sum ≤ 100 * l.length
  | [], _ => by simp
  | x :: t, h => by
    rw [List.all_cons, Bool.and_eq_true] at h
    have := sum_bound t h.2
    have := inR_iff.mp h.1
    simp only [List.sum_cons, List.length_cons]
    omega
theorem pointed_l0 (l : List Int) (hl : l.length ≤ 8) : ∀ (suf pre : List Int), l = pre ++ suf → pre.all inR = true → Ev (fun k => share_pointed.l0 k pre.sum l (l.length : Int) pre.length) (if suf.all inR = true ∧ pre.sum + suf.sum = 100 then 0 else 2)
  | [], pre, e, hp => by
    refine Ev.succ ?_
    have e3 : ¬ (pre.length : Int) < (l.length : Int) := by rw [e]; simp
    simp only [share_pointed.l0, e3, if_false, List.all_nil, List.sum_nil, Int.add_zero, true_and]
    by_cases h : pre.sum = 100 <;> simp only [h, if_true, if_false] <;> exact Ev.pure _
  | x :: t, pre, e, hp => by
    refine Ev.succ ?_
    have hlt : pre.length < l.length := by rw [e]; simp
    have e3 : (pre.length : Int) < (l.length : Int) := by omega
    have e2 : rd l (pre.length : Int) = x := by rw [e]; exact rd_mid _ _ _
    simp only [share_pointed.l0, e3, if_true, nonneg_len, e2]
    by_cases h0 : x < 0
    · have : ¬ ((x :: t).all inR = true ∧ pre.sum + (x :: t).sum = 100) := by
        rintro ⟨h, _⟩
        rw [List.all_cons, Bool.and_eq_true] at h
        have := inR_iff.mp h.1; omega
      simp only [h0, if_true, this, if_false]; exact Ev.pure _
    · by_cases h1 : x > 100
      · have : ¬ ((x :: t).all inR = true ∧ pre.sum + (x :: t).sum = 100) := by
          rintro ⟨h, _⟩
          rw [List.all_cons, Bool.and_eq_true] at h
          have := inR_iff.mp h.1; omega
        simp only [h0, h1, if_true, this, if_false]; exact Ev.pure _
      · have hx : inR x = true := inR_iff.mpr ⟨by omega, by omega⟩
        have hp' : (pre ++ [x]).all inR = true := by rw [List.all_append, hp]; simp [hx]
        have hb := sum_bound pre hp
        have e4 : wrap64 (pre.sum + x) = (pre ++ [x]).sum := by
          rw [w64 (by omega) (by omega)]; simp
        have e1 : wrap64 ((pre.length : Int) + 1) = (((pre ++ [x]).length : Nat) : Int) := by rw [w64s _ (by omega)]; simp
        have ih := pointed_l0 l hl t (pre ++ [x]) (by rw [e]; simp) hp'
        have e5 : ((x :: t).all inR = true ∧ pre.sum + (x :: t).sum = 100) ↔ (t.all inR = true ∧ (pre ++ [x]).sum + t.sum = 100) := by
          simp only [List.all_cons, hx, Bool.true_and, List.sum_cons, List.sum_append, List.sum_nil]
          constructor <;> rintro ⟨h, h'⟩ <;> exact ⟨h, by omega⟩
        simp only [h0, h1, if_false, e4, e1, e5]
        exact ih
theorem pointed_ev (l : List Int) : Ev (fun k => share_pointed.f k l) (pointedN l) := by
  unfold share_pointed.f pointedN
  by_cases h : 8 < l.length
  · have h' : (l.length : Int) > 8 := by omega
    simp only [h, h', if_true]; exact Ev.pure _
  · have h' : ¬ (l.length : Int) > 8 := by omega
    simp only [h, h', if_false]
    have := pointed_l0 l (by omega) l [] rfl rfl
    simp only [List.sum_nil, Int.zero_add] at this
    have e : (if okP l = true then (0 : Int) else 2) = if l.all inR = true ∧ l.sum = 100 then 0 else 2 := by
      simp [okP]
    rw [e]
    exact this
theorem isPoints_l0 (l : List Int) (hl : l.length ≤ 8) : ∀ (suf pre : List Int), l = pre ++ suf → pre.all inR = true → Ev (fun k => trishawref08_IsPoints.l0 k l pre.sum pre.length) (decide (suf.all inR = true ∧ pre.sum + suf.sum = 100))
  | [], pre, e, hp => by
    refine Ev.succ ?_
    have e3 : ¬ (pre.length : Int) < (l.length : Int) := by rw [e]; simp
    have el : l = pre := by rw [e]; simp
    simp only [trishawref08_IsPoints.l0, e3, if_false, List.all_nil, List.sum_nil, Int.add_zero, true_and]
    by_cases h1 : (l.length : Int) ≥ 1
    · simp only [h1, if_true]
      have : decide (pre.sum = 100) = (pre.sum == 100) := by rw [Bool.eq_iff_iff]; simp
      rw [this]
      exact Ev.pure _
    · have hn : pre = [] := List.eq_nil_of_length_eq_zero (by rw [← el]; omega)
      subst hn
      simp only [h1, if_false]
      exact Ev.pure _
  | x :: t, pre, e, hp => by
    refine Ev.succ ?_
    have hlt : pre.length < l.length := by rw [e]; simp
    have e3 : (pre.length : Int) < (l.length : Int) := by omega
    have e2 : rd l (pre.length : Int) = x := by rw [e]; exact rd_mid _ _ _
    simp only [trishawref08_IsPoints.l0, e3, if_true, nonneg_len, e2]
    by_cases h0 : x < 0
    · have : ¬ ((x :: t).all inR = true ∧ pre.sum + (x :: t).sum = 100) := by
        rintro ⟨h, _⟩
        rw [List.all_cons, Bool.and_eq_true] at h
        have := inR_iff.mp h.1; omega
      simp only [h0, if_true, this, decide_false]; exact Ev.pure _
    · by_cases h1 : x > 100
      · have : ¬ ((x :: t).all inR = true ∧ pre.sum + (x :: t).sum = 100) := by
          rintro ⟨h, _⟩
          rw [List.all_cons, Bool.and_eq_true] at h
          have := inR_iff.mp h.1; omega
        simp only [h0, h1, if_true, if_false, this, decide_false]; exact Ev.pure _
      · have hx : inR x = true := inR_iff.mpr ⟨by omega, by omega⟩
        have hp' : (pre ++ [x]).all inR = true := by rw [List.all_append, hp]; simp [hx]
        have hb := sum_bound pre hp
        have e4 : wrap64 (pre.sum + x) = (pre ++ [x]).sum := by
          rw [w64 (by omega) (by omega)]; simp
        have e1 : wrap64 ((pre.length : Int) + 1) = (((pre ++ [x]).length : Nat) : Int) := by rw [w64s _ (by omega)]; simp
        have ih := isPoints_l0 l hl t (pre ++ [x]) (by rw [e]; simp) hp'
        have e5 : ((x :: t).all inR = true ∧ pre.sum + (x :: t).sum = 100) ↔ (t.all inR = true ∧ (pre ++ [x]).sum + t.sum = 100) := by
          simp only [List.all_cons, hx, Bool.true_and, List.sum_cons, List.sum_append, List.sum_nil]
          constructor <;> rintro ⟨h, h'⟩ <;> exact ⟨h, by omega⟩
        simp only [h0, h1, if_false, e4, e1, e5]
        exact ih
theorem isPoints_ev (l : List Int) (hl : l.length ≤ 8) : Ev (fun k => trishawref08_IsPoints.f k l) (okP l) := by
  unfold trishawref08_IsPoints.f
  have := isPoints_l0 l hl l [] rfl rfl
  simp only [List.sum_nil, Int.zero_add] at this
  have e : okP l = decide (l.all inR = true ∧ l.sum = 100) := by rw [Bool.eq_iff_iff]; simp [okP]
  rw [e]
  exact this
def codeP (a b : List Int) : Int := if pointedN a = 0 then (if pointedN b = 0 then (if a.length = b.length then 0 else 2) else pointedN b) else pointedN a
theorem codeP_ok {a b : List Int} (h : codeP a b = 0) : a.length ≤ 8 ∧ okP a = true ∧ okP b = true ∧ a.length = b.length := by
  unfold codeP at h
  split at h
  · rename_i ha
    split at h
    · rename_i hb
      split at h
      · rename_i hl
        unfold pointedN at ha hb
        split at ha
        · cases ha
        · split at ha
          · split at hb
            · cases hb
            · split at hb
              · exact ⟨by omega, by assumption, by assumption, hl⟩
              · cases hb
          · cases ha
      · cases h
    · rename_i hb; exact absurd h hb
  · rename_i ha; exact absurd h ha
theorem points_ev (a b : List Int) : Ev (fun k => trishawref08_Points.f k a b) (codeP a b) := by
  unfold trishawref08_Points.f codeP pointedN
  by_cases h : 8 < a.length
  · have h' : (a.length : Int) > 8 := by omega
    simp only [h, h', if_true]; exact Ev.pure _
  · have h' : ¬ (a.length : Int) > 8 := by omega
    simp only [h, h', if_false]
    refine Ev.bind (isPoints_ev a (by omega)) ?_
    cases okP a
    · simp only [Bool.false_eq_true, if_false]; exact Ev.pure _
    · simp only [if_true]
      by_cases g : 8 < b.length
      · have g' : (b.length : Int) > 8 := by omega
        simp only [g, g', if_true]; exact Ev.pure _
      · have g' : ¬ (b.length : Int) > 8 := by omega
        simp only [g, g', if_false]
        refine Ev.bind (isPoints_ev b (by omega)) ?_
        cases okP b
        · simp only [Bool.false_eq_true, if_false]; exact Ev.pure _
        · simp only [if_true]
          by_cases e : a.length = b.length
          · have e' : (a.length : Int) = (b.length : Int) := by omega
            simp only [e, e', if_true]; exact Ev.pure _
          · have e' : ¬ (a.length : Int) = (b.length : Int) := by omega
            simp only [e, e', if_false]; exact Ev.pure _
def zipS : List Int → List Int → List S76
  | x :: a, y :: b => ⟨x, y⟩ :: zipS a b
  | _, _ => []
theorem zipS_len : ∀ (a b : List Int), a.length = b.length → (zipS a b).length = a.length
  | [], [], _ => rfl
  | x :: a, y :: b, h => by rw [zipS, List.length_cons, List.length_cons, zipS_len a b (by simpa using h)]
  | [], y :: b, h => by simp at h
  | x :: a, [], h => by simp at h
theorem read_l1 (a b : List Int) (hl : a.length ≤ 8) : ∀ (s t p q : List Int) (acc : List S76), a = p ++ s → b = q ++ t → p.length = q.length → s.length = t.length → acc.length = p.length →
    Ev (fun k => share_read.l1 k a b acc (a.length : Int) p.length) (acc ++ zipS s t, 0)
  | [], [], p, q, acc, ea, eb, hpq, hst, hac => by
    refine Ev.succ ?_
    have e3 : ¬ (p.length : Int) < (a.length : Int) := by rw [ea]; simp
    simp only [share_read.l1, e3, if_false, zipS, List.append_nil]
    exact Ev.pure _
  | x :: s, y :: t, p, q, acc, ea, eb, hpq, hst, hac => by
    refine Ev.succ ?_
    have hlt : p.length < a.length := by rw [ea]; simp
    have e3 : (p.length : Int) < (a.length : Int) := by omega
    have e4 : (p.length : Int) < (b.length : Int) := by
      have h1 : a.length = p.length + (s.length + 1) := by rw [ea]; simp
      have h2 : b.length = q.length + (t.length + 1) := by rw [eb]; simp
      simp at hst; omega
    have e2 : rd a (p.length : Int) = x := by rw [ea]; exact rd_mid _ _ _
    have e5 : rd b (p.length : Int) = y := by rw [eb, hpq]; exact rd_mid _ _ _
    have e6 : acc.length < 8796093022208 := by omega
    have e1 : wrap64 ((p.length : Int) + 1) = (((p ++ [x]).length : Nat) : Int) := by rw [w64s _ (by omega)]; simp
    simp only [share_read.l1, e3, e4, e2, e5, e6, e1, if_true, nonneg_len]
    have := read_l1 a b hl s t (p ++ [x]) (q ++ [y]) (acc ++ [⟨x, y⟩]) (by rw [ea]; simp) (by rw [eb]; simp) (by simp [hpq]) (by simpa using hst) (by simp [hac])
    rw [List.append_assoc] at this
    exact this
  | [], y :: t, p, q, acc, ea, eb, hpq, hst, hac => by simp at hst
  | x :: s, [], p, q, acc, ea, eb, hpq, hst, hac => by simp at hst
def readN (a b : List Int) : List S76 × Int := if codeP a b = 0 then (zipS a b, 0) else ([], codeP a b)
theorem read_ev (a b : List Int) : Ev (fun k => share_read.f k a b) (readN a b) := by
  unfold share_read.f
  simp only [Option.bind_some]
  have l2 : (([a, b] : List (List Int)).length : Int) = 2 := rfl
  refine Ev.succ ?_
  have r0 : rd_L1 [a, b] 0 = a := rfl
  have r1 : rd_L1 [a, b] 1 = b := rfl
  have w1 : wrap64 (0 + 1) = 1 := by unfold wrap64; omega
  have w2 : wrap64 (1 + 1) = 2 := by unfold wrap64; omega
  have c0 : (0 : Int) < 2 := by decide
  have c1 : (1 : Int) < 2 := by decide
  have c2 : ¬ (2 : Int) < 2 := by decide
  have c3 : (0 : Int) ≤ 1 := by decide
  simp only [share_read.l0, l2, r0, w1, c0, Int.le_refl, if_true]
  refine Ev.bind (pointed_ev a) ?_
  unfold readN codeP
  by_cases ha : pointedN a = 0
  · simp only [ha, if_true]
    refine Ev.succ ?_
    simp only [share_read.l0, l2, r1, w2, c1, c3, if_true]
    refine Ev.bind (pointed_ev b) ?_
    by_cases hb : pointedN b = 0
    · simp only [hb, if_true]
      refine Ev.succ ?_
      simp only [share_read.l0, c2, if_false]
      by_cases e : a.length = b.length
      · have e' : (a.length : Int) = (b.length : Int) := by omega
        have hc : codeP a b = 0 := by rw [codeP, if_pos ha, if_pos hb, if_pos e]
        have := read_l1 a b (codeP_ok hc).1 a b [] [] [] rfl rfl rfl e rfl
        simp only [e', if_true]
        simp only [e, if_true]
        rw [List.nil_append, e'] at this
        exact this
      · have e' : ¬ (a.length : Int) = (b.length : Int) := by omega
        have c20 : ¬ (2 : Int) = 0 := by decide
        simp only [e, e', if_false, c20]; exact Ev.pure _
    · simp only [hb, if_false]; exact Ev.pure _
  · simp only [ha, if_false]; exact Ev.pure _
end Go.Proofs.Ytiafiebalibkdaa.OAll
