/- A part of the proof of 'topReach_holds', for every input, without a condition. -/
import Derived.Test.YtknecgmmpjggiaaDoorTReQd
import Derived.Test.YtknecgmmpjggiaaDoorTReOAllx6
import Derived.Test.YtknecgmmpjggiaaDoorTReOAllx8
namespace Go.Proofs.YtknecgmmpjggiaaDoor.OAll
open Go.RowKit Go.Proofs.YtknecgmmpjggiaaDoorW.PrintWords Go.Proofs.YtknecgmmpjggiaaDoorW.PrintLast Go.Proofs.YtknecgmmpjggiaaDoorW.PrintMore
set_option linter.unusedVariables false
set_option linter.unusedSimpArgs false
def readO (a : Int) (st : List S30) : Int := if a < 1 ∨ a > 7 then 2 else if st.length > 14 then 3 else if st.any (badS a) then 2 else 0
theorem oread_l0 {a : Int} {st : List S30} (h14 : ¬ st.length > 14) : ∀ (suf pre : List S30), st = pre ++ suf → ¬ pre.any (badS a) = true →
    Ev (fun k => oneway_read.l0 k a st st st.length pre.length) (if st.any (badS a) then (0, [], 2) else (a, st, 0)) := by
  intro suf
  induction suf with
  | nil =>
    intro pre e hp
    have e3 : ¬ (pre.length : Int) < (st.length : Int) := by rw [e]; simp
    have hq : ¬ st.any (badS a) = true := by rw [e, List.append_nil]; exact hp
    refine Ev.succ ?_
    rw [if_neg hq]
    simp only [oneway_read.l0, e3, if_false]
    exact Ev.pure _
  | cons s t ih =>
    intro pre e hp
    have hn : pre.length < 14 := by rw [e] at h14; simp at h14; omega
    have e7 : (pre ++ [s]).length = pre.length + 1 := by simp
    have e1 : wrap64 ((pre.length : Int) + 1) = (((pre ++ [s]).length : Nat) : Int) := by
      rw [w64s _ (by omega), e7]
    have e2 : rd_T30 st (pre.length : Int) = s := by rw [e]; exact rd30_mid _ _ _
    have e3 : (pre.length : Int) < (st.length : Int) := by rw [e]; exact mid_lt _ _ _
    refine Ev.succ ?_
    simp only [oneway_read.l0, e1, e2, e3, if_true, nonneg_len, mn_eq, mx_eq]
    cases hb : badS a s
    · have hb' := mt (badS_iff a s).mpr (by rw [hb]; decide)
      simp only [not_or] at hb'
      simp only [hb', or_self, if_false]
      refine ih (pre ++ [s]) (by rw [e]; simp) ?_
      rw [List.any_append, List.any_cons, hb]
      simpa using hp
    · have hb' := (badS_iff a s).mp hb
      have : st.any (badS a) = true := by rw [e, List.any_append, List.any_cons, hb]; simp
      rw [if_pos this]
      by_cases c1 : s.f0 < 0 ∨ s.f1 < 0
      · simp only [c1, if_true]; exact Ev.pure _
      · by_cases c2 : s.f0 ≥ a ∨ s.f1 ≥ a
        · simp only [c1, c2, if_true, if_false]; exact Ev.pure _
        · have c3 : s.f0 = s.f1 := by omega
          simp only [c1, c2, if_false]; exact Ev.congr (fun k => if_pos c3) (Ev.pure _)
theorem oread_ev (a : Int) (st : List S30) : Ev (fun k => oneway_read.f k a st) (if readO a st = 0 then (a, st, 0) else (0, [], readO a st)) := by
  unfold oneway_read.f readO
  by_cases h0 : a < 1 ∨ a > 7
  · have e : (fun k => if a < 1 then oneway_read.j0 k a st true else oneway_read.j0 k a st (decide (a > 7))) = fun k => oneway_read.j0 k a st true := by
      funext k
      by_cases h : a < 1
      · rw [if_pos h]
      · rw [if_neg h, decide_eq_true (by omega)]
    rw [e]
    refine Ev.succ ?_
    simp only [oneway_read.j0, h0, if_true, Int.reduceEq, if_false]
    exact Ev.pure _
  · have e : (fun k => if a < 1 then oneway_read.j0 k a st true else oneway_read.j0 k a st (decide (a > 7))) = fun k => oneway_read.j0 k a st false := by
      funext k
      rw [if_neg (by omega), decide_eq_false (by omega)]
    rw [e]
    refine Ev.succ ?_
    by_cases h1 : st.length > 14
    · have h1' : (st.length : Int) > 14 := by omega
      simp only [oneway_read.j0, Bool.false_eq_true, h0, h1, h1', if_true, Int.reduceEq, if_false]
      exact Ev.pure _
    · have h1' : ¬ (st.length : Int) > 14 := by omega
      simp only [oneway_read.j0, Bool.false_eq_true, h0, h1, h1', if_true, if_false]
      have := oread_l0 (a := a) h1 st [] rfl (by simp)
      revert this
      by_cases h2 : st.any (badS a) = true
      · simp only [h2, if_true, Int.reduceEq, if_false]; exact id
      · simp only [h2, if_true, if_false]; exact id
theorem read_sane {a : Int} {st : List S30} (h : readO a st = 0) : Sane a.toNat st ∧ 1 ≤ a.toNat ∧ ((a.toNat : Nat) : Int) = a := by
  unfold readO at h
  split at h
  · cases h
  · rename_i h0
    split at h
    · cases h
    · rename_i h1
      split at h
      · cases h
      · rename_i h2
        refine ⟨⟨by omega, by omega, fun s hm => ?_⟩, by omega, by omega⟩
        have hb : badS a s = false := by
          cases hb : badS a s
          · rfl
          · exact absurd (List.any_eq_true.2 ⟨s, hm, hb⟩) h2
        have := mt (badS_iff a s).mpr (by rw [hb]; decide)
        simp only [not_or] at this
        refine ⟨by omega, by omega, by omega, by omega, this.2.2.2.2⟩
theorem along_l0 {l : List S30} (h14 : l.length ≤ 14) (s : ByteArray) (hsz : s.size = l.length) : ∀ (suf pre acc : List S30), l = pre ++ suf → acc.length = pre.length →
    Ev (fun k => trishawtop_along.l0 k l s acc pre.length) (acc ++ signFrom s pre.length suf) := by
  intro suf
  induction suf with
  | nil =>
    intro pre acc e ha
    have e3 : ¬ (pre.length : Int) < (l.length : Int) := by rw [e]; simp
    refine Ev.succ (Ev.succ ?_)
    simp only [trishawtop_along.l0, trishawtop_along.j1, e3, if_false, signFrom, List.append_nil, Bool.false_eq_true]
    exact Ev.pure _
  | cons x t ih =>
    intro pre acc e ha
    have hn : pre.length < 14 := by rw [e] at h14; simp at h14; omega
    have e7 : (pre ++ [x]).length = pre.length + 1 := by simp
    have e1 : wrap64 ((pre.length : Int) + 1) = (((pre ++ [x]).length : Nat) : Int) := by
      rw [w64s _ (by omega), e7]
    have e2 : rd_T30 l (pre.length : Int) = x := by rw [e]; exact rd30_mid _ _ _
    have e3 : (pre.length : Int) < (l.length : Int) := by rw [e]; exact mid_lt _ _ _
    have e4 : (pre.length : Int) < (s.size : Int) := by rw [hsz]; exact e3
    refine Ev.succ (Ev.succ ?_)
    by_cases hb : bt s (pre.length : Int) = 60
    · simp only [trishawtop_along.l0, trishawtop_along.j1, e1, e2, e3, e4, nonneg_len, if_true, decide_true, if_pos hb]
      refine Ev.congr (fun k => if_pos (by omega)) ?_
      have := ih (pre ++ [x]) (acc ++ [⟨x.f1, x.f0⟩]) (by rw [e]; simp) (by simp [ha])
      rw [signFrom, if_pos hb, ← e7, show acc ++ (⟨x.f1, x.f0⟩ : S30) :: signFrom s (pre ++ [x]).length t = (acc ++ [⟨x.f1, x.f0⟩]) ++ signFrom s (pre ++ [x]).length t by simp]
      exact this
    · simp only [trishawtop_along.l0, trishawtop_along.j1, e1, e2, e3, e4, nonneg_len, if_true, decide_true, if_neg hb]
      refine Ev.congr (fun k => if_pos (by omega)) ?_
      have := ih (pre ++ [x]) (acc ++ [x]) (by rw [e]; simp) (by simp [ha])
      rw [signFrom, if_neg hb, ← e7, show acc ++ x :: signFrom s (pre ++ [x]).length t = (acc ++ [x]) ++ signFrom s (pre ++ [x]).length t by simp]
      exact this
theorem along_ev {l : List S30} (h14 : l.length ≤ 14) (s : ByteArray) (hsz : s.size = l.length) : Ev (fun k => trishawtop_along.f k l s) (signFrom s 0 l) := along_l0 h14 s hsz l [] [] rfl rfl
end Go.Proofs.YtknecgmmpjggiaaDoor.OAll
