/- A part of the proof of 'topBridge_holds', for every input, without a condition. -/
import Derived.Test.YtknecgmmpjggiaaDoorTBrQd
import Derived.Test.YtknecgmmpjggiaaDoorTBrOAllx6
import Derived.Test.YtknecgmmpjggiaaDoorTBrOAllx8
namespace Go.Proofs.YtknecgmmpjggiaaDoor.OAll
open Go.RowKit Go.Proofs.YtknecgmmpjggiaaDoorW.PrintWords Go.Proofs.YtknecgmmpjggiaaDoorW.PrintLast Go.Proofs.YtknecgmmpjggiaaDoorW.PrintMore
set_option linter.unusedVariables false
set_option linter.unusedSimpArgs false
def readO (a : Int) (st : List S30) : Int := if a < 1 ∨ a > 7 then 2 else if st.length > 14 then 3 else if st.any (badS a) then 2 else 0
theorem oread_l0 {a : Int} {st : List S30} (h14 : ¬ st.length > 14) : ∀ (suf pre : List S30), st = pre ++ suf → ¬ pre.any (badS a) = true →
    Ev (fun k => oneway_read.l0 k a st st st.length pre.length) (if st.any (badS a) then (0, [], 2) else (a, st, 0)) := by
  intro suf
  induction suf with
  | nil =>
    intro pre e hp
    have e3 : ¬ (pre.length : Int) < (st.length : Int) := by rw [e]; simp
    have hq : ¬ st.any (badS a) = true := by rw [e, List.append_nil]; exact hp
    refine Ev.succ ?_
    rw [if_neg hq]
    simp only [oneway_read.l0, e3, if_false]
    exact Ev.pure _
  | cons s t ih =>
    intro pre e hp
    have hn : pre.length < 14 := by rw [e] at h14; simp at h14; omega
    have e7 : (pre ++ [s]).length = pre.length + 1 := by simp
    have e1 : wrap64 ((pre.length : Int) + 1) = (((pre ++ [s]).length : Nat) : Int) := by
      rw [w64s _ (by omega), e7]
    have e2 : rd_T30 st (pre.length : Int) = s := by rw [e]; exact rd30_mid _ _ _
    have e3 : (pre.length : Int) < (st.length : Int) := by rw [e]; exact mid_lt _ _ _
    refine Ev.succ ?_
    simp only [oneway_read.l0, e1, e2, e3, if_true, nonneg_len, mn_eq, mx_eq]
    cases hb : badS a s
    · have hb' := mt (badS_iff a s).mpr (by rw [hb]; decide)
      simp only [not_or] at hb'
      simp only [hb', or_self, if_false]
      refine ih (pre ++ [s]) (by rw [e]; simp) ?_
      rw [List.any_append, List.any_cons, hb]
      simpa using hp
    · have hb' := (badS_iff a s).mp hb
      have : st.any (badS a) = true := by rw [e, List.any_append, List.any_cons, hb]; simp
      rw [if_pos this]
      by_cases c1 : s.f0 < 0 ∨ s.f1 < 0
      · simp only [c1, if_true]; exact Ev.pure _
      · by_cases c2 : s.f0 ≥ a ∨ s.f1 ≥ a
        · simp only [c1, c2, if_true, if_false]; exact Ev.pure _
        · have c3 : s.f0 = s.f1 := by omega
          simp only [c1, c2, if_false]; exact Ev.congr (fun k => if_pos c3) (Ev.pure _)
theorem oread_ev (a : Int) (st : List S30) : Ev (fun k => oneway_read.f k a st) (if readO a st = 0 then (a, st, 0) else (0, [], readO a st)) := by
  unfold oneway_read.f readO
  by_cases h0 : a < 1 ∨ a > 7
  · have e : (fun k => if a < 1 then oneway_read.j0 k a st true else oneway_read.j0 k a st (decide (a > 7))) = fun k => oneway_read.j0 k a st true := by
      funext k
      by_cases h : a < 1
      · rw [if_pos h]
      · rw [if_neg h, decide_eq_true (by omega)]
    rw [e]
    refine Ev.succ ?_
    simp only [oneway_read.j0, h0, if_true, Int.reduceEq, if_false]
    exact Ev.pure _
  · have e : (fun k => if a < 1 then oneway_read.j0 k a st true else oneway_read.j0 k a st (decide (a > 7))) = fun k => oneway_read.j0 k a st false := by
      funext k
      rw [if_neg (by omega), decide_eq_false (by omega)]
    rw [e]
    refine Ev.succ ?_
    by_cases h1 : st.length > 14
    · have h1' : (st.length : Int) > 14 := by omega
      simp only [oneway_read.j0, Bool.false_eq_true, h0, h1, h1', if_true, Int.reduceEq, if_false]
      exact Ev.pure _
    · have h1' : ¬ (st.length : Int) > 14 := by omega
      simp only [oneway_read.j0, Bool.false_eq_true, h0, h1, h1', if_true, if_false]
      have := oread_l0 (a := a) h1 st [] rfl (by simp)
      revert this
      by_cases h2 : st.any (badS a) = true
      · simp only [h2, if_true, Int.reduceEq, if_false]; exact id
      · simp only [h2, if_true, if_false]; exact id
theorem read_sane {a : Int} {st : List S30} (h : readO a st = 0) : Sane a.toNat st ∧ 1 ≤ a.toNat ∧ ((a.toNat : Nat) : Int) = a := by
  unfold readO at h
  split at h
  · cases h
  · rename_i h0
    split at h
    · cases h
    · rename_i h1
      split at h
      · cases h
      · rename_i h2
        refine ⟨⟨by omega, by omega, fun s hm => ?_⟩, by omega, by omega⟩
        have hb : badS a s = false := by
          cases hb : badS a s
          · rfl
          · exact absurd (List.any_eq_true.2 ⟨s, hm, hb⟩) h2
        have := mt (badS_iff a s).mpr (by rw [hb]; decide)
        simp only [not_or] at this
        refine ⟨by omega, by omega, by omega, by omega, this.2.2.2.2⟩
def bothFrom (i : Nat) : Nat → List S30 → List S30
  | _, [] => []
  | j, s :: t => (if j = i then [] else [s, turnS s]) ++ bothFrom i (j + 1) t
theorem bothFrom_len (i : Nat) : ∀ (l : List S30) (j : Nat), (bothFrom i j l).length ≤ 2 * l.length
  | [], _ => Nat.zero_le _
  | s :: t, j => by
    have := bothFrom_len i t (j + 1)
    simp only [bothFrom, List.length_append, List.length_cons]
    split <;> simp <;> omega
theorem bothFrom_mem (i : Nat) (r : S30) : ∀ (l : List S30) (j : Nat), r ∈ bothFrom i j l ↔ ∃ m s, l[m]? = some s ∧ j + m ≠ i ∧ (r = s ∨ r = turnS s)
  | [], j => by simp [bothFrom]
  | s :: t, j => by
    rw [bothFrom, List.mem_append, bothFrom_mem i r t (j + 1)]
    constructor
    · rintro (h | ⟨m, q, h1, h2, h3⟩)
      · split at h
        · cases h
        · rename_i hj
          refine ⟨0, s, rfl, by omega, by simpa using h⟩
      · exact ⟨m + 1, q, by simpa using h1, by omega, h3⟩
    · rintro ⟨m, q, h1, h2, h3⟩
      cases m with
      | zero =>
        have : s = q := by simpa using h1
        subst this
        left
        rw [if_neg (by omega)]
        simpa using h3
      | succ m => exact .inr ⟨m, q, by simpa using h1, by omega, h3⟩
theorem both_l0 {st : List S30} (h14 : st.length ≤ 14) (i : Nat) : ∀ (suf pre acc : List S30), st = pre ++ suf → acc.length ≤ 2 * pre.length →
    Ev (fun k => oneway_quarter_both.l0 k (i : Int) acc st st.length pre.length) (acc ++ bothFrom i pre.length suf) := by
  intro suf
  induction suf with
  | nil =>
    intro pre acc e ha
    have e3 : ¬ (pre.length : Int) < (st.length : Int) := by rw [e]; simp
    refine Ev.succ ?_
    simp only [oneway_quarter_both.l0, e3, if_false, bothFrom, List.append_nil]
    exact Ev.pure _
  | cons s t ih =>
    intro pre acc e ha
    have hn : pre.length < 14 := by rw [e] at h14; simp at h14; omega
    have e7 : (pre ++ [s]).length = pre.length + 1 := by simp
    have e1 : wrap64 ((pre.length : Int) + 1) = (((pre ++ [s]).length : Nat) : Int) := by
      rw [w64s _ (by omega), e7]
    have e2 : rd_T30 st (pre.length : Int) = s := by rw [e]; exact rd30_mid _ _ _
    have e3 : (pre.length : Int) < (st.length : Int) := by rw [e]; exact mid_lt _ _ _
    refine Ev.succ ?_
    by_cases hi : pre.length = i
    · have hi' : (pre.length : Int) = (i : Int) := by omega
      have := ih (pre ++ [s]) acc (by rw [e]; simp) (by rw [e7]; omega)
      simp only [oneway_quarter_both.l0, e1, e2, e3, nonneg_len, if_true, if_pos hi']
      rw [bothFrom, if_pos hi, List.nil_append, ← e7]
      exact this
    · have hi' : ¬ (pre.length : Int) = (i : Int) := by omega
      have := ih (pre ++ [s]) (acc ++ [s, turnS s]) (by rw [e]; simp) (by rw [e7]; simp; omega)
      simp only [oneway_quarter_both.l0, e1, e2, e3, nonneg_len, if_true, if_neg hi', Option.bind_some, List.length_cons, List.length_nil]
      rw [bothFrom, if_neg hi, ← List.append_assoc, ← e7]
      refine Ev.congr (fun k => if_pos (by omega)) ?_
      exact this
theorem both_ev {st : List S30} (h14 : st.length ≤ 14) (a : Int) (i : Nat) : Ev (fun k => oneway_quarter_both.f k a st (i : Int)) (bothFrom i 0 st) := by
  have := both_l0 h14 i st [] [] rfl (by simp)
  exact this
theorem both_arcs {n : Nat} {st : List S30} (hs : Sane n st) (i : Nat) : Arcs n (bothFrom i 0 st) :=
  ⟨hs.1, by have := bothFrom_len i st 0; have := hs.2.1; omega, fun r hr => by
    obtain ⟨m, s, h1, _, h3⟩ := (bothFrom_mem i r st 0).1 hr
    have hm : s ∈ st := List.mem_of_getElem? h1
    rcases h3 with rfl | rfl
    · exact hs.2.2 _ hm
    · exact ends_turn (hs.2.2 s hm)⟩
def bridB (n : Nat) (st : List S30) (i : Nat) : Bool := decide (rd (farN n (bothFrom i 0 st) (st.getD i z30).f0.toNat) (st.getD i z30).f1 < 0)
def bridFrom (n : Nat) (st : List S30) (i d : Nat) : List Nat := (List.range' i d).filter (bridB n st)
def bridN (n : Nat) (st : List S30) : List Nat := bridFrom n st 0 st.length
theorem bridges_l0 {n : Nat} {st : List S30} (hs : Sane n st) : ∀ (d i : Nat) (acc : List Int), i + d = st.length → acc.length ≤ i →
    Ev (fun k => oneway_Bridges.l0 k n acc st st.length i n st) (acc ++ ints (bridFrom n st i d), 0) := by
  intro d
  induction d with
  | zero =>
    intro i acc e ha
    have e3 : ¬ (i : Int) < (st.length : Int) := by omega
    refine Ev.succ ?_
    simp only [oneway_Bridges.l0, e3, if_false, bridFrom, List.range'_zero, List.filter_nil, ints, List.map_nil, List.append_nil]
    exact Ev.pure _
  | succ d ih =>
    intro i acc e ha
    have h14 := hs.2.1
    have hi : i < st.length := by omega
    have e3 : (i : Int) < (st.length : Int) := by omega
    have e1 : wrap64 ((i : Int) + 1) = ((i + 1 : Nat) : Int) := w64s _ (by omega)
    obtain ⟨s, hsd⟩ : ∃ s, s = st.getD i z30 := ⟨_, rfl⟩
    have e2 : rd_T30 st (i : Int) = s := by rw [hsd]; rfl
    have hm : s ∈ st := by rw [hsd, List.getD_eq_getElem?_getD, List.getElem?_eq_getElem hi]; exact List.getElem_mem hi
    have he := hs.2.2 s hm
    have ha' := both_arcs hs i
    have hl := farN_len n (bothFrom i 0 st) s.f0.toNat
    have e5 : s.f0 = ((s.f0.toNat : Nat) : Int) := by rw [Int.toNat_of_nonneg he.1]
    have e4 : (((farN n (bothFrom i 0 st) s.f0.toNat).length : Nat) : Int) = (n : Int) := by rw [hl]
    have hstep : bridFrom n st i (d + 1) = if bridB n st i then i :: bridFrom n st (i + 1) d else bridFrom n st (i + 1) d := by
      unfold bridFrom; rw [List.range'_succ, List.filter_cons]
    have hfar := far_ev ha' (c := s.f0.toNat) (by have := he.1; have := he.2.1; omega)
    rw [← e5] at hfar
    refine Ev.succ ?_
    simp only [oneway_Bridges.l0, e1, e2, e3, if_true, Int.natCast_nonneg]
    refine Ev.bind (both_ev h14 n i) (Ev.bind hfar ?_)
    simp only [he.2.2.1, if_true, e4, he.2.2.2.1]
    have hb : bridB n st i = decide (rd (farN n (bothFrom i 0 st) s.f0.toNat) s.f1 < 0) := by unfold bridB; rw [← hsd]
    by_cases hneg : rd (farN n (bothFrom i 0 st) s.f0.toNat) s.f1 < 0
    · simp only [if_pos hneg]
      rw [hstep, hb, decide_eq_true hneg]
      simp only [if_true]
      refine Ev.congr (fun k => if_pos (by omega)) ?_
      have := ih (i + 1) (acc ++ [(i : Int)]) (by omega) (by simp; omega)
      rw [ints_cons, show acc ++ (i : Int) :: ints (bridFrom n st (i + 1) d) = (acc ++ [(i : Int)]) ++ ints (bridFrom n st (i + 1) d) by simp]
      exact this
    · simp only [if_neg hneg]
      rw [hstep, hb, decide_eq_false hneg]
      simp only [Bool.false_eq_true, if_false]
      exact ih (i + 1) acc (by omega) (by omega)
theorem bridges_ev (a : Int) (st : List S30) : Ev (fun k => oneway_Bridges.f k a st) (if readO a st = 0 then (ints (bridN a.toNat st), 0) else ([], readO a st)) := by
  unfold oneway_Bridges.f
  refine Ev.bind (oread_ev a st) ?_
  by_cases h : readO a st = 0
  · obtain ⟨hs, h1, ha⟩ := read_sane h
    simp only [if_pos h, if_true]
    have := bridges_l0 hs st.length 0 [] (by omega) (by simp)
    rw [ha] at this
    exact this
  · simp only [if_neg h]
    exact Ev.pure _
theorem along_l0 {l : List S30} (h14 : l.length ≤ 14) (s : ByteArray) (hsz : s.size = l.length) : ∀ (suf pre acc : List S30), l = pre ++ suf → acc.length = pre.length →
    Ev (fun k => trishawtop_along.l0 k l s acc pre.length) (acc ++ signFrom s pre.length suf) := by
  intro suf
  induction suf with
  | nil =>
    intro pre acc e ha
    have e3 : ¬ (pre.length : Int) < (l.length : Int) := by rw [e]; simp
    refine Ev.succ (Ev.succ ?_)
    simp only [trishawtop_along.l0, trishawtop_along.j1, e3, if_false, signFrom, List.append_nil, Bool.false_eq_true]
    exact Ev.pure _
  | cons x t ih =>
    intro pre acc e ha
    have hn : pre.length < 14 := by rw [e] at h14; simp at h14; omega
    have e7 : (pre ++ [x]).length = pre.length + 1 := by simp
    have e1 : wrap64 ((pre.length : Int) + 1) = (((pre ++ [x]).length : Nat) : Int) := by
      rw [w64s _ (by omega), e7]
    have e2 : rd_T30 l (pre.length : Int) = x := by rw [e]; exact rd30_mid _ _ _
    have e3 : (pre.length : Int) < (l.length : Int) := by rw [e]; exact mid_lt _ _ _
    have e4 : (pre.length : Int) < (s.size : Int) := by rw [hsz]; exact e3
    refine Ev.succ (Ev.succ ?_)
    by_cases hb : bt s (pre.length : Int) = 60
    · simp only [trishawtop_along.l0, trishawtop_along.j1, e1, e2, e3, e4, nonneg_len, if_true, decide_true, if_pos hb]
      refine Ev.congr (fun k => if_pos (by omega)) ?_
      have := ih (pre ++ [x]) (acc ++ [⟨x.f1, x.f0⟩]) (by rw [e]; simp) (by simp [ha])
      rw [signFrom, if_pos hb, ← e7, show acc ++ (⟨x.f1, x.f0⟩ : S30) :: signFrom s (pre ++ [x]).length t = (acc ++ [⟨x.f1, x.f0⟩]) ++ signFrom s (pre ++ [x]).length t by simp]
      exact this
    · simp only [trishawtop_along.l0, trishawtop_along.j1, e1, e2, e3, e4, nonneg_len, if_true, decide_true, if_neg hb]
      refine Ev.congr (fun k => if_pos (by omega)) ?_
      have := ih (pre ++ [x]) (acc ++ [x]) (by rw [e]; simp) (by simp [ha])
      rw [signFrom, if_neg hb, ← e7, show acc ++ x :: signFrom s (pre ++ [x]).length t = (acc ++ [x]) ++ signFrom s (pre ++ [x]).length t by simp]
      exact this
theorem along_ev {l : List S30} (h14 : l.length ≤ 14) (s : ByteArray) (hsz : s.size = l.length) : Ev (fun k => trishawtop_along.f k l s) (signFrom s 0 l) := along_l0 h14 s hsz l [] [] rfl rfl
end Go.Proofs.YtknecgmmpjggiaaDoor.OAll
