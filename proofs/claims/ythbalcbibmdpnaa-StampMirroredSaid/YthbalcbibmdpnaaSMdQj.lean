/- A part of the proof of 'stampMirrored_holds', for every input, without a condition. -/
import Derived.Test.YthbalcbibmdpnaaSMdQi
import Derived.Test.YthbalcbibmdpnaaSMdQd
import Derived.Test.YthbalcbibmdpnaaSMdOAllx7
namespace Go.Proofs.Ythbalcbibmdpnaa.OAll
open Go.RowKit Go.Proofs.YthbalcbibmdpnaaW.PrintWords Go.Proofs.YthbalcbibmdpnaaW.PrintLast Go.Proofs.YthbalcbibmdpnaaW.PrintMore
set_option linter.unusedVariables false
set_option linter.unusedSimpArgs false
def fstI (h : Int) (l : List Int) : List Int × Int := if tickI h l = 0 then (fewI h l, 0) else ([], tickI h l)
theorem fst_ev (h : Int) (l : List Int) : Ev (fun k => stamp_Fewest.f k h l) (fstI h l) := by
  unfold stamp_Fewest.f fstI
  refine Ev.bind (read_ev h l) ?_
  by_cases c : tickI h l = 0
  · simp only [if_pos c]
    exact Ev.bind (fewest_ev (tickI_zero c).1) (Ev.pure _)
  · simp only [if_neg c]
    exact Ev.pure _
structure Asc (l : List Int) : Prop where
  len : 1 ≤ l.length ∧ l.length ≤ 6
  ok : okFrom l 0
theorem Asc.lt {l : List Int} (a : Asc l) : ∀ (j i : Nat), i < j → j < l.length → rd l (i : Int) < rd l (j : Int)
  | 0, i, h, _ => by omega
  | j + 1, i, h, hj => by
    have h1 := (a.ok (j + 1) hj (Nat.zero_le _)).2.2 (by omega)
    rw [show j + 1 - 1 = j by omega] at h1
    rcases Nat.eq_or_lt_of_le (show i ≤ j by omega) with rfl | hlt
    · exact h1
    · have := Asc.lt a j i hlt (by omega)
      omega
theorem Asc.range {l : List Int} (a : Asc l) (i : Nat) (h : i < l.length) : 1 ≤ rd l (i : Int) ∧ rd l (i : Int) ≤ 200 := ⟨(a.ok i h (Nat.zero_le _)).1, (a.ok i h (Nat.zero_le _)).2.1⟩
theorem Asc.val {l : List Int} (a : Asc l) : valI l = 0 := by
  unfold valI
  rw [if_neg (by have := a.len; omega), if_neg (by have := a.len; omega), if_pos a.ok]
theorem rd_mirW {l : List Int} (a : Asc l) (i : Nat) (h : i + 1 < l.length) : rd (mirW l) (i : Int) = rd l ((l.length - 1 : Nat) : Int) - rd l ((l.length - 2 - i : Nat) : Int) := by
  have hzl : (l.take (l.length - 1)).length = l.length - 1 := by rw [List.length_take]; omega
  have h1 := a.range (l.length - 1) (by omega)
  have h2 := a.range (l.length - 2 - i) (by omega)
  have hb : i < (bw (l.take (l.length - 1))).length := by rw [bw_len, hzl]; omega
  have e1 : (mirW l)[i]? = some (mirF (rd l ((l.length - 1 : Nat) : Int)) (bw (l.take (l.length - 1)))[i]) := by
    unfold mirW
    rw [List.getElem?_append_left (by rw [List.length_map]; exact hb), List.getElem?_map, List.getElem?_eq_getElem hb, Option.map_some]
  have e2 : (bw (l.take (l.length - 1)))[i] = (((l.length - 2 - i : Nat) : Int), rd l ((l.length - 2 - i : Nat) : Int)) := by
    simp only [bw, List.getElem_map, List.getElem_range, hzl]
    rw [show l.length - 1 - 1 - i = l.length - 2 - i by omega, rd_take _ _ _ (by omega)]
  have e3 : rd (mirW l) (i : Int) = mirF (rd l ((l.length - 1 : Nat) : Int)) (bw (l.take (l.length - 1)))[i] := by
    simp [rd, e1]
  rw [e3, e2]
  unfold mirF
  exact w64 (by omega) (by omega)
theorem rd_mirW_last {l : List Int} (h : 1 ≤ l.length) : rd (mirW l) ((l.length - 1 : Nat) : Int) = rd l ((l.length - 1 : Nat) : Int) := by
  have hzl : (l.take (l.length - 1)).length = l.length - 1 := by rw [List.length_take]; omega
  have hb : ((bw (l.take (l.length - 1))).map (mirF (rd l ((l.length - 1 : Nat) : Int)))).length = l.length - 1 := by rw [List.length_map, bw_len, hzl]
  unfold mirW
  have := rd_mid ((bw (l.take (l.length - 1))).map (mirF (rd l ((l.length - 1 : Nat) : Int)))) [] (rd l ((l.length - 1 : Nat) : Int))
  rw [hb] at this
  exact this
theorem mirW_asc {l : List Int} (a : Asc l) : Asc (mirW l) := by
  have hl := a.len
  have hlen := mirW_len l hl.1
  refine ⟨by omega, fun i hi _ => ?_⟩
  rw [hlen] at hi
  have hL := a.range (l.length - 1) (by omega)
  have hlast := rd_mirW_last hl.1
  by_cases c : i + 1 < l.length
  · have e := rd_mirW a i c
    have h1 := a.range (l.length - 2 - i) (by omega)
    have h2 := a.lt (l.length - 1) (l.length - 2 - i) (by omega) (by omega)
    refine ⟨by rw [e]; omega, by rw [e]; omega, fun h0 => ?_⟩
    have e' := rd_mirW a (i - 1) (by omega)
    have h3 := a.lt (l.length - 2 - (i - 1)) (l.length - 2 - i) (by omega) (by omega)
    rw [e, e']
    omega
  · obtain rfl : i = l.length - 1 := by omega
    refine ⟨by rw [hlast]; omega, by rw [hlast]; omega, fun h0 => ?_⟩
    have e' := rd_mirW a (l.length - 1 - 1) (by omega)
    have h3 := a.range (l.length - 2 - (l.length - 1 - 1)) (by omega)
    rw [hlast, e']
    omega
theorem mirW_twice {l : List Int} (a : Asc l) : mirW (mirW l) = l := by
  have hl := a.len
  have hlen := mirW_len l hl.1
  have am := mirW_asc a
  have hlen2 := mirW_len (mirW l) (by omega)
  refine List.ext_getElem (by omega) (fun i h1 h2 => ?_)
  rw [← rd_get h1, ← rd_get h2]
  have hlast := rd_mirW_last hl.1
  have hlast2 := rd_mirW_last (l := mirW l) (by omega)
  rw [hlen] at hlast2
  by_cases c : i + 1 < l.length
  · have e := rd_mirW am i (by omega)
    rw [hlen, hlast, rd_mirW a (l.length - 2 - i) (by omega), show l.length - 2 - (l.length - 2 - i) = i by omega] at e
    rw [e]
    omega
  · obtain rfl : i = l.length - 1 := by omega
    rw [hlast2, hlast]
theorem mem_rd {l : List Int} {v : Int} (h : v ∈ l) : ∃ j, j < l.length ∧ v = rd l (j : Int) := by
  obtain ⟨j, hj, e⟩ := List.getElem_of_mem h
  exact ⟨j, hj, by rw [rd_get hj]; exact e.symm⟩
theorem rd_mem {l : List Int} {j : Nat} (h : j < l.length) : rd l (j : Int) ∈ l := by rw [rd_get h]; exact List.getElem_mem h
theorem mir_mem {l : List Int} (a : Asc l) : ∀ x ∈ (0 :: l).map (rd l ((l.length - 1 : Nat) : Int) - ·), x ∈ 0 :: mirW l := by
  have hl := a.len
  have hlen := mirW_len l hl.1
  intro x hx
  obtain ⟨v, hv, rfl⟩ := List.mem_map.mp hx
  rcases List.mem_cons.mp hv with rfl | hv
  · have := rd_mem (l := mirW l) (j := l.length - 1) (by omega)
    rw [rd_mirW_last hl.1] at this
    simp only [Int.sub_zero]
    exact List.mem_cons_of_mem _ this
  · obtain ⟨j, hj, rfl⟩ := mem_rd hv
    by_cases c : j + 1 < l.length
    · have := rd_mem (l := mirW l) (j := l.length - 2 - j) (by omega)
      rw [rd_mirW a (l.length - 2 - j) (by omega), show l.length - 2 - (l.length - 2 - j) = j by omega] at this
      exact List.mem_cons_of_mem _ this
    · obtain rfl : j = l.length - 1 := by omega
      simp
theorem okT_of {h : Int} {l : List Int} (hh : 1 ≤ h ∧ h ≤ 6) (a : Asc l) : OkT h l :=
  ⟨hh, a.len, fun v hv => by obtain ⟨j, hj, rfl⟩ := mem_rd hv; exact a.range j hj⟩
theorem tick_of {h : Int} {l : List Int} (hh : 1 ≤ h ∧ h ≤ 6) (a : Asc l) : tickI h l = 0 := by
  unfold tickI
  rw [if_neg (by omega), if_neg (by omega)]
  exact a.val
theorem mir_top {h : Int} {l : List Int} (a : Asc l) : topN h (mirW l) = topN h l := by
  unfold topN
  rw [mirW_len l a.len.1, rd_mirW_last a.len.1]
theorem mir_pays {h : Int} {l : List Int} (hh : 1 ≤ h ∧ h ≤ 6) (a : Asc l) {x : Int} (h0 : 0 ≤ x) (h1 : x ≤ (topN h l : Int)) (hs : 0 ≤ rd (fewI h l) x) : 0 ≤ rd (fewI h (mirW l)) ((topN h l : Int) - x) := by
  have o := okT_of hh a
  have om := okT_of hh (mirW_asc a)
  have ht := o.top.1
  rw [fewI_pays om (by omega) (by rw [mir_top a]; omega)]
  rw [fewI_pays o h0 h1] at hs
  have := SumN.flip (rd l ((l.length - 1 : Nat) : Int)) _ _ hs
  have := SumN.sub (mir_mem a) _ _ this
  rw [show ((h.toNat : Nat) : Int) = h by omega, ht] at this
  exact this
theorem mirrored_law {h : Int} {l : List Int} (hh : 1 ≤ h ∧ h ≤ 6) (a : Asc l) (x : Int) (h0 : 0 ≤ x) (h1 : x ≤ (topN h l : Int)) : 0 ≤ rd (fewI h l) x ↔ 0 ≤ rd (fewI h (mirW l)) ((topN h l : Int) - x) := by
  refine ⟨mir_pays hh a h0 h1, fun hs => ?_⟩
  have := mir_pays hh (mirW_asc a) (x := (topN h l : Int) - x) (by omega) (by rw [mir_top a]; omega) hs
  rw [mirW_twice a, mir_top a, show (topN h l : Int) - ((topN h l : Int) - x) = x by omega] at this
  exact this
theorem sm_loop {h : Int} {l : List Int} (hh : 1 ≤ h ∧ h ≤ 6) (a : Asc l) : ∀ d i : Nat, i + d = topN h l + 1 → Ev (fun k => trishawlaw04_StampMirrored.l0 k (fewI h l) (fewI h (mirW l)) (i : Int)) true
  | 0, i, hi => by
    have h1 := fewI_len h l
    refine Ev.succ ?_
    simp only [trishawlaw04_StampMirrored.l0]
    simp only [if_neg (show ¬ (i : Int) < ((fewI h l).length : Int) by omega)]
    exact alive_ev'
  | d + 1, i, hi => by
    have h1 := fewI_len h l
    have h2 := fewI_len h (mirW l)
    rw [mir_top a] at h2
    have ht := (okT_of hh a).top
    have hw1 : wrap64 (((fewI h (mirW l)).length : Int) - 1) = (topN h l : Int) := by rw [w64 (by omega) (by omega)]; omega
    have hw2 : wrap64 ((topN h l : Int) - (i : Int)) = (topN h l : Int) - (i : Int) := w64 (by omega) (by omega)
    have hw3 : wrap64 ((i : Int) + 1) = ((i + 1 : Nat) : Int) := w64s i (by omega)
    have ih := sm_loop hh a d (i + 1) (by omega)
    have hl := mirrored_law hh a (i : Int) (by omega) (by omega)
    refine Ev.succ ?_
    simp only [trishawlaw04_StampMirrored.l0, hw1, hw2, hw3]
    simp only [if_pos (show (i : Int) < ((fewI h l).length : Int) by omega), if_pos (show (0 : Int) ≤ (i : Int) by omega), if_pos (show (0 : Int) ≤ (topN h l : Int) - (i : Int) by omega), if_pos (show (topN h l : Int) - (i : Int) < ((fewI h (mirW l)).length : Int) by omega)]
    have hne : ((decide (rd (fewI h l) (i : Int) ≥ 0)) != (decide (rd (fewI h (mirW l)) ((topN h l : Int) - (i : Int)) ≥ 0))) = false := by
      have : decide (rd (fewI h l) (i : Int) ≥ 0) = decide (rd (fewI h (mirW l)) ((topN h l : Int) - (i : Int)) ≥ 0) := decide_eq_decide.mpr hl
      rw [this]; simp
    simp only [hne, Bool.false_eq_true, if_false]
    exact ih
theorem StampMirrored_ev (h : Int) (l : List Int) : Ev (fun k => trishawlaw04_StampMirrored.f k h l) true := by
  unfold trishawlaw04_StampMirrored.f
  by_cases c1 : (l.length : Int) > 30
  · simp only [if_pos c1]
    refine Ev.succ ?_
    simp only [trishawlaw04_StampMirrored.j0, if_true]
    exact alive_ev'
  · simp only [if_neg c1]
    refine Ev.bind (ticket_ev h l) ?_
    refine Ev.succ ?_
    simp only [trishawlaw04_StampMirrored.j0]
    by_cases c : tickI h l = 0
    · have hne : (tickI h l != 0) = false := bne_eq_false_iff_eq.mpr c
      obtain ⟨o, hok⟩ := tickI_zero c
      have a : Asc l := ⟨o.len, hok⟩
      have am := mirW_asc a
      have m1 : mirI l = (mirW l, 0) := by unfold mirI; rw [if_pos a.val]
      have m2 : mirI (mirW l) = (l, 0) := by unfold mirI; rw [if_pos am.val, mirW_twice a]
      have s1 : fstI h l = (fewI h l, 0) := by unfold fstI; rw [if_pos c]
      have s2 : fstI h (mirW l) = (fewI h (mirW l), 0) := by unfold fstI; rw [if_pos (tick_of o.h am)]
      have k1 := mirrored_ev l
      rw [m1] at k1
      have k2 := mirrored_ev (mirW l)
      rw [m2] at k2
      have k3 := fst_ev h l
      rw [s1] at k3
      have k4 := fst_ev h (mirW l)
      rw [s2] at k4
      obtain ⟨et, ht, ht1⟩ := o.top
      have hlo := o.len
      simp only [hne, Bool.false_eq_true, if_false]
      refine Ev.bind k1 (Ev.bind k2 ?_)
      simp only [if_true]
      refine Ev.bind (same_ev l (by omega)) ?_
      refine Ev.succ ?_
      simp only [trishawlaw04_StampMirrored.j1, Bool.not_true, Bool.false_eq_true, if_false]
      refine Ev.bind k3 (Ev.bind k4 ?_)
      have hw1 : wrap64 ((l.length : Int) - 1) = ((l.length - 1 : Nat) : Int) := by rw [w64 (by omega) (by omega)]; omega
      have hw2 : wrap64 ((topN h l : Nat) : Int) = ((topN h l : Nat) : Int) := w64n _ (by omega)
      have hw3 : wrap64 (((topN h l : Nat) : Int) + 1) = ((topN h l + 1 : Nat) : Int) := w64s _ (by omega)
      have f1 := fewI_len h l
      have f2 := fewI_len h (mirW l)
      rw [mir_top a] at f2
      simp only [hw1, et, hw2, hw3, if_true]
      simp only [if_pos (show (0 : Int) ≤ ((l.length - 1 : Nat) : Int) by omega), if_pos (show ((l.length - 1 : Nat) : Int) < (l.length : Int) by omega), if_pos (show ((fewI h l).length : Int) = ((topN h l + 1 : Nat) : Int) by omega)]
      refine Ev.succ ?_
      have hnb : (((fewI h (mirW l)).length : Int) != ((fewI h l).length : Int)) = false := bne_eq_false_iff_eq.mpr (by omega)
      simp only [trishawlaw04_StampMirrored.j2, hnb, Bool.false_eq_true, if_false]
      exact sm_loop o.h a (topN h l + 1) 0 (by omega)
    · have hne : (tickI h l != 0) = true := bne_iff_ne.mpr c
      simp only [hne, if_true]
      exact alive_ev'
end Go.Proofs.Ythbalcbibmdpnaa.OAll
