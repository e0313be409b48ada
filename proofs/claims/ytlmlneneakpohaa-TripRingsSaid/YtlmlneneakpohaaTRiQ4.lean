/- A part of the proof of 'tripRings_holds', for every input, without a condition. -/
import Derived.Test.YtlmlneneakpohaaTRiQ3
import Derived.Test.YtlmlneneakpohaaTRiOAllx25
namespace Go.Proofs.Ytlmlneneakpohaa.OAll
open Go.RowKit Go.Proofs.YtlmlneneakpohaaW.PrintWords Go.Proofs.YtlmlneneakpohaaW.PrintLast Go.Proofs.YtlmlneneakpohaaW.PrintMore
set_option linter.unusedVariables false
set_option linter.unusedSimpArgs false
theorem ring_round {l : List S36} {i p : Nat} (hi : i < l.length) (h : loN l i = i) (hp : 1 ≤ p) (hb : it (nxt l) p i = i) (hs : ∀ s, 1 ≤ s → s < p → it (nxt l) s i ≠ i) : (memR l i l.length).length = p := by
  have hN := nxt_perm l
  have hdiff : ∀ a b, a < b → b < p → it (nxt l) a i ≠ it (nxt l) b i := by
    intro a b hab hbp e
    have e2 : it (nxt l) b i = it (nxt l) a (it (nxt l) (b - a) i) := by rw [← it_add (nxt l) (b - a) i a]; congr 1; omega
    rw [e2] at e
    exact hs (b - a) (by omega) (by omega) (hN.cancel hi (hN.lt hi _) a e).symm
  have hnd : ((List.range p).map (fun t => it (nxt l) t i)).Nodup := by
    rw [List.nodup_iff_pairwise_ne, List.pairwise_map]
    refine List.Pairwise.imp_of_mem (fun {a b} ha hb hab => ?_) List.pairwise_lt_range
    exact hdiff a b hab (List.mem_range.mp hb)
  have hp2 : ((List.range p).map (fun t => it (nxt l) t i)).Perm (memR l i l.length) := by
    refine (List.perm_ext_iff_of_nodup hnd (List.nodup_range.filter _)).mpr (fun x => ?_)
    show _ ↔ x ∈ memR l i l.length
    rw [memR_in]
    constructor
    · intro hx
      obtain ⟨t, _, rfl⟩ := List.mem_map.mp hx
      exact ⟨hN.lt hi t, by rw [loN_it hi t, h]⟩
    · rintro ⟨hx, e⟩
      obtain ⟨s, hs2⟩ := (loN_same hi hx).mp (by rw [h, e])
      obtain ⟨s', g1, g2⟩ := it_mod hp hb s
      exact List.mem_map.mpr ⟨s', List.mem_range.mpr g1, by rw [← g2, hs2]⟩
  have := hp2.length_eq
  rw [List.length_map, List.length_range] at this
  exact this.symm
theorem memR_sorted (l : List S36) (i n : Nat) : (memR l i n).Pairwise (· < ·) := List.Pairwise.filter _ List.pairwise_lt_range
theorem headR_sorted (l : List S36) (n : Nat) : (headR l n).Pairwise (· < ·) := List.Pairwise.filter _ List.pairwise_lt_range
theorem memR_first {l : List S36} {i b : Nat} {t : List Nat} (hi : i < l.length) (h : loN l i = i) (e : b :: t = memR l i l.length) : b = i := by
  have h1 : i ∈ b :: t := by rw [e]; exact memR_in.mpr ⟨hi, h⟩
  have h2 := memR_sorted l i l.length
  rw [← e] at h2
  have h3 : b ∈ memR l i l.length := by rw [← e]; simp
  have h4 := memR_in.mp h3
  have h5 := loN_le h4.1
  rcases List.mem_cons.mp h1 with h1 | h1
  · exact h1.symm
  · have := (List.pairwise_cons.mp h2).1 i h1
    omega
theorem rings_rd {l : List S36} {a : Nat} (ha : a < (headR l l.length).length) : rd_L1 (ringsN l) (a : Int) = nI (memR l ((headR l l.length)[a]) l.length) := by
  unfold rd_L1 ringsN
  rw [Int.toNat_natCast, List.getD_eq_getElem?_getD, List.getElem?_map, List.getElem?_eq_getElem ha]
  rfl
theorem head_at {l : List S36} {a : Nat} (ha : a < (headR l l.length).length) : (headR l l.length)[a] < l.length ∧ loN l ((headR l l.length)[a]) = (headR l l.length)[a] := headR_in.mp (List.getElem_mem ha)
theorem head_inj {l : List S36} {a b : Nat} (ha : a < (headR l l.length).length) (hb : b < (headR l l.length).length) (e : (headR l l.length)[a] = (headR l l.length)[b]) : a = b := by
  have h := List.pairwise_iff_getElem.mp (headR_sorted l l.length)
  refine Classical.byContradiction fun hne => ?_
  rcases Nat.lt_or_gt_of_ne hne with hlt | hlt
  · have := h a b ha hb hlt; omega
  · have := h b a hb ha hlt; omega
theorem head_ex {l : List S36} {x : Nat} (hx : x < l.length) : ∃ b, ∃ hb : b < (headR l l.length).length, loN l x = (headR l l.length)[b] := by
  have : loN l x ∈ headR l l.length := headR_in.mpr ⟨loN_lt hx, lo_head hx⟩
  obtain ⟨b, hb, e⟩ := List.getElem_of_mem this
  exact ⟨b, hb, e.symm⟩
theorem ring_zero {l : List S36} {a : Nat} (ha : a < (headR l l.length).length) : rd (nI (memR l ((headR l l.length)[a]) l.length)) 0 = ((headR l l.length)[a] : Int) ∧ 0 < (nI (memR l ((headR l l.length)[a]) l.length)).length := by
  have h := head_at ha
  have hne := memR_head h.1 h.2
  obtain ⟨b, t, e⟩ : ∃ b t, b :: t = memR l ((headR l l.length)[a]) l.length := by
    cases hm : memR l ((headR l l.length)[a]) l.length with
    | nil => exact absurd hm hne
    | cons b t => exact ⟨b, t, rfl⟩
  have hb := memR_first h.1 h.2 e
  rw [← e]
  exact ⟨by rw [← hb]; rfl, by simp [nI]⟩
def MarkI (l : List S36) (m : List Int) (a : Nat) (q : List Nat) : Prop :=
  m.length = l.length ∧ ∀ x, x < l.length → ∀ b, ∀ hb : b < (headR l l.length).length, loN l x = (headR l l.length)[b] → rd m (x : Int) = if b < a ∨ (b = a ∧ x ∈ q) then ((b + 1 : Nat) : Int) else 0
def cntM (n : Nat) (m : List Int) : Nat := ((List.range n).filter (fun x : Nat => decide (rd m (x : Int) ≠ 0))).length
theorem cntM_le (n : Nat) (m : List Int) : cntM n m ≤ n := by
  have := List.length_filter_le (fun x : Nat => decide (rd m (x : Int) ≠ 0)) (List.range n)
  rw [List.length_range] at this
  exact this
theorem cntM_set {n x : Nat} {m : List Int} (hm : m.length = n) (hx : x < n) (h0 : rd m (x : Int) = 0) {v : Int} (hv : v ≠ 0) : cntM n (m.set x v) = cntM n m + 1 := by
  unfold cntM
  refine (filter_drop hx ?_ (fun y hy => ?_)).symm
  · rw [decide_eq_true_eq, rd_set_same (by omega)]; exact hv
  · rw [decide_eq_true_eq, decide_eq_true_eq]
    by_cases e : y = x
    · subst e
      exact ⟨fun h => absurd h0 h, fun h => absurd rfl h.2⟩
    · rw [rd_set_other (by omega) (fun h => e h.symm)]
      exact ⟨fun h => ⟨h, e⟩, fun h => h.1⟩
theorem rrings_l4 {l : List S36} (h9 : l.length ≤ 9) {a p : Nat} (ha : a < (headR l l.length).length) (x11 : Int) (hp : 1 ≤ p) (hb : it (nxt l) p ((headR l l.length)[a]) = (headR l l.length)[a]) (hs : ∀ s, 1 ≤ s → s < p → it (nxt l) s ((headR l l.length)[a]) ≠ (headR l l.length)[a])
    (hr : Ev (fun k => trishawlaw06_TripRings.l3 k l (matchI l) (ringsN l) x11 ((a + 1 : Nat) : Int)) true) : ∀ d s : Nat, s + d = p → 1 ≤ s →
    Ev (fun k => trishawlaw06_TripRings.l4 k l (matchI l) (ringsN l) x11 (a : Int) (s : Int) (it (nxt l) s ((headR l l.length)[a]) : Int)) true
  | 0, s, e, h1 => by
    refine Ev.succ ?_
    obtain rfl : s = p := by omega
    have hh := head_at ha
    have hz := ring_zero ha
    have hlen := ring_round hh.1 hh.2 hp hb hs
    have hal : a < l.length := Nat.lt_of_lt_of_le ha (headR_len l _)
    simp only [trishawlaw06_TripRings.l4, if_pos (show (0 : Int) ≤ (a : Int) by omega), ringsN_len, if_pos (show (a : Int) < ((headR l l.length).length : Int) by omega), rings_rd ha, if_pos (show (0 : Int) < ((nI (memR l ((headR l l.length)[a]) l.length)).length : Int) by omega), hz.1, hb, if_true, nI_len, hlen, if_pos (show (0 : Int) < (s : Int) by omega), w64s a (show a < 9223372036854775807 by omega)]
    exact hr
  | d + 1, s, e, h1 => by
    refine Ev.succ ?_
    have hh := head_at ha
    have hz := ring_zero ha
    have hlt := (nxt_perm l).lt hh.1 s
    have hne := hs s h1 (by omega)
    have hal : a < l.length := Nat.lt_of_lt_of_le ha (headR_len l _)
    have hlen := ring_round hh.1 hh.2 hp hb hs
    have hpl := memR_len l ((headR l l.length)[a]) l.length
    have ih := rrings_l4 h9 ha x11 hp hb hs hr d (s + 1) (by omega) (by omega)
    simp only [trishawlaw06_TripRings.l4, if_pos (show (0 : Int) ≤ (a : Int) by omega), ringsN_len, if_pos (show (a : Int) < ((headR l l.length).length : Int) by omega), rings_rd ha, if_pos (show (0 : Int) < ((nI (memR l ((headR l l.length)[a]) l.length)).length : Int) by omega), hz.1, if_neg (show ¬ (it (nxt l) s ((headR l l.length)[a]) : Int) = ((headR l l.length)[a] : Int) by omega), if_pos (show (0 : Int) ≤ (it (nxt l) s ((headR l l.length)[a]) : Int) by omega), matchI_len, if_pos (show (it (nxt l) s ((headR l l.length)[a]) : Int) < (l.length : Int) by omega), (match_rd hlt).1, w64s s (show s < 9223372036854775807 by omega)]
    exact ih
theorem rrings_l3 {l : List S36} (h9 : l.length ≤ 9) : ∀ d a : Nat, a + d = (headR l l.length).length →
    Ev (fun k => trishawlaw06_TripRings.l3 k l (matchI l) (ringsN l) (l.length : Int) (a : Int)) true
  | 0, a, e => by
    refine Ev.succ ?_
    simp only [trishawlaw06_TripRings.l3, ringsN_len, if_neg (show ¬ (a : Int) < ((headR l l.length).length : Int) by omega), if_true]
    exact alive_ev'
  | d + 1, a, e => by
    refine Ev.succ ?_
    have ha : a < (headR l l.length).length := by omega
    have hh := head_at ha
    have hz := ring_zero ha
    have ih := rrings_l3 h9 d (a + 1) (by omega)
    obtain ⟨p, hp, _, hb, hs⟩ := (nxt_perm l).back hh.1
    have h4 := rrings_l4 h9 ha (l.length : Int) hp hb hs ih (p - 1) 1 (by omega) (Nat.le_refl 1)
    simp only [trishawlaw06_TripRings.l3, ringsN_len, if_pos (show (a : Int) < ((headR l l.length).length : Int) by omega), if_pos (show (0 : Int) ≤ (a : Int) by omega), rings_rd ha, if_pos (show (0 : Int) < ((nI (memR l ((headR l l.length)[a]) l.length)).length : Int) by omega), hz.1, if_pos (show (0 : Int) ≤ ((headR l l.length)[a] : Int) by omega), matchI_len, if_pos (show ((headR l l.length)[a] : Int) < (l.length : Int) by omega), (match_rd hh.1).1]
    exact h4
theorem rrings_l2 {l : List S36} (h9 : l.length ≤ 9) {m : List Int} (hm : MarkI l m (headR l l.length).length []) : ∀ d k : Nat, k + d = l.length →
    Ev (fun f => trishawlaw06_TripRings.l2 f l (matchI l) (ringsN l) m (cntM l.length m : Int) (k : Int)) true
  | 0, k, e => by
    refine Ev.succ ?_
    have hc : cntM l.length m = l.length := by
      unfold cntM
      have : (List.range l.length).filter (fun x : Nat => decide (rd m (x : Int) ≠ 0)) = List.range l.length := by
        refine List.filter_eq_self.mpr (fun x hx => ?_)
        have hx := List.mem_range.mp hx
        obtain ⟨b, hb, eb⟩ := head_ex hx
        have := hm.2 x hx b hb eb
        rw [if_pos (.inl hb)] at this
        rw [decide_eq_true_eq, this]
        omega
      rw [this, List.length_range]
    simp only [trishawlaw06_TripRings.l2, if_neg (show ¬ (k : Int) < (l.length : Int) by omega), hc]
    exact rrings_l3 h9 (headR l l.length).length 0 (by omega)
  | d + 1, k, e => by
    refine Ev.succ ?_
    have hk : k < l.length := by omega
    have hn := (match_rd hk)
    have ih := rrings_l2 h9 hm d (k + 1) (by omega)
    have he : rd m (k : Int) = rd m (nxt l k : Int) := by
      obtain ⟨b, hb, eb⟩ := head_ex hk
      have e1 : loN l (nxt l k) = loN l k := loN_it hk 1
      rw [hm.2 k hk b hb eb, hm.2 (nxt l k) hn.2 b hb (by rw [e1, eb]), if_pos (.inl hb), if_pos (.inl hb)]
    simp only [trishawlaw06_TripRings.l2, if_pos (show (k : Int) < (l.length : Int) by omega), if_pos (show (0 : Int) ≤ (k : Int) by omega), hm.1, matchI_len, hn.1, if_pos (show (0 : Int) ≤ (nxt l k : Int) by omega), if_pos (show (nxt l k : Int) < (l.length : Int) by omega), if_pos he, w64s k (show k < 9223372036854775807 by omega)]
    exact ih
theorem mark_next {l : List S36} {m : List Int} {a : Nat} (ha : a < (headR l l.length).length) (h : MarkI l m a (memR l ((headR l l.length)[a]) l.length)) : MarkI l m (a + 1) [] := by
  refine ⟨h.1, fun x hx b hb e => ?_⟩
  rw [h.2 x hx b hb e]
  have : (b < a ∨ (b = a ∧ x ∈ memR l ((headR l l.length)[a]) l.length)) ↔ (b < a + 1 ∨ (b = a + 1 ∧ x ∈ ([] : List Nat))) := by
    constructor
    · rintro (h | h)
      · exact .inl (by omega)
      · exact .inl (by omega)
    · rintro (h | h)
      · by_cases c : b = a
        · subst c
          exact .inr ⟨rfl, memR_in.mpr ⟨hx, e⟩⟩
        · exact .inl (by omega)
      · exact absurd h.2 (by simp)
  simp only [this]
theorem mark_set {l : List S36} {m : List Int} {a b : Nat} {q t : List Nat} (ha : a < (headR l l.length).length) (h : MarkI l m a q) (e : q ++ b :: t = memR l ((headR l l.length)[a]) l.length) : MarkI l (m.set b ((a + 1 : Nat) : Int)) a (q ++ [b]) ∧ rd m (b : Int) = 0 ∧ b < l.length := by
  have hbm : b ∈ memR l ((headR l l.length)[a]) l.length := by rw [← e]; simp
  obtain ⟨hb1, hb2⟩ := memR_in.mp hbm
  have hs := memR_sorted l ((headR l l.length)[a]) l.length
  rw [← e] at hs
  have hbq : b ∉ q := fun hq => by
    have := (List.pairwise_append.mp hs).2.2 b hq b (by simp)
    omega
  refine ⟨⟨by rw [List.length_set]; exact h.1, fun x hx c hc ec => ?_⟩, ?_, hb1⟩
  · by_cases exb : x = b
    · subst exb
      have : c = a := head_inj hc ha (by rw [← ec, hb2])
      subst this
      rw [rd_set_same (by rw [h.1]; exact hx), if_pos (.inr ⟨rfl, by simp⟩)]
    · rw [rd_set_other (by rw [h.1]; exact hx) (fun h => exb h.symm), h.2 x hx c hc ec]
      have : (x ∈ q ++ [b]) ↔ x ∈ q := by simp [exb]
      simp only [this]
  · rw [h.2 b hb1 a ha hb2, if_neg]
    rintro (h | h)
    · omega
    · exact hbq h.2
theorem rrings_l1 {l : List S36} (h9 : l.length ≤ 9) {a : Nat} (ha : a < (headR l l.length).length)
    (hr : ∀ m', MarkI l m' (a + 1) [] → Ev (fun k => trishawlaw06_TripRings.l0 k l (matchI l) (ringsN l) m' (cntM l.length m' : Int) ((a + 1 : Nat) : Int)) true) : ∀ (t q : List Nat) (m : List Int), q ++ t = memR l ((headR l l.length)[a]) l.length → MarkI l m a q →
    Ev (fun k => trishawlaw06_TripRings.l1 k l (matchI l) (ringsN l) m (cntM l.length m : Int) (a : Int) (q.length : Int)) true
  | [], q, m, e, hm => by
    refine Ev.succ ?_
    rw [List.append_nil] at e
    have hal : a < l.length := Nat.lt_of_lt_of_le ha (headR_len l _)
    have hz := ring_zero ha
    have hl : (nI (memR l ((headR l l.length)[a]) l.length)).length = q.length := by rw [nI_len, ← e]
    simp only [trishawlaw06_TripRings.l1, if_pos (show (0 : Int) ≤ (a : Int) by omega), ringsN_len, if_pos (show (a : Int) < ((headR l l.length).length : Int) by omega), rings_rd ha, if_neg (show ¬ (q.length : Int) < ((nI (memR l ((headR l l.length)[a]) l.length)).length : Int) by omega), if_neg (show ¬ ((nI (memR l ((headR l l.length)[a]) l.length)).length : Int) = 0 by omega), w64s a (show a < 9223372036854775807 by omega)]
    refine hr m (mark_next ha ?_)
    rw [← e]; exact hm
  | b :: t, q, m, e, hm => by
    refine Ev.succ ?_
    have hal : a < l.length := Nat.lt_of_lt_of_le ha (headR_len l _)
    have hh := head_at ha
    obtain ⟨s1, s2, s3⟩ := mark_set ha hm e
    have hql : (memR l ((headR l l.length)[a]) l.length).length = (q ++ b :: t).length := by rw [e]
    have hql2 := memR_len l ((headR l l.length)[a]) l.length
    have hq9 : q.length < 9 := by rw [hql] at hql2; simp at hql2; omega
    have hcn := cntM_set hm.1 s3 s2 (v := ((a + 1 : Nat) : Int)) (by omega)
    have hcl := cntM_le l.length m
    have ih := rrings_l1 h9 ha hr t (q ++ [b]) _ (by rw [← e]; simp) s1
    rw [hcn] at ih
    have e3 : wrap64 ((q.length : Int) + 1) = (((q ++ [b]).length : Nat) : Int) := by rw [w64s q.length (by omega)]; simp
    have r1 : rd (nI (memR l ((headR l l.length)[a]) l.length)) (q.length : Int) = (b : Int) := by rw [← e]; exact rd_nI_mid q t b
    have hl : ((nI (memR l ((headR l l.length)[a]) l.length)).length : Int) = ((q ++ b :: t).length : Int) := by rw [nI_len, ← e]
    have hlt : (q.length : Int) < ((nI (memR l ((headR l l.length)[a]) l.length)).length : Int) := by rw [hl]; exact mid_lt q t b
    simp only [trishawlaw06_TripRings.l1, if_pos (show (0 : Int) ≤ (a : Int) by omega), ringsN_len, if_pos (show (a : Int) < ((headR l l.length).length : Int) by omega), rings_rd ha, if_pos hlt, if_pos (nonneg_len q), r1, if_neg (show ¬ (b : Int) < 0 by omega), if_neg (show ¬ (b : Int) ≥ (l.length : Int) by omega), if_pos (show (0 : Int) ≤ (b : Int) by omega), hm.1, if_pos (show (b : Int) < (l.length : Int) by omega), s2, if_true, e3, Int.toNat_natCast, w64s a (show a < 9223372036854775807 by omega), w64s (cntM l.length m) (show cntM l.length m < 9223372036854775807 by omega)]
    by_cases c : (q.length : Int) > 0
    · obtain ⟨q', y, rfl⟩ : ∃ q' y, q = q' ++ [y] := ⟨q.dropLast, q.getLast (by intro e; rw [e] at c; simp at c), (List.dropLast_concat_getLast _).symm⟩
      have e4 : wrap64 (((q' ++ [y]).length : Int) - 1) = (q'.length : Int) := by rw [w64 (by omega) (by omega)]; simp
      have e5 : rd (nI (memR l ((headR l l.length)[a]) l.length)) (q'.length : Int) = (y : Int) := by
        rw [← e, show q' ++ [y] ++ b :: t = q' ++ y :: b :: t by simp]
        exact rd_nI_mid q' (b :: t) y
      have hyb : y < b := by
        have hs := memR_sorted l ((headR l l.length)[a]) l.length
        rw [← e] at hs
        exact (List.pairwise_append.mp hs).2.2 y (by simp) b (by simp)
      have hq0 : (0 : Int) ≤ (q'.length : Int) := by omega
      have hq1 : (q'.length : Int) < ((nI (memR l ((headR l l.length)[a]) l.length)).length : Int) := by
        have : ((q' ++ [y]).length : Int) = (q'.length : Int) + 1 := by simp
        omega
      simp only [if_pos c, e4, if_pos hq0, if_pos hq1, e5, if_neg (show ¬ (b : Int) ≤ (y : Int) by omega), if_neg (show ¬ ((q' ++ [y]).length : Int) = 0 by omega)]
      exact ih
    · have hq : q = [] := by
        cases q with
        | nil => rfl
        | cons _ _ => simp at c
      subst hq
      rw [List.nil_append] at e
      have hbi := memR_first hh.1 hh.2 e
      simp only [if_neg c, List.length_nil, Int.natCast_zero, if_true]
      by_cases c2 : (a : Int) > 0
      · have e4 : wrap64 ((a : Int) - 1) = ((a - 1 : Nat) : Int) := by rw [w64 (by omega) (by omega)]; omega
        have ha1 : a - 1 < (headR l l.length).length := by omega
        have hz := ring_zero ha1
        have hlt2 : (headR l l.length)[a - 1] < (headR l l.length)[a] := List.pairwise_iff_getElem.mp (headR_sorted l l.length) (a - 1) a ha1 ha (by omega)
        simp only [if_pos c2, e4, if_pos (show (0 : Int) ≤ ((a - 1 : Nat) : Int) by omega), if_pos (show ((a - 1 : Nat) : Int) < ((headR l l.length).length : Int) by omega), rings_rd ha1, if_pos (show (0 : Int) < ((nI (memR l ((headR l l.length)[a - 1]) l.length)).length : Int) by omega), hz.1, if_neg (show ¬ (b : Int) ≤ ((headR l l.length)[a - 1] : Int) by omega)]
        exact ih
      · simp only [if_neg c2]
        exact ih
theorem rrings_l0 {l : List S36} (h9 : l.length ≤ 9) : ∀ (d a : Nat) (m : List Int), a + d = (headR l l.length).length → MarkI l m a [] →
    Ev (fun k => trishawlaw06_TripRings.l0 k l (matchI l) (ringsN l) m (cntM l.length m : Int) (a : Int)) true
  | 0, a, m, e, hm => by
    refine Ev.succ ?_
    simp only [trishawlaw06_TripRings.l0, ringsN_len, if_neg (show ¬ (a : Int) < ((headR l l.length).length : Int) by omega)]
    obtain rfl : a = (headR l l.length).length := by omega
    exact rrings_l2 h9 hm l.length 0 (by omega)
  | d + 1, a, m, e, hm => by
    refine Ev.succ ?_
    have ha : a < (headR l l.length).length := by omega
    simp only [trishawlaw06_TripRings.l0, ringsN_len, if_pos (show (a : Int) < ((headR l l.length).length : Int) by omega)]
    exact rrings_l1 h9 ha (fun m' hm' => rrings_l0 h9 d (a + 1) m' (by omega) hm') (memR l ((headR l l.length)[a]) l.length) [] m rfl hm
theorem rrings_j0 (l : List S36) (b : Bool) (U D : Int) (hb : b = false → dayE l U D = 0) : Ev (fun k => trishawlaw06_TripRings.j0 k l b U D) true := by
  refine Ev.succ ?_
  simp only [trishawlaw06_TripRings.j0]
  cases b
  · have c := hb rfl
    have hR := day_right c
    have h9 := hR.len
    simp only [Bool.false_eq_true, if_false]
    refine Ev.bind (Matching_ev l U D) (Ev.bind (Rings_ev l) ?_)
    simp only [ringsR, matchR, if_pos c, if_pos (rides_day c), if_true]
    refine Ev.bind (isorder_ev l.length h9.2 (matchI l) (by rw [matchI_len]; omega)) ?_
    simp only [decide_eq_true (match_ord h9.1), Bool.not_true]
    refine Ev.succ ?_
    simp only [trishawlaw06_TripRings.j1, Bool.false_eq_true, if_false, if_pos (Int.natCast_nonneg l.length), Int.toNat_natCast, if_pos (show l.length ≤ 35184372088832 by omega)]
    have hz : ∀ x, x < l.length → rd (List.replicate l.length (0 : Int)) (x : Int) = 0 := fun x hx => by
      rw [rd_get (by simpa using hx)]; simp
    have hm : MarkI l (List.replicate l.length 0) 0 [] := ⟨by simp, fun x hx b hb e => by
      rw [hz x hx, if_neg]
      rintro (h | h)
      · omega
      · exact absurd h.2 (by simp)⟩
    have hc : cntM l.length (List.replicate l.length 0) = 0 := by
      unfold cntM
      have : (List.range l.length).filter (fun x : Nat => decide (rd (List.replicate l.length (0 : Int)) (x : Int) ≠ 0)) = [] := by
        refine List.filter_eq_nil_iff.mpr (fun x hx => ?_)
        rw [decide_eq_true_eq, hz x (List.mem_range.mp hx)]
        simp
      rw [this]; rfl
    have := rrings_l0 h9.2 (headR l l.length).length 0 _ (by omega) hm
    rw [hc] at this
    exact this
  · simp only [if_true]; exact alive_ev'
theorem TripRings_ev (l : List S36) (U D : Int) : Ev (fun k => trishawlaw06_TripRings.f k l U D) true := by
  unfold trishawlaw06_TripRings.f
  simp only [few_nil, Option.bind_some]
  split
  · refine Ev.bind (ref_day l U D) ?_
    exact rrings_j0 l _ U D (fun h => by simpa using h)
  · exact rrings_j0 l true U D (fun h => by cases h)
end Go.Proofs.Ytlmlneneakpohaa.OAll
