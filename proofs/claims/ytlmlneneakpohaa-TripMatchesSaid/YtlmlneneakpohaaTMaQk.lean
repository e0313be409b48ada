/- A part of the proof of 'tripMatches_holds', for every input, without a condition. -/
import Derived.Test.YtlmlneneakpohaaTMaQj
namespace Go.Proofs.Ytlmlneneakpohaa.OAll
open Go.RowKit Go.Proofs.YtlmlneneakpohaaW.PrintWords Go.Proofs.YtlmlneneakpohaaW.PrintLast Go.Proofs.YtlmlneneakpohaaW.PrintMore
set_option linter.unusedVariables false
set_option linter.unusedSimpArgs false
def loN (l : List S36) (j : Nat) : Nat := lo (nxt l) j l.length
theorem loN_low {l : List S36} {j : Nat} (hj : j < l.length) : Low (nxt l) j (loN l j) := (nxt_perm l).low hj
theorem loN_le {l : List S36} {j : Nat} (hj : j < l.length) : loN l j ≤ j := (loN_low hj).2 0
theorem loN_lt {l : List S36} {j : Nat} (hj : j < l.length) : loN l j < l.length := Nat.lt_of_le_of_lt (loN_le hj) hj
theorem loN_it {l : List S36} {j : Nat} (hj : j < l.length) (s : Nat) : loN l (it (nxt l) s j) = loN l j :=
  (loN_low ((nxt_perm l).lt hj s)).uniq (((nxt_perm l).low_same hj s _).mp (loN_low hj))
theorem loN_same {l : List S36} {i j : Nat} (hi : i < l.length) (hj : j < l.length) : loN l i = loN l j ↔ ∃ s, it (nxt l) s i = j := by
  constructor
  · intro e
    obtain ⟨a, ha⟩ := (loN_low hi).1
    obtain ⟨b, hb⟩ := (loN_low hj).1
    obtain ⟨t, ht⟩ := (nxt_perm l).sym hj b
    rw [hb, ← e, ← ha, ← it_add] at ht
    exact ⟨_, ht⟩
  · rintro ⟨s, rfl⟩; exact (loN_it hi s).symm
theorem ringI_rd {l : List S36} {j : Nat} (hj : j < l.length) : rd (ringI l) (j : Int) = (loN l j : Int) := by
  rw [rd_get (by rw [ringI_len]; exact hj)]
  simp [ringI, loN]
def baseR (l : List S36) (i j : Nat) : Int := if loN l j < i then (loN l j : Int) else -1
theorem base_next {l : List S36} {i : Nat} (hi : i < l.length) (h : loN l i < i) {j : Nat} (hj : j < l.length) : baseR l (i + 1) j = baseR l i j := by
  unfold baseR
  have : loN l j ≠ i := by
    intro e
    obtain ⟨s, hs⟩ := (loN_low hj).1
    have := loN_it hj s
    rw [hs, e] at this
    omega
  by_cases c : loN l j < i
  · rw [if_pos c, if_pos (by omega)]
  · rw [if_neg c, if_neg (by omega)]
theorem ringed_l2 (l : List S36) (hn : l.length ≤ 9) {r : List Int} {i p : Nat} (hi : i < l.length) (hlo : loN l i = i) (hp : 1 ≤ p) (hb : it (nxt l) p i = i) (hs : ∀ s, 1 ≤ s → s < p → it (nxt l) s i ≠ i)
    (hr : ∀ o : List Int, o.length = l.length → (∀ j, j < l.length → rd o (j : Int) = baseR l (i + 1) j) → Ev (fun k => trishawref06_ringed.l1 k l (matchI l) o ((i + 1 : Nat) : Int)) r) : ∀ (d t : Nat) (o : List Int), t + d = p → o.length = l.length → (∀ j, j < l.length → ((∃ s, s < t ∧ it (nxt l) s i = j) → rd o (j : Int) = (i : Int)) ∧ ((¬ ∃ s, s < t ∧ it (nxt l) s i = j) → rd o (j : Int) = baseR l i j)) →
    Ev (fun k => trishawref06_ringed.l2 k l (matchI l) o (i : Int) (it (nxt l) t i : Int)) r
  | 0, t, o, e, hl, ho => by
    refine Ev.succ ?_
    obtain rfl : t = p := by omega
    have h1 := (ho i hi).1 ⟨0, by omega, rfl⟩
    simp only [trishawref06_ringed.l2, hb, if_pos (show (0 : Int) ≤ (i : Int) by omega), if_pos (show (i : Int) < (o.length : Int) by omega), h1, if_neg (show ¬ (i : Int) < 0 by omega), w64s i (show i < 9223372036854775807 by omega)]
    refine hr o hl (fun j hj => ?_)
    by_cases c : ∃ s, s < t ∧ it (nxt l) s i = j
    · rw [(ho j hj).1 c]
      obtain ⟨s, _, rfl⟩ := c
      unfold baseR
      rw [loN_it hi s, hlo, if_pos (by omega)]
    · rw [(ho j hj).2 c]
      have : loN l j ≠ i := by
        intro e2
        have e3 : loN l i = loN l j := by rw [hlo, e2]
        obtain ⟨s, hs2⟩ := (loN_same hi hj).mp e3
        obtain ⟨s', h3, h4⟩ := it_mod hp hb s
        exact c ⟨s', h3, by rw [← h4, hs2]⟩
      unfold baseR
      by_cases c2 : loN l j < i
      · rw [if_pos c2, if_pos (by omega)]
      · rw [if_neg c2, if_neg (by omega)]
  | d + 1, t, o, e, hl, ho => by
    refine Ev.succ ?_
    have hlt := (nxt_perm l).lt hi t
    have hm := (match_rd hlt).1
    have hnew : ¬ ∃ s, s < t ∧ it (nxt l) s i = it (nxt l) t i := by
      rintro ⟨s, h1, h2⟩
      have e2 : it (nxt l) t i = it (nxt l) s (it (nxt l) (t - s) i) := by rw [← it_add]; congr 1; omega
      rw [e2] at h2
      exact hs (t - s) (by omega) (by omega) ((nxt_perm l).cancel hi ((nxt_perm l).lt hi _) s h2).symm
    have h1 := (ho _ hlt).2 hnew
    have h2 : baseR l i (it (nxt l) t i) = -1 := by
      unfold baseR; rw [loN_it hi t, hlo, if_neg (by omega)]
    have e1 : (nxt l (it (nxt l) t i) : Int) = (it (nxt l) (t + 1) i : Int) := rfl
    simp only [trishawref06_ringed.l2, if_pos (show (0 : Int) ≤ (it (nxt l) t i : Int) by omega), if_pos (show (it (nxt l) t i : Int) < (o.length : Int) by omega), h1, h2, if_pos (show (-1 : Int) < 0 by omega), matchI_len, if_pos (show (it (nxt l) t i : Int) < (l.length : Int) by omega), hm, Int.toNat_natCast, e1]
    refine ringed_l2 l hn hi hlo hp hb hs hr d (t + 1) (o.set (it (nxt l) t i) (i : Int)) (by omega) (by rw [List.length_set]; exact hl) (fun j hj => ?_)
    by_cases c : it (nxt l) t i = j
    · subst c
      exact ⟨fun _ => rd_set_same (by omega) _, fun hno => absurd ⟨t, by omega, rfl⟩ hno⟩
    · rw [rd_set_other (by omega) c]
      refine ⟨?_, fun hno => (ho j hj).2 (fun ⟨s, h3, h4⟩ => hno ⟨s, by omega, h4⟩)⟩
      rintro ⟨s, h3, h4⟩
      refine (ho j hj).1 ⟨s, ?_, h4⟩
      by_cases e5 : s = t
      · subst e5; exact absurd h4 c
      · omega
theorem ringed_l1 (l : List S36) (hn : l.length ≤ 9) : ∀ (d i : Nat) (o : List Int), i + d = l.length → o.length = l.length → (∀ j, j < l.length → rd o (j : Int) = baseR l i j) →
    Ev (fun k => trishawref06_ringed.l1 k l (matchI l) o (i : Int)) (ringI l)
  | 0, i, o, e, hl, ho => by
    refine Ev.succ ?_
    simp only [trishawref06_ringed.l1, if_neg (show ¬ (i : Int) < (l.length : Int) by omega)]
    rw [← ringI_of hl (fun j hj => ⟨loN l j, by rw [ho j hj, baseR, if_pos (by have := loN_lt hj; omega)], loN_low hj⟩)]
    exact Ev.pure _
  | d + 1, i, o, e, hl, ho => by
    refine Ev.succ ?_
    have hi : i < l.length := by omega
    simp only [trishawref06_ringed.l1, if_pos (show (i : Int) < (l.length : Int) by omega)]
    by_cases c : loN l i = i
    · obtain ⟨p, hp, hpn, hb, hs⟩ := (nxt_perm l).back hi
      have := ringed_l2 l hn hi c hp hb hs (fun o' h1 h2 => ringed_l1 l hn d (i + 1) o' (by omega) h1 h2) p 0 o (by omega) hl (fun j hj => ⟨fun ⟨s, h1, _⟩ => by omega, fun _ => ho j hj⟩)
      exact this
    · have hlt : loN l i < i := by have := loN_le hi; omega
      refine Ev.succ ?_
      have h1 : rd o (i : Int) = (loN l i : Int) := by rw [ho i hi, baseR, if_pos hlt]
      simp only [trishawref06_ringed.l2, if_pos (show (0 : Int) ≤ (i : Int) by omega), if_pos (show (i : Int) < (o.length : Int) by omega), h1, if_neg (show ¬ (loN l i : Int) < 0 by omega), w64s i (show i < 9223372036854775807 by omega)]
      exact ringed_l1 l hn d (i + 1) o (by omega) hl (fun j hj => by rw [ho j hj, base_next hi hlt hj])
theorem ringed_l0 (l : List S36) (hn : l.length ≤ 9) : ∀ (d i : Nat) (o : List Int), i + d = l.length → o.length = l.length → (∀ j, j < i → rd o (j : Int) = -1) →
    Ev (fun k => trishawref06_ringed.l0 k l (matchI l) o (i : Int)) (ringI l)
  | 0, i, o, e, hl, ho => by
    refine Ev.succ ?_
    simp only [trishawref06_ringed.l0, if_neg (show ¬ (i : Int) < (l.length : Int) by omega)]
    exact ringed_l1 l hn l.length 0 o (by omega) hl (fun j hj => by rw [ho j (by omega), baseR, if_neg (by omega)])
  | d + 1, i, o, e, hl, ho => by
    refine Ev.succ ?_
    simp only [trishawref06_ringed.l0, if_pos (show (i : Int) < (l.length : Int) by omega), if_pos (show (0 : Int) ≤ (i : Int) by omega), if_pos (show (i : Int) < (o.length : Int) by omega), Int.toNat_natCast, w64s i (show i < 9223372036854775807 by omega)]
    refine ringed_l0 l hn d (i + 1) _ (by omega) (by rw [List.length_set]; exact hl) (fun j hj => ?_)
    by_cases c : i = j
    · subst c; exact rd_set_same (by omega) _
    · rw [rd_set_other (by omega) c]; exact ho j (by omega)
theorem ringed_ev {l : List S36} {U D : Int} (h : Right l U D) : Ev (fun k => trishawref06_ringed.f k l) (ringI l) := by
  unfold trishawref06_ringed.f
  have h9 := h.len
  refine Ev.bind (rmatching_ev h) ?_
  simp only [if_pos (Int.natCast_nonneg l.length), Int.toNat_natCast, if_pos (show l.length ≤ 35184372088832 by omega)]
  exact ringed_l0 l h9.2 l.length 0 _ (by omega) (by simp) (fun j hj => by omega)
end Go.Proofs.Ytlmlneneakpohaa.OAll
