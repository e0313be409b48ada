/- A part of the proof of 'stampPaid_holds', for every input, without a condition. -/
import Derived.Test.YthbalcbibmdpnaaSPdQj
namespace Go.Proofs.Ythbalcbibmdpnaa.OAll
open Go.RowKit Go.Proofs.YthbalcbibmdpnaaW.PrintWords Go.Proofs.YthbalcbibmdpnaaW.PrintLast Go.Proofs.YthbalcbibmdpnaaW.PrintMore
set_option linter.unusedVariables false
set_option linter.unusedSimpArgs false
def scan {β : Type} (f : Nat → Option β) (lo : Nat) : Nat → Option β
  | 0 => none
  | d + 1 => match f (lo + d) with
    | some y => some y
    | none => scan f lo d
theorem scan_congr {β : Type} {f g : Nat → Option β} {lo lo' : Nat} : ∀ d, (∀ j, j < d → f (lo + j) = g (lo' + j)) → scan f lo d = scan g lo' d
  | 0, _ => rfl
  | d + 1, h => by
    rw [scan, scan, h d (by omega), scan_congr d (fun j hj => h j (by omega))]
theorem scan_some {β : Type} {f : Nat → Option β} {lo : Nat} {y : β} : ∀ d, scan f lo d = some y → ∃ j, j < d ∧ f (lo + j) = some y
  | 0, h => by cases h
  | d + 1, h => by
    rw [scan] at h
    split at h
    · rename_i z hz
      exact ⟨d, by omega, by rw [hz]; exact h⟩
    · obtain ⟨j, hj, e⟩ := scan_some d h
      exact ⟨j, by omega, e⟩
theorem scan_isSome {β : Type} {f : Nat → Option β} {lo : Nat} : ∀ d j, j < d → (f (lo + j)).isSome = true → (scan f lo d).isSome = true
  | 0, j, h, _ => by omega
  | d + 1, j, h, e => by
    rw [scan]
    split
    · rfl
    · rename_i hn
      refine scan_isSome d j ?_ e
      rcases Nat.eq_or_lt_of_le (show j ≤ d by omega) with rfl | hlt
      · rw [hn] at e; cases e
      · exact hlt
theorem head_scan {β : Type} (G : Nat → List β) : ∀ n, (((List.range n).map (fun k => G (n - 1 - k))).flatten).head? = scan (fun j => (G j).head?) 0 n
  | 0 => rfl
  | n + 1 => by
    have ih := head_scan G n
    rw [List.range_succ_eq_map, List.map_cons, List.flatten_cons, List.head?_append, List.map_map, scan, Nat.zero_add]
    have e : ((fun k => G (n + 1 - 1 - k)) ∘ Nat.succ) = fun k => G (n - 1 - k) := by
      funext k
      show G (n + 1 - 1 - (k + 1)) = G (n - 1 - k)
      congr 1; omega
    rw [e, ih, show n + 1 - 1 - 0 = n by omega]
    cases (G n).head? <;> rfl
def exN (v : List Int) : Nat → Nat → Int → Option (List Int)
  | 0, _, a => if a = 0 then some [] else none
  | m + 1, lo, a => scan (fun i => if rd v (i : Int) > a then none else (exN v m i (a - rd v (i : Int))).map (rd v (i : Int) :: ·)) lo (v.length - lo)
theorem Asc.le {v : List Int} (s : Asc v) {i j : Nat} (h : i ≤ j) (hj : j < v.length) : rd v (i : Int) ≤ rd v (j : Int) := by
  rcases Nat.eq_or_lt_of_le h with rfl | hlt
  · exact Int.le_refl _
  · exact Int.le_of_lt (s.lt j i hlt hj)
theorem exN_sound {v : List Int} (s : Asc v) : ∀ (m lo : Nat) (a : Int) (l : List Int), lo < v.length → exN v m lo a = some l →
    l.length = m ∧ (m : Int) * rd v (lo : Int) ≤ a ∧ a ≤ (m : Int) * rd v ((v.length - 1 : Nat) : Int) ∧ SumN v m a
  | 0, lo, a, l, _, h => by
    rw [exN] at h
    split at h
    · rename_i e
      cases h
      exact ⟨rfl, by simp [e], by simp [e], e⟩
    · cases h
  | m + 1, lo, a, l, hlo, h => by
    rw [exN] at h
    obtain ⟨j, hj, e⟩ := scan_some _ h
    split at e
    · cases e
    · obtain ⟨l', hl', e⟩ := Option.map_eq_some_iff.mp e
      obtain ⟨h1, h2, h3, h4⟩ := exN_sound s m (lo + j) _ l' (by omega) hl'
      have g1 := s.le (show lo ≤ lo + j by omega) (by omega)
      have g2 := s.le (show lo + j ≤ v.length - 1 by omega) (by omega)
      have m1 : (m : Int) * rd v (lo : Int) ≤ (m : Int) * rd v ((lo + j : Nat) : Int) := Int.mul_le_mul_of_nonneg_left g1 (by omega)
      have p1 : ((m + 1 : Nat) : Int) * rd v (lo : Int) = (m : Int) * rd v (lo : Int) + rd v (lo : Int) := by grind
      have p2 : ((m + 1 : Nat) : Int) * rd v ((v.length - 1 : Nat) : Int) = (m : Int) * rd v ((v.length - 1 : Nat) : Int) + rd v ((v.length - 1 : Nat) : Int) := by grind
      refine ⟨by rw [← e]; simp [h1], by omega, by omega, ⟨_, rd_mem (show lo + j < v.length by omega), h4⟩⟩
theorem enum_head {v : List Int} (s : Asc v) : ∀ (m lo : Nat) (a : Int), lo < v.length → (enumL v m lo a).head? = exN v m lo a
  | 0, lo, a, _ => by
    rw [enumL, exN]
    split <;> rfl
  | m + 1, lo, a, hlo => by
    have hl := s.len
    have e1 : (enumL v (m + 1) lo a) = ((List.range (v.length - lo)).map (fun k => enF v m lo a (((v.length - lo - 1 - k : Nat) : Int), rd (v.drop lo) ((v.length - lo - 1 - k : Nat) : Int)))).flatten := by
      rw [enum_succ, List.flatMap_def, bw, List.map_map, List.length_drop]
      rfl
    rw [e1, head_scan (fun j => enF v m lo a ((j : Int), rd (v.drop lo) (j : Int))), exN]
    refine scan_congr _ (fun j hj => ?_)
    have hij : lo + j < v.length := by omega
    have ih := enum_head s m (lo + j) (a - rd v ((lo + j : Nat) : Int)) hij
    have hv := s.range (lo + j) hij
    rw [Nat.zero_add, rd_drop]
    unfold enF
    simp only [Int.toNat_natCast]
    have p1 : ((m + 1 : Nat) : Int) * rd v ((lo + j : Nat) : Int) = (m : Int) * rd v ((lo + j : Nat) : Int) + rd v ((lo + j : Nat) : Int) := by grind
    have p0 : 0 ≤ (m : Int) * rd v ((lo + j : Nat) : Int) := Int.mul_nonneg (by omega) (by omega)
    have p2 : ((m + 1 : Nat) : Int) * rd v ((v.length - 1 : Nat) : Int) = (m : Int) * rd v ((v.length - 1 : Nat) : Int) + rd v ((v.length - 1 : Nat) : Int) := by grind
    have g2 := s.le (show lo + j ≤ v.length - 1 by omega) (by omega)
    by_cases c : a < ((m + 1 : Nat) : Int) * rd v ((lo + j : Nat) : Int) ∨ ((m + 1 : Nat) : Int) * rd v ((v.length - 1 : Nat) : Int) < a
    · rw [if_pos c]
      split
      · rfl
      · cases hx : exN v m (lo + j) (a - rd v ((lo + j : Nat) : Int)) with
        | none => rfl
        | some l' =>
          obtain ⟨_, q1, q2, _⟩ := exN_sound s m (lo + j) _ l' hij hx
          rcases c with c | c <;> omega
    · rw [if_neg c, if_neg (by omega), List.head?_map, ih]
def SumF (v : List Int) : Nat → Nat → Int → Prop
  | 0, _, a => a = 0
  | m + 1, lo, a => ∃ i, lo ≤ i ∧ i < v.length ∧ SumF v m i (a - rd v (i : Int))
theorem SumF.insert {v : List Int} : ∀ (m lo j : Nat) (a : Int), lo ≤ j → j < v.length → SumF v m lo a → SumF v (m + 1) lo (a + rd v (j : Int))
  | 0, lo, j, a, hl, hj, h => ⟨j, hl, hj, by
      have : a = 0 := h
      show a + rd v (j : Int) - rd v (j : Int) = 0
      omega⟩
  | m + 1, lo, j, a, hl, hj, ⟨i, h1, h2, h3⟩ => by
    by_cases c : j ≤ i
    · refine ⟨j, hl, hj, i, c, h2, ?_⟩
      rw [show a + rd v (j : Int) - rd v (j : Int) - rd v (i : Int) = a - rd v (i : Int) by omega]
      exact h3
    · refine ⟨i, h1, h2, ?_⟩
      have := SumF.insert m i j _ (by omega) hj h3
      rw [show a - rd v (i : Int) + rd v (j : Int) = a + rd v (j : Int) - rd v (i : Int) by omega] at this
      exact this
theorem SumN.toF {v : List Int} : ∀ (m : Nat) (a : Int), SumN v m a → SumF v m 0 a
  | 0, _, h => h
  | m + 1, a, ⟨x, hx, h⟩ => by
    obtain ⟨j, hj, rfl⟩ := mem_rd hx
    have := SumF.insert m 0 j _ (Nat.zero_le _) hj (SumN.toF m _ h)
    rw [show a - rd v (j : Int) + rd v (j : Int) = a by omega] at this
    exact this
theorem SumF.nonneg {v : List Int} (s : Asc v) : ∀ (m lo : Nat) (a : Int), SumF v m lo a → 0 ≤ a
  | 0, _, a, h => by have : a = 0 := h; omega
  | m + 1, lo, a, ⟨i, h1, h2, h3⟩ => by
    have := SumF.nonneg s m i _ h3
    have := s.range i h2
    omega
theorem exN_complete {v : List Int} (s : Asc v) : ∀ (m lo : Nat) (a : Int), SumF v m lo a → (exN v m lo a).isSome = true
  | 0, _, a, h => by rw [exN, if_pos (show a = 0 from h)]; rfl
  | m + 1, lo, a, ⟨i, h1, h2, h3⟩ => by
    rw [exN]
    refine scan_isSome _ (i - lo) (by omega) ?_
    rw [show lo + (i - lo) = i by omega, if_neg (by have := SumF.nonneg s m i _ h3; omega), Option.isSome_map]
    exact exN_complete s m i _ h3
theorem exN_iff {v : List Int} (s : Asc v) (m : Nat) (a : Int) : (exN v m 0 a).isSome = true ↔ SumN v m a := by
  constructor
  · intro h
    obtain ⟨l, e⟩ := Option.isSome_iff_exists.mp h
    exact (exN_sound s m 0 a l (by have := s.len; omega) e).2.2.2
  · exact fun h => exN_complete s m 0 a (SumN.toF m a h)
end Go.Proofs.Ythbalcbibmdpnaa.OAll
