/- A part of the proof of 'stampPaid_holds', for every input, without a condition. -/
import Derived.Test.YthbalcbibmdpnaaSPdQg
namespace Go.Proofs.Ythbalcbibmdpnaa.OAll
open Go.RowKit Go.Proofs.YthbalcbibmdpnaaW.PrintWords Go.Proofs.YthbalcbibmdpnaaW.PrintLast Go.Proofs.YthbalcbibmdpnaaW.PrintMore
set_option linter.unusedVariables false
set_option linter.unusedSimpArgs false
def SumN (l : List Int) : Nat → Int → Prop
  | 0, a => a = 0
  | m + 1, a => ∃ v, v ∈ l ∧ SumN l m (a - v)
theorem SumN.nonneg {l : List Int} (hl : ∀ v ∈ l, 0 ≤ v) : ∀ (m : Nat) (a : Int), SumN l m a → 0 ≤ a
  | 0, a, h => by unfold SumN at h; omega
  | m + 1, a, h => by
    obtain ⟨v, hv, h⟩ := h
    have := SumN.nonneg hl m _ h
    have := hl v hv
    omega
theorem SumN.add {l : List Int} : ∀ (m n : Nat) (a b : Int), SumN l m a → SumN l n b → SumN l (m + n) (a + b)
  | 0, n, a, b, h, k => by
    have : a = 0 := h
    rw [this, Nat.zero_add, Int.zero_add]; exact k
  | m + 1, n, a, b, h, k => by
    obtain ⟨v, hv, h⟩ := h
    have := SumN.add m n _ b h k
    rw [show m + 1 + n = (m + n) + 1 by omega]
    exact ⟨v, hv, by rw [show a + b - v = a - v + b by omega]; exact this⟩
theorem SumN.zeros {l : List Int} : ∀ (m : Nat) (a : Int), SumN (0 :: l) m a ↔ ∃ k, k ≤ m ∧ SumN l k a
  | 0, a => by
    constructor
    · exact fun h => ⟨0, Nat.le_refl _, h⟩
    · rintro ⟨k, hk, h⟩
      obtain rfl : k = 0 := by omega
      exact h
  | m + 1, a => by
    constructor
    · rintro ⟨v, hv, h⟩
      obtain ⟨k, hk, h⟩ := (SumN.zeros m _).1 h
      rcases List.mem_cons.mp hv with rfl | hv
      · exact ⟨k, by omega, by rw [show a = a - 0 by omega]; exact h⟩
      · exact ⟨k + 1, by omega, v, hv, h⟩
    · rintro ⟨k, hk, h⟩
      cases k with
      | zero => exact ⟨0, by simp, (SumN.zeros m _).2 ⟨0, by omega, by rw [show a - 0 = a by omega]; exact h⟩⟩
      | succ k =>
        obtain ⟨v, hv, h⟩ := h
        exact ⟨v, by simp [hv], (SumN.zeros m _).2 ⟨k, by omega, h⟩⟩
def Says (h : Int) (l : List Int) (a c : Int) : Prop := -1 ≤ c ∧ c ≤ h ∧ (0 ≤ c → SumN l c.toNat a ∧ ∀ m, m < c.toNat → ¬ SumN l m a) ∧ (c < 0 → ∀ m : Nat, (m : Int) ≤ h → ¬ SumN l m a)
theorem fold_least (P : List Int) : ∀ (t : List Int) (b : Int), t.foldl (bstep P) b ≤ b ∧ (∀ v ∈ t, v ≤ (P.length : Int) → 0 ≤ rd P ((P.length : Int) - v) → t.foldl (bstep P) b ≤ rd P ((P.length : Int) - v) + 1) ∧
    (t.foldl (bstep P) b = b ∨ ∃ v ∈ t, v ≤ (P.length : Int) ∧ 0 ≤ rd P ((P.length : Int) - v) ∧ t.foldl (bstep P) b = rd P ((P.length : Int) - v) + 1)
  | [], b => ⟨Int.le_refl _, fun v hv => (List.not_mem_nil hv).elim, .inl rfl⟩
  | v :: t, b => by
    obtain ⟨h1, h2, h3⟩ := fold_least P t (bstep P b v)
    have hb : bstep P b v ≤ b := by unfold bstep; split <;> omega
    refine ⟨Int.le_trans h1 hb, fun x hx hxl hx0 => ?_, ?_⟩
    · rcases List.mem_cons.mp hx with rfl | hx
      · refine Int.le_trans h1 ?_
        unfold bstep
        rw [if_pos ⟨hxl, hx0⟩]
        omega
      · exact h2 x hx hxl hx0
    · rcases h3 with h3 | ⟨x, hx, hxl, hx0, hxe⟩
      · rw [List.foldl_cons, h3]
        unfold bstep
        split
        · rename_i hc
          by_cases hm : b ≤ rd P ((P.length : Int) - v) + 1
          · exact .inl (by omega)
          · exact .inr ⟨v, by simp, hc.1, hc.2, by omega⟩
        · exact .inl rfl
      · exact .inr ⟨x, by simp [hx], hxl, hx0, hxe⟩
theorem cell_says {h : Int} (h0 : 0 ≤ h) {l P : List Int} (hv : ∀ v ∈ l, 1 ≤ v) (hP : 1 ≤ P.length) (hs : ∀ j : Int, 0 ≤ j → j < (P.length : Int) → Says h l j (rd P j)) : Says h l (P.length : Int) (cellI h l P) := by
  obtain ⟨f1, f2, f3⟩ := fold_least P l (h + 1)
  have key : ∀ m : Nat, (m : Int) ≤ h → SumN l m (P.length : Int) → l.foldl (bstep P) (h + 1) ≤ m := by
    intro m hm hS
    cases m with
    | zero => have : (P.length : Int) = 0 := hS; omega
    | succ m =>
      obtain ⟨v, hvl, hS⟩ := hS
      have hn := SumN.nonneg (fun v hv' => by have := hv v hv'; omega) m _ hS
      have hv1 := hv v hvl
      obtain ⟨_, _, g3, g4⟩ := hs ((P.length : Int) - v) hn (by omega)
      by_cases c : 0 ≤ rd P ((P.length : Int) - v)
      · have h1 := f2 v hvl (by omega) c
        have h2 : ¬ m < (rd P ((P.length : Int) - v)).toNat := fun hlt => (g3 c).2 m hlt hS
        omega
      · exact absurd hS (g4 (by omega) m (by omega))
  unfold cellI shut
  split
  · rename_i hgt
    exact ⟨by omega, by omega, fun hc => by omega, fun _ m hm hS => by have := key m hm hS; omega⟩
  · rename_i hle
    rcases f3 with f3 | ⟨v, hvl, hvP, hv0, hve⟩
    · omega
    · obtain ⟨_, _, g3, _⟩ := hs ((P.length : Int) - v) (by omega) (by have := hv v hvl; omega)
      refine ⟨by omega, by omega, fun _ => ⟨?_, fun m hm hS => ?_⟩, fun hc => by omega⟩
      · rw [hve, show (rd P ((P.length : Int) - v) + 1).toNat = (rd P ((P.length : Int) - v)).toNat + 1 by omega]
        exact ⟨v, hvl, (g3 hv0).1⟩
      · have := key m (by omega) hS
        omega
theorem fwP_says {h : Int} (h0 : 0 ≤ h) {l : List Int} (hv : ∀ v ∈ l, 1 ≤ v) : ∀ (n : Nat) (j : Int), 0 ≤ j → j < ((fwP h l n).length : Int) → Says h l j (rd (fwP h l n) j)
  | 0, j, hj, hlt => by
    simp [fwP] at hlt
    obtain rfl : j = 0 := by omega
    show Says h l 0 0
    exact ⟨by omega, h0, fun _ => ⟨rfl, fun m hm => by simp at hm⟩, fun hc => by omega⟩
  | n + 1, j, hj, hlt => by
    have hlen := fwP_len h l n
    have hlen1 := fwP_len h l (n + 1)
    by_cases c : j < ((fwP h l n).length : Int)
    · rw [fwP, rd_pre _ _ _ _ hj c]
      exact fwP_says h0 hv n j hj c
    · have hje : j = ((fwP h l n).length : Int) := by omega
      rw [hje, fwP, rd_mid]
      exact cell_says h0 hv (by omega) (fun i hi hil => fwP_says h0 hv n i hi hil)
theorem fewI_len (h : Int) (l : List Int) : (fewI h l).length = topN h l + 1 := fwP_len h l _
theorem fewI_says {h : Int} {l : List Int} (o : OkT h l) {j : Int} (h0 : 0 ≤ j) (h1 : j ≤ (topN h l : Int)) : Says h l j (rd (fewI h l) j) :=
  fwP_says (by have := o.h; omega) (fun v hv => (o.val v hv).1) _ j h0 (by have := fewI_len h l; unfold fewI at this; omega)
theorem fewI_pays {h : Int} {l : List Int} (o : OkT h l) {j : Int} (h0 : 0 ≤ j) (h1 : j ≤ (topN h l : Int)) : 0 ≤ rd (fewI h l) j ↔ SumN (0 :: l) h.toNat j := by
  obtain ⟨_, s2, s3, s4⟩ := fewI_says o h0 h1
  have hh := o.h
  rw [SumN.zeros]
  constructor
  · intro c
    exact ⟨_, by omega, (s3 c).1⟩
  · rintro ⟨k, hk, hS⟩
    rcases Int.lt_or_le (rd (fewI h l) j) 0 with c | c
    · exact absurd hS (s4 c k (by omega))
    · exact c
end Go.Proofs.Ythbalcbibmdpnaa.OAll
