/- A part of the proof of 'stampPaid_holds', for every input, without a condition. -/
import Derived.Test.YthbalcbibmdpnaaSPdQc
import Derived.Test.YthbalcbibmdpnaaSPdRq
import Derived.Test.YthbalcbibmdpnaaSPdOAllx0
import Derived.Test.YthbalcbibmdpnaaSPdOAllx2
import Derived.Test.YthbalcbibmdpnaaSPdOAllx3
namespace Go.Proofs.Ythbalcbibmdpnaa.OAll
open Go.RowKit Go.Proofs.YthbalcbibmdpnaaW.PrintWords Go.Proofs.YthbalcbibmdpnaaW.PrintLast Go.Proofs.YthbalcbibmdpnaaW.PrintMore
set_option linter.unusedVariables false
set_option linter.unusedSimpArgs false
def bstep (P : List Int) (b v : Int) : Int := if v ≤ (P.length : Int) ∧ 0 ≤ rd P ((P.length : Int) - v) then min b (rd P ((P.length : Int) - v) + 1) else b
def shut (h b : Int) : Int := if b > h then -1 else b
def cellI (h : Int) (l P : List Int) : Int := shut h (l.foldl (bstep P) (h + 1))
def fwP (h : Int) (l : List Int) : Nat → List Int
  | 0 => [0]
  | n + 1 => fwP h l n ++ [cellI h l (fwP h l n)]
theorem fwP_len (h : Int) (l : List Int) : ∀ n, (fwP h l n).length = n + 1
  | 0 => rfl
  | n + 1 => by rw [fwP, List.length_append, fwP_len h l n]; rfl
def GoodP (h : Int) (P : List Int) : Prop := ∀ x ∈ P, -1 ≤ x ∧ x ≤ h
theorem goodP_rd {h : Int} {P : List Int} (g : GoodP h P) {j : Int} (h0 : 0 ≤ j) (h1 : j < P.length) : -1 ≤ rd P j ∧ rd P j ≤ h := by
  obtain ⟨k, rfl⟩ := Int.eq_ofNat_of_zero_le h0
  have hk : k < P.length := by omega
  have e : rd P (k : Int) = P[k] := rd_get hk
  have := g _ (List.getElem_mem hk)
  show -1 ≤ rd P (k : Int) ∧ rd P (k : Int) ≤ h
  rw [e]; exact this
theorem bstep_range {h : Int} {P : List Int} (g : GoodP h P) {b v : Int} (hv : 1 ≤ v) (hb : 0 ≤ b ∧ b ≤ h + 1) : 0 ≤ bstep P b v ∧ bstep P b v ≤ h + 1 := by
  unfold bstep
  split
  · rename_i hc
    have := goodP_rd g (j := (P.length : Int) - v) (by omega) (by omega)
    omega
  · exact hb
theorem fold_range {h : Int} {P : List Int} (g : GoodP h P) : ∀ (t : List Int) (b : Int), (∀ v ∈ t, 1 ≤ v) → 0 ≤ b ∧ b ≤ h + 1 → 0 ≤ t.foldl (bstep P) b ∧ t.foldl (bstep P) b ≤ h + 1
  | [], b, _, hb => hb
  | v :: t, b, hv, hb => fold_range g t _ (fun x hx => hv x (by simp [hx])) (bstep_range g (hv v (by simp)) hb)
theorem shut_range {h b : Int} (hb : 0 ≤ b) : -1 ≤ shut h b ∧ (0 ≤ h → shut h b ≤ h) := by
  unfold shut
  split <;> omega
theorem fwP_good {h : Int} (h0 : 0 ≤ h) {l : List Int} (hv : ∀ v ∈ l, 1 ≤ v) : ∀ n, GoodP h (fwP h l n)
  | 0 => fun x hx => by simp [fwP] at hx; omega
  | n + 1 => fun x hx => by
    rw [fwP, List.mem_append, List.mem_singleton] at hx
    rcases hx with hx | rfl
    · exact fwP_good h0 hv n x hx
    · have := fold_range (fwP_good h0 hv n) l (h + 1) hv (by omega)
      have := shut_range (h := h) this.1
      exact ⟨this.1, this.2 h0⟩
theorem rd_pre (P Z : List Int) (c j : Int) (h0 : 0 ≤ j) (h1 : j < P.length) : rd (P ++ c :: Z) j = rd P j := by
  obtain ⟨k, rfl⟩ := Int.eq_ofNat_of_zero_le h0
  have hk : k < P.length := by omega
  simp [rd, List.getElem?_append_left hk]
theorem set_mid (P Z : List Int) (c d : Int) : (P ++ c :: Z).set ((P.length : Int)).toNat d = P ++ d :: Z := by
  simp
theorem fewest_in (h : Int) (l P Z r : List Int) (hh : 0 ≤ h ∧ h ≤ 6) (hv : ∀ v ∈ l, 1 ≤ v ∧ v ≤ 200) (hl : l.length ≤ 6) (hP : P.length ≤ 2000) (g : GoodP h P) : ∀ (t s : List Int) (b : Int), l = s ++ t → (0 ≤ b ∧ b ≤ h + 1) →
    Ev (fun k => stamp_fewest.l0 k h l (P ++ shut h (t.foldl (bstep P) b) :: Z) (wrap64 ((P.length : Int) + 1))) r →
    Ev (fun k => stamp_fewest.l1 k h l (P ++ shut h b :: Z) (P.length : Int) l (l.length : Int) (s.length : Int)) r
  | [], s, b, hs, hb, hr => by
    refine Ev.succ ?_
    simp only [stamp_fewest.l1]
    have : ¬ (s.length : Int) < (l.length : Int) := by rw [hs]; simp
    simp only [if_neg this]
    exact hr
  | v :: t, s, b, hs, hb, hr => by
    have hi : (s.length : Int) < (l.length : Int) := by rw [hs]; simp; omega
    have hvl := hv v (by rw [hs]; simp)
    have hri : rd l (s.length : Int) = v := by rw [hs]; exact rd_mid s t v
    have hw1 : wrap64 ((s.length : Int) + 1) = (((s ++ [v]).length : Nat) : Int) := by rw [w64 (by omega) (by omega)]; simp
    have hs2 : l = (s ++ [v]) ++ t := by rw [hs]; simp
    have hbr := bstep_range g hvl.1 hb
    have ih := fewest_in h l P Z r hh hv hl hP g t (s ++ [v]) (bstep P b v) hs2 hbr hr
    rw [← hw1] at ih
    have hlen : ((P ++ shut h b :: Z).length : Int) = (P.length : Int) + 1 + (Z.length : Int) := by simp; omega
    refine Ev.succ ?_
    simp only [stamp_fewest.l1, hri]
    simp only [if_pos hi, if_pos (show (0 : Int) ≤ (s.length : Int) by omega)]
    by_cases c1 : v ≤ (P.length : Int)
    · have hw2 : wrap64 ((P.length : Int) - v) = (P.length : Int) - v := w64 (by omega) (by omega)
      have hrp := rd_pre P Z (shut h b) ((P.length : Int) - v) (by omega) (by omega)
      have hx := goodP_rd g (j := (P.length : Int) - v) (by omega) (by omega)
      simp only [if_pos c1, hw2, hrp]
      simp only [if_pos (show (0 : Int) ≤ (P.length : Int) - v by omega), if_pos (show (P.length : Int) - v < ((P ++ shut h b :: Z).length : Int) by omega)]
      obtain ⟨x, hxe⟩ : ∃ x, x = rd P ((P.length : Int) - v) := ⟨_, rfl⟩
      rw [← hxe] at hx
      by_cases c2 : x = -1
      · have e : bstep P b v = b := by unfold bstep; rw [← hxe, if_neg (by omega)]
        rw [e] at ih
        simp only [← hxe, if_pos c2]
        exact ih
      · have e : bstep P b v = min b (x + 1) := by unfold bstep; rw [← hxe, if_pos ⟨c1, by omega⟩]
        rw [e] at ih
        simp only [← hxe, if_neg c2]
        by_cases c3 : x < h
        · have hw3 : wrap64 (x + 1) = x + 1 := w64 (by omega) (by omega)
          have hra : rd (P ++ shut h b :: Z) (P.length : Int) = shut h b := rd_mid P Z (shut h b)
          simp only [if_pos c3, hra, hw3, set_mid]
          simp only [if_pos (show (0 : Int) ≤ (P.length : Int) by omega), if_pos (show (P.length : Int) < ((P ++ shut h b :: Z).length : Int) by omega)]
          by_cases c4 : shut h b = -1
          · have hbb : b > h := by unfold shut at c4; split at c4 <;> omega
            simp only [if_pos c4]
            rw [show min b (x + 1) = x + 1 by omega, show shut h (x + 1) = x + 1 by unfold shut; rw [if_neg (by omega)]] at ih
            exact ih
          · have hbb : ¬ b > h := fun hgt => c4 (by unfold shut; rw [if_pos hgt])
            have hsb : shut h b = b := by unfold shut; rw [if_neg hbb]
            simp only [if_neg c4]
            by_cases c5 : x + 1 < shut h b
            · simp only [if_pos c5]
              rw [show min b (x + 1) = x + 1 by omega, show shut h (x + 1) = x + 1 by unfold shut; rw [if_neg (by omega)]] at ih
              exact ih
            · simp only [if_neg c5]
              rw [show min b (x + 1) = b by omega] at ih
              exact ih
        · simp only [if_neg c3]
          rw [show min b (x + 1) = b by omega] at ih
          exact ih
    · have e : bstep P b v = b := by unfold bstep; rw [if_neg (fun h => c1 h.1)]
      rw [e] at ih
      simp only [if_neg c1]
      exact ih
theorem fewest_loop (h : Int) (l : List Int) (hh : 0 ≤ h ∧ h ≤ 6) (hv : ∀ v ∈ l, 1 ≤ v ∧ v ≤ 200) (hl : l.length ≤ 6) (N : Nat) (hN : N ≤ 1500) : ∀ d n : Nat, n + d = N →
    Ev (fun k => stamp_fewest.l0 k h l (fwP h l n ++ List.replicate d 0) ((n : Int) + 1)) (fwP h l N)
  | 0, n, hn => by
    refine Ev.succ ?_
    simp only [stamp_fewest.l0]
    have hlen := fwP_len h l n
    simp only [List.replicate_zero, List.append_nil]
    simp only [if_neg (show ¬ ((n : Int) + 1) < ((fwP h l n).length : Int) by omega)]
    rw [show N = n by omega]
    exact Ev.pure _
  | d + 1, n, hn => by
    have ih := fewest_loop h l hh hv hl N hN d (n + 1) (by omega)
    have hlen := fwP_len h l n
    have ht : ((n : Int) + 1).toNat = n + 1 := by omega
    have hset : (fwP h l n ++ List.replicate (d + 1) 0).set ((n : Int) + 1).toNat (-1) = fwP h l n ++ shut h (h + 1) :: List.replicate d 0 := by
      rw [ht, List.replicate_succ, ← hlen, List.set_append_right _ _ (Nat.le_refl _)]
      rw [show shut h (h + 1) = -1 by unfold shut; rw [if_pos (by omega)]]
      simp
    refine Ev.succ ?_
    simp only [stamp_fewest.l0, hset]
    simp only [if_pos (show ((n : Int) + 1) < ((fwP h l n ++ List.replicate (d + 1) 0).length : Int) by rw [List.length_append, List.length_replicate]; omega), if_pos (show (0 : Int) ≤ (n : Int) + 1 by omega)]
    have := fewest_in h l (fwP h l n) (List.replicate d 0) (fwP h l N) hh hv hl (by omega) (fwP_good hh.1 (fun v hx => (hv v hx).1) n) l [] (h + 1) rfl (by omega) (by
      rw [hlen, show wrap64 (((n + 1 : Nat) : Int) + 1) = ((n + 1 : Nat) : Int) + 1 from w64 (by omega) (by omega)]
      rw [fwP, List.append_assoc] at ih
      exact ih)
    rw [hlen] at this
    exact this
structure OkT (h : Int) (l : List Int) : Prop where
  h : 1 ≤ h ∧ h ≤ 6
  len : 1 ≤ l.length ∧ l.length ≤ 6
  val : ∀ v ∈ l, 1 ≤ v ∧ v ≤ 200
def topN (h : Int) (l : List Int) : Nat := (h * rd l ((l.length - 1 : Nat) : Int)).toNat
theorem OkT.last {h : Int} {l : List Int} (o : OkT h l) : 1 ≤ rd l ((l.length - 1 : Nat) : Int) ∧ rd l ((l.length - 1 : Nat) : Int) ≤ 200 := by
  have := o.len
  have hk : l.length - 1 < l.length := by omega
  rw [rd_get hk]
  exact o.val _ (List.getElem_mem hk)
theorem OkT.top {h : Int} {l : List Int} (o : OkT h l) : h * rd l ((l.length - 1 : Nat) : Int) = (topN h l : Int) ∧ topN h l ≤ 1200 ∧ 1 ≤ topN h l := by
  have h1 := o.last
  have h2 := o.h
  have e1 : h * rd l ((l.length - 1 : Nat) : Int) ≤ 6 * 200 := Int.mul_le_mul h2.2 h1.2 (by omega) (by omega)
  have e2 : 1 * 1 ≤ h * rd l ((l.length - 1 : Nat) : Int) := Int.mul_le_mul h2.1 h1.1 (by omega) (by omega)
  unfold topN
  omega
def fewI (h : Int) (l : List Int) : List Int := fwP h l (topN h l)
theorem fewest_ev {h : Int} {l : List Int} (o : OkT h l) : Ev (fun k => stamp_fewest.f k h l) (fewI h l) := by
  have hl := o.len
  obtain ⟨e, ht, ht1⟩ := o.top
  have hw1 : wrap64 ((l.length : Int) - 1) = ((l.length - 1 : Nat) : Int) := by rw [w64 (by omega) (by omega)]; omega
  have hw2 : wrap64 ((topN h l : Nat) : Int) = ((topN h l : Nat) : Int) := w64n _ (by omega)
  have hw3 : wrap64 (((topN h l : Nat) : Int) + 1) = ((topN h l + 1 : Nat) : Int) := w64s _ (by omega)
  unfold stamp_fewest.f
  simp only [hw1, e, hw2, hw3]
  simp only [if_pos (show (0 : Int) ≤ ((l.length - 1 : Nat) : Int) by omega), if_pos (show ((l.length - 1 : Nat) : Int) < (l.length : Int) by omega), if_pos (show (0 : Int) ≤ ((topN h l + 1 : Nat) : Int) by omega), if_pos (show (((topN h l + 1 : Nat) : Int)).toNat ≤ 35184372088832 by omega)]
  have := fewest_loop h l ⟨by have := o.h; omega, o.h.2⟩ o.val hl.2 (topN h l) (by omega) (topN h l) 0 (by omega)
  rw [show (((topN h l + 1 : Nat) : Int)).toNat = topN h l + 1 by omega, List.replicate_succ]
  simpa [fwP, fewI] using this
end Go.Proofs.Ythbalcbibmdpnaa.OAll
