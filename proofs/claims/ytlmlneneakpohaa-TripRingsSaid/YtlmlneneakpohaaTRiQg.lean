/- A part of the proof of 'tripRings_holds', for every input, without a condition. -/
import Derived.Test.YtlmlneneakpohaaTRiQd
import Derived.Test.YtlmlneneakpohaaTRiOAllx0
import Derived.Test.YtlmlneneakpohaaTRiOAllx3
import Derived.Test.YtlmlneneakpohaaTRiOAllx5
import Derived.Test.YtlmlneneakpohaaTRiOAllx9
import Derived.Test.YtlmlneneakpohaaTRiOAllx4
import Derived.Test.YtlmlneneakpohaaTRiOAllx8
import Derived.Test.YtlmlneneakpohaaTRiOAllx2
namespace Go.Proofs.Ytlmlneneakpohaa.OAll
open Go.RowKit Go.Proofs.YtlmlneneakpohaaW.PrintWords Go.Proofs.YtlmlneneakpohaaW.PrintLast Go.Proofs.YtlmlneneakpohaaW.PrintMore
set_option linter.unusedVariables false
set_option linter.unusedSimpArgs false
def inN (n : Nat) (o : List Int) : Prop := ∀ x ∈ o, 0 ≤ x ∧ x < (n : Int)
theorem insI_perm (lt : Int → Int → Bool) (x : Int) : ∀ A B, (insI lt x A B).Perm (x :: (A.reverse ++ B))
  | [], B => by simp [insI]
  | p :: A, B => by
    rw [insI]
    split
    · refine (insI_perm lt x A (p :: B)).trans ?_
      simp only [List.reverse_cons, List.append_assoc, List.singleton_append]
      exact List.Perm.refl _
    · have : (A.reverse ++ p :: x :: B).Perm (x :: (A.reverse ++ p :: B)) := by
        refine List.perm_middle.trans ?_
        refine (List.Perm.cons _ List.perm_middle).trans ?_
        refine (List.Perm.swap _ _ _).trans ?_
        exact List.Perm.cons _ List.perm_middle.symm
      simpa using this
theorem isortI_perm (lt : Int → Int → Bool) : ∀ (t acc : List Int), (isortI lt acc t).Perm (acc ++ t)
  | [], acc => by simp [isortI]
  | x :: t, acc => by
    rw [isortI]
    refine (isortI_perm lt t _).trans ?_
    have h1 : (insI lt x acc.reverse []).Perm (acc ++ [x]) := by
      refine (insI_perm lt x acc.reverse []).trans ?_
      simp only [List.reverse_reverse, List.append_nil]
      exact (List.perm_append_singleton x acc).symm
    have := h1.append_right t
    simpa using this
theorem sortI_perm (e : Bool) (l : List S36) : (sortI e l).Perm (upTo l.length) := by
  have := isortI_perm (ltC e l) (upTo l.length) []
  simpa [sortI] using this
theorem sortI_in (e : Bool) (l : List S36) : inN l.length (sortI e l) := fun x hx => upTo_in l x ((sortI_perm e l).mem_iff.mp hx)
theorem upTo_nodup (n : Nat) : (upTo n).Nodup := by
  unfold upTo
  rw [List.nodup_iff_pairwise_ne, List.pairwise_map]
  exact (List.nodup_iff_pairwise_ne.mp List.nodup_range).imp (fun h => by omega)
theorem sortI_nodup (e : Bool) (l : List S36) : (sortI e l).Nodup := (sortI_perm e l).nodup_iff.mpr (upTo_nodup _)
theorem sorted_eq {l : List S36} {U D : Int} (h : Right l U D) (k : Nat) : trip_sorted.f k l 777000063 = some (sortI true l) ∧ trip_sorted.f k l 777000067 = some (sortI false l) := by
  have := h.len
  unfold trip_sorted.f
  rw [if_pos (by omega), if_pos (by omega)]
  exact ⟨rfl, rfl⟩
def placeI : List Int → List Int → List Int → List Int
  | m, t :: T, f :: F => placeI (m.set t.toNat f) T F
  | m, _, _ => m
def matchI (l : List S36) : List Int := placeI (List.replicate l.length 0) (sortI true l) (sortI false l)
theorem match_l0 (n : Nat) (hn : n ≤ 9) : ∀ (T F pT pF m : List Int), T.length = F.length → pT.length = pF.length → (pT ++ T).length = n → m.length = n → inN n (pT ++ T) →
    Ev (fun k => trip_matching.l0 k m (pF ++ F) (pT ++ T) ((pT ++ T).length : Int) (pT.length : Int)) (placeI m T F)
  | [], F, pT, pF, m, h1, h2, h3, h4, h5 => by
    refine Ev.succ ?_
    have : F = [] := List.eq_nil_of_length_eq_zero h1.symm
    subst this
    simp only [trip_matching.l0, if_neg (mid_end pT)]
    exact Ev.pure _
  | t :: T, [], pT, pF, m, h1, h2, h3, h4, h5 => by simp at h1
  | t :: T, f :: F, pT, pF, m, h1, h2, h3, h4, h5 => by
    refine Ev.succ ?_
    have ht := h5 t (by simp)
    have e1 := mid_lt pT T t
    have e2 : wrap64 ((pT.length : Int) + 1) = (((pT ++ [t]).length : Nat) : Int) := mid_next pT T t (by omega)
    have e3 : (pT.length : Int) < ((pF ++ f :: F).length : Int) := by rw [h2]; exact mid_lt pF F f
    have e4 : rd (pF ++ f :: F) (pT.length : Int) = f := by rw [h2]; exact rd_mid pF F f
    have ih := match_l0 n hn T F (pT ++ [t]) (pF ++ [f]) (m.set t.toNat f) (by simpa using h1) (by simp [h2]) (by simpa using h3) (by simpa using h4) (by rw [← mid_assoc]; exact h5)
    rw [← mid_assoc, ← mid_assoc] at ih
    simp only [trip_matching.l0, if_pos e1, if_pos (nonneg_len pT), if_pos e3, rd_mid, e4, if_pos ht.1, if_pos (show t < (m.length : Int) by omega), e2, placeI]
    exact ih
theorem matching_ev {l : List S36} {U D : Int} (h : Right l U D) : Ev (fun k => trip_matching.f k l) (matchI l) := by
  unfold trip_matching.f
  have h9 := h.len
  simp only [if_pos (Int.natCast_nonneg l.length), Int.toNat_natCast, if_pos (show l.length ≤ 35184372088832 by omega), (sorted_eq h _).1, (sorted_eq h _).2, Option.bind_some]
  exact match_l0 l.length h9.2 (sortI true l) (sortI false l) [] [] _ (by rw [sortI_len, sortI_len]) rfl (by simp [sortI_len]) (by simp) (by simpa using sortI_in true l)
theorem placeI_len : ∀ (T F m : List Int), (placeI m T F).length = m.length
  | [], F, m => by simp [placeI]
  | t :: T, [], m => by simp [placeI]
  | t :: T, f :: F, m => by rw [placeI, placeI_len T F]; simp
theorem matchI_len (l : List S36) : (matchI l).length = l.length := by rw [matchI, placeI_len]; simp
theorem placeI_in (n : Nat) : ∀ (T F m : List Int), inN n F → inN n m → inN n (placeI m T F)
  | [], F, m, h1, h2 => by simpa [placeI] using h2
  | t :: T, [], m, h1, h2 => by simpa [placeI] using h2
  | t :: T, f :: F, m, h1, h2 => by
    rw [placeI]
    refine placeI_in n T F _ (fun x hx => h1 x (by simp [hx])) (fun x hx => ?_)
    rcases List.mem_or_eq_of_mem_set hx with h | rfl
    · exact h2 x h
    · exact h1 x (by simp)
theorem matchI_in {l : List S36} (hl : 1 ≤ l.length) : inN l.length (matchI l) := placeI_in _ _ _ _ (sortI_in false l) (fun x hx => by have := (List.mem_replicate.mp hx).2; omega)
def worthE (l : List S36) (U D : Int) (j : Nat) : Int := emp l U D (j : Int) (rd (matchI l) (j : Int))
def worthI (l : List S36) (U D : Int) : Int := sumE (worthE l U D) l.length
theorem worthE_bound {l : List S36} {U D : Int} (h : Right l U D) {j : Nat} (hj : j < l.length) : 0 ≤ worthE l U D j ∧ worthE l U D j ≤ 1000000 := by
  have := matchI_in h.len.1 _ (rd_mem (show j < (matchI l).length by rw [matchI_len]; exact hj))
  exact emp_bound h (by omega) (by omega) this.1 this.2
theorem Match_l0 {l : List S36} {U D : Int} (h : Right l U D) (x9 : List Int) : ∀ r j : Nat, j + r = l.length →
    Ev (fun k => trip_Matching.l0 k x9 (sumE (worthE l U D) j) (matchI l) ((matchI l).length : Int) (j : Int) U D l) (x9, worthI l U D, 0)
  | 0, j, e => by
    refine Ev.succ ?_
    simp only [trip_Matching.l0, matchI_len, if_neg (show ¬ (j : Int) < (l.length : Int) by omega)]
    rw [show j = l.length by omega]; exact Ev.pure _
  | r + 1, j, e => by
    refine Ev.succ ?_
    have h9 := h.len
    have hj : j < l.length := by omega
    have b1 := worthE_bound h hj
    have b2 := sumE_bound (f := worthE l U D) (B := 1000000) j (fun i hi => worthE_bound h (by omega))
    have hm := matchI_in h.len.1 _ (rd_mem (show j < (matchI l).length by rw [matchI_len]; exact hj))
    have ih := Match_l0 h x9 r (j + 1) (by omega)
    have e0 : trip_day_empty.f U D l (j : Int) (rd (matchI l) (j : Int)) = some (worthE l U D j) := dempty_eq h (by omega) (by omega) hm.1 hm.2
    have e1 : wrap64 (sumE (worthE l U D) j + worthE l U D j) = sumE (worthE l U D) (j + 1) := by rw [w64 (by omega) (by omega)]; rfl
    rw [matchI_len] at ih
    simp only [trip_Matching.l0, matchI_len, if_pos (show (j : Int) < (l.length : Int) by omega), if_pos (show (0 : Int) ≤ (j : Int) by omega), e0, Option.bind_some, e1, w64s j (by omega)]
    exact ih
def matchR (l : List S36) (U D : Int) : List Int × Int × Int := if dayE l U D = 0 then (matchI l, worthI l U D, 0) else ([], 0, dayE l U D)
theorem Matching_ev (l : List S36) (U D : Int) : Ev (fun k => trip_Matching.f k l U D) (matchR l U D) := by
  unfold trip_Matching.f matchR
  simp only [read_eq, Option.bind_some]
  by_cases c : dayE l U D = 0
  · simp only [if_pos c]
    exact Ev.bind (matching_ev (day_right c)) (Match_l0 (day_right c) _ l.length 0 (by omega))
  · simp only [if_neg c]; exact Ev.pure _
end Go.Proofs.Ytlmlneneakpohaa.OAll
