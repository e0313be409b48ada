/- A part of the proof of 'tripTurned_holds', for every input, without a condition. -/
import Derived.Test.YtlmlneneakpohaaTTuQu
namespace Go.Proofs.Ytlmlneneakpohaa.OAll
open Go.RowKit Go.Proofs.YtlmlneneakpohaaW.PrintWords Go.Proofs.YtlmlneneakpohaaW.PrintLast Go.Proofs.YtlmlneneakpohaaW.PrintMore
set_option linter.unusedVariables false
set_option linter.unusedSimpArgs false
theorem one_ring {f : Nat → Nat} {n : Nat} (h : PermF f n) (hn : 1 ≤ n) (hall : ∀ j, j < n → Sm f 0 j) : PermF (fun a => it f a 0) n ∧ it f n 0 = 0 := by
  obtain ⟨q, h1, h2, h3, h4⟩ := h.back (show 0 < n by omega)
  have hdiff : ∀ a b, a < b → b < q → it f a 0 ≠ it f b 0 := by
    intro a b hab hb e
    have e2 : it f b 0 = it f a (it f (b - a) 0) := by rw [← it_add f (b - a) 0 a]; congr 1; omega
    rw [e2] at e
    exact h4 (b - a) (by omega) (by omega) (h.cancel (by omega) (h.lt (by omega) _) a e).symm
  have hnd : ((List.range q).map (fun t => it f t 0)).Nodup := by
    rw [List.nodup_iff_pairwise_ne, List.pairwise_map]
    refine List.Pairwise.imp_of_mem (fun {a b} ha hb hab => ?_) List.pairwise_lt_range
    exact hdiff a b hab (List.mem_range.mp hb)
  have hp : ((List.range q).map (fun t => it f t 0)).Perm (List.range n) := by
    refine (List.perm_ext_iff_of_nodup hnd List.nodup_range).mpr (fun x => ?_)
    rw [List.mem_range]
    constructor
    · intro hx
      obtain ⟨t, _, rfl⟩ := List.mem_map.mp hx
      exact h.lt (by omega) t
    · intro hx
      obtain ⟨s, hs⟩ := hall x hx
      obtain ⟨s', g1, g2⟩ := it_mod h1 h3 s
      exact List.mem_map.mpr ⟨s', List.mem_range.mpr g1, by rw [← g2, hs]⟩
  have hq : q = n := by have := hp.length_eq; simpa using this
  subst hq
  refine ⟨⟨fun i hi => h.lt (by omega) i, fun i j hi hj e => ?_⟩, h3⟩
  refine Classical.byContradiction fun hne => ?_
  rcases Nat.lt_or_gt_of_ne hne with hlt | hlt
  · exact hdiff i j hlt hj e
  · exact hdiff j i hlt hi e.symm
theorem tour_le {l : List S36} {U D : Int} (hR : Right l U D) : ∃ o : List Int, IsOrd l.length o ∧ rd o 0 = 0 ∧ costI l U D o = worthI l U D + (patchI l U D).2 := by
  have h9 := hR.len
  have pT := ord_perm (sort_ord true l)
  have pF := ord_perm (sort_ord false l)
  obtain ⟨qT, hq, e1⟩ := pT.inv
  have e2 : ∀ k, k < l.length → qT (fN_ (sortI true l) k) = k := fun k hk => pT.inj _ _ (hq.maps _ (pT.maps k hk)) hk (e1 _ (pT.maps k hk))
  obtain ⟨s, s1, s2, s3, s4⟩ := clean_ex hR
  obtain ⟨p, hp, _, hup, hlab⟩ := build hR hq e1 e2 s s4 (l.length - 1) (by omega)
  have hsg : PermF (fun x => fN_ (sortI false l) (p (qT x))) l.length := pF.comp (hp.comp hq)
  obtain ⟨sg, hsge⟩ : ∃ sg : Nat → Nat, sg = fun x => fN_ (sortI false l) (p (qT x)) := ⟨_, rfl⟩
  rw [← hsge] at hsg hlab
  have hj := (allSame_iff _).mp (show allSame (refR l s (l.length - 1)) = true from s2)
  rw [refR_len] at hj
  obtain ⟨hpo, hback⟩ := one_ring hsg h9.1 (fun j hjl => (hlab 0 j (by omega) hjl).mpr (hj j hjl).symm)
  obtain ⟨o, hoe⟩ : ∃ o : List Int, o = (List.range l.length).map (fun a => (it sg a 0 : Int)) := ⟨_, rfl⟩
  have hol : o.length = l.length := by rw [hoe]; simp
  have hrd : ∀ a, a < l.length → rd o (a : Int) = (it sg a 0 : Int) := fun a ha => by
    rw [rd_get (by rw [hol]; exact ha)]
    simp [hoe]
  have ho : IsOrd l.length o := by
    refine ⟨fun x hx => ?_, ?_, hol⟩
    · rw [hoe] at hx
      obtain ⟨a, ha, rfl⟩ := List.mem_map.mp hx
      have := hpo.maps a (List.mem_range.mp ha)
      have h0 : it sg a 0 < l.length := this
      omega
    · rw [hoe, List.nodup_iff_pairwise_ne, List.pairwise_map]
      refine List.Pairwise.imp_of_mem (fun {a b} ha hb hab e => ?_) List.pairwise_lt_range
      have e3 : it sg a 0 = it sg b 0 := by omega
      have := hpo.inj a b (List.mem_range.mp ha) (List.mem_range.mp hb) e3
      omega
  have ec : costI l U D o = costP (Tk l) (Fk l) l.length U D p := by
    have c1 : costI l U D o = sumE (fun x : Nat => emp l U D (x : Int) (sg x : Int)) l.length := by
      unfold costI
      rw [hol, ← hpo.sum (fun x : Nat => emp l U D (x : Int) (sg x : Int))]
      refine sumE_cg _ (fun a ha => ?_)
      unfold nextE
      rw [hol, hrd a ha]
      by_cases e : a + 1 = l.length
      · have e4 : it sg (a + 1) 0 = 0 := by rw [e]; exact hback
        rw [e, Nat.mod_self, hrd 0 (by omega)]
        show emp l U D (it sg a 0 : Int) ((it sg 0 0 : Nat) : Int) = emp l U D (it sg a 0 : Int) ((it sg (a + 1) 0 : Nat) : Int)
        rw [e4]; rfl
      · rw [Nat.mod_eq_of_lt (show a + 1 < l.length by omega), hrd (a + 1) (by omega)]
        rfl
    rw [c1, ← pT.sum (fun x : Nat => emp l U D (x : Int) (sg x : Int))]
    unfold costP
    refine sumE_cg _ (fun k hk => ?_)
    have : sg (fN_ (sortI true l) k) = fN_ (sortI false l) (p k) := by rw [hsge]; show fN_ (sortI false l) (p (qT (fN_ (sortI true l) k))) = _; rw [e2 k hk]
    rw [this]
    exact emp_pos hk (hp.maps k hk)
  have hH := hts_ok hR
  have eg : (U + D) * sumE (fun j => exP (Tk l) (Fk l) l.length p ((j : Int) + 1)) 1000 = gsum l U D s (l.length - 1) := by
    rw [gsum_sum]
    have q1 : sumE (fun j => exP (Tk l) (Fk l) l.length p ((j : Int) + 1)) 1000 = sumE (fun i => sumE (fun j => if s.testBit j = true then gapH (Tk l) (Fk l) j ((i : Int) + 1) else 0) (l.length - 1)) 1000 :=
      sumE_cg _ (fun i _ => by unfold exP; rw [hup]; omega)
    rw [q1, sumE_swap, ← sumE_mul]
    refine sumE_cg _ (fun j hj => ?_)
    split
    · rw [gapH_sum hH (by omega)]; rfl
    · rw [sumE_zero, Int.mul_zero]
  have hle : costI l U D o ≤ worthI l U D + (patchI l U D).2 := by
    rw [ec, costP_ex hH hp, eg, worthI_costP]; omega
  have hge := order_ge hR ho
  exact ⟨o, ho, by have := hrd 0 (by omega); exact this, by omega⟩
end Go.Proofs.Ytlmlneneakpohaa.OAll
