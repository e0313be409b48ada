/- A part of the proof of 'tripTurned_holds', for every input, without a condition. -/
import Derived.Test.YtlmlneneakpohaaTTuQt
namespace Go.Proofs.Ytlmlneneakpohaa.OAll
open Go.RowKit Go.Proofs.YtlmlneneakpohaaW.PrintWords Go.Proofs.YtlmlneneakpohaaW.PrintLast Go.Proofs.YtlmlneneakpohaaW.PrintMore
set_option linter.unusedVariables false
set_option linter.unusedSimpArgs false
theorem rings_sm {l : List S36} {i j : Nat} (hi : i < l.length) (hj : j < l.length) : Sm (nxt l) i j ↔ rd (ringI l) (i : Int) = rd (ringI l) (j : Int) := by
  rw [ringI_rd hi, ringI_rd hj]
  have := loN_same hi hj
  constructor
  · intro h; rw [this.mpr h]
  · intro h; exact this.mp (by omega)
theorem build {l : List S36} {U D : Int} (hR : Right l U D) {qT : Nat → Nat} (hq : PermF qT l.length) (e1 : ∀ x, x < l.length → fN_ (sortI true l) (qT x) = x) (e2 : ∀ k, k < l.length → qT (fN_ (sortI true l) k) = k) (s : Nat)
    (hcl : ∀ k, k + 1 < l.length → s.testBit k = true → rd (refR l s k) (tN l k : Int) ≠ rd (refR l s k) (tN l (k + 1) : Int)) : ∀ k, k + 1 ≤ l.length →
    ∃ p : Nat → Nat, PermF p l.length ∧ (∀ i, k < i → i < l.length → p i = i) ∧ (∀ h, upP (Tk l) (Fk l) l.length p h = upP (Tk l) (Fk l) l.length (fun i => i) h + sumE (fun j => if s.testBit j = true then gapH (Tk l) (Fk l) j h else 0) k) ∧
      ∀ i j, i < l.length → j < l.length → (Sm (fun x => fN_ (sortI false l) (p (qT x))) i j ↔ rd (refR l s k) (i : Int) = rd (refR l s k) (j : Int))
  | 0, hk => by
    refine ⟨fun i => i, PermF.id _, fun _ _ _ => rfl, fun h => by simp [sumE], fun i j hi hj => ?_⟩
    have hs : ∀ t, it (fun x => fN_ (sortI false l) (qT x)) t i = it (nxt l) t i := by
      intro t
      induction t with
      | zero => rfl
      | succ t ih =>
        show fN_ (sortI false l) (qT (it (fun x => fN_ (sortI false l) (qT x)) t i)) = nxt l (it (nxt l) t i)
        have hlt := (nxt_perm l).lt hi t
        rw [ih, ← match_pos (hq.maps _ hlt), e1 _ hlt]
    show Sm (fun x => fN_ (sortI false l) (qT x)) i j ↔ rd (ringI l) (i : Int) = rd (ringI l) (j : Int)
    rw [← rings_sm hi hj]
    constructor
    · rintro ⟨t, ht⟩; exact ⟨t, by rw [← hs t, ht]⟩
    · rintro ⟨t, ht⟩; exact ⟨t, by rw [hs t, ht]⟩
  | k + 1, hk => by
    obtain ⟨p, hp, hfix, hup, hlab⟩ := build hR hq e1 e2 s hcl k (by omega)
    by_cases c : s.testBit k = true
    · have hH := hts_ok hR
      have pT := ord_perm (sort_ord true l)
      have pF := ord_perm (sort_ord false l)
      have hsg : PermF (fun x => fN_ (sortI false l) (p (qT x))) l.length := pF.comp (hp.comp hq)
      have small : ∀ a, a ≤ k → p a ≤ k := fun a ha => by
        refine Nat.not_lt.mp (fun hlt => ?_)
        have := hfix (p a) hlt (hp.maps a (by omega))
        have := hp.inj (p a) a (hp.maps a (by omega)) (by omega) this
        omega
      obtain ⟨a, ha, hkind, hal⟩ : ∃ a, a ≤ k ∧ ((a = k ∧ Fk l k ≤ Tk l k) ∨ (p a = k ∧ Tk l k ≤ Fk l k)) ∧ rd (refR l s k) (fN_ (sortI true l) a : Int) = rd (refR l s k) (tN l k : Int) := by
        by_cases c2 : Fk l k ≤ Tk l k
        · exact ⟨k, Nat.le_refl k, .inl ⟨rfl, c2⟩, rfl⟩
        · obtain ⟨a, ha, ea⟩ := hp.onto (show k < l.length by omega)
          have hak : a ≤ k := by
            refine Nat.not_lt.mp (fun hlt => ?_)
            have := hfix a hlt ha; omega
          refine ⟨a, hak, .inr ⟨ea, by omega⟩, ?_⟩
          have hfa := pT.maps a ha
          have h1 : Sm (fun x => fN_ (sortI false l) (p (qT x))) (fN_ (sortI true l) a) (fN_ (sortI false l) k) := ⟨1, by
            show fN_ (sortI false l) (p (qT (fN_ (sortI true l) a))) = _
            rw [e2 a ha, ea]⟩
          have hkl : k < l.length := by omega
          rw [(hlab _ _ hfa (pF.maps k hkl)).mp h1]
          have h2 : fN_ (sortI false l) k = it (nxt l) 1 (tN l k) := (match_pos hkl).symm
          refine refR_ring s (pF.maps k hkl) (tN_rd hkl).2 ?_ k
          rw [h2, loN_it (tN_rd hkl).2 1]
      have hk1 := (tN_rd (show k + 1 < l.length by omega)).2
      have hk0 := (tN_rd (show k < l.length by omega)).2
      have hfa := pT.maps a (show a < l.length by omega)
      have hne : ¬ Sm (fun x => fN_ (sortI false l) (p (qT x))) (fN_ (sortI true l) a) (tN l (k + 1)) := fun hs => by
        have := (hlab _ _ hfa hk1).mp hs
        exact hcl k (by omega) c (by rw [← hal]; exact this)
      refine ⟨swp p a (k + 1), swp_perm hp (by omega) (by omega) (by omega), fun i h1 h2 => ?_, fun h => ?_, fun i j hi hj => ?_⟩
      · unfold swp; rw [if_neg (by omega), if_neg (by omega)]; exact hfix i (by omega) h2
      · rw [up_swap hH hp (by omega) ha (small a ha) (hfix (k + 1) (by omega) (by omega)) hkind h, hup h]
        simp only [sumE, if_pos c]; omega
      · have es : ∀ x, x < l.length → fN_ (sortI false l) (swp p a (k + 1) (qT x)) = swp (fun x => fN_ (sortI false l) (p (qT x))) (fN_ (sortI true l) a) (tN l (k + 1)) x := by
          intro x hx
          have i1 : qT x = a ↔ x = fN_ (sortI true l) a := ⟨fun e => by rw [← e, e1 x hx], fun e => by rw [e, e2 a (by omega)]⟩
          have i2 : qT x = k + 1 ↔ x = tN l (k + 1) := ⟨fun e => by
            have := e1 x hx
            rw [e] at this
            exact this.symm, fun e => by rw [e]; exact e2 (k + 1) (by omega)⟩
          unfold swp
          simp only [i1, i2, e2 a (show a < l.length by omega)]
          have : qT (tN l (k + 1)) = k + 1 := e2 (k + 1) (by omega)
          rw [this]
          split
          · rfl
          · split <;> rfl
        have hs' := swp_perm hsg hfa hk1 (fun e => hne (e ▸ Sm.refl _ _))
        have it_eq : ∀ t, it (fun x => fN_ (sortI false l) (swp p a (k + 1) (qT x))) t i = it (swp (fun x => fN_ (sortI false l) (p (qT x))) (fN_ (sortI true l) a) (tN l (k + 1))) t i := by
          intro t
          induction t with
          | zero => rfl
          | succ t ih =>
            show fN_ (sortI false l) (swp p a (k + 1) (qT (it _ t i))) = swp _ _ _ (it _ t i)
            rw [ih]
            exact es _ (hs'.lt hi t)
        have sm_eq : Sm (fun x => fN_ (sortI false l) (swp p a (k + 1) (qT x))) i j ↔ Sm (swp (fun x => fN_ (sortI false l) (p (qT x))) (fN_ (sortI true l) a) (tN l (k + 1))) i j :=
          ⟨fun ⟨t, ht⟩ => ⟨t, by rw [← it_eq t, ht]⟩, fun ⟨t, ht⟩ => ⟨t, by rw [it_eq t, ht]⟩⟩
        rw [sm_eq, merge_iff hsg hfa hk1 hne hi hj, hlab i j hi hj, hlab _ i hfa hi, hlab _ i hk1 hi, hlab _ j hfa hj, hlab _ j hk1 hj, hal]
        rw [refR, if_pos c, relab_rd (by rw [refR_len]; exact hi), relab_rd (by rw [refR_len]; exact hj)]
        have hcc := hcl k (by omega) c
        split <;> split <;> omega
    · refine ⟨p, hp, fun i h1 h2 => hfix i (by omega) h2, fun h => ?_, fun i j hi hj => ?_⟩
      · rw [hup h]; simp only [sumE, if_neg c]; omega
      · rw [refR, if_neg c]; exact hlab i j hi hj
end Go.Proofs.Ytlmlneneakpohaa.OAll
