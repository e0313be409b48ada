/- A part of the proof of 'tripTurned_holds', for every input, without a condition. -/
import Derived.Test.YtlmlneneakpohaaTTuQp
namespace Go.Proofs.Ytlmlneneakpohaa.OAll
open Go.RowKit Go.Proofs.YtlmlneneakpohaaW.PrintWords Go.Proofs.YtlmlneneakpohaaW.PrintLast Go.Proofs.YtlmlneneakpohaaW.PrintMore
set_option linter.unusedVariables false
set_option linter.unusedSimpArgs false
def fN_ (L : List Int) (k : Nat) : Nat := (rd L (k : Int)).toNat
theorem ord_rd {n : Nat} {L : List Int} (h : IsOrd n L) {k : Nat} (hk : k < n) : rd L (k : Int) = (fN_ L k : Int) ∧ fN_ L k < n := by
  have := h.1 _ (rd_mem (show k < L.length by rw [h.2.2]; exact hk))
  unfold fN_; omega
theorem ord_perm {n : Nat} {L : List Int} (h : IsOrd n L) : PermF (fN_ L) n where
  maps := fun i hi => (ord_rd h hi).2
  inj := fun i j hi hj e => by
    have e1 : rd L (i : Int) = rd L (j : Int) := by rw [(ord_rd h hi).1, (ord_rd h hj).1, e]
    have hi' : i < L.length := by rw [h.2.2]; exact hi
    have hj' : j < L.length := by rw [h.2.2]; exact hj
    rw [rd_get hi', rd_get hj'] at e1
    have hp := List.pairwise_iff_getElem.mp (List.nodup_iff_pairwise_ne.mp h.2.1)
    refine Classical.byContradiction fun hne => ?_
    rcases Nat.lt_or_gt_of_ne hne with hlt | hlt
    · exact hp i j hi' hj' hlt e1
    · exact hp j i hj' hi' hlt e1.symm
theorem choose_n {P : Nat → Nat → Prop} {n : Nat} (H : ∀ i, i < n → ∃ q, P i q) : ∃ f : Nat → Nat, ∀ i, i < n → P i (f i) := by
  classical
  refine ⟨fun i => if h : i < n then Classical.choose (H i h) else 0, fun i hi => ?_⟩
  simp only [dif_pos hi]
  exact Classical.choose_spec (H i hi)
theorem PermF.inv {f : Nat → Nat} {n : Nat} (h : PermF f n) : ∃ q, PermF q n ∧ ∀ x, x < n → f (q x) = x := by
  obtain ⟨q, hq⟩ := choose_n (fun x hx => h.onto hx)
  exact ⟨q, ⟨fun x hx => (hq x hx).1, fun x y hx hy e => by rw [← (hq x hx).2, ← (hq y hy).2, e]⟩, fun x hx => (hq x hx).2⟩
theorem PermF.comp {f g : Nat → Nat} {n : Nat} (hf : PermF f n) (hg : PermF g n) : PermF (fun k => f (g k)) n :=
  ⟨fun i hi => hf.maps _ (hg.maps i hi), fun i j hi hj e => hg.inj i j hi hj (hf.inj _ _ (hg.maps i hi) (hg.maps j hj) e)⟩
theorem next_perm (n : Nat) : PermF (fun a => (a + 1) % n) n where
  maps := fun i hi => Nat.mod_lt _ (by omega)
  inj := fun i j hi hj e => by
    have h1 : ∀ a, a < n → (a + 1) % n = if a + 1 = n then 0 else a + 1 := fun a ha => by
      split
      · rename_i h; rw [h, Nat.mod_self]
      · exact Nat.mod_eq_of_lt (by omega)
    have e : (i + 1) % n = (j + 1) % n := e
    rw [h1 i hi, h1 j hj] at e
    split at e <;> split at e <;> omega
theorem sort_ord (e : Bool) (l : List S36) : IsOrd l.length (sortI e l) := ⟨sortI_in e l, sortI_nodup e l, sortI_len e l⟩
def Tk (l : List S36) (k : Nat) : Int := rd (hts true l) (k : Int)
def Fk (l : List S36) (k : Nat) : Int := rd (hts false l) (k : Int)
theorem hts_ok {l : List S36} {U D : Int} (h : Right l U D) : Hts (Tk l) (Fk l) l.length := by
  have mono : ∀ e : Bool, ∀ i j, i ≤ j → j < l.length → rd (hts e l) (i : Int) ≤ rd (hts e l) (j : Int) := by
    intro e i j hij hj
    have hi' : i < (hts e l).length := by rw [hts_len]; omega
    have hj' : j < (hts e l).length := by rw [hts_len]; omega
    rw [rd_get hi', rd_get hj']
    by_cases c : i = j
    · subst c; exact Int.le_refl _
    · exact List.pairwise_iff_getElem.mp (hts_sorted h e) i j hi' hj' (by omega)
  exact ⟨mono true, mono false, fun i hi => hts_rd h true hi, fun i hi => hts_rd h false hi⟩
theorem emp_pos {l : List S36} {U D : Int} {i k : Nat} (hi : i < l.length) (hk : k < l.length) : emp l U D (fN_ (sortI true l) i : Int) (fN_ (sortI false l) k : Int) = climbI U D (Tk l i) (Fk l k) := by
  unfold Tk Fk
  rw [hts_at true l hi, hts_at false l hk, (ord_rd (sort_ord true l) hi).1, (ord_rd (sort_ord false l) hk).1]
  rfl
theorem match_pos {l : List S36} {k : Nat} (hk : k < l.length) : nxt l (fN_ (sortI true l) k) = fN_ (sortI false l) k := by
  have h1 := match_map l
  have h2 : ((sortI true l).map (fun x => rd (matchI l) x))[k]? = (sortI false l)[k]? := by rw [h1]
  have a : k < (sortI true l).length := by rw [sortI_len]; exact hk
  have b : k < (sortI false l).length := by rw [sortI_len]; exact hk
  rw [List.getElem?_map, List.getElem?_eq_getElem a, List.getElem?_eq_getElem b, Option.map_some, Option.some.injEq, ← rd_get a, ← rd_get b, (ord_rd (sort_ord true l) hk).1] at h2
  unfold nxt
  rw [h2]
  rfl
theorem worthI_costP (l : List S36) (U D : Int) : worthI l U D = costP (Tk l) (Fk l) l.length U D (fun k => k) := by
  unfold worthI costP
  rw [← (ord_perm (sort_ord true l)).sum (worthE l U D)]
  refine sumE_cg _ (fun k hk => ?_)
  have h1 := (ord_rd (sort_ord true l) hk).2
  unfold worthE
  rw [(match_rd h1).1, match_pos hk]
  exact emp_pos hk hk
theorem order_ge {l : List S36} {U D : Int} (h : Right l U D) {o : List Int} (ho : IsOrd l.length o) : worthI l U D + (patchI l U D).2 ≤ costI l U D o := by
  have h9 := h.len
  have pT := ord_perm (sort_ord true l)
  have pF := ord_perm (sort_ord false l)
  have pO := ord_perm ho
  obtain ⟨qO, hqO, eO⟩ := pO.inv
  obtain ⟨qF, hqF, eF⟩ := pF.inv
  have pa : PermF (fun k => qO (fN_ (sortI true l) k)) l.length := hqO.comp pT
  have hp : PermF (fun k => qF (fN_ o ((qO (fN_ (sortI true l) k) + 1) % l.length))) l.length := hqF.comp (pO.comp ((next_perm l.length).comp pa))
  obtain ⟨p, hpe⟩ : ∃ p : Nat → Nat, p = fun k => qF (fN_ o ((qO (fN_ (sortI true l) k) + 1) % l.length)) := ⟨_, rfl⟩
  rw [← hpe] at hp
  have hpv : ∀ k, k < l.length → fN_ (sortI false l) (p k) = fN_ o ((qO (fN_ (sortI true l) k) + 1) % l.length) := fun k hk => by
    rw [hpe]
    exact eF _ (pO.maps _ ((next_perm l.length).maps _ (pa.maps k hk)))
  have ec : costI l U D o = costP (Tk l) (Fk l) l.length U D p := by
    unfold costI costP
    rw [ho.2.2, ← pa.sum (nextE l U D o)]
    refine sumE_cg _ (fun k hk => ?_)
    have ha := pa.maps k hk
    have e1 : rd o ((qO (fN_ (sortI true l) k) : Nat) : Int) = (fN_ (sortI true l) k : Int) := by
      rw [(ord_rd ho ha).1, eO _ (pT.maps k hk)]
    have e2 : rd o (((qO (fN_ (sortI true l) k) + 1) % o.length : Nat) : Int) = (fN_ (sortI false l) (p k) : Int) := by
      rw [ho.2.2, (ord_rd ho ((next_perm l.length).maps _ ha)).1, hpv k hk]
    unfold nextE
    rw [e1, e2]
    exact emp_pos hk (hp.maps k hk)
  obtain ⟨s, hs1, hs2⟩ := bits_ex (fun j => Over l.length p j) (l.length - 1)
  have hj : joinB l s = true := by
    have step : ∀ k, k < l.length → rd (refR l s (l.length - 1)) (tN l k : Int) = rd (refR l s (l.length - 1)) (fN_ o ((qO (tN l k) + 1) % l.length) : Int) := by
      intro k hk
      have hpk := hp.maps k hk
      have c1 : rd (refR l s (l.length - 1)) (tN l k : Int) = rd (refR l s (l.length - 1)) (tN l (p k) : Int) := by
        by_cases c : k ≤ p k
        · have := gaps_chain (l := l) s (a := k) (p k - k) (by omega) (fun j h1 h2 => (hs2 j (by omega)).mpr (over_between hp hk (.inl ⟨h1, by omega⟩)))
          rwa [show k + (p k - k) = p k by omega] at this
        · have := gaps_chain (l := l) s (a := p k) (k - p k) (by omega) (fun j h1 h2 => (hs2 j (by omega)).mpr (over_between hp hk (.inr ⟨h1, by omega⟩)))
          rw [show p k + (k - p k) = k by omega] at this
          exact this.symm
      have ht := (tN_rd hpk).2
      have c2 : rd (refR l s (l.length - 1)) (tN l (p k) : Int) = rd (refR l s (l.length - 1)) (fN_ (sortI false l) (p k) : Int) := by
        refine refR_ring s ht (ord_rd (sort_ord false l) hpk).2 ?_ _
        have e3 : fN_ (sortI false l) (p k) = it (nxt l) 1 (tN l (p k)) := (match_pos hpk).symm
        rw [e3, loN_it ht 1]
      rw [c1, c2, hpv k hk]
      rfl
    have all : ∀ a, a < l.length → rd (refR l s (l.length - 1)) (fN_ o a : Int) = rd (refR l s (l.length - 1)) (fN_ o 0 : Int) := by
      intro a
      induction a with
      | zero => intro _; rfl
      | succ a ih =>
        intro ha
        obtain ⟨k, hk, ek⟩ := pa.onto (show a < l.length by omega)
        have ek : qO (tN l k) = a := ek
        have := step k hk
        rw [ek, Nat.mod_eq_of_lt (show a + 1 < l.length by omega)] at this
        have e4 : tN l k = fN_ o a := by rw [← ek]; exact (eO _ (tN_rd hk).2).symm
        rw [e4] at this
        rw [← this]
        exact ih (by omega)
    unfold joinB
    rw [allSame_iff, refR_len]
    intro i hi
    obtain ⟨a, ha, ea⟩ := pO.onto hi
    obtain ⟨b, hb, eb⟩ := pO.onto (show 0 < l.length by omega)
    have h1 := all a ha
    have h2 := all b hb
    rw [ea] at h1
    rw [eb] at h2
    rw [h1]; exact h2.symm
  have hge := costP_ge (U := U) (D := D) (hts_ok h) hp h.U_.1 h.D_.1 h9.1 s (fun j hj1 hb => (hs2 j (by omega)).mp hb)
  have hle := patchI_le h hs1 hj
  rw [gsum_sum] at hle
  rw [ec, worthI_costP]
  have e5 : sumE (fun j => if s.testBit j = true then gapAt l U D j else 0) (l.length - 1) = sumE (fun j => if s.testBit j = true then (U + D) * mx 0 (mn (Tk l (j + 1)) (Fk l (j + 1)) - mx (Tk l j) (Fk l j)) else 0) (l.length - 1) := rfl
  rw [e5] at hle
  omega
end Go.Proofs.Ytlmlneneakpohaa.OAll
