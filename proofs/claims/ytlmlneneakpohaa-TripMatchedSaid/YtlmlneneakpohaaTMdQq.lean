/- A part of the proof of 'tripMatched_holds', for every input, without a condition. -/
import Derived.Test.YtlmlneneakpohaaTMdQp
namespace Go.Proofs.Ytlmlneneakpohaa.OAll
open Go.RowKit Go.Proofs.YtlmlneneakpohaaW.PrintWords Go.Proofs.YtlmlneneakpohaaW.PrintLast Go.Proofs.YtlmlneneakpohaaW.PrintMore
set_option linter.unusedVariables false
set_option linter.unusedSimpArgs false
def fN_ (L : List Int) (k : Nat) : Nat := (rd L (k : Int)).toNat
theorem ord_rd {n : Nat} {L : List Int} (h : IsOrd n L) {k : Nat} (hk : k < n) : rd L (k : Int) = (fN_ L k : Int) ∧ fN_ L k < n := by
  have := h.1 _ (rd_mem (show k < L.length by rw [h.2.2]; exact hk))
  unfold fN_; omega
theorem ord_perm {n : Nat} {L : List Int} (h : IsOrd n L) : PermF (fN_ L) n where
  maps := fun i hi => (ord_rd h hi).2
  inj := fun i j hi hj e => by
    have e1 : rd L (i : Int) = rd L (j : Int) := by rw [(ord_rd h hi).1, (ord_rd h hj).1, e]
    have hi' : i < L.length := by rw [h.2.2]; exact hi
    have hj' : j < L.length := by rw [h.2.2]; exact hj
    rw [rd_get hi', rd_get hj'] at e1
    have hp := List.pairwise_iff_getElem.mp (List.nodup_iff_pairwise_ne.mp h.2.1)
    refine Classical.byContradiction fun hne => ?_
    rcases Nat.lt_or_gt_of_ne hne with hlt | hlt
    · exact hp i j hi' hj' hlt e1
    · exact hp j i hj' hi' hlt e1.symm
theorem choose_n {P : Nat → Nat → Prop} {n : Nat} (H : ∀ i, i < n → ∃ q, P i q) : ∃ f : Nat → Nat, ∀ i, i < n → P i (f i) := by
  classical
  refine ⟨fun i => if h : i < n then Classical.choose (H i h) else 0, fun i hi => ?_⟩
  simp only [dif_pos hi]
  exact Classical.choose_spec (H i hi)
theorem PermF.inv {f : Nat → Nat} {n : Nat} (h : PermF f n) : ∃ q, PermF q n ∧ ∀ x, x < n → f (q x) = x := by
  obtain ⟨q, hq⟩ := choose_n (fun x hx => h.onto hx)
  exact ⟨q, ⟨fun x hx => (hq x hx).1, fun x y hx hy e => by rw [← (hq x hx).2, ← (hq y hy).2, e]⟩, fun x hx => (hq x hx).2⟩
theorem PermF.comp {f g : Nat → Nat} {n : Nat} (hf : PermF f n) (hg : PermF g n) : PermF (fun k => f (g k)) n :=
  ⟨fun i hi => hf.maps _ (hg.maps i hi), fun i j hi hj e => hg.inj i j hi hj (hf.inj _ _ (hg.maps i hi) (hg.maps j hj) e)⟩
theorem sort_ord (e : Bool) (l : List S36) : IsOrd l.length (sortI e l) := ⟨sortI_in e l, sortI_nodup e l, sortI_len e l⟩
def Tk (l : List S36) (k : Nat) : Int := rd (hts true l) (k : Int)
def Fk (l : List S36) (k : Nat) : Int := rd (hts false l) (k : Int)
theorem hts_ok {l : List S36} {U D : Int} (h : Right l U D) : Hts (Tk l) (Fk l) l.length := by
  have mono : ∀ e : Bool, ∀ i j, i ≤ j → j < l.length → rd (hts e l) (i : Int) ≤ rd (hts e l) (j : Int) := by
    intro e i j hij hj
    have hi' : i < (hts e l).length := by rw [hts_len]; omega
    have hj' : j < (hts e l).length := by rw [hts_len]; omega
    rw [rd_get hi', rd_get hj']
    by_cases c : i = j
    · subst c; exact Int.le_refl _
    · exact List.pairwise_iff_getElem.mp (hts_sorted h e) i j hi' hj' (by omega)
  exact ⟨mono true, mono false, fun i hi => hts_rd h true hi, fun i hi => hts_rd h false hi⟩
theorem emp_pos {l : List S36} {U D : Int} {i k : Nat} (hi : i < l.length) (hk : k < l.length) : emp l U D (fN_ (sortI true l) i : Int) (fN_ (sortI false l) k : Int) = climbI U D (Tk l i) (Fk l k) := by
  unfold Tk Fk
  rw [hts_at true l hi, hts_at false l hk, (ord_rd (sort_ord true l) hi).1, (ord_rd (sort_ord false l) hk).1]
  rfl
theorem match_pos {l : List S36} {k : Nat} (hk : k < l.length) : nxt l (fN_ (sortI true l) k) = fN_ (sortI false l) k := by
  have h1 := match_map l
  have h2 : ((sortI true l).map (fun x => rd (matchI l) x))[k]? = (sortI false l)[k]? := by rw [h1]
  have a : k < (sortI true l).length := by rw [sortI_len]; exact hk
  have b : k < (sortI false l).length := by rw [sortI_len]; exact hk
  rw [List.getElem?_map, List.getElem?_eq_getElem a, List.getElem?_eq_getElem b, Option.map_some, Option.some.injEq, ← rd_get a, ← rd_get b, (ord_rd (sort_ord true l) hk).1] at h2
  unfold nxt
  rw [h2]
  rfl
theorem worthI_costP (l : List S36) (U D : Int) : worthI l U D = costP (Tk l) (Fk l) l.length U D (fun k => k) := by
  unfold worthI costP
  rw [← (ord_perm (sort_ord true l)).sum (worthE l U D)]
  refine sumE_cg _ (fun k hk => ?_)
  have h1 := (ord_rd (sort_ord true l) hk).2
  unfold worthE
  rw [(match_rd h1).1, match_pos hk]
  exact emp_pos hk hk
end Go.Proofs.Ytlmlneneakpohaa.OAll
