/- A part of the proof of 'tripRings_holds', for every input, without a condition. -/
import Derived.Test.YtlmlneneakpohaaTRiQh
import Derived.Test.YtlmlneneakpohaaTRiOAllx0
import Derived.Test.YtlmlneneakpohaaTRiOAllx3
import Derived.Test.YtlmlneneakpohaaTRiOAllx4
import Derived.Test.YtlmlneneakpohaaTRiOAllx8
import Derived.Test.YtlmlneneakpohaaTRiOAllx9
import Derived.Test.YtlmlneneakpohaaTRiOAllx2
namespace Go.Proofs.Ytlmlneneakpohaa.OAll
open Go.RowKit Go.Proofs.YtlmlneneakpohaaW.PrintWords Go.Proofs.YtlmlneneakpohaaW.PrintLast Go.Proofs.YtlmlneneakpohaaW.PrintMore
set_option linter.unusedVariables false
set_option linter.unusedSimpArgs false
def it (f : Nat → Nat) : Nat → Nat → Nat
  | 0, i => i
  | t + 1, i => f (it f t i)
structure PermF (f : Nat → Nat) (n : Nat) : Prop where
  maps : ∀ i, i < n → f i < n
  inj : ∀ i j, i < n → j < n → f i = f j → i = j
theorem PermF.lt {f : Nat → Nat} {n : Nat} (h : PermF f n) {i : Nat} (hi : i < n) : ∀ t, it f t i < n
  | 0 => hi
  | t + 1 => h.maps _ (h.lt hi t)
theorem it_add (f : Nat → Nat) (s i : Nat) : ∀ t, it f (t + s) i = it f t (it f s i)
  | 0 => by rw [Nat.zero_add]; rfl
  | t + 1 => by rw [show t + 1 + s = (t + s) + 1 by omega]; show f (it f (t + s) i) = f (it f t (it f s i)); rw [it_add f s i t]
theorem PermF.cancel {f : Nat → Nat} {n : Nat} (h : PermF f n) {i j : Nat} (hi : i < n) (hj : j < n) : ∀ t, it f t i = it f t j → i = j
  | 0, e => e
  | t + 1, e => h.cancel hi hj t (h.inj _ _ (h.lt hi t) (h.lt hj t) e)
theorem range_perm (n : Nat) (C : List Nat) (hn : C.Nodup) (hx : ∀ x ∈ C, x < n) : ∃ R, (List.range n).Perm (C ++ R) ∧ ∀ x ∈ R, x ∉ C := by
  refine ⟨(List.range n).filter (fun x => !C.contains x), ?_, fun x hx' => by simp at hx'; exact hx'.2⟩
  have h1 : ((List.range n).filter (fun x => C.contains x) ++ (List.range n).filter (fun x => !C.contains x)).Perm (List.range n) := List.filter_append_perm _ _
  refine h1.symm.trans (List.Perm.append_right _ ?_)
  refine ((List.perm_ext_iff_of_nodup hn (List.Pairwise.filter _ List.nodup_range)).mpr fun y => ?_).symm
  simp only [List.mem_filter, List.mem_range, List.contains_eq_mem, decide_eq_true_eq]
  exact ⟨fun hy => ⟨hx y hy, hy⟩, fun hy => hy.2⟩
theorem perm_nodup {n : Nat} {l : List Nat} (h1 : l.length = n) (hn : l.Nodup) (hx : ∀ x ∈ l, x < n) : l.Perm (List.range n) := by
  obtain ⟨R, hp, hR⟩ := range_perm n l hn hx
  have := hp.length_eq
  simp only [List.length_range, List.length_append] at this
  obtain rfl := List.eq_nil_of_length_eq_zero (show R.length = 0 by omega)
  rw [List.append_nil] at hp
  exact hp.symm
theorem least_ex {P : Nat → Prop} : ∀ p, P p → ∃ q, P q ∧ q ≤ p ∧ ∀ s, s < q → ¬ P s := by
  intro p
  induction p using Nat.strongRecOn with
  | _ p ih =>
  intro hp
  by_cases h : ∃ s, s < p ∧ P s
  · obtain ⟨s, hs, h⟩ := h
    obtain ⟨q, h1, h2, h3⟩ := ih s hs h
    exact ⟨q, h1, by omega, h3⟩
  · exact ⟨p, hp, Nat.le_refl _, fun s hs h2 => h ⟨s, hs, h2⟩⟩
theorem PermF.back {f : Nat → Nat} {n : Nat} (h : PermF f n) {i : Nat} (hi : i < n) : ∃ p, 1 ≤ p ∧ p ≤ n ∧ it f p i = i ∧ ∀ s, 1 ≤ s → s < p → it f s i ≠ i := by
  have h0 : ∃ p, 1 ≤ p ∧ p ≤ n ∧ it f p i = i := by
    refine Classical.byContradiction fun hn => ?_
    have hne : ∀ p, 1 ≤ p → p ≤ n → it f p i ≠ i := fun p h1 h2 e => hn ⟨p, h1, h2, e⟩
    have hdiff : ∀ a b, a < b → b ≤ n → it f a i ≠ it f b i := by
      intro a b hab hb e
      have e2 : it f b i = it f a (it f (b - a) i) := by rw [← it_add f (b - a) i a]; congr 1; omega
      rw [e2] at e
      exact hne (b - a) (by omega) (by omega) (h.cancel hi (h.lt hi _) a e).symm
    have hnd : ((List.range n).map (fun t => it f t i)).Nodup := by
      rw [List.nodup_iff_pairwise_ne, List.pairwise_map]
      refine List.Pairwise.imp_of_mem (fun {a b} ha hb hab => ?_) List.pairwise_lt_range
      exact hdiff a b hab (Nat.le_of_lt (List.mem_range.mp hb))
    have hp := perm_nodup (n := n) (by simp) hnd (fun x hx => by
      obtain ⟨t, _, rfl⟩ := List.mem_map.mp hx
      exact h.lt hi t)
    have hm : it f n i ∈ (List.range n).map (fun t => it f t i) := hp.mem_iff.mpr (List.mem_range.mpr (h.lt hi n))
    obtain ⟨s, hs, e⟩ := List.mem_map.mp hm
    exact hdiff s n (List.mem_range.mp hs) (Nat.le_refl n) e
  obtain ⟨p, h1, h2, h3⟩ := h0
  obtain ⟨q, ⟨k1, k2⟩, k3, k4⟩ := least_ex (P := fun p => 1 ≤ p ∧ it f p i = i) p ⟨h1, h3⟩
  exact ⟨q, k1, by omega, k2, fun s s1 s2 e => k4 s s2 ⟨s1, e⟩⟩
theorem it_mod {f : Nat → Nat} {i p : Nat} (hp : 1 ≤ p) (e : it f p i = i) : ∀ s, ∃ s', s' < p ∧ it f s i = it f s' i := by
  intro s
  induction s using Nat.strongRecOn with
  | _ s ih =>
  by_cases h : s < p
  · exact ⟨s, h, rfl⟩
  · obtain ⟨s', h1, h2⟩ := ih (s - p) (by omega)
    refine ⟨s', h1, ?_⟩
    rw [← h2, show s = (s - p) + p by omega, it_add, e]
    congr 1; omega
theorem PermF.sym {f : Nat → Nat} {n : Nat} (h : PermF f n) {i : Nat} (hi : i < n) (s : Nat) : ∃ t, it f t (it f s i) = i := by
  obtain ⟨p, hp, _, e, _⟩ := h.back hi
  obtain ⟨s', h1, h2⟩ := it_mod hp e s
  exact ⟨p - s', by rw [h2, ← it_add, show p - s' + s' = p by omega, e]⟩
def Low (f : Nat → Nat) (i v : Nat) : Prop := (∃ s, it f s i = v) ∧ ∀ s, v ≤ it f s i
theorem Low.uniq {f : Nat → Nat} {i v w : Nat} (h1 : Low f i v) (h2 : Low f i w) : v = w := by
  obtain ⟨s, hs⟩ := h1.1; obtain ⟨t, ht⟩ := h2.1
  have a := h1.2 t; have b := h2.2 s
  omega
theorem PermF.low_same {f : Nat → Nat} {n : Nat} (h : PermF f n) {i : Nat} (hi : i < n) (s v : Nat) : Low f i v ↔ Low f (it f s i) v := by
  obtain ⟨t, ht⟩ := h.sym hi s
  constructor
  · rintro ⟨⟨a, ha⟩, hb⟩
    exact ⟨⟨a + t, by rw [it_add, ht, ha]⟩, fun c => by rw [← it_add]; exact hb _⟩
  · rintro ⟨⟨a, ha⟩, hb⟩
    refine ⟨⟨a + s, by rw [it_add, ha]⟩, fun c => ?_⟩
    have := hb (c + t)
    rw [it_add, ht] at this
    exact this
def lo (f : Nat → Nat) (i : Nat) : Nat → Nat
  | 0 => i
  | t + 1 => min (lo f i t) (it f (t + 1) i)
theorem lo_le (f : Nat → Nat) (i : Nat) : ∀ t s, s ≤ t → lo f i t ≤ it f s i
  | 0, s, h => by obtain rfl : s = 0 := by omega
                  exact Nat.le_refl _
  | t + 1, s, h => by
    by_cases e : s = t + 1
    · subst e; exact Nat.min_le_right _ _
    · exact Nat.le_trans (Nat.min_le_left _ _) (lo_le f i t s (by omega))
theorem lo_in (f : Nat → Nat) (i : Nat) : ∀ t, ∃ s, it f s i = lo f i t
  | 0 => ⟨0, rfl⟩
  | t + 1 => by
    show ∃ s, it f s i = min (lo f i t) (it f (t + 1) i)
    by_cases h : lo f i t ≤ it f (t + 1) i
    · rw [Nat.min_eq_left h]; exact lo_in f i t
    · rw [Nat.min_eq_right (by omega)]; exact ⟨t + 1, rfl⟩
theorem lo_low {f : Nat → Nat} {i p t : Nat} (hp : 1 ≤ p) (e : it f p i = i) (ht : p ≤ t + 1) : Low f i (lo f i t) := by
  refine ⟨lo_in f i t, fun s => ?_⟩
  obtain ⟨s', h1, h2⟩ := it_mod hp e s
  rw [h2]
  exact lo_le f i t s' (by omega)
theorem PermF.low {f : Nat → Nat} {n : Nat} (h : PermF f n) {i : Nat} (hi : i < n) : Low f i (lo f i n) := by
  obtain ⟨p, hp, h2, e, _⟩ := h.back hi
  exact lo_low hp e (by omega)
def nxt (l : List S36) (i : Nat) : Nat := (rd (matchI l) (i : Int)).toNat
theorem place_map : ∀ (T F m : List Int), T.length = F.length → inN m.length T → T.Nodup → T.map (fun x => rd (placeI m T F) x) = F
  | [], F, m, h, _, _ => by
    have : F = [] := List.eq_nil_of_length_eq_zero (by simpa using h.symm)
    subst this; rfl
  | t :: T, [], m, h, _, _ => by simp at h
  | t :: T, f :: F, m, hl, hT, hd => by
    have ht := hT t (by simp)
    have hd' := List.nodup_cons.mp hd
    have hT' : inN (m.set t.toNat f).length T := fun y hy => by rw [List.length_set]; exact hT y (by simp [hy])
    have e1 : rd (placeI (m.set t.toNat f) T F) t = f := by
      rw [placeI_out T F _ t hT' ht.1 hd'.1]
      simp only [rd, List.getD_eq_getElem?_getD]
      rw [List.getElem?_set_self (by omega)]
      rfl
    simp only [List.map_cons, placeI, e1]
    rw [place_map T F (m.set t.toNat f) (by simpa using hl) hT' hd'.2]
theorem match_map (l : List S36) : (sortI true l).map (fun x => rd (matchI l) x) = sortI false l :=
  place_map _ _ _ (by rw [sortI_len, sortI_len]) (by simpa using sortI_in true l) (sortI_nodup true l)
theorem nodup_map_inj {α β : Type} {g : α → β} : ∀ {L : List α}, (L.map g).Nodup → ∀ a ∈ L, ∀ b ∈ L, g a = g b → a = b
  | [], _, a, ha, _, _, _ => by simp at ha
  | x :: L, h, a, ha, b, hb, e => by
    rw [List.map_cons, List.nodup_cons] at h
    rcases List.mem_cons.mp ha with ha | ha
    · rcases List.mem_cons.mp hb with hb | hb
      · rw [ha, hb]
      · exact absurd (List.mem_map.mpr ⟨b, hb, by rw [← e, ha]⟩) h.1
    · rcases List.mem_cons.mp hb with hb | hb
      · exact absurd (List.mem_map.mpr ⟨a, ha, by rw [e, hb]⟩) h.1
      · exact nodup_map_inj h.2 a ha b hb e
theorem nat_mem_sort (e : Bool) (l : List S36) {i : Nat} (hi : i < l.length) : (i : Int) ∈ sortI e l :=
  (sortI_perm e l).mem_iff.mpr (by simp only [upTo, List.mem_map, List.mem_range]; exact ⟨i, hi, rfl⟩)
theorem match_rd {l : List S36} {i : Nat} (hi : i < l.length) : rd (matchI l) (i : Int) = (nxt l i : Int) ∧ nxt l i < l.length := by
  have := matchI_in (show 1 ≤ l.length by omega) _ (rd_mem (show i < (matchI l).length by rw [matchI_len]; exact hi))
  unfold nxt
  omega
theorem nxt_perm (l : List S36) : PermF (nxt l) l.length where
  maps := fun i hi => (match_rd hi).2
  inj := fun i j hi hj e => by
    have h1 := (match_rd hi).1
    have h2 := (match_rd hj).1
    have hnd : ((sortI true l).map (fun x => rd (matchI l) x)).Nodup := by rw [match_map]; exact sortI_nodup false l
    have := nodup_map_inj hnd (i : Int) (nat_mem_sort true l hi) (j : Int) (nat_mem_sort true l hj) (by show rd (matchI l) (i : Int) = rd (matchI l) (j : Int); rw [h1, h2, e])
    omega
def ringI (l : List S36) : List Int := (List.range l.length).map (fun i => (lo (nxt l) i l.length : Int))
theorem ringI_len (l : List S36) : (ringI l).length = l.length := by simp [ringI]
theorem ringI_of {l : List S36} {o : List Int} (hl : o.length = l.length) (h : ∀ j, j < l.length → ∃ v, rd o (j : Int) = ((v : Nat) : Int) ∧ Low (nxt l) j v) : o = ringI l := by
  apply List.ext_getElem
  · rw [hl, ringI_len]
  · intro i h1 h2
    obtain ⟨v, e, hv⟩ := h i (by omega)
    rw [rd_get h1] at e
    rw [e]
    simp only [ringI, List.getElem_map, List.getElem_range]
    rw [hv.uniq ((nxt_perm l).low (by omega))]
theorem rd_set_same {o : List Int} {j : Nat} (h : j < o.length) (x : Int) : rd (o.set j x) (j : Int) = x := by
  rw [rd_get (by rw [List.length_set]; exact h), List.getElem_set_self]
theorem rd_set_other {o : List Int} {i j : Nat} (hj : j < o.length) (h : i ≠ j) (x : Int) : rd (o.set i x) (j : Int) = rd o (j : Int) := by
  rw [rd_get (by rw [List.length_set]; exact hj), rd_get hj, List.getElem_set_ne h]
theorem mn_nat (a b : Nat) : mn (a : Int) (b : Int) = ((min a b : Nat) : Int) := by unfold mn; split <;> omega
theorem rings_l1 (l : List S36) (hn : l.length ≤ 9) {r : List Int} {i p : Nat} (hi : i < l.length) (hp : 1 ≤ p) (hb : it (nxt l) p i = i) (hs : ∀ s, 1 ≤ s → s < p → it (nxt l) s i ≠ i) : ∀ (d t : Nat) (o : List Int), t + d = p → 1 ≤ t → o.length = l.length → rd o (i : Int) = (lo (nxt l) i (t - 1) : Int) →
    (∀ o' : List Int, o'.length = l.length → (∀ j, j < l.length → j ≠ i → rd o' (j : Int) = rd o (j : Int)) → rd o' (i : Int) = (lo (nxt l) i (p - 1) : Int) → Ev (fun k => trip_rings.l0 k (matchI l) o' (l.length : Int) ((i + 1 : Nat) : Int)) r) →
    Ev (fun k => trip_rings.l1 k (matchI l) o (i : Int) (it (nxt l) t i : Int) (l.length : Int) (i : Int)) r
  | 0, t, o, e, ht, hl, ho, hr => by
    refine Ev.succ ?_
    obtain rfl : t = p := by omega
    simp only [trip_rings.l1, hb, if_true, w64s i (show i < 9223372036854775807 by omega)]
    exact hr o hl (fun _ _ _ => rfl) ho
  | d + 1, t, o, e, ht, hl, ho, hr => by
    refine Ev.succ ?_
    have hlt := (nxt_perm l).lt hi t
    have hne := hs t ht (by omega)
    have hm := (match_rd hlt).1
    have eo : mn (lo (nxt l) i (t - 1) : Int) (it (nxt l) t i : Int) = (lo (nxt l) i t : Int) := by
      rw [mn_nat]
      obtain ⟨s, rfl⟩ : ∃ s, t = s + 1 := ⟨t - 1, by omega⟩
      rfl
    simp only [trip_rings.l1, if_neg (show ¬ (it (nxt l) t i : Int) = (i : Int) by omega), if_pos (show (0 : Int) ≤ (i : Int) by omega), if_pos (show (i : Int) < (o.length : Int) by omega), if_pos (show (0 : Int) ≤ (it (nxt l) t i : Int) by omega), matchI_len, if_pos (show (it (nxt l) t i : Int) < (l.length : Int) by omega), ho, eo, hm, Int.toNat_natCast]
    refine rings_l1 l hn hi hp hb hs d (t + 1) (o.set i (lo (nxt l) i t : Int)) (by omega) (by omega) (by rw [List.length_set]; exact hl) (by rw [rd_set_same (by omega)]; rfl) (fun o' h1 h2 h3 => hr o' h1 (fun j hj hji => ?_) h3)
    rw [h2 j hj hji, rd_set_other (by omega) (fun e => hji e.symm)]
theorem rings_l0 (l : List S36) (hn : l.length ≤ 9) : ∀ (d i : Nat) (o : List Int), i + d = l.length → o.length = l.length → (∀ j, j < i → ∃ v, rd o (j : Int) = ((v : Nat) : Int) ∧ Low (nxt l) j v) →
    Ev (fun k => trip_rings.l0 k (matchI l) o (l.length : Int) (i : Int)) (ringI l)
  | 0, i, o, e, hl, ho => by
    refine Ev.succ ?_
    simp only [trip_rings.l0, if_neg (show ¬ (i : Int) < (l.length : Int) by omega)]
    rw [← ringI_of hl (fun j hj => ho j (by omega))]
    exact Ev.pure _
  | d + 1, i, o, e, hl, ho => by
    refine Ev.succ ?_
    have hi : i < l.length := by omega
    obtain ⟨p, hp, hpn, hb, hs⟩ := (nxt_perm l).back hi
    have hm := (match_rd hi).1
    have e1 : (nxt l i : Int) = (it (nxt l) 1 i : Int) := rfl
    simp only [trip_rings.l0, if_pos (show (i : Int) < (l.length : Int) by omega), if_pos (show (0 : Int) ≤ (i : Int) by omega), if_pos (show (i : Int) < (o.length : Int) by omega), matchI_len, hm, Int.toNat_natCast, e1]
    refine rings_l1 l hn hi hp hb hs (p - 1) 1 (o.set i (i : Int)) (by omega) (Nat.le_refl 1) (by rw [List.length_set]; exact hl) (by rw [rd_set_same (by omega)]; rfl) (fun o' h1 h2 h3 => ?_)
    refine rings_l0 l hn d (i + 1) o' (by omega) h1 (fun j hj => ?_)
    by_cases hji : j = i
    · subst hji
      exact ⟨_, h3, lo_low hp hb (by omega)⟩
    · rw [h2 j (by omega) hji, rd_set_other (by omega) (fun e => hji e.symm)]
      exact ho j (by omega)
theorem rings_ev {l : List S36} {U D : Int} (h : Right l U D) : Ev (fun k => trip_rings.f k l) (ringI l) := by
  unfold trip_rings.f
  have h9 := h.len
  refine Ev.bind (matching_ev h) ?_
  simp only [matchI_len, if_pos (Int.natCast_nonneg l.length), Int.toNat_natCast, if_pos (show l.length ≤ 35184372088832 by omega), Option.bind_some, List.length_replicate]
  exact rings_l0 l h9.2 l.length 0 _ (by omega) (by simp) (fun j hj => by omega)
end Go.Proofs.Ytlmlneneakpohaa.OAll
