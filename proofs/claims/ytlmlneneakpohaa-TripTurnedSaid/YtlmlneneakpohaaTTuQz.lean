/- A part of the proof of 'tripTurned_holds', for every input, without a condition. -/
import Derived.Test.YtlmlneneakpohaaTTuQx
import Derived.Test.YtlmlneneakpohaaTTuQf
import Derived.Test.YtlmlneneakpohaaTTuOAllx11
namespace Go.Proofs.Ytlmlneneakpohaa.OAll
open Go.RowKit Go.Proofs.YtlmlneneakpohaaW.PrintWords Go.Proofs.YtlmlneneakpohaaW.PrintLast Go.Proofs.YtlmlneneakpohaaW.PrintMore
set_option linter.unusedVariables false
set_option linter.unusedSimpArgs false
def backR (x : S36) : S36 := ⟨x.f1, x.f0⟩
theorem climb_turn (U D a b : Int) : climbI D U b a = climbI U D a b := by
  unfold climbI
  by_cases h : a > b
  · rw [if_pos h, if_neg (by omega)]
  · rw [if_neg h]
    by_cases h2 : b > a
    · rw [if_pos h2]
    · rw [if_neg h2]
      have : a = b := by omega
      subst this
      simp
theorem rd36_map (f : S36 → S36) (l : List S36) {j : Nat} (h : j < l.length) : rd_T36 (l.map f) (j : Int) = f (rd_T36 l (j : Int)) := by
  rw [rd36_get h, rd36_get (show j < (l.map f).length by simpa using h)]
  simp
theorem emp_turn (l : List S36) (U D : Int) {i k : Nat} (hi : i < l.length) (hk : k < l.length) : emp (l.map backR) D U (k : Int) (i : Int) = emp l U D (i : Int) (k : Int) := by
  unfold emp
  rw [rd36_map _ _ hi, rd36_map _ _ hk]
  exact climb_turn U D _ _
theorem turn_perm {n : Nat} (hn : 1 ≤ n) : PermF (fun j => n - 1 - (j + 1) % n) n where
  maps := fun i hi => by have := Nat.mod_lt (i + 1) (show 0 < n by omega); omega
  inj := fun i j hi hj e => by
    have h1 := Nat.mod_lt (i + 1) (show 0 < n by omega)
    have h2 := Nat.mod_lt (j + 1) (show 0 < n by omega)
    exact (next_perm n).inj i j hi hj (by show (i + 1) % n = (j + 1) % n; omega)
theorem ord_rev {n : Nat} {o : List Int} (h : IsOrd n o) : IsOrd n o.reverse := ⟨fun x hx => h.1 x (List.mem_reverse.mp hx), by rw [List.nodup_iff_pairwise_ne, List.pairwise_reverse]; exact List.Pairwise.imp (fun hab e => hab e.symm) (List.nodup_iff_pairwise_ne.mp h.2.1), by rw [List.length_reverse]; exact h.2.2⟩
theorem rd_rev {o : List Int} {j : Nat} (h : j < o.length) : rd o.reverse (j : Int) = rd o ((o.length - 1 - j : Nat) : Int) := by
  rw [rd_get (show j < o.reverse.length by simpa using h), rd_get (show o.length - 1 - j < o.length by omega), List.getElem_reverse]
theorem cost_turn {l : List S36} (U D : Int) {o : List Int} (ho : IsOrd l.length o) (hn : 1 ≤ l.length) : costI (l.map backR) D U o.reverse = costI l U D o := by
  have hl := ho.2.2
  unfold costI
  rw [List.length_reverse, hl, ← (turn_perm hn).sum (nextE l U D o)]
  refine sumE_cg _ (fun j hj => ?_)
  have hm := Nat.mod_lt (j + 1) (show 0 < l.length by omega)
  have e1 : rd o.reverse (j : Int) = rd o ((l.length - 1 - j : Nat) : Int) := by rw [rd_rev (by omega), hl]
  have e2 : rd o.reverse (((j + 1) % o.reverse.length : Nat) : Int) = rd o ((l.length - 1 - (j + 1) % l.length : Nat) : Int) := by
    rw [List.length_reverse, hl, rd_rev (by omega), hl]
  have e3 : (l.length - 1 - (j + 1) % l.length + 1) % o.length = l.length - 1 - j := by
    rw [hl]
    by_cases c : j + 1 = l.length
    · rw [c, Nat.mod_self, show l.length - 1 - 0 + 1 = l.length by omega, Nat.mod_self]; omega
    · rw [Nat.mod_eq_of_lt (show j + 1 < l.length by omega), Nat.mod_eq_of_lt (by omega)]; omega
  unfold nextE
  rw [e1, e2, e3]
  have h1 := ord_rd ho (show l.length - 1 - j < l.length by omega)
  have h2 := ord_rd ho (show l.length - 1 - (j + 1) % l.length < l.length by omega)
  rw [h1.1, h2.1]
  exact emp_turn l U D h2.2 h1.2
theorem right_back {l : List S36} {U D : Int} (h : Right l U D) : Right (l.map backR) D U := ⟨by simpa using h.len, fun x hx => by
  obtain ⟨y, hy, rfl⟩ := List.mem_map.mp hx
  have := h.at_ y hy
  simp only [backR]
  omega, h.D_, h.U_⟩
theorem back_back (l : List S36) : (l.map backR).map backR = l := by
  rw [List.map_map]
  exact (List.map_congr_left fun x _ => rfl).trans (List.map_id l)
theorem least_turn_le {l : List S36} {U D : Int} (h : Right l U D) : worthI (l.map backR) D U + (patchI (l.map backR) D U).2 ≤ worthI l U D + (patchI l U D).2 := by
  obtain ⟨o, ho, _, hc⟩ := tour_le h
  have h2 := order_ge (right_back h) (o := o.reverse) (by rw [List.length_map]; exact ord_rev ho)
  rw [cost_turn U D ho h.len.1] at h2
  omega
theorem least_turn {l : List S36} {U D : Int} (h : Right l U D) : worthI (l.map backR) D U + (patchI (l.map backR) D U).2 = worthI l U D + (patchI l U D).2 := by
  have h1 := least_turn_le h
  have h2 := least_turn_le (right_back h)
  rw [back_back] at h2
  omega
def highR (m : Int) (x : S36) : S36 := ⟨x.f0 + m, x.f1 + m⟩
theorem climb_high (U D a b m : Int) : climbI U D (a + m) (b + m) = climbI U D a b := by
  unfold climbI
  by_cases h : b > a
  · rw [if_pos h, if_pos (by omega), show b + m - (a + m) = b - a by omega]
  · rw [if_neg h, if_neg (by omega), show a + m - (b + m) = a - b by omega]
theorem cost_high {l : List S36} (U D m : Int) {o : List Int} (ho : IsOrd l.length o) (hn : 1 ≤ l.length) : costI (l.map (highR m)) U D o = costI l U D o := by
  unfold costI
  rw [ho.2.2]
  refine sumE_cg _ (fun j hj => ?_)
  have h1 := ord_rd ho hj
  have h2 := ord_rd ho (Nat.mod_lt (j + 1) (show 0 < l.length by omega))
  unfold nextE
  rw [ho.2.2, h1.1, h2.1]
  unfold emp
  rw [rd36_map _ _ h1.2, rd36_map _ _ h2.2]
  exact climb_high U D _ _ m
theorem least_high {l : List S36} {U D m : Int} (h : Right l U D) (h' : Right (l.map (highR m)) U D) : worthI (l.map (highR m)) U D + (patchI (l.map (highR m)) U D).2 = worthI l U D + (patchI l U D).2 := by
  obtain ⟨o, ho, _, hc⟩ := tour_le h
  have h2 := order_ge h' (o := o) (by rw [List.length_map]; exact ho)
  rw [cost_high U D m ho h.len.1] at h2
  obtain ⟨o', ho', _, hc'⟩ := tour_le h'
  rw [List.length_map] at ho'
  have h3 := order_ge h ho'
  rw [cost_high U D m ho' h.len.1] at hc'
  omega
theorem pickT_cg {c c' : List Nat → Int} : ∀ (L : List (List Nat)) (st : List Nat × Int), (∀ m ∈ L, c m = c' m) → pickT c st L = pickT c' st L
  | [], _, _ => rfl
  | m :: L, st, h => by
    show pickT c (stepT c st m) L = pickT c' (stepT c' st m) L
    have e : stepT c st m = stepT c' st m := by unfold stepT; rw [h m (by simp)]
    rw [e]
    exact pickT_cg L _ (fun x hx => h x (by simp [hx]))
theorem leaf_ord_ {n : Nat} (hn : 1 ≤ n) {m : List Nat} (h : m ∈ leaves n (n - 1) [0]) : IsOrd n (cs m) := by
  obtain ⟨t, rfl, h1, h2, h3, h4⟩ := (leaves_mem _ _ _ m).mp h
  have hb : ∀ x ∈ [0] ++ t, x < n := fun x hx => by
    rcases List.mem_append.mp hx with h | h
    · simp at h; omega
    · exact h2 x h
  refine ⟨cs_range hb, ?_, by rw [cs_len]; simp; omega⟩
  have hnd : ([0] ++ t).Nodup := by
    rw [List.singleton_append, List.nodup_cons]
    exact ⟨fun h0 => h4 0 h0 (by simp), h3⟩
  unfold cs
  rw [List.nodup_iff_pairwise_ne, List.pairwise_map]
  exact List.Pairwise.imp (fun {a b} hab e => hab (by omega)) (List.nodup_iff_pairwise_ne.mp hnd)
theorem bestT_high {l : List S36} {U D m : Int} (h : Right l U D) : bestT (l.map (highR m)) U D = bestT l U D := by
  unfold bestT
  rw [List.length_map]
  exact pickT_cg _ _ (fun x hx => cost_high U D m (leaf_ord_ h.len.1 hx) h.len.1)
theorem turned_l0 {l : List S36} {U D a : Int} (hR : Right l U D) (ha : 0 ≤ a ∧ a ≤ 65535) : ∀ t p : List S36, p ++ t = l → Ev (fun k => trishawlaw06_TripTurned.l0 k (p ++ t) a (p.map backR) (p.map (highR a)) (p.length : Int) U D) true
  | [], p, e => by
    refine Ev.succ ?_
    rw [List.append_nil] at e ⊢
    subst e
    have c := right_day hR
    have cb := right_day (right_back hR)
    simp only [trishawlaw06_TripTurned.l0, if_neg (show ¬ (p.length : Int) < (p.length : Int) by omega)]
    refine Ev.bind (Least_ev p U D) (Ev.bind (Least_ev (p.map backR) D U) ?_)
    have e1 : leastR (p.map backR) D U = leastR p U D := by unfold leastR; rw [if_pos c, if_pos cb, least_turn hR]
    have e0 : leastR p U D = (worthI p U D + (patchI p U D).2, 0) := by unfold leastR; rw [if_pos c]
    rw [e1, e0]
    obtain ⟨G, hG⟩ : ∃ G, G = worthI p U D + (patchI p U D).2 := ⟨_, rfl⟩
    rw [← hG]
    simp only [if_true, bne_self_eq_false]
    refine Ev.succ ?_
    simp only [trishawlaw06_TripTurned.j2, Bool.false_eq_true, if_false]
    refine Ev.bind (ref_rides (p.map (highR a))) ?_
    by_cases ch : ridesE (p.map (highR a)) = 0
    · have hH := rides_right ch
      have hR2 : Right (p.map (highR a)) U D := ⟨hH.1, hH.2, hR.U_, hR.D_⟩
      have c2 := right_day hR2
      simp only [if_pos ch]
      refine Ev.bind (Least_ev _ U D) (Ev.bind (tour_ev p U D) (Ev.bind (tour_ev _ U D) ?_))
      have e2 : leastR (p.map (highR a)) U D = (G, 0) := by unfold leastR; rw [if_pos c2, least_high hR hR2, ← hG]
      have e3 : tourR (p.map (highR a)) U D = tourR p U D := by
        unfold tourR
        rw [if_pos c2, if_pos c, List.length_map, bestT_high hR]
      rw [e2, e3]
      simp only [if_true]
      refine Ev.bind (same_ev _ _ ?_) ?_
      · have h9 := hR.len
        unfold tourR
        rw [if_pos c]
        split
        · simp
        · rename_i h7
          obtain ⟨hs, hne⟩ := bestT_ok hR (by omega)
          have hmem : ∀ L : List (List Nat), ∀ st : List Nat × Int, (st.1.length ≤ 100) → (∀ m ∈ L, m.length ≤ 100) → (pickT (costN p U D) st L).1.length ≤ 100 := by
            intro L
            induction L with
            | nil => intro st h1 _; exact h1
            | cons m L ih =>
              intro st h1 h2
              show (pickT (costN p U D) (stepT (costN p U D) st m) L).1.length ≤ 100
              refine ih _ ?_ (fun x hx => h2 x (by simp [hx]))
              unfold stepT
              split
              · exact h2 m (by simp)
              · exact h1
          have := hmem (leaves p.length (p.length - 1) [0]) ([], -1) (by simp) (fun m hm => by
            have := (leaf_ord_ h9.1 hm).2.2
            rw [cs_len] at this
            omega)
          show (cs (bestT p U D).1).length ≤ _
          rw [cs_len]
          unfold bestT
          omega
      · simp only [decide_true, if_true]
        exact alive_ev'
    · simp only [if_neg ch]
      exact alive_ev'
  | x :: t, p, e => by
    refine Ev.succ ?_
    have h9 := hR.len
    have hl : (p ++ x :: t).length ≤ 9 := by rw [e]; exact h9.2
    have hlp : p.length ≤ 9 := by simp at hl; omega
    have hx := hR.at_ x (by rw [← e]; simp)
    have e2 : wrap64 ((p.length : Int) + 1) = (((p ++ [x]).length : Nat) : Int) := mid_next p t x (by omega)
    have ih := turned_l0 hR ha t (p ++ [x]) (by rw [← e]; simp)
    rw [← mid_assoc] at ih
    simp only [trishawlaw06_TripTurned.l0, if_pos (mid_lt p t x), if_pos (nonneg_len p), rd36_mid, List.length_map, if_pos (show p.length < 8796093022208 by omega), e2, w64 (n := a) (by omega) (by omega), w64 (n := x.f0 + a) (by omega) (by omega), w64 (n := x.f1 + a) (by omega) (by omega)]
    simp only [List.map_append, List.map_cons, List.map_nil] at ih
    exact ih
theorem turned_j0 (l : List S36) (a : Int) (ha : 0 ≤ a ∧ a ≤ 65535) (b : Bool) (U D : Int) (hb : b = false → dayE l U D = 0) : Ev (fun k => trishawlaw06_TripTurned.j0 k l a b U D) true := by
  refine Ev.succ ?_
  simp only [trishawlaw06_TripTurned.j0]
  cases b
  · simp only [Bool.false_eq_true, if_false]
    exact turned_l0 (day_right (hb rfl)) ha l [] rfl
  · simp only [if_true]; exact alive_ev'
theorem TripTurned_ev (l : List S36) (U D a : Int) (hw : (Lit.int .u16 a).wf = true) : Ev (fun k => trishawlaw06_TripTurned.f k l U D a) true := by
  unfold trishawlaw06_TripTurned.f
  have ha := wf16 hw
  simp only [few_nil, Option.bind_some]
  split
  · refine Ev.bind (ref_day l U D) ?_
    exact turned_j0 l a ha _ U D (fun h => by simpa using h)
  · exact turned_j0 l a ha true U D (fun h => by cases h)
end Go.Proofs.Ytlmlneneakpohaa.OAll
