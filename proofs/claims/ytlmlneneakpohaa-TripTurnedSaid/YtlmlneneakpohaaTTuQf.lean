/- A part of the proof of 'tripTurned_holds', for every input, without a condition. -/
import Derived.Test.YtlmlneneakpohaaTTuQd
import Derived.Test.YtlmlneneakpohaaTTuOAllx0
import Derived.Test.YtlmlneneakpohaaTTuOAllx3
import Derived.Test.YtlmlneneakpohaaTTuOAllx4
import Derived.Test.YtlmlneneakpohaaTTuOAllx9
namespace Go.Proofs.Ytlmlneneakpohaa.OAll
open Go.RowKit Go.Proofs.YtlmlneneakpohaaW.PrintWords Go.Proofs.YtlmlneneakpohaaW.PrintLast Go.Proofs.YtlmlneneakpohaaW.PrintMore
set_option linter.unusedVariables false
set_option linter.unusedSimpArgs false
def leavesAt (n : Nat) (f : List Nat → List (List Nat)) (now : List Nat) (k : Nat) : List (List Nat) := if k ∈ now then [] else f (now ++ [k])
def leaves (n : Nat) : Nat → List Nat → List (List Nat)
  | 0, now => [now]
  | d + 1, now => (List.range n).flatMap (leavesAt n (leaves n d) now)
theorem leaves_mem (n : Nat) : ∀ (d : Nat) (now m : List Nat), m ∈ leaves n d now ↔ ∃ t, m = now ++ t ∧ t.length = d ∧ (∀ x ∈ t, x < n) ∧ t.Nodup ∧ ∀ x ∈ t, x ∉ now
  | 0, now, m => by
    simp only [leaves, List.mem_singleton]
    constructor
    · rintro rfl; exact ⟨[], by simp⟩
    · rintro ⟨t, rfl, ht, _⟩; obtain rfl := List.eq_nil_of_length_eq_zero ht; simp
  | d + 1, now, m => by
    simp only [leaves, List.mem_flatMap, List.mem_range, leavesAt]
    constructor
    · rintro ⟨k, hk, h⟩
      split at h
      · simp at h
      · rename_i hkn
        obtain ⟨t, rfl, h1, h2, h3, h4⟩ := (leaves_mem n d _ m).mp h
        refine ⟨k :: t, by simp, by simp [h1], ?_, ?_, ?_⟩
        · intro x hx; rcases List.mem_cons.mp hx with h | h <;> first | exact h ▸ hk | exact h2 x h
        · exact List.nodup_cons.mpr ⟨fun hkt => h4 k hkt (by simp), h3⟩
        · intro x hx
          rcases List.mem_cons.mp hx with rfl | hx
          · exact hkn
          · exact fun hxn => h4 x hx (by simp [hxn])
    · rintro ⟨t, rfl, h1, h2, h3, h4⟩
      cases t with
      | nil => simp at h1
      | cons k t =>
        have h3' := List.nodup_cons.mp h3
        refine ⟨k, h2 k (by simp), ?_⟩
        rw [if_neg (h4 k (by simp))]
        refine (leaves_mem n d _ _).mpr ⟨t, by simp, by simpa using h1, fun x hx => h2 x (by simp [hx]), h3'.2, fun x hx hxn => ?_⟩
        simp only [List.mem_append, List.mem_singleton] at hxn
        rcases hxn with hxn | rfl
        · exact h4 x (by simp [hx]) hxn
        · exact h3'.1 hx
def cs (m : List Nat) : List Int := m.map fun k : Nat => (k : Int)
theorem cs_len (m : List Nat) : (cs m).length = m.length := by simp [cs]
theorem cs_app (m : List Nat) (k : Nat) : cs (m ++ [k]) = cs m ++ [(k : Int)] := by simp [cs]
theorem cs_mem (m : List Nat) (k : Nat) : (k : Int) ∈ cs m ↔ k ∈ m := by
  simp only [cs, List.mem_map]
  constructor
  · rintro ⟨a, ha, e⟩; have : a = k := by omega
    exact this ▸ ha
  · intro h; exact ⟨k, h, rfl⟩
theorem cs_nil (m : List Nat) : cs m = [] ↔ m = [] := by simp [cs]
theorem index_ev (x : Int) : ∀ (t p : List Int), (p ++ t).length ≤ 1000 → x ∉ p → Ev (fun k => slices_Index_int_int.l0 k (p ++ t) x ((p ++ t).length : Int) p.length) (if x ∈ t then (p.length + t.idxOf x : Int) else -1)
  | [], p, hl, hp => by
    refine Ev.succ ?_
    simp only [slices_Index_int_int.l0]
    simp only [if_neg (mid_end p)]
    simp only [List.not_mem_nil, if_false]
    exact Ev.pure _
  | y :: t, p, hl, hp => by
    refine Ev.succ ?_
    simp only [slices_Index_int_int.l0]
    simp only [if_pos (mid_lt p t y)]
    simp only [nonneg_len, if_true, mid_lt p t y, rd_mid]
    by_cases e : x = y
    · simp only [if_pos e]
      rw [if_pos (by simp [e])]
      subst e
      simp only [List.idxOf_cons_self]
      exact Ev.pure _
    · simp only [if_neg e, mid_next p t y (show (p ++ y :: t).length ≤ 9223372036854775807 by omega)]
      rw [mid_assoc]
      have := index_ev x t (p ++ [y]) (by simpa using hl) (by simp [hp, e])
      refine Ev.congr (fun _ => rfl) ?_
      have e2 : (if x ∈ y :: t then (p.length + (y :: t).idxOf x : Int) else -1) = (if x ∈ t then ((p ++ [y]).length + t.idxOf x : Int) else -1) := by
        simp only [List.mem_cons, e, false_or]
        split
        · have e3 : (y == x) = false := beq_eq_false_iff_ne.mpr (fun h => e h.symm)
          rw [List.idxOf_cons, e3]; simp; omega
        · rfl
      rw [e2]; exact this
theorem contains_ev (l : List Int) (x : Int) (hl : l.length ≤ 1000) : Ev (fun k => slices_Contains_int_int.f k l x) (decide (x ∈ l)) := by
  unfold slices_Contains_int_int.f slices_Index_int_int.f
  refine Ev.bind (a := if x ∈ l then (([] : List Int).length + l.idxOf x : Int) else -1) (index_ev x l [] (by simpa using hl) (by simp)) ?_
  refine Ev.of_some ?_
  by_cases h : x ∈ l
  · simp only [h, if_true]; simp
  · simp only [h, if_false]; simp
theorem clone_eq (l : List Int) (h : l.length ≤ 1000) : slices_Clone_int_int.f l = some l := by
  unfold slices_Clone_int_int.f; rw [if_pos (by simp; omega)]
theorem fl_succ {n i : Nat} (h : i < n) : List.range' i (n - i) = i :: List.range' (i + 1) (n - (i + 1)) := by
  rw [show n - i = (n - (i + 1)) + 1 by omega, List.range'_succ]
theorem fl_end {n i : Nat} (h : n ≤ i) : List.range' i (n - i) = [] := by rw [show n - i = 0 by omega]; rfl
theorem fl_range (n : Nat) : List.range n = List.range' 0 (n - 0) := by simp [List.range_eq_range']
def stepT (c : List Nat → Int) (st : List Nat × Int) (m : List Nat) : List Nat × Int := if st.2 < 0 ∨ c m < st.2 then (m, c m) else st
def pickT (c : List Nat → Int) (st : List Nat × Int) (L : List (List Nat)) : List Nat × Int := L.foldl (stepT c) st
theorem pickT_app (c : List Nat → Int) (st : List Nat × Int) (A B : List (List Nat)) : pickT c st (A ++ B) = pickT c (pickT c st A) B := by simp [pickT]
theorem pickT_nonneg (c : List Nat → Int) : ∀ (L : List (List Nat)) (a : List Nat × Int), (∀ m ∈ L, 0 ≤ c m) → (0 ≤ a.2 ∨ L ≠ []) → 0 ≤ (pickT c a L).2
  | [], a, _, h => by
    rcases h with h | h
    · exact h
    · exact absurd rfl h
  | m :: L, a, hc, _ => by
    refine pickT_nonneg c L (stepT c a m) (fun x hx => hc x (by simp [hx])) (.inl ?_)
    have := hc m (by simp)
    unfold stepT; split <;> (try dsimp only) <;> omega
def StT (st : List Nat × Int) : Prop := (st.1 = [] ∧ st.2 < 0) ∨ (st.1 ≠ [] ∧ 0 ≤ st.2)
theorem stepT_ok {c : List Nat → Int} {st : List Nat × Int} {m : List Nat} (h : StT st) (hm : m ≠ []) (hc : 0 ≤ c m) : StT (stepT c st m) := by
  unfold stepT; split
  · exact .inr ⟨hm, hc⟩
  · exact h
theorem pickT_ok {c : List Nat → Int} : ∀ (L : List (List Nat)) (st : List Nat × Int), StT st → (∀ m ∈ L, m ≠ [] ∧ 0 ≤ c m) → StT (pickT c st L)
  | [], _, h, _ => h
  | m :: L, st, h, hL => pickT_ok L (stepT c st m) (stepT_ok h (hL m (by simp)).1 (hL m (by simp)).2) (fun x hx => hL x (by simp [hx]))
def seenT (st : List Nat × Int) : List Int × Int := (cs st.1, if st.1 = [] then 0 else st.2)
theorem sumE_congr {f g : Nat → Int} : ∀ n : Nat, (∀ j, j < n → f j = g j) → sumE f n = sumE g n
  | 0, _ => rfl
  | n + 1, h => by simp only [sumE]; rw [sumE_congr n (fun j hj => h j (by omega)), h n (by omega)]
def hop (l : List S36) (U D : Int) (o : List Int) (j : Nat) : Int := emp l U D (rd o (j : Int)) (rd o ((j + 1 : Nat) : Int))
def wayE (l : List S36) (U D : Int) (o : List Int) : Int := sumE (hop l U D o) (o.length - 1)
theorem rd_app_left {o s : List Int} {j : Nat} (h : j < o.length) : rd (o ++ s) (j : Int) = rd o (j : Int) := by
  rw [rd_get h, rd_get (show j < (o ++ s).length by simp; omega), List.getElem_append_left h]
theorem rd_app_last (o : List Int) (x : Int) : rd (o ++ [x]) (o.length : Int) = x := rd_mid o [] x
theorem wayE_snoc (l : List S36) (U D : Int) (o : List Int) (x : Int) (h : o ≠ []) : wayE l U D (o ++ [x]) = wayE l U D o + emp l U D (rd o ((o.length - 1 : Nat) : Int)) x := by
  have hp : 0 < o.length := List.length_pos_iff.mpr h
  unfold wayE
  rw [show (o ++ [x]).length - 1 = (o.length - 1) + 1 by simp; omega]
  simp only [sumE]
  congr 1
  · exact sumE_congr _ (fun j hj => by unfold hop; rw [rd_app_left (by omega), rd_app_left (by omega)])
  · unfold hop
    rw [rd_app_left (by omega), show ((o.length - 1 + 1 : Nat) : Int) = (o.length : Int) by omega, rd_app_last]
theorem costI_way (l : List S36) (U D : Int) (o : List Int) (h : o ≠ []) : costI l U D o = wayE l U D o + emp l U D (rd o ((o.length - 1 : Nat) : Int)) (rd o 0) := by
  have hp : 0 < o.length := List.length_pos_iff.mpr h
  unfold costI wayE
  obtain ⟨n, hn⟩ : ∃ n, o.length = n + 1 := ⟨o.length - 1, by omega⟩
  rw [hn, Nat.add_sub_cancel]
  simp only [sumE]
  congr 1
  · exact sumE_congr _ (fun j hj => by unfold nextE hop; rw [hn, Nat.mod_eq_of_lt (show j + 1 < n + 1 by omega)])
  · unfold nextE; rw [hn, Nat.mod_self]; rfl
theorem wayE_bound {l : List S36} {U D : Int} (h : Right l U D) {o : List Int} (ho : ∀ x ∈ o, 0 ≤ x ∧ x < (l.length : Int)) (hl : o.length ≤ 30) : 0 ≤ wayE l U D o ∧ wayE l U D o ≤ 30000000 := by
  have := sumE_bound (f := hop l U D o) (B := 1000000) (o.length - 1) (fun j hj => by
    have h1 := ho _ (rd_mem (show j < o.length by omega))
    have h2 := ho _ (rd_mem (show j + 1 < o.length by omega))
    exact emp_bound h h1.1 h1.2 h2.1 h2.2)
  unfold wayE; omega
theorem costI_bound {l : List S36} {U D : Int} (h : Right l U D) {o : List Int} (ho : ∀ x ∈ o, 0 ≤ x ∧ x < (l.length : Int)) (hl : o.length ≤ 30) : 0 ≤ costI l U D o ∧ costI l U D o ≤ 30000000 := by
  have := sumE_bound (f := nextE l U D o) (B := 1000000) o.length (fun j hj => nextE_bound h ho hj)
  unfold costI; omega
def costN (l : List S36) (U D : Int) (m : List Nat) : Int := costI l U D (cs m)
theorem cs_range {m : List Nat} {n : Nat} (h : ∀ x ∈ m, x < n) : ∀ x ∈ cs m, 0 ≤ x ∧ x < (n : Int) := by
  intro x hx
  simp only [cs, List.mem_map] at hx
  obtain ⟨a, ha, rfl⟩ := hx
  have := h a ha; omega
theorem tour_on_ev {l : List S36} {U D : Int} (hR : Right l U D) (h7 : l.length ≤ 7) : ∀ (d : Nat) (m : List Nat) (st : List Nat × Int), m.length + d = l.length → (∀ x ∈ m, x < l.length) → m.head? = some 0 → StT st →
    Ev (fun k => trip_Tour.on k l U D (cs m) (wayE l U D (cs m)) (seenT st).1 (seenT st).2) (seenT (pickT (costN l U D) st (leaves l.length d m))) := by
  intro d
  induction d with
  | zero =>
    intro m st hm hx h0 hs
    refine Ev.succ ?_
    have hne : m ≠ [] := by intro e; rw [e] at h0; simp at h0
    have hcs : ¬ cs m = [] := by rw [cs_nil]; exact hne
    have hp : 0 < m.length := List.length_pos_iff.mpr hne
    have e1 : ((cs m).length : Int) = (l.length : Int) := by rw [cs_len]; omega
    have el : ((cs m).length : Int) - 1 = ((m.length - 1 : Nat) : Int) := by rw [cs_len]; omega
    have hlast := cs_range hx _ (rd_mem (o := cs m) (j := m.length - 1) (by rw [cs_len]; omega))
    have hz : rd (cs m) 0 = 0 := by
      cases m with
      | nil => exact absurd rfl hne
      | cons a t => simp at h0; subst h0; rfl
    have ec : costN l U D m = wayE l U D (cs m) + emp l U D (rd (cs m) ((m.length - 1 : Nat) : Int)) 0 := by
      unfold costN; rw [costI_way l U D (cs m) hcs, hz, cs_len]
    have hc := costI_bound hR (cs_range hx) (by rw [cs_len]; omega)
    have hlen : (cs m).length ≤ 1000 := by rw [cs_len]; omega
    simp only [trip_Tour.on, if_neg hcs, if_pos e1, el, dempty_eq hR hlast.1 hlast.2 (Int.le_refl 0) (show (0 : Int) < (l.length : Int) by omega), Option.bind_some, ← ec]
    have hc' : 0 ≤ costN l U D m ∧ costN l U D m ≤ 30000000 := hc
    have ew : wrap64 (costN l U D m) = costN l U D m := w64 (by omega) (by omega)
    have hp2 : pickT (costN l U D) st (leaves l.length 0 m) = stepT (costN l U D) st m := rfl
    rw [hp2, ew]
    rcases hs with ⟨hb, h2⟩ | ⟨hb, h2⟩
    · have : (seenT st).1 = [] := by simp [seenT, hb, cs]
      simp only [if_pos this, clone_eq _ hlen, Option.bind_some]
      rw [stepT, if_pos (.inl h2)]
      simp only [seenT, hne, if_false]
      exact Ev.pure _
    · have h1 : ¬ (seenT st).1 = [] := by simp [seenT, cs_nil, hb]
      have h3 : (seenT st).2 = st.2 := by simp [seenT, hb]
      simp only [if_neg h1, h3]
      by_cases hg : costN l U D m < st.2
      · simp only [if_pos hg, clone_eq _ hlen, Option.bind_some]
        rw [stepT, if_pos (.inr hg)]
        simp only [seenT, hne, if_false]
        exact Ev.pure _
      · simp only [if_neg hg]
        rw [stepT, if_neg (by omega)]
        have : seenT st = ((seenT st).1, st.2) := by rw [← h3]
        rw [this]
        exact Ev.pure _
  | succ d ih =>
    intro m st hm hx h0 hs
    refine Ev.succ ?_
    have hne : m ≠ [] := by intro e; rw [e] at h0; simp at h0
    have hcs : ¬ cs m = [] := by rw [cs_nil]; exact hne
    have hp : 0 < m.length := List.length_pos_iff.mpr hne
    have e1 : ¬ ((cs m).length : Int) = (l.length : Int) := by rw [cs_len]; omega
    have el : ((cs m).length : Int) - 1 = ((m.length - 1 : Nat) : Int) := by rw [cs_len]; omega
    have hlast := cs_range hx _ (rd_mem (o := cs m) (j := m.length - 1) (by rw [cs_len]; omega))
    simp only [trip_Tour.on, if_neg hcs, if_neg e1, el]
    have go : ∀ (c i : Nat) (st : List Nat × Int), l.length - i = c → StT st → Ev (fun k => trip_Tour.l0 k l U D (cs m) (wayE l U D (cs m)) (rd (cs m) ((m.length - 1 : Nat) : Int)) (seenT st).1 (seenT st).2 (i : Int)) (seenT (pickT (costN l U D) st ((List.range' i (l.length - i)).flatMap (leavesAt l.length (leaves l.length d) m)))) := by
      intro c
      induction c with
      | zero =>
        intro i st hc hs
        refine Ev.succ ?_
        simp only [trip_Tour.l0, if_neg (show ¬ (i : Int) < (l.length : Int) by omega)]
        rw [fl_end (by omega)]
        exact Ev.pure _
      | succ c ihc =>
        intro i st hc hs
        refine Ev.succ ?_
        have c3 : wrap64 ((i : Int) + 1) = ((i + 1 : Nat) : Int) := w64s i (by omega)
        simp only [trip_Tour.l0, if_pos (show (i : Int) < (l.length : Int) by omega), if_pos (show (0 : Int) ≤ (i : Int) by omega)]
        refine Ev.bind (contains_ev (cs m) (i : Int) (by rw [cs_len]; omega)) ?_
        rw [fl_succ (by omega), List.flatMap_cons, pickT_app]
        by_cases hi : i ∈ m
        · have : decide ((i : Int) ∈ cs m) = true := by rw [decide_eq_true_eq, cs_mem]; exact hi
          simp only [this, Bool.true_eq_false, if_false, c3]
          have e : leavesAt l.length (leaves l.length d) m i = [] := by rw [leavesAt, if_pos hi]
          rw [e]
          exact ihc (i + 1) st (by omega) hs
        · have : decide ((i : Int) ∈ cs m) = false := by rw [decide_eq_false_iff_not, cs_mem]; exact hi
          rw [this]
          have c4 : (cs m).length < 17592186044415 := by rw [cs_len]; omega
          have hx' : ∀ x ∈ m ++ [i], x < l.length := fun x hx' => by
            simp at hx'
            rcases hx' with h | h
            · exact hx x h
            · omega
          have hw := wayE_bound hR (cs_range hx') (by rw [cs_len]; simp; omega)
          have es : wayE l U D (cs (m ++ [i])) = wayE l U D (cs m) + emp l U D (rd (cs m) ((m.length - 1 : Nat) : Int)) (i : Int) := by
            rw [cs_app, wayE_snoc l U D (cs m) (i : Int) hcs, cs_len]
          simp only [if_true, if_pos c4, dempty_eq hR hlast.1 hlast.2 (show (0 : Int) ≤ (i : Int) by omega) (show (i : Int) < (l.length : Int) by omega), Option.bind_some, ← es, ← cs_app, w64 (show -9223372036854775808 ≤ wayE l U D (cs (m ++ [i])) by omega) (by omega)]
          have e : leavesAt l.length (leaves l.length d) m i = leaves l.length d (m ++ [i]) := by rw [leavesAt, if_neg hi]
          rw [e]
          refine Ev.bind (ih (m ++ [i]) st (by simp; omega) hx' (by cases m with | nil => exact absurd rfl hne | cons a t => simpa using h0) hs) ?_
          simp only [c3]
          refine ihc (i + 1) _ (by omega) (pickT_ok _ _ hs (fun y hy => ?_))
          obtain ⟨t, rfl, h1, h2, _⟩ := (leaves_mem l.length d _ y).mp hy
          refine ⟨by simp, (costI_bound hR (cs_range (n := l.length) (fun x hxx => ?_)) (by rw [cs_len]; simp; omega)).1⟩
          rcases List.mem_append.mp hxx with h | h
          · exact hx' x h
          · exact h2 x h
    have := go l.length 0 st (by omega) hs
    rw [← fl_range] at this
    exact this
def bestT (l : List S36) (U D : Int) : List Nat × Int := pickT (costN l U D) ([], -1) (leaves l.length (l.length - 1) [0])
def tourR (l : List S36) (U D : Int) : List Int × Int × Int := if dayE l U D = 0 then (if (l.length : Int) > 7 then ([], 0, 8) else (cs (bestT l U D).1, (bestT l U D).2, 0)) else ([], 0, dayE l U D)
theorem bestT_ok {l : List S36} {U D : Int} (hR : Right l U D) (h7 : l.length ≤ 7) : StT (bestT l U D) ∧ (bestT l U D).1 ≠ [] := by
  have h1 := hR.len.1
  have hc : ∀ y ∈ leaves l.length (l.length - 1) [0], y ≠ [] ∧ 0 ≤ costN l U D y := fun y hy => by
    obtain ⟨t, rfl, h1, h2, _⟩ := (leaves_mem _ _ _ y).mp hy
    refine ⟨by simp, (costI_bound hR (cs_range (n := l.length) (fun x hxx => ?_)) (by rw [cs_len]; simp; omega)).1⟩
    rcases List.mem_append.mp hxx with h | h
    · simp at h; omega
    · exact h2 x h
  have h2 : StT (bestT l U D) := pickT_ok _ _ (.inl ⟨rfl, by simp⟩) hc
  have h3 : leaves l.length (l.length - 1) [0] ≠ [] := by
    intro e
    have : [0] ++ List.range' 1 (l.length - 1) ∈ leaves l.length (l.length - 1) [0] := (leaves_mem _ _ _ _).mpr ⟨_, rfl, by simp, fun x hx => by have := List.mem_range'_1.mp hx; omega, List.nodup_range', fun x hx => by have := List.mem_range'_1.mp hx; simp; omega⟩
    rw [e] at this; simp at this
  have h4 := pickT_nonneg (costN l U D) _ ([], -1) (fun m hm => (hc m hm).2) (.inr h3)
  refine ⟨h2, ?_⟩
  rcases h2 with ⟨_, h⟩ | ⟨h, _⟩
  · exact absurd h4 (by show ¬ 0 ≤ (bestT l U D).2; omega)
  · exact h
theorem tour_ev (l : List S36) (U D : Int) : Ev (fun k => trip_Tour.f k l U D) (tourR l U D) := by
  unfold trip_Tour.f tourR
  simp only [read_eq, Option.bind_some]
  by_cases c : dayE l U D = 0
  · simp only [if_pos c]
    by_cases c1 : (l.length : Int) > 7
    · simp only [if_pos c1]; exact Ev.pure _
    · simp only [if_neg c1]
      have hR := day_right c
      have h1 := hR.len.1
      have h := tour_on_ev hR (by omega) (l.length - 1) [0] ([], -1) (by simp; omega) (by simp; omega) rfl (.inl ⟨rfl, by simp⟩)
      obtain ⟨_, hne⟩ := bestT_ok hR (by omega)
      have e : seenT (pickT (costN l U D) ([], -1) (leaves l.length (l.length - 1) [0])) = (cs (bestT l U D).1, (bestT l U D).2) := by
        show seenT (bestT l U D) = _
        simp [seenT, hne]
      rw [e] at h
      exact Ev.bind h (Ev.pure _)
  · simp only [if_neg c]; exact Ev.pure _
end Go.Proofs.Ytlmlneneakpohaa.OAll
