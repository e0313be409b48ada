/- A part of the proof of 'shareRenumbered_holds', for every input, without a condition. -/
import Derived.Test.YtiafiebalibkdaaSRnQr
import Derived.Test.YtiafiebalibkdaaSRnQa
import Derived.Test.YtiafiebalibkdaaSRnOAllx3
import Derived.Test.YtiafiebalibkdaaSRnOAllx4
import Derived.Test.YtiafiebalibkdaaSRnOAllx9
import Derived.Test.YtiafiebalibkdaaSRnOAllx0
import Derived.Test.YtiafiebalibkdaaSRnOAllx16
namespace Go.Proofs.Ytiafiebalibkdaa.OAll
open Go.RowKit Go.Proofs.YtiafiebalibkdaaW.PrintWords Go.Proofs.YtiafiebalibkdaaW.PrintLast Go.Proofs.YtiafiebalibkdaaW.PrintMore
set_option linter.unusedVariables false
set_option linter.unusedSimpArgs false
def leavesAt (n : Nat) (f : List Nat → List (List Nat)) (now : List Nat) (k : Nat) : List (List Nat) := if k ∈ now then [] else f (now ++ [k])
def leaves (n : Nat) : Nat → List Nat → List (List Nat)
  | 0, now => [now]
  | d + 1, now => (List.range n).flatMap (leavesAt n (leaves n d) now)
theorem leaves_mem (n : Nat) : ∀ (d : Nat) (now m : List Nat), m ∈ leaves n d now ↔ ∃ t, m = now ++ t ∧ t.length = d ∧ (∀ x ∈ t, x < n) ∧ t.Nodup ∧ ∀ x ∈ t, x ∉ now
  | 0, now, m => by
    simp only [leaves, List.mem_singleton]
    constructor
    · rintro rfl; exact ⟨[], by simp⟩
    · rintro ⟨t, rfl, ht, _⟩; obtain rfl := List.eq_nil_of_length_eq_zero ht; simp
  | d + 1, now, m => by
    simp only [leaves, List.mem_flatMap, List.mem_range, leavesAt]
    constructor
    · rintro ⟨k, hk, h⟩
      split at h
      · simp at h
      · rename_i hkn
        obtain ⟨t, rfl, h1, h2, h3, h4⟩ := (leaves_mem n d _ m).mp h
        refine ⟨k :: t, by simp, by simp [h1], ?_, ?_, ?_⟩
        · intro x hx; rcases List.mem_cons.mp hx with h | h <;> first | exact h ▸ hk | exact h2 x h
        · exact List.nodup_cons.mpr ⟨fun hkt => h4 k hkt (by simp), h3⟩
        · intro x hx
          rcases List.mem_cons.mp hx with rfl | hx
          · exact hkn
          · exact fun hxn => h4 x hx (by simp [hxn])
    · rintro ⟨t, rfl, h1, h2, h3, h4⟩
      cases t with
      | nil => simp at h1
      | cons k t =>
        have h3' := List.nodup_cons.mp h3
        refine ⟨k, h2 k (by simp), ?_⟩
        rw [if_neg (h4 k (by simp))]
        refine (leaves_mem n d _ _).mpr ⟨t, by simp, by simpa using h1, fun x hx => h2 x (by simp [hx]), h3'.2, fun x hx hxn => ?_⟩
        simp only [List.mem_append, List.mem_singleton] at hxn
        rcases hxn with hxn | rfl
        · exact h4 x (by simp [hx]) hxn
        · exact h3'.1 hx
theorem leaves_all (n : Nat) (m : List Nat) : m ∈ leaves n n [] ↔ m.Perm (List.range n) := by
  rw [leaves_mem]
  constructor
  · rintro ⟨t, rfl, h1, h2, h3, _⟩; exact perm_nodup h1 h3 h2
  · intro h
    exact ⟨m, rfl, by rw [h.length_eq]; simp, fun x hx => by simpa using h.mem_iff.mp hx, h.nodup_iff.mpr List.nodup_range, by simp⟩
def stepN (w : Nat → Nat → Int) (st : List Nat × Int) (m : List Nat) : List Nat × Int := if wfrom w 0 m > st.2 then (m, wfrom w 0 m) else st
def pickN (w : Nat → Nat → Int) (st : List Nat × Int) (L : List (List Nat)) : List Nat × Int := L.foldl (stepN w) st
def bestA (w : Nat → Nat → Int) (n : Nat) : List Nat × Int := pickN w ([], -1) (leaves n n [])
theorem pick_ge (w : Nat → Nat → Int) : ∀ (L : List (List Nat)) (st : List Nat × Int), st.2 ≤ (pickN w st L).2 ∧ ∀ m ∈ L, wfrom w 0 m ≤ (pickN w st L).2
  | [], st => ⟨Int.le_refl _, by simp⟩
  | m :: L, st => by
    obtain ⟨h1, h2⟩ := pick_ge w L (stepN w st m)
    have h0 : st.2 ≤ (stepN w st m).2 ∧ wfrom w 0 m ≤ (stepN w st m).2 := by unfold stepN; split <;> refine ⟨?_, ?_⟩ <;> (try dsimp only) <;> omega
    refine ⟨Int.le_trans h0.1 h1, fun m' hm => ?_⟩
    rcases List.mem_cons.mp hm with rfl | hm
    · exact Int.le_trans h0.2 h1
    · exact h2 m' hm
theorem pick_in (w : Nat → Nat → Int) : ∀ (L : List (List Nat)) (st : List Nat × Int), pickN w st L = st ∨ ((pickN w st L).1 ∈ L ∧ (pickN w st L).2 = wfrom w 0 (pickN w st L).1)
  | [], st => .inl rfl
  | m :: L, st => by
    have e : pickN w st (m :: L) = pickN w (stepN w st m) L := rfl
    rw [e]
    rcases pick_in w L (stepN w st m) with h | ⟨h1, h2⟩
    · rw [h]
      unfold stepN
      split
      · exact .inr ⟨by simp, rfl⟩
      · exact .inl rfl
    · exact .inr ⟨by simp [h1], h2⟩
theorem pick_app (w : Nat → Nat → Int) (st : List Nat × Int) (A B : List (List Nat)) : pickN w st (A ++ B) = pickN w (pickN w st A) B := by simp [pickN]
theorem bestA_spec (w : Nat → Nat → Int) (n : Nat) (h0 : ∀ m, m.Perm (List.range n) → 0 ≤ wfrom w 0 m) :
    (bestA w n).1.Perm (List.range n) ∧ (bestA w n).2 = wfrom w 0 (bestA w n).1 ∧ ∀ m, m.Perm (List.range n) → wfrom w 0 m ≤ wfrom w 0 (bestA w n).1 := by
  have hid : List.range n ∈ leaves n n [] := (leaves_all n _).mpr (List.Perm.refl _)
  have hg := (pick_ge w (leaves n n []) ([], -1)).2
  rcases pick_in w (leaves n n []) ([], -1) with h | ⟨h1, h2⟩
  · have h1 := hg _ hid
    have h2 := h0 _ (List.Perm.refl _)
    rw [h] at h1
    simp at h1; omega
  · refine ⟨(leaves_all n _).mp h1, h2, fun m hm => ?_⟩
    have := hg m ((leaves_all n m).mpr hm)
    show _ ≤ wfrom w 0 (pickN w ([], -1) (leaves n n [])).1
    rw [← h2]; exact this
def cs (m : List Nat) : List Int := m.map fun k : Nat => (k : Int)
theorem cs_len (m : List Nat) : (cs m).length = m.length := by simp [cs]
theorem cs_app (m : List Nat) (k : Nat) : cs (m ++ [k]) = cs m ++ [(k : Int)] := by simp [cs]
theorem cs_mem (m : List Nat) (k : Nat) : (k : Int) ∈ cs m ↔ k ∈ m := by
  simp only [cs, List.mem_map]
  constructor
  · rintro ⟨a, ha, e⟩; have : a = k := by omega
    exact this ▸ ha
  · intro h; exact ⟨k, h, rfl⟩
theorem cs_nil (m : List Nat) : cs m = [] ↔ m = [] := by simp [cs]
structure Wish (W : List (List Int)) (n : Nat) (rent : Int) : Prop where
  len : W.length = n
  pos : 1 ≤ n
  five : n ≤ 5
  row : ∀ j, j < n → (rd_L1 W (j : Int)).length = n
  ent : ∀ j k, j < n → k < n → 0 ≤ rd (rd_L1 W (j : Int)) (k : Int) ∧ rd (rd_L1 W (j : Int)) (k : Int) ≤ 1000
  sum : ∀ j, j < n → isum (rd_L1 W (j : Int)) = rent
def wN (W : List (List Int)) (j k : Nat) : Int := rd (rd_L1 W (j : Int)) (k : Int)
theorem wfrom_app (w : Nat → Nat → Int) (x : Nat) : ∀ (m : List Nat) (j : Nat), wfrom w j (m ++ [x]) = wfrom w j m + w (j + m.length) x
  | [], j => by simp [wfrom]
  | y :: m, j => by simp only [List.cons_append, wfrom, wfrom_app w x m (j + 1), List.length_cons]; rw [show j + 1 + m.length = j + (m.length + 1) by omega]; omega
theorem Wish.sums {W : List (List Int)} {n : Nat} {rent : Int} (h : Wish W n rent) : ∀ (m : List Nat) (j : Nat), (∀ x ∈ m, x < n) → j + m.length ≤ n → 0 ≤ wfrom (wN W) j m ∧ wfrom (wN W) j m ≤ 1000 * m.length
  | [], j, _, _ => by simp [wfrom]
  | x :: m, j, hx, hj => by
    simp only [List.length_cons] at hj ⊢
    have h1 := h.ent j x (by omega) (hx x (by simp))
    obtain ⟨h2, h3⟩ := h.sums m (j + 1) (fun y hy => hx y (by simp [hy])) (by omega)
    simp only [wfrom, wN] at *
    omega
theorem Wish.perm0 {W : List (List Int)} {n : Nat} {rent : Int} (h : Wish W n rent) (m : List Nat) (hm : m.Perm (List.range n)) : 0 ≤ wfrom (wN W) 0 m :=
  (h.sums m 0 (fun x hx => by simpa using hm.mem_iff.mp hx) (by rw [hm.length_eq]; simp)).1
theorem index_ev (x : Int) : ∀ (t p : List Int), (p ++ t).length ≤ 1000 → x ∉ p → Ev (fun k => slices_Index_int_int.l0 k (p ++ t) x ((p ++ t).length : Int) p.length) (if x ∈ t then (p.length + t.idxOf x : Int) else -1)
  | [], p, hl, hp => by
    refine Ev.succ ?_
    simp only [slices_Index_int_int.l0]
    simp only [if_neg (mid_end p)]
    simp only [List.not_mem_nil, if_false]
    exact Ev.pure _
  | y :: t, p, hl, hp => by
    refine Ev.succ ?_
    simp only [slices_Index_int_int.l0]
    simp only [if_pos (mid_lt p t y)]
    simp only [nonneg_len, if_true, mid_lt p t y, rd_mid]
    by_cases e : x = y
    · simp only [if_pos e]
      rw [if_pos (by simp [e])]
      subst e
      simp only [List.idxOf_cons_self]
      exact Ev.pure _
    · simp only [if_neg e, mid_next p t y (show (p ++ y :: t).length ≤ 9223372036854775807 by omega)]
      rw [mid_assoc]
      have := index_ev x t (p ++ [y]) (by simpa using hl) (by simp [hp, e])
      refine Ev.congr (fun _ => rfl) ?_
      have e2 : (if x ∈ y :: t then (p.length + (y :: t).idxOf x : Int) else -1) = (if x ∈ t then ((p ++ [y]).length + t.idxOf x : Int) else -1) := by
        simp only [List.mem_cons, e, false_or]
        split
        · have e3 : (y == x) = false := beq_eq_false_iff_ne.mpr (fun h => e h.symm)
          rw [List.idxOf_cons, e3]; simp; omega
        · rfl
      rw [e2]; exact this
theorem contains_ev (l : List Int) (x : Int) (hl : l.length ≤ 1000) : Ev (fun k => slices_Contains_int_int.f k l x) (decide (x ∈ l)) := by
  unfold slices_Contains_int_int.f slices_Index_int_int.f
  refine Ev.bind (a := if x ∈ l then (([] : List Int).length + l.idxOf x : Int) else -1) (index_ev x l [] (by simpa using hl) (by simp)) ?_
  refine Ev.of_some ?_
  by_cases h : x ∈ l
  · simp only [h, if_true]; simp
  · simp only [h, if_false]; simp
theorem clone_eq (l : List Int) (h : l.length ≤ 1000) : slices_Clone_int_int.f l = some l := by
  unfold slices_Clone_int_int.f; rw [if_pos (by simp; omega)]
theorem fl_succ {n i : Nat} (h : i < n) : List.range' i (n - i) = i :: List.range' (i + 1) (n - (i + 1)) := by
  rw [show n - i = (n - (i + 1)) + 1 by omega, List.range'_succ]
theorem fl_end {n i : Nat} (h : n ≤ i) : List.range' i (n - i) = [] := by rw [show n - i = 0 by omega]; rfl
theorem fl_range (n : Nat) : List.range n = List.range' 0 (n - 0) := by simp [List.range_eq_range']
def seen (st : List Nat × Int) : List Int × Int := (cs st.1, if st.1 = [] then 0 else st.2)
def StOk (st : List Nat × Int) : Prop := st.1 = [] → st.2 = -1
theorem pick_ok (w : Nat → Nat → Int) : ∀ (L : List (List Nat)) (st : List Nat × Int), (∀ m ∈ L, m ≠ []) → StOk st → StOk (pickN w st L)
  | [], st, _, h => h
  | m :: L, st, hL, h => by
    refine pick_ok w L (stepN w st m) (fun x hx => hL x (by simp [hx])) ?_
    unfold stepN; split
    · intro e; exact absurd e (hL m (by simp))
    · exact h
theorem assign_on_ev {W : List (List Int)} {n : Nat} {rent : Int} (hW : Wish W n rent) : ∀ (d : Nat) (m : List Nat) (st : List Nat × Int), m.length + d = n → (∀ x ∈ m, x < n) → StOk st →
    Ev (fun k => share_assign.on k W (cs m) (wfrom (wN W) 0 m) (seen st).1 (seen st).2) (seen (pickN (wN W) st (leaves n d m))) := by
  intro d
  induction d with
  | zero =>
    intro m st hm hx hs
    refine Ev.succ ?_
    have hmn : m.length = n := by omega
    have e1 : ((cs m).length : Int) = (W.length : Int) := by rw [cs_len, hmn, hW.len]
    have hne : m ≠ [] := by intro e; rw [e] at hmn; have := hW.pos; simp at hmn; omega
    have hcs : ¬ cs m = [] := by rw [cs_nil]; exact hne
    have h0 := (hW.sums m 0 hx (by omega)).1
    have hlen : (cs m).length ≤ 1000 := by rw [cs_len, hmn]; have := hW.five; omega
    simp only [share_assign.on]
    simp only [if_pos e1]
    have hp : pickN (wN W) st (leaves n 0 m) = stepN (wN W) st m := rfl
    rw [hp]
    by_cases hb : st.1 = []
    · have : (seen st).1 = [] := by simp [seen, hb, cs]
      simp only [if_pos this, if_neg hcs, clone_eq _ hlen]
      simp only [Option.bind_some]
      have h1 := hs hb
      have : stepN (wN W) st m = (m, wfrom (wN W) 0 m) := by rw [stepN, if_pos (by omega)]
      rw [this]
      simp only [seen, hne, if_false]
      exact Ev.pure _
    · have h1 : ¬ (seen st).1 = [] := by simp [seen, cs_nil, hb]
      have h2 : (seen st).2 = st.2 := by simp [seen, hb]
      simp only [if_neg h1, h2]
      by_cases hg : wfrom (wN W) 0 m > st.2
      · simp only [if_pos hg, if_neg hcs, clone_eq _ hlen]
        simp only [Option.bind_some]
        rw [stepN, if_pos hg]
        simp only [seen, hne, if_false]
        exact Ev.pure _
      · simp only [if_neg hg]
        rw [stepN, if_neg hg]
        have : seen st = ((seen st).1, st.2) := by rw [← h2]
        rw [this]
        exact Ev.pure _
  | succ d ih =>
    intro m st hm hx hs
    refine Ev.succ ?_
    have h5 := hW.five
    have e1 : ¬ ((cs m).length : Int) = (W.length : Int) := by rw [cs_len, hW.len]; omega
    have e2 : (cs m).length < W.length := by rw [cs_len, hW.len]; omega
    simp only [share_assign.on]
    simp only [if_neg e1, if_pos e2]
    have hrow : (rd_L1 W ((cs m).length : Int)).length = n := by rw [cs_len]; exact hW.row _ (by omega)
    have go : ∀ (c i : Nat) (st : List Nat × Int), n - i = c → StOk st → Ev (fun k => share_assign.l0 k W (cs m) (wfrom (wN W) 0 m) (seen st).1 (seen st).2 (rd_L1 W ((cs m).length : Int)) (i : Int)) (seen (pickN (wN W) st ((List.range' i (n - i)).flatMap (leavesAt n (leaves n d) m)))) := by
      intro c
      induction c with
      | zero =>
        intro i st hc hs
        refine Ev.succ ?_
        have c1 : ¬ (i : Int) < ((rd_L1 W ((cs m).length : Int)).length : Int) := by rw [hrow]; omega
        simp only [share_assign.l0]
        simp only [if_neg c1]
        rw [fl_end (by omega)]
        exact Ev.pure _
      | succ c ihc =>
        intro i st hc hs
        refine Ev.succ ?_
        have c1 : (i : Int) < ((rd_L1 W ((cs m).length : Int)).length : Int) := by rw [hrow]; omega
        have c2 : (0 : Int) ≤ (i : Int) := by omega
        have c3 : wrap64 ((i : Int) + 1) = ((i + 1 : Nat) : Int) := w64s i (by omega)
        simp only [share_assign.l0]
        simp only [if_pos c1, if_pos c2]
        refine Ev.bind (contains_ev (cs m) (i : Int) (by rw [cs_len]; omega)) ?_
        rw [fl_succ (by omega), List.flatMap_cons, pick_app]
        by_cases hi : i ∈ m
        · have : decide ((i : Int) ∈ cs m) = true := by rw [decide_eq_true_eq, cs_mem]; exact hi
          simp only [this]
          simp only [Bool.true_eq_false, if_false]
          simp only [c3]
          have e : leavesAt n (leaves n d) m i = [] := by rw [leavesAt, if_pos hi]
          rw [e]
          exact ihc (i + 1) st (by omega) hs
        · have : decide ((i : Int) ∈ cs m) = false := by rw [decide_eq_false_iff_not, cs_mem]; exact hi
          rw [this]
          have c4 : (cs m).length < 17592186044415 := by rw [cs_len]; omega
          simp only [if_true]
          simp only [if_pos c4]
          have hb := hW.sums (m ++ [i]) 0 (fun x hx' => by simp at hx'; rcases hx' with h | h <;> first | exact hx x h | omega) (by simp; omega)
          have hsum : wrap64 (wfrom (wN W) 0 m + rd (rd_L1 W ((cs m).length : Int)) (i : Int)) = wfrom (wN W) 0 (m ++ [i]) := by
            have : wfrom (wN W) 0 (m ++ [i]) = wfrom (wN W) 0 m + rd (rd_L1 W ((cs m).length : Int)) (i : Int) := by rw [wfrom_app, Nat.zero_add, cs_len]; rfl
            rw [← this]
            have hl : (m ++ [i]).length ≤ 6 := by simp; omega
            exact w64 (by omega) (by omega)
          simp only [hsum, ← cs_app]
          have e : leavesAt n (leaves n d) m i = leaves n d (m ++ [i]) := by rw [leavesAt, if_neg hi]
          rw [e]
          refine Ev.bind (ih (m ++ [i]) st (by simp; omega) (fun x hx' => by simp at hx'; rcases hx' with h | h <;> first | exact hx x h | omega) hs) ?_
          simp only [c3]
          refine ihc (i + 1) _ (by omega) (pick_ok _ _ _ (fun y hy => ?_) hs)
          obtain ⟨t, rfl, _⟩ := (leaves_mem n d _ y).mp hy
          simp
    have := go n 0 st (by omega) hs
    rw [← fl_range] at this
    exact this
theorem assign_ev {W : List (List Int)} {n : Nat} {rent : Int} (hW : Wish W n rent) : Ev (fun k => share_assign.f k W) (cs (bestA (wN W) n).1, (bestA (wN W) n).2) := by
  have h := assign_on_ev hW n [] ([], -1) (by simp) (by simp) (fun _ => rfl)
  have hb := bestA_spec (wN W) n hW.perm0
  have hne : ¬ (bestA (wN W) n).1 = [] := by
    intro e
    have := hb.1.length_eq
    rw [e] at this; have h1 := hW.pos; simp at this; omega
  have e : seen (pickN (wN W) ([], -1) (leaves n n [])) = (cs (bestA (wN W) n).1, (bestA (wN W) n).2) := by
    show seen (bestA (wN W) n) = _
    simp [seen, hne]
  rw [e] at h
  exact h
end Go.Proofs.Ytiafiebalibkdaa.OAll
