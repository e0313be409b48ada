/- A part of the proof of 'fetchTurned_holds', for every input, without a condition. -/
import Derived.Test.YtjbfbdanbpfplaaSUQk
import Derived.Test.YtjbfbdanbpfplaaSUQm
import Derived.Test.YtjbfbdanbpfplaaSUOAllx24
namespace Go.Proofs.Ytjbfbdanbpfplaa.OAll
open Go.RowKit Go.Proofs.YtjbfbdanbpfplaaW.PrintWords Go.Proofs.YtjbfbdanbpfplaaW.PrintLast Go.Proofs.YtjbfbdanbpfplaaW.PrintMore
set_option linter.unusedVariables false
set_option linter.unusedSimpArgs false
def turnS (s : S34) : S34 := ⟨s.f1, s.f0⟩
theorem turned_l0 (st : List S34) (hst : st.length ≤ 14) : ∀ (suf pre : List S34), st = pre ++ suf → Ev (fun k => trishawlaw09_turned.l0 k st (pre.map turnS) pre.length) (st.map turnS) := by
  intro suf
  induction suf with
  | nil =>
    intro pre e
    have e3 : ¬ (pre.length : Int) < (st.length : Int) := by rw [e]; simp
    refine Ev.succ ?_
    simp only [trishawlaw09_turned.l0, e3, if_false]
    rw [e, List.append_nil]; exact Ev.pure _
  | cons x t ih =>
    intro pre e
    have e3 : (pre.length : Int) < (st.length : Int) := by rw [e]; simp; omega
    have hpl : pre.length < 14 := by rw [e] at hst; simp at hst; omega
    have hiw : pre.length < 9223372036854775807 := by omega
    have e2 : rd_T34 st (pre.length : Int) = x := by rw [e]; exact rd34_mid _ _ _
    have hl : (pre.map turnS).length < 8796093022208 := by rw [List.length_map]; omega
    refine Ev.succ ?_
    simp only [trishawlaw09_turned.l0, e3, if_true, Int.natCast_nonneg, e2, hl, w64s _ hiw]
    have := ih (pre ++ [x]) (by rw [e]; simp)
    rw [List.map_append, List.length_append] at this
    exact this
theorem turned_ev (st : List S34) (hst : st.length ≤ 14) : Ev (fun k => trishawlaw09_turned.f k st) (st.map turnS) := turned_l0 st hst st [] rfl
theorem compN_eq {n X : Nat} (hX : X < 2 ^ n) : compN n X = 2 ^ n - (X + 1) := by
  apply Nat.eq_of_testBit_eq; intro i
  rw [compN_bit hX, Nat.testBit_two_pow_sub_succ hX]
theorem sane_turn {n : Nat} {st : List S34} (hs : Sane n st) : Sane n (st.map turnS) := by
  refine ⟨hs.1, by rw [List.length_map]; exact hs.2.1, fun s h => ?_⟩
  obtain ⟨s', h', rfl⟩ := List.mem_map.mp h
  have := hs.2.2 s' h'
  exact ⟨this.2.2.1, this.2.2.2.1, this.1, this.2.1, fun h => this.2.2.2.2 h.symm⟩
theorem shut_turn {st : List S34} {Y : Nat} (h : shut true (st.map turnS) Y) : shut true st Y := fun s hs => by
  have := h (turnS s) (List.mem_map_of_mem hs)
  exact ⟨fun h0 => this.2 rfl h0, fun _ h1 => this.1 h1⟩
theorem conn_turn {n : Nat} {st : List S34} (hs : Sane n st) (h1 : 1 ≤ n) (hc : connB n st = true) : connB n (st.map turnS) = true :=
  (conn_iff (sane_turn hs) h1).mpr fun Y h2 h3 h4 => (conn_iff hs h1).mp hc Y h2 h3 (shut_turn h4)
theorem code_of {a : Int} {st : List S34} (ha : 2 ≤ a ∧ a ≤ 7) (hs : Sane a.toNat st) (hc : connB a.toNat st = true) : codeN a st = 0 := by
  unfold codeN
  rw [if_neg (by omega), if_neg (by have := hs.2.1; omega), if_neg, if_pos hc]
  rw [List.any_eq_true]
  rintro ⟨s, h, hb⟩
  have := hs.2.2 s h
  have := (badS_iff a s).mp hb
  omega
theorem cut_turn {n : Nat} {st : List S34} (hs : Sane n st) {X : Nat} (hX : X < 2 ^ n) (h : isCutB n (st.map turnS) X = true) : isCutB n st (compN n X) = true := by
  have hp := isCut_pos h
  have e := compN_eq hX
  refine isCut_mk (by omega) (by omega) fun s hs' => ?_
  have hm := hs.2.2 s hs'
  have := hp.2.2 (turnS s) (List.mem_map_of_mem hs')
  rw [backS, compN_inb hX hm.1 hm.2.1, compN_inb hX hm.2.2.1 hm.2.2.2.1]
  simp only [backS, turnS] at this
  revert this
  cases inb X s.f0 <;> cases inb X s.f1 <;> decide
theorem turn_turn (st : List S34) : (st.map turnS).map turnS = st := by
  rw [List.map_map]
  have : turnS ∘ turnS = id := by funext s; rfl
  rw [this, List.map_id]
theorem compN_comp {n X : Nat} (hX : X < 2 ^ n) : compN n (compN n X) = X := by
  rw [compN_eq (compN_lt hX), compN_eq hX]; omega
theorem cut_turn' {n : Nat} {st : List S34} (hs : Sane n st) {X : Nat} (hX : X < 2 ^ n) (h : isCutB n st X = true) : isCutB n (st.map turnS) (compN n X) = true := by
  have := cut_turn (sane_turn hs) hX (by rw [turn_turn]; exact h)
  exact this
theorem cross_turn {n : Nat} {st : List S34} (hs : Sane n st) {X : Nat} (hX : X < 2 ^ n) : cross (st.map turnS) X = cross st (compN n X) := by
  apply Nat.eq_of_testBit_eq; intro j
  rw [Bool.eq_iff_iff, cross_bit, cross_bit]
  rw [List.getElem?_map]
  cases hj : st[j]? with
  | none => simp
  | some s =>
    have hm := hs.2.2 s (List.mem_of_getElem? hj)
    have : outS X (turnS s) = outS (compN n X) s := by
      rw [outS, outS, compN_inb hX hm.1 hm.2.1, compN_inb hX hm.2.2.1 hm.2.2.2.1]
      simp only [turnS]
      cases inb X s.f0 <;> cases inb X s.f1 <;> decide
    simp [this]
theorem sorted_ext : ∀ {l l' : List Nat}, l.Pairwise (· < ·) → l'.Pairwise (· < ·) → (∀ x, x ∈ l ↔ x ∈ l') → l = l'
  | [], [], _, _, _ => rfl
  | [], y :: u, _, _, h => by have := (h y).mpr (List.mem_cons_self); cases this
  | x :: t, [], _, _, h => by have := (h x).mp (List.mem_cons_self); cases this
  | x :: t, y :: u, h1, h2, h => by
    have h1' := List.pairwise_cons.mp h1
    have h2' := List.pairwise_cons.mp h2
    have e : x = y := by
      rcases List.mem_cons.mp ((h x).mp (List.mem_cons_self)) with e | e
      · exact e
      · rcases List.mem_cons.mp ((h y).mpr (List.mem_cons_self)) with e' | e'
        · exact e'.symm
        · have := h1'.1 y e'; have := h2'.1 x e; omega
    subst e
    rw [sorted_ext h1'.2 h2'.2 fun z => ?_]
    constructor
    · intro hz
      rcases List.mem_cons.mp ((h z).mp (List.mem_cons_of_mem _ hz)) with e | e
      · have := h1'.1 z hz; omega
      · exact e
    · intro hz
      rcases List.mem_cons.mp ((h z).mpr (List.mem_cons_of_mem _ hz)) with e | e
      · have := h2'.1 z hz; omega
      · exact e
theorem cutsN_lt2 {n : Nat} {st : List S34} {x : Nat} (h : x ∈ cutsN n st) : x < 2 ^ n := by
  have := isCut_pos (cutsN_mem.mp h); omega
theorem cuts_turn {n : Nat} {st : List S34} (hs : Sane n st) : cutsN n (st.map turnS) = ((cutsN n st).map (compN n)).reverse := by
  refine sorted_ext (cutsN_sorted2 _ _) ?_ fun x => ?_
  · rw [List.pairwise_reverse, List.pairwise_map]
    refine List.Pairwise.imp_of_mem (fun {a b} ha hb hlt => ?_) (cutsN_sorted2 n st)
    rw [compN_eq (cutsN_lt2 ha), compN_eq (cutsN_lt2 hb)]
    have := cutsN_lt2 hb
    omega
  · rw [List.mem_reverse, List.mem_map]
    constructor
    · intro hx
      have hl := cutsN_lt2 hx
      exact ⟨compN n x, cutsN_mem.mpr (cut_turn hs hl (cutsN_mem.mp hx)), compN_comp hl⟩
    · rintro ⟨y, hy, rfl⟩
      exact cutsN_mem.mpr (cut_turn' hs (cutsN_lt2 hy) (cutsN_mem.mp hy))
theorem hits_turn {n : Nat} {st : List S34} (hs : Sane n st) (X : Nat) : hits ((cutsN n (st.map turnS)).map (cross (st.map turnS))) X = hits ((cutsN n st).map (cross st)) X := by
  rw [Bool.eq_iff_iff, hits_iff, hits_iff, cuts_turn hs]
  constructor
  · intro h c hc
    obtain ⟨Y, hY, rfl⟩ := List.mem_map.mp hc
    have hl := cutsN_lt2 hY
    have := h (cross (st.map turnS) (compN n Y)) (List.mem_map.mpr ⟨compN n Y, List.mem_reverse.mpr (List.mem_map_of_mem hY), rfl⟩)
    rw [cross_turn hs (compN_lt hl), compN_comp hl] at this
    exact this
  · intro h c hc
    obtain ⟨Y, hY, rfl⟩ := List.mem_map.mp hc
    obtain ⟨Z, hZ, rfl⟩ := List.mem_map.mp (List.mem_reverse.mp hY)
    have hl := cutsN_lt2 hZ
    rw [cross_turn hs (compN_lt hl), compN_comp hl]
    exact h _ (List.mem_map_of_mem hZ)
theorem fewN_congr {a b : List Nat} (h : ∀ X, hits a X = hits b X) (m : Nat) : fewN a m = fewN b m := by
  have : tellN a = tellN b := by funext s X; rw [tellN, tellN, h]
  rw [fewN, fewN, this]
theorem mend_turn {n : Nat} {st : List S34} (hs : Sane n st) : mendN n (st.map turnS) = mendN n st := by
  rw [mendN, mendN, List.length_map]; exact fewN_congr (hits_turn hs) _
theorem apart_turn_le {n : Nat} {st : List S34} (hs : Sane n st) : (apartN n st).length ≤ (apartN n (st.map turnS)).length := by
  have ha := apartN_is n st
  have hmem : ∀ x ∈ apartN n st, x ∈ cutsN n st := fun x hx => ha.1.subset hx
  have hsrt := List.Pairwise.sublist ha.1 (cutsN_sorted2 n st)
  have := apartN_max n (st.map turnS) ((apartN n st).map (compN n)) ?_ ?_ ?_
  · rwa [List.length_map] at this
  · rw [List.Nodup, List.pairwise_map]
    refine List.Pairwise.imp_of_mem (fun {a b} h1 h2 hlt e => ?_) hsrt
    have l1 := cutsN_lt2 (hmem a h1); have l2 := cutsN_lt2 (hmem b h2)
    rw [compN_eq l1, compN_eq l2] at e; omega
  · intro x hx
    obtain ⟨y, hy, rfl⟩ := List.mem_map.mp hx
    exact cut_turn' hs (cutsN_lt2 (hmem y hy)) (cutsN_mem.mp (hmem y hy))
  · intro x hx y hy hne
    obtain ⟨x, hx', rfl⟩ := List.mem_map.mp hx
    obtain ⟨y, hy', rfl⟩ := List.mem_map.mp hy
    clear hx hy
    have hx := hx'
    have hy := hy'
    have l1 := cutsN_lt2 (hmem x hx); have l2 := cutsN_lt2 (hmem y hy)
    rw [cross_turn hs (compN_lt l1), cross_turn hs (compN_lt l2), compN_comp l1, compN_comp l2]
    have hxy : x ≠ y := fun e => hne (by rw [e])
    obtain ⟨i, hi, ei⟩ := List.getElem_of_mem hx
    obtain ⟨j, hj, ej⟩ := List.getElem_of_mem hy
    have hp := List.pairwise_iff_getElem.mp ha.2
    rcases Nat.lt_trichotomy i j with h | h | h
    · have := hp i j hi hj h; rwa [ei, ej] at this
    · subst h; exact absurd (ei.symm.trans ej) hxy
    · have := hp j i hj hi h; rw [ei, ej, Nat.and_comm] at this; exact this
theorem apart_turn {n : Nat} {st : List S34} (hs : Sane n st) : (apartN n (st.map turnS)).length = (apartN n st).length := by
  have h1 := apart_turn_le hs
  have h2 := apart_turn_le (sane_turn hs)
  rw [turn_turn] at h2
  omega
theorem many_pos {n : Nat} {st : List S34} (hs : Sane n st) (h1 : 1 ≤ n) (hc : connB n st = true) : 1 ≤ (mendN n st).2.2 := by
  have key : ∀ (all : List Nat) (l : List Nat) (s : Bool × List Nat × Nat), (s.1 = true → 1 ≤ s.2.2) → ((l.foldl (tellN all) s).1 = true → 1 ≤ (l.foldl (tellN all) s).2.2) := by
    intro all l
    induction l with
    | nil => intro s h; exact h
    | cons x t ih =>
      intro s h
      refine ih (tellN all s x) ?_
      unfold tellN
      split
      · split
        · intro _; exact Nat.le_refl _
        · split
          · intro _; show 1 ≤ s.2.2 + 1; omega
          · exact h
      · exact h
  have hl := least_all ((cutsN n st).map (cross st)) (2 ^ st.length)
  have hp := Nat.two_pow_pos st.length
  have hf : (mendN n st).1 = true := (hl.low (2 ^ st.length - 1) (by omega) (hits_iff.mpr fun c hc' => by
    obtain ⟨X, hX, rfl⟩ := List.mem_map.mp hc'
    rw [and_full (cross_lt' st X)]
    exact cross_ne hs h1 hc (cutsN_mem.mp hX))).1
  exact key _ _ (false, [], 0) (fun h => by cases h) hf
theorem turned_main (a : Int) (st : List S34) (h : codeN a st = 0) (hc' : codeN a (st.map turnS) = 0) (hs : Sane a.toNat st) (h2 : 2 ≤ a.toNat) (ha : ((a.toNat : Nat) : Int) = a) (hcn : connB a.toNat st = true) : ∀ (d i : Nat), i + d = (cutsN a.toNat st).length →
    Ev (fun k => trishawlaw09_FetchTurned.l0 k a st (st.map turnS) (ints (cutsN a.toNat st)) (ints (cutsN a.toNat (st.map turnS))) i) true := by
  have hlen : (cutsN a.toNat (st.map turnS)).length = (cutsN a.toNat st).length := by rw [cuts_turn hs, List.length_reverse, List.length_map]
  have hsm := cutsN_small hs
  intro d
  induction d with
  | zero =>
    intro i hi
    have e3 : ¬ (i : Int) < ((ints (cutsN a.toNat st)).length : Int) := by rw [ints_len]; omega
    refine Ev.succ ?_
    simp only [trishawlaw09_FetchTurned.l0, e3, if_false]
    refine Ev.bind (fetch_Mend_ev a st) (Ev.bind (fetch_Mend_ev a _) (Ev.bind (fetch_Apart_ev a st) (Ev.bind (fetch_Apart_ev a _) (Ev.bind (fetch_Mends_ev a st) (Ev.bind (fetch_Mends_ev a _) ?_)))))
    simp only [h, hc', if_true]
    refine Ev.bind (a := true) (same_ev (by rw [mend_turn hs]) (by rw [ints_len]; have := mendN_len a.toNat st; omega)) ?_
    have e1 : ((ints (apartN a.toNat st)).length : Int) = ((ints (apartN a.toNat (st.map turnS))).length : Int) := by rw [ints_len, ints_len, apart_turn hs]
    have e2 : ((mendN a.toNat st).2.2 : Int) ≥ 1 := by have := many_pos hs (by omega) hcn; omega
    simp only [if_true, e1, mend_turn hs, e2]
    exact alive_ev'
  | succ d ih =>
    intro i hi
    have hil : i < (cutsN a.toNat st).length := by omega
    have hiw : i < 9223372036854775807 := by omega
    have hj : (cutsN a.toNat st).length - 1 - i < (cutsN a.toNat (st.map turnS)).length := by omega
    have e3 : (i : Int) < ((ints (cutsN a.toNat st)).length : Int) := by rw [ints_len]; omega
    have e0 : 0 ≤ a := by omega
    have e64 : a ≤ 64 := by have := hs.1; omega
    have w0 : (((ints (cutsN a.toNat (st.map turnS))).length : Nat) : Int) = ((cutsN a.toNat st).length : Int) := by rw [ints_len, hlen]
    have s1 : (((cutsN a.toNat st).length : Int) - 1) = (((cutsN a.toNat st).length - 1 : Nat) : Int) := by omega
    have s2 : ((((cutsN a.toNat st).length - 1 : Nat) : Int) - (i : Int)) = (((cutsN a.toNat st).length - 1 - i : Nat) : Int) := by omega
    have b1 : (cutsN a.toNat st).length - 1 ≤ 9223372036854775807 := by omega
    have b2 : (cutsN a.toNat st).length - 1 - i ≤ 9223372036854775807 := by omega
    have e5 : (((cutsN a.toNat st).length - 1 - i : Nat) : Int) < ((cutsN a.toNat st).length : Int) := by omega
    have hlt := cutsN_lt2 (List.getElem_mem hil)
    have hd : (cutsN a.toNat (st.map turnS))[(cutsN a.toNat st).length - 1 - i] = 2 ^ a.toNat - ((cutsN a.toNat st)[i] + 1) := by
      rw [← compN_eq hlt]
      simp only [cuts_turn hs, List.getElem_reverse, List.getElem_map, List.length_map]
      congr 2
      omega
    have h7 : (2 : Nat) ^ a.toNat ≤ 2 ^ 7 := Nat.pow_le_pow_right (by decide) hs.1
    have sum : (((cutsN a.toNat st)[i] : Nat) : Int) + ((2 ^ a.toNat - ((cutsN a.toNat st)[i] + 1) : Nat) : Int) = ((2 ^ a.toNat - 1 : Nat) : Int) := by omega
    have b3 : 2 ^ a.toNat - 1 ≤ 9223372036854775807 := by omega
    have full : wrap64 (wrap64 (2 ^ a.toNat) - 1) = ((2 ^ a.toNat - 1 : Nat) : Int) := by have := full_w hs.1; rwa [Int.toNat_natCast] at this
    refine Ev.succ ?_
    simp only [trishawlaw09_FetchTurned.l0, e3, if_true, Int.natCast_nonneg, w0, s1, w64n _ b1, s2, w64n _ b2, e5, e0, e64, rd_ints _ _ hil, rd_ints _ _ hj, hd, sum, w64n _ b3, full, w64s i hiw]
    exact ih (i + 1) (by omega)
theorem FetchTurned_ev (a : Int) (st : List S34) : Ev (fun k => trishawlaw09_FetchTurned.f k a st) true := by
  have easy : Ev (fun k => trishawlaw09_FetchTurned.j0 k a st true) true := by
    refine Ev.succ ?_
    simp only [trishawlaw09_FetchTurned.j0, if_true]
    exact alive_ev'
  have main : codeN a st = 0 → Ev (fun k => trishawlaw09_FetchTurned.j0 k a st false) true := fun h => by
    obtain ⟨hs, h2, ha, hcn⟩ := code_sane h
    have h7 := hs.1
    have hc' : codeN a (st.map turnS) = 0 := code_of (by omega) (sane_turn hs) (conn_turn hs (by omega) hcn)
    refine Ev.succ ?_
    simp only [trishawlaw09_FetchTurned.j0, Bool.false_eq_true, if_false]
    refine Ev.bind (turned_ev st hs.2.1) (Ev.bind (fetch_Cuts_ev a st) (Ev.bind (fetch_Cuts_ev a _) ?_))
    have hlen : (cutsN a.toNat (st.map turnS)).length = (cutsN a.toNat st).length := by rw [cuts_turn hs, List.length_reverse, List.length_map]
    have e1 : (((ints (cutsN a.toNat st)).length : Int) != ((ints (cutsN a.toNat (st.map turnS))).length : Int)) = false := by rw [ints_len, ints_len, hlen]; exact bne_self_eq_false _
    simp only [h, hc', if_true, e1]
    refine Ev.succ ?_
    simp only [trishawlaw09_FetchTurned.j1, Bool.false_eq_true, if_false]
    exact turned_main a st h hc' hs h2 ha hcn (cutsN a.toNat st).length 0 (by omega)
  unfold trishawlaw09_FetchTurned.f
  simp only [few_eq, Option.bind_some]
  generalize (if (st.length : Int) ≤ 40 then decide ((([] : List Int).length : Int) ≤ 60) else false) = b
  cases b
  · simp only [Bool.false_eq_true, if_false]; exact easy
  · simp only [if_true]
    refine Ev.bind (quarter_ev a st) ?_
    by_cases h : codeN a st = 0
    · simp only [h, bne_self_eq_false]
      exact main h
    · have : (codeN a st != 0) = true := by rw [bne_iff_ne]; exact h
      simp only [this]
      exact easy
end Go.Proofs.Ytjbfbdanbpfplaa.OAll
