/- A part of the proof of 'fetchLucchesi_holds', for every input, without a condition. -/
import Derived.Test.YtjbfbdanbpfplaaSLQw
import Derived.Test.YtjbfbdanbpfplaaSLQj
import Derived.Test.YtjbfbdanbpfplaaSLQk
import Derived.Test.YtjbfbdanbpfplaaSLQm
import Derived.Test.YtjbfbdanbpfplaaSLQf
import Derived.Test.YtjbfbdanbpfplaaSLQo
namespace Go.Proofs.Ytjbfbdanbpfplaa.OAll
open Go.RowKit Go.Proofs.YtjbfbdanbpfplaaW.PrintWords Go.Proofs.YtjbfbdanbpfplaaW.PrintLast Go.Proofs.YtjbfbdanbpfplaaW.PrintMore
set_option linter.unusedVariables false
set_option linter.unusedSimpArgs false
def uOf (st : List S34) (j : Nat) : Nat := (rd_T34 st (j : Int)).f0.toNat
def vOf (st : List S34) (j : Nat) : Nat := (rd_T34 st (j : Int)).f1.toNat
theorem rd34_get {st : List S34} {j : Nat} (h : j < st.length) : rd_T34 st (j : Int) = st[j] := by simp [rd_T34, h]
theorem dS_cross {st : List S34} {j : Nat} (h : j < st.length) (X : Nat) : dS (uOf st) (vOf st) X j = (cross st X).testBit j := by
  have e : dS (uOf st) (vOf st) X j = outS X st[j] := by rw [dS, uOf, vOf, rd34_get h]; rfl
  rw [e, Bool.eq_iff_iff, cross_bit, List.getElem?_eq_getElem h]
  exact ⟨fun h => ⟨_, rfl, h⟩, fun ⟨s, h1, h2⟩ => by rw [Option.some.inj h1]; exact h2⟩
theorem cross_in {st : List S34} {X j : Nat} (h : (cross st X).testBit j = true) : j < st.length := by
  obtain ⟨s, h1, _⟩ := (cross_bit st X j).mp h
  exact (List.getElem?_eq_some_iff.mp h1).1
theorem bit_of_ne {a : Nat} (h : a ≠ 0) : ∃ j, a.testBit j = true := by
  apply Classical.byContradiction
  intro hno
  apply h
  apply Nat.eq_of_testBit_eq; intro j
  rw [Nat.zero_testBit]
  cases hj : a.testBit j
  · rfl
  · exact absurd ⟨j, hj⟩ hno
theorem fam_cuts {n : Nat} {st : List S34} (hs : Sane n st) : FamS n st.length (uOf st) (vOf st) (isCutB n st) := by
  refine ⟨fun X h => ?_, fun X h => ?_, fun X h j hj hv => ?_, fun X Y hX hY h0 h1 => ⟨cut_and hX hY h0, cut_or hX hY h1⟩, fun j hj => ?_⟩
  · have := isCut_pos h; omega
  · have := isCut_pos h; omega
  · have := (isCut_pos h).2.2 _ (List.getElem_mem hj)
    rw [vOf, rd34_get hj] at hv
    rw [uOf, rd34_get hj]
    simp only [backS, inb, hv, Bool.and_true, Bool.not_eq_false'] at this
    exact this
  · have := hs.2.2 _ (List.getElem_mem hj)
    rw [vOf, rd34_get hj]; omega
theorem pw_all {R : Nat → Nat → Prop} (hsym : ∀ {x y}, R x y → R y x) {l : List Nat} (h : l.Pairwise R) : ∀ x ∈ l, ∀ y ∈ l, x ≠ y → R x y := by
  intro x hx y hy hne
  obtain ⟨i, hi, rfl⟩ := List.getElem_of_mem hx
  obtain ⟨j, hj, rfl⟩ := List.getElem_of_mem hy
  rcases Nat.lt_trichotomy i j with hij | rfl | hij
  · exact List.pairwise_iff_getElem.mp h i j hi hj hij
  · exact absurd rfl hne
  · exact hsym (List.pairwise_iff_getElem.mp h j i hj hi hij)
theorem apart_len {n : Nat} {st : List S34} (hs : Sane n st) (h1 : 1 ≤ n) (hc : connB n st = true) {F : List Nat} (hF : ∀ X ∈ F, isCutB n st X = true) (hp : F.Pairwise fun x y => cross st x &&& cross st y = 0) :
    F.length ≤ (apartN n st).length := by
  have hall := pw_all (R := fun x y => cross st x &&& cross st y = 0) (fun h => by rw [Nat.and_comm]; exact h) hp
  refine apartN_max n st F ?_ hF hall
  refine hp.imp_of_mem fun {x y} hx hy h e => ?_
  subst e
  rw [Nat.and_self] at h
  exact cross_ne hs h1 hc (hF x hx) h
theorem pack_apart {n : Nat} {st : List S34} (hs : Sane n st) (h1 : 1 ≤ n) (hc : connB n st = true) : ¬ packL st.length (uOf st) (vOf st) (isCutB n st) (fun _ => 1) ((apartN n st).length + 1) := by
  rintro ⟨F, f1, f2, f3⟩
  have hpw : F.Pairwise fun x y => cross st x &&& cross st y = 0 := by
    rcases pick (fun x y => cross st x &&& cross st y = 0) F with h | ⟨X, Y, T, hp, hr⟩
    · exact h
    · exfalso
      obtain ⟨j, hj⟩ := bit_of_ne hr
      rw [Nat.testBit_and, Bool.and_eq_true] at hj
      have hjl := cross_in hj.1
      have h2 := f3 j hjl
      rw [useL, hp.countP_eq] at h2
      simp only [List.countP_cons, dS_cross hjl, hj.1, hj.2, if_true] at h2
      omega
  have := apart_len hs h1 hc f2 hpw
  omega
theorem bitsFrom_cnt (X : Nat) : ∀ (d : Nat), (bitsFrom X 0 d).length = cntP X.testBit d
  | 0 => rfl
  | d + 1 => by
    have ih := bitsFrom_cnt X d
    rw [bitsFrom, List.range'_concat, List.filter_append, List.length_append, cntP, ← ih, bitsFrom]
    simp only [Nat.zero_add, Nat.one_mul, List.filter_cons, List.filter_nil]
    cases X.testBit d <;> simp
theorem cntP_cut {p : Nat → Bool} {m : Nat} (h : ∀ i, m ≤ i → p i = false) : ∀ d, cntP p (m + d) = cntP p m
  | 0 => rfl
  | d + 1 => by rw [← Nat.add_assoc, cntP, cntP_cut h d, h (m + d) (by omega)]; rfl
theorem bitsN_cnt {X m : Nat} (hm : m ≤ 30) (hX : X < 2 ^ m) : (bitsN X).length = cntP X.testBit m := by
  rw [bitsN, bitsFrom_cnt]
  have := cntP_cut (p := X.testBit) (m := m) (fun i hi => Nat.testBit_lt_two_pow (Nat.lt_of_lt_of_le hX (Nat.pow_le_pow_right (by decide) hi))) (30 - m)
  rw [← this]; congr 1; omega
theorem wt_cnt (J : Nat → Bool) : ∀ m, wt J (fun _ => 1) m = cntP J m
  | 0 => rfl
  | m + 1 => by rw [wt, cntP, wt_cnt J m]; cases J m <;> rfl
theorem cntP_congr {p q : Nat → Bool} : ∀ n, (∀ i, i < n → p i = q i) → cntP p n = cntP q n
  | 0, _ => rfl
  | n + 1, h => by rw [cntP, cntP, cntP_congr n fun i hi => h i (by omega), h n (by omega)]
theorem wt_add (J : Nat → Bool) (c d : Nat → Nat) : ∀ m, wt J (fun j => c j + d j) m = wt J c m + wt J d m
  | 0 => rfl
  | m + 1 => by simp only [wt, wt_add J c d m]; split <;> omega
theorem wt_pos {J : Nat → Bool} {c : Nat → Nat} {j : Nat} (hJ : J j = true) (hc : 1 ≤ c j) : ∀ m, j < m → 1 ≤ wt J c m
  | 0, h => absurd h (by omega)
  | m + 1, h => by
    simp only [wt]
    by_cases e : j = m
    · subst e; rw [if_pos hJ]; omega
    · have := wt_pos hJ hc m (by omega); omega
theorem wt_use {st : List S34} {J : Nat → Bool} : ∀ F : List Nat, (∀ X ∈ F, ∃ j, j < st.length ∧ J j = true ∧ dS (uOf st) (vOf st) X j = true) → F.length ≤ wt J (useL (uOf st) (vOf st) F) st.length
  | [], _ => Nat.zero_le _
  | X :: F, h => by
    have ih := wt_use F fun Y hY => h Y (List.mem_cons_of_mem _ hY)
    obtain ⟨j, h1, h2, h3⟩ := h X List.mem_cons_self
    have e : useL (uOf st) (vOf st) (X :: F) = fun i => useL (uOf st) (vOf st) F i + if dS (uOf st) (vOf st) X i = true then 1 else 0 := by
      funext i; rw [useL, List.countP_cons]; rfl
    rw [e, wt_add, List.length_cons]
    have := wt_pos (J := J) (c := fun i => if dS (uOf st) (vOf st) X i = true then 1 else 0) (j := j) h2 (by simp [h3]) st.length h1
    omega
theorem apart_le {n : Nat} {st : List S34} (hs : Sane n st) {F : List Nat} (hF : ∀ X ∈ F, isCutB n st X = true) (hp : F.Pairwise fun x y => cross st x &&& cross st y = 0) {X : Nat} (hX : X < 2 ^ st.length)
    (hh : hits ((cutsN n st).map (cross st)) X = true) : F.length ≤ (bitsN X).length := by
  have h14 := hs.2.1
  rw [bitsN_cnt (by omega) hX, ← wt_cnt]
  refine Nat.le_trans (wt_use (J := X.testBit) F fun Y hY => ?_) (wt_le_on F hp)
  have := hits_iff.mp hh _ (List.mem_map.mpr ⟨Y, cutsN_mem.mpr (hF Y hY), rfl⟩)
  obtain ⟨j, hj⟩ := bit_of_ne this
  rw [Nat.testBit_and, Bool.and_eq_true] at hj
  have hjl := cross_in hj.1
  exact ⟨j, hjl, hj.2, by rw [dS_cross hjl]; exact hj.1⟩
where
  wt_le_on (F : List Nat) (hp : F.Pairwise fun x y => cross st x &&& cross st y = 0) : wt X.testBit (useL (uOf st) (vOf st) F) st.length ≤ wt X.testBit (fun _ => 1) st.length := by
    have key : ∀ j, j < st.length → useL (uOf st) (vOf st) F j ≤ 1 := by
      intro j hj
      clear hF hh
      induction F with
      | nil => simp [useL]
      | cons Y T ih =>
        rw [List.pairwise_cons] at hp
        have h2 := ih hp.2
        rw [useL, List.countP_cons]
        cases hd : dS (uOf st) (vOf st) Y j
        · simpa [useL] using h2
        · have : List.countP (fun X => dS (uOf st) (vOf st) X j) T = 0 := by
            rw [List.countP_eq_zero]
            intro Z hZ hz
            have := hp.1 Z hZ
            rw [dS_cross hj] at hd hz
            have : (cross st Y &&& cross st Z).testBit j = true := by rw [Nat.testBit_and, hd, hz]; rfl
            rw [hp.1 Z hZ] at this; simp at this
          simp [this]
    have gen : ∀ m, m ≤ st.length → wt X.testBit (useL (uOf st) (vOf st) F) m ≤ wt X.testBit (fun _ => 1) m := by
      intro m
      induction m with
      | zero => intro _; exact Nat.le_refl _
      | succ m ih =>
        intro hm
        have h1 := ih (by omega)
        have h2 := key m (by omega)
        simp only [wt]; split <;> omega
    exact gen _ (Nat.le_refl _)
theorem ly_eq {n : Nat} {st : List S34} (hs : Sane n st) (h1 : 1 ≤ n) (hc : connB n st = true) : (mendN n st).2.1.length = (apartN n st).length := by
  have h14 := hs.2.1
  have hm := mend_spec hs h1 hc
  have ha := apartN_is n st
  refine Nat.le_antisymm ?_ ?_
  · obtain ⟨J, j1, j2⟩ := lucchesi (n := n) (m := st.length) (u := uOf st) (v := vOf st) _ (isCutB n st) (fun _ => 1) (apartN n st).length (fam_cuts hs) (fun X hX => by
      obtain ⟨j, hj⟩ := bit_of_ne (cross_ne hs h1 hc hX)
      have hjl := cross_in hj
      exact ⟨j, hjl, by rw [dS_cross hjl]; exact hj⟩) (Nat.le_refl _) (pack_apart hs h1 hc)
    have hlt := bitsOf_lt J st.length
    refine Nat.le_trans (hm.2 (bitsOf J st.length) hlt (hits_iff.mpr fun c hcc => ?_)) ?_
    · obtain ⟨X, hX, rfl⟩ := List.mem_map.mp hcc
      obtain ⟨j, h1, h2, h3⟩ := j1 X (cutsN_mem.mp hX)
      intro e
      have : (cross st X &&& bitsOf J st.length).testBit j = true := by
        rw [Nat.testBit_and, bitsOf_bit, ← dS_cross h1, h3, h2, decide_eq_true h1]; rfl
      rw [e] at this; simp at this
    · rw [bitsN_cnt (by omega) hlt]
      rw [wt_cnt] at j2
      refine Nat.le_trans (Nat.le_of_eq (cntP_congr _ fun i hi => ?_)) j2
      rw [bitsOf_bit, decide_eq_true hi]; rfl
  · obtain ⟨X, hX, hh, e⟩ := hm.1
    rw [e]
    exact apart_le hs (fun Y hY => cutsN_mem.mp (ha.1.subset hY)) ha.2 hX hh
theorem asc_bits {m X : Nat} (hX : X < 2 ^ m) : ∀ (d i : Nat) (prev : Int) (acc : Nat), prev < i → ∃ R, ascN m prev acc (ints (bitsFrom X i d)) = some R ∧ ∀ b, R.testBit b = (acc.testBit b || (decide (i ≤ b ∧ b < i + d) && X.testBit b))
  | 0, i, prev, acc, hp => ⟨acc, rfl, fun b => by
      have : decide (i ≤ b ∧ b < i + 0) = false := decide_eq_false (by omega)
      rw [this]; simp⟩
  | d + 1, i, prev, acc, hp => by
    rw [bitsFrom_succ]
    cases hb : X.testBit i
    · obtain ⟨R, h1, h2⟩ := asc_bits hX d (i + 1) prev acc (by omega)
      refine ⟨R, h1, fun b => ?_⟩
      rw [h2 b]
      by_cases e : b = i
      · subst e; simp [hb]
      · have : (i + 1 ≤ b ∧ b < i + 1 + d) ↔ (i ≤ b ∧ b < i + (d + 1)) := by omega
        simp only [this]
    · have him : i < m := bit_in hX hb
      obtain ⟨R, h1, h2⟩ := asc_bits hX d (i + 1) (i : Int) (acc ||| 2 ^ i) (by omega)
      have c : ¬ ((i : Int) < 0 ∨ (i : Int) ≥ (m : Int) ∨ (i : Int) ≤ prev) := by omega
      refine ⟨R, ?_, fun b => ?_⟩
      · simp only [if_true, ints, List.map_cons, ascN]
        rw [if_neg (show ¬ (Int.ofNat i < 0 ∨ Int.ofNat i ≥ (m : Int) ∨ Int.ofNat i ≤ prev) from c)]
        exact h1
      · rw [h2 b, Nat.testBit_or, Nat.testBit_two_pow]
        by_cases e : b = i
        · subst e
          have : (b ≤ b ∧ b < b + (d + 1)) := by omega
          simp [hb, this]
        · have : (i + 1 ≤ b ∧ b < i + 1 + d) ↔ (i ≤ b ∧ b < i + (d + 1)) := by omega
          have e2 : decide (i = b) = false := decide_eq_false (by omega)
          simp only [this, e2, Bool.or_false]
theorem asc_bitsN {m X : Nat} (hm : m ≤ 30) (hX : X < 2 ^ m) : ascN m (-1) 0 (ints (bitsN X)) = some X := by
  obtain ⟨R, h1, h2⟩ := asc_bits hX 30 0 (-1) 0 (by omega)
  rw [bitsN, h1]
  congr 1
  apply Nat.eq_of_testBit_eq; intro b
  rw [h2 b]
  cases hb : X.testBit b
  · simp
  · have := bit_in hX hb
    have e : decide (0 ≤ b ∧ b < 0 + 30) = true := decide_eq_true (by omega)
    rw [e]; simp
theorem mend_mends {n : Nat} {st : List S34} (hs : Sane n st) (h1 : 1 ≤ n) (hc : connB n st = true) : isMendN n st (ints (mendN n st).2.1) = true := by
  obtain ⟨X, hX, hh, e⟩ := (mend_spec hs h1 hc).1
  have h14 := hs.2.1
  rw [isMendN, e, asc_bitsN (by omega) hX]
  exact hh
theorem cntP_one {p q : Nat → Bool} {v : Nat} (h : ∀ i, i ≠ v → p i = q i) : ∀ n, cntP p n ≤ cntP q n + if v < n then 1 else 0
  | 0 => by simp [cntP]
  | n + 1 => by
    have ih := cntP_one h n
    simp only [cntP]
    by_cases e : n = v
    · subst e
      simp only [Nat.lt_irrefl, if_false, Nat.lt_succ_self, if_true] at *
      cases p n <;> simp <;> omega
    · rw [h n e]
      have : (if v < n then 1 else 0) ≤ if v < n + 1 then 1 else 0 := by split <;> split <;> omega
      omega
theorem asc_cnt {m : Nat} : ∀ (l : List Int) (prev : Int) (acc X : Nat), ascN m prev acc l = some X → cntP X.testBit m ≤ cntP acc.testBit m + l.length
  | [], prev, acc, X, h => by obtain rfl := Option.some.inj h; exact Nat.le_refl _
  | v :: t, prev, acc, X, h => by
    rw [ascN] at h
    split at h
    · cases h
    · have ih := asc_cnt t v _ X h
      have := cntP_one (p := (acc ||| 2 ^ v.toNat).testBit) (q := acc.testBit) (v := v.toNat) (fun i hi => by
        rw [Nat.testBit_or, Nat.testBit_two_pow, decide_eq_false (by omega), Bool.or_false]) m
      have e : (if v.toNat < m then 1 else 0) ≤ 1 := by split <;> omega
      rw [List.length_cons]; omega
theorem mend_less {n : Nat} {st : List S34} (hs : Sane n st) (h1 : 1 ≤ n) (hc : connB n st = true) {l : List Int} (h : isMendN n st l = true) : (mendN n st).2.1.length ≤ l.length := by
  have h14 := hs.2.1
  unfold isMendN at h
  cases hx : ascN st.length (-1) 0 l with
  | none => rw [hx] at h; cases h
  | some X =>
    rw [hx] at h
    have hX := ascN_lt h14 l (-1) 0 X (Nat.two_pow_pos _) hx
    refine Nat.le_trans ((mend_spec hs h1 hc).2 X hX h) ?_
    rw [bitsN_cnt (by omega) hX]
    have := asc_cnt l _ _ X hx
    have e : cntP (Nat.testBit 0) st.length = 0 := by
      have := cntP_congr (p := Nat.testBit 0) (q := fun _ => false) st.length (fun i _ => by simp)
      rw [this]
      induction st.length with
      | zero => rfl
      | succ m ih => rw [cntP, ih]; rfl
    omega
theorem apartB_mk {n : Nat} {st : List S34} : ∀ (l : List Nat) (used : Nat), (∀ x ∈ l, isCutB n st x = true) → (∀ x ∈ l, cross st x &&& used = 0) → (l.Pairwise fun x y => cross st x &&& cross st y = 0) → apartB n st used (ints l) = true
  | [], used, _, _, _ => rfl
  | x :: t, used, h1, h2, h3 => by
    rw [List.pairwise_cons] at h3
    have hk : kindN n st (Int.ofNat x) = 1 := kind_cut.mpr ⟨Int.natCast_nonneg _, h1 x List.mem_cons_self⟩
    have e : (Int.ofNat x).toNat = x := rfl
    simp only [ints, List.map_cons, apartB]
    rw [if_pos hk, e, if_pos (h2 x List.mem_cons_self)]
    refine apartB_mk t _ (fun y hy => h1 y (List.mem_cons_of_mem _ hy)) (fun y hy => ?_) h3.2
    exact and_or_zero.mpr ⟨h2 y (List.mem_cons_of_mem _ hy), by rw [Nat.and_comm]; exact h3.1 y hy⟩
theorem apartB_get {n : Nat} {st : List S34} : ∀ (l : List Int) (used : Nat), apartB n st used l = true → ∃ L : List Nat, L.length = l.length ∧ (∀ x ∈ L, isCutB n st x = true) ∧ (∀ x ∈ L, cross st x &&& used = 0) ∧ L.Pairwise fun x y => cross st x &&& cross st y = 0
  | [], used, _ => ⟨[], rfl, fun _ h => absurd h List.not_mem_nil, fun _ h => absurd h List.not_mem_nil, List.Pairwise.nil⟩
  | x :: t, used, h => by
    rw [apartB] at h
    split at h
    · rename_i hk
      split at h
      · rename_i hu
        obtain ⟨L, l1, l2, l3, l4⟩ := apartB_get t _ h
        refine ⟨x.toNat :: L, by simp [l1], fun y hy => ?_, fun y hy => ?_, ?_⟩
        · rcases List.mem_cons.mp hy with rfl | hy
          · exact (kind_cut.mp hk).2
          · exact l2 y hy
        · rcases List.mem_cons.mp hy with rfl | hy
          · exact hu
          · exact (and_or_zero.mp (l3 y hy)).1
        · rw [List.pairwise_cons]
          exact ⟨fun y hy => by rw [Nat.and_comm]; exact (and_or_zero.mp (l3 y hy)).2, l4⟩
      · cases h
    · cases h
end Go.Proofs.Ytjbfbdanbpfplaa.OAll
