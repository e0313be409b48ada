/- A part of the proof of 'fetchMore_holds', for every input, without a condition. -/
import Derived.Test.YtjbfbdanbpfplaaSOQh
import Derived.Test.YtjbfbdanbpfplaaSOOAllx12
namespace Go.Proofs.Ytjbfbdanbpfplaa.OAll
open Go.RowKit Go.Proofs.YtjbfbdanbpfplaaW.PrintWords Go.Proofs.YtjbfbdanbpfplaaW.PrintLast Go.Proofs.YtjbfbdanbpfplaaW.PrintMore
set_option linter.unusedVariables false
set_option linter.unusedSimpArgs false
def compN (n X : Nat) : Nat := (2 ^ n - 1) ^^^ X
theorem compN_bit {n X : Nat} (hX : X < 2 ^ n) (i : Nat) : (compN n X).testBit i = (decide (i < n) && !X.testBit i) := by
  rw [compN, Nat.testBit_xor, full_bit]
  by_cases h : i < n
  · simp [h]
  · have : X.testBit i = false := Nat.testBit_lt_two_pow (Nat.lt_of_lt_of_le hX (Nat.pow_le_pow_right (by decide) (by omega)))
    simp [h, this]
theorem compN_lt {n X : Nat} (hX : X < 2 ^ n) : compN n X < 2 ^ n := Nat.xor_lt_two_pow (by have := Nat.two_pow_pos n; omega) hX
theorem compN_inb {n X : Nat} (hX : X < 2 ^ n) {v : Int} (h0 : 0 ≤ v) (h1 : v < n) : inb (compN n X) v = !inb X v := by
  rw [inb, inb, compN_bit hX, decide_eq_true (by omega), Bool.true_and]
theorem cross_ne {n : Nat} {st : List S34} (hs : Sane n st) (h1 : 1 ≤ n) (hc : connB n st = true) {X : Nat} (hX : isCutB n st X = true) : cross st X ≠ 0 := by
  intro h
  have hp := isCut_pos hX
  have hX2 : X < 2 ^ n := by omega
  have hio : ∀ s ∈ st, inb X s.f0 = inb X s.f1 := fun s hs' => by
    have hb := hp.2.2 s hs'
    have ho : outS X s = false := by
      obtain ⟨j, hj, e⟩ := List.getElem_of_mem hs'
      cases ho : outS X s
      · rfl
      · have := (cross_bit st X j).mpr ⟨s, by rw [List.getElem?_eq_getElem hj, e], ho⟩
        rw [h] at this; simp at this
    unfold outS at ho; unfold backS at hb
    revert ho hb
    cases inb X s.f0 <;> cases inb X s.f1 <;> simp
  have hci := (conn_iff hs h1).mp hc
  cases h0 : X.testBit 0
  · have hY0 : (compN n X).testBit 0 = true := by rw [compN_bit hX2, h0, decide_eq_true (by omega)]; rfl
    have hYs : shut true st (compN n X) := fun s hs' => by
      have hm := hs.2.2 s hs'
      have e := hio s hs'
      rw [shutS, compN_inb hX2 hm.1 hm.2.1, compN_inb hX2 hm.2.2.1 hm.2.2.2.1, e]
      exact ⟨id, fun _ => id⟩
    have hY := hci _ (compN_lt hX2) hY0 hYs
    apply Nat.ne_of_gt hp.1
    apply Nat.eq_of_testBit_eq; intro i
    rw [Nat.zero_testBit]
    cases hi : X.testBit i
    · rfl
    · have := compN_bit hX2 i
      rw [hY, full_bit, hi] at this
      have hin := bit_in hX2 hi
      rw [decide_eq_true hin] at this; cases this
  · have := hci X hX2 h0 (fun s hs' => by rw [shutS, hio s hs']; exact ⟨id, fun _ => id⟩)
    omega
structure Least (all : List Nat) (i : Nat) (s : Bool × List Nat × Nat) : Prop where
  low : ∀ X, X < i → hits all X = true → s.1 = true ∧ s.2.1.length ≤ (bitsN X).length
  is : s.1 = true → ∃ X, X < i ∧ hits all X = true ∧ s.2.1 = bitsN X
theorem least_step {all : List Nat} {i : Nat} {s : Bool × List Nat × Nat} (h : Least all i s) : Least all (i + 1) (tellN all s i) := by
  unfold tellN
  cases hh : hits all i
  · rw [if_neg (by decide)]
    refine ⟨fun X hX hX' => ?_, fun hs => ?_⟩
    · rcases Nat.lt_or_ge X i with h' | h'
      · exact h.low X h' hX'
      · obtain rfl : X = i := by omega
        rw [hh] at hX'; cases hX'
    · obtain ⟨X, hX, hX'⟩ := h.is hs
      exact ⟨X, by omega, hX'⟩
  · rw [if_pos rfl]
    by_cases hc : s.1 = false ∨ (bitsN i).length < s.2.1.length
    · rw [if_pos hc]
      refine ⟨fun X hX hX' => ⟨rfl, ?_⟩, fun _ => ⟨i, by omega, hh, rfl⟩⟩
      show (bitsN i).length ≤ _
      rcases Nat.lt_or_ge X i with h' | h'
      · have := h.low X h' hX'
        rcases hc with hc | hc
        · rw [hc] at this; exact absurd this.1 (by decide)
        · omega
      · obtain rfl : X = i := by omega
        exact Nat.le_refl _
    · rw [if_neg hc]
      have hc1 : s.1 = true := by cases h : s.1 <;> simp_all
      have hc2 : ¬ (bitsN i).length < s.2.1.length := fun h => hc (Or.inr h)
      by_cases he : (bitsN i).length = s.2.1.length
      · rw [if_pos he]
        refine ⟨fun X hX hX' => ⟨hc1, ?_⟩, fun _ => ?_⟩
        · have hl : (if lexN (bitsN i) s.2.1 = true then bitsN i else s.2.1).length = s.2.1.length := by
            split
            · exact he
            · rfl
          show (if lexN (bitsN i) s.2.1 = true then bitsN i else s.2.1).length ≤ _
          rw [hl]
          rcases Nat.lt_or_ge X i with h' | h'
          · exact (h.low X h' hX').2
          · obtain rfl : X = i := by omega
            omega
        · by_cases hx : lexN (bitsN i) s.2.1 = true
          · exact ⟨i, by omega, hh, if_pos hx⟩
          · obtain ⟨X, hX, hX', e⟩ := h.is hc1
            exact ⟨X, by omega, hX', (if_neg hx).trans e⟩
      · rw [if_neg he]
        refine ⟨fun X hX hX' => ?_, fun hs => ?_⟩
        · rcases Nat.lt_or_ge X i with h' | h'
          · exact h.low X h' hX'
          · obtain rfl : X = i := by omega
            exact ⟨hc1, by omega⟩
        · obtain ⟨X, hX, hX'⟩ := h.is hs
          exact ⟨X, by omega, hX'⟩
theorem least_all (all : List Nat) : ∀ m, Least all m (fewN all m)
  | 0 => ⟨fun X h => by omega, fun h => by cases h⟩
  | m + 1 => by
    have := least_step (least_all all m)
    rw [fewN, List.range_succ, List.foldl_append]
    exact this
theorem hits_iff {all : List Nat} {X : Nat} : hits all X = true ↔ ∀ c ∈ all, c &&& X ≠ 0 := by
  simp [hits, List.all_eq_true]
theorem and_full {m c : Nat} (h : c < 2 ^ m) : c &&& (2 ^ m - 1) = c := by
  apply Nat.eq_of_testBit_eq; intro i
  rw [Nat.testBit_and, full_bit]
  cases hi : c.testBit i
  · rfl
  · rw [decide_eq_true (bit_in h hi)]; rfl
theorem mend_spec {n : Nat} {st : List S34} (hs : Sane n st) (h1 : 1 ≤ n) (hc : connB n st = true) :
    (∃ X, X < 2 ^ st.length ∧ hits ((cutsN n st).map (cross st)) X = true ∧ (mendN n st).2.1 = bitsN X) ∧
    ∀ X, X < 2 ^ st.length → hits ((cutsN n st).map (cross st)) X = true → (mendN n st).2.1.length ≤ (bitsN X).length := by
  have hl := least_all ((cutsN n st).map (cross st)) (2 ^ st.length)
  refine ⟨hl.is ?_, fun X hX hX' => (hl.low X hX hX').2⟩
  have hp := Nat.two_pow_pos st.length
  refine (hl.low (2 ^ st.length - 1) (by omega) (hits_iff.mpr fun c hc' => ?_)).1
  obtain ⟨X, hX, rfl⟩ := List.mem_map.mp hc'
  rw [and_full (cross_lt' st X)]
  exact cross_ne hs h1 hc (cutsN_mem.mp hX)
theorem cut_more {n : Nat} {st : List S34} {s : S34} {X : Nat} (h : isCutB n (st ++ [s]) X = true) : isCutB n st X = true := by
  have := isCut_pos h
  exact isCut_mk this.1 this.2.1 fun s' hs' => this.2.2 s' (List.mem_append_left _ hs')
theorem cross_more (st : List S34) (s : S34) (X : Nat) : subB (cross st X) (cross (st ++ [s]) X) := fun i hi => by
  rw [cross_bit] at hi ⊢
  obtain ⟨s', h, h'⟩ := hi
  refine ⟨s', ?_, h'⟩
  rw [List.getElem?_append_left]
  · exact h
  · exact (List.getElem?_eq_some_iff.mp h).1
theorem and_ne_mono {a b X : Nat} (h : subB a b) (hn : a &&& X ≠ 0) : b &&& X ≠ 0 := fun hz => by
  apply hn
  apply Nat.eq_of_testBit_eq; intro i
  rw [Nat.zero_testBit, Nat.testBit_and]
  cases ha : a.testBit i
  · rfl
  · have hb := h i ha
    have : (b &&& X).testBit i = false := by rw [hz, Nat.zero_testBit]
    rw [Nat.testBit_and, hb] at this
    exact this
theorem mend_more {n : Nat} {st : List S34} {s : S34} (hs : Sane n st) (hs' : Sane n (st ++ [s])) (h1 : 1 ≤ n) (hc : connB n st = true) (hc' : connB n (st ++ [s]) = true) :
    (mendN n (st ++ [s])).2.1.length ≤ (mendN n st).2.1.length := by
  obtain ⟨X, hX, hh, e⟩ := (mend_spec hs h1 hc).1
  rw [e]
  refine (mend_spec hs' h1 hc').2 X (Nat.lt_of_lt_of_le hX (Nat.pow_le_pow_right (by decide) (by simp))) (hits_iff.mpr fun c hcc => ?_)
  obtain ⟨Y, hY, rfl⟩ := List.mem_map.mp hcc
  exact and_ne_mono (cross_more st s Y) (hits_iff.mp hh _ (List.mem_map.mpr ⟨Y, cutsN_mem.mpr (cut_more (cutsN_mem.mp hY)), rfl⟩))
theorem more_l1 (c1 c2 : List Nat) (hl1 : c1.length ≤ 127) (i : Nat) (hi : i < c2.length) (hiw : i < 9223372036854775807) (next : Ev (fun k => trishawlaw09_FetchMore.l0 k (ints c1) (ints c2) ((i + 1 : Nat) : Int)) true) : ∀ (d j : Nat) (b : Bool), j + d = c1.length → (b = true ∨ ∃ q, j ≤ q ∧ ∃ h : q < c1.length, c1[q] = c2[i]) →
    Ev (fun k => trishawlaw09_FetchMore.l1 k (ints c1) (ints c2) i b j) true := by
  intro d
  induction d with
  | zero =>
    intro j b hj hb
    have e3 : ¬ (j : Int) < ((ints c1).length : Int) := by rw [ints_len]; omega
    have hb' : b = true := hb.elim id fun ⟨q, h1, h2, _⟩ => by omega
    refine Ev.succ ?_
    simp only [trishawlaw09_FetchMore.l1, e3, if_false, hb', if_true, w64s i hiw]
    exact next
  | succ d ih =>
    intro j b hj hb
    have hjl : j < c1.length := by omega
    have e3 : (j : Int) < ((ints c1).length : Int) := by rw [ints_len]; omega
    have e4 : (i : Int) < ((ints c2).length : Int) := by rw [ints_len]; omega
    have hjw : j < 9223372036854775807 := by omega
    have eb : ((((c1[j] : Nat) : Int)) == ((c2[i] : Nat) : Int)) = decide (c1[j] = c2[i]) := by rw [Bool.eq_iff_iff, beq_iff_eq, decide_eq_true_iff]; omega
    refine Ev.succ ?_
    cases b
    · simp only [trishawlaw09_FetchMore.l1, e3, e4, if_true, Bool.false_eq_true, if_false, Int.natCast_nonneg, rd_ints _ _ hjl, rd_ints _ _ hi, w64s j hjw, eb]
      refine ih (j + 1) _ (by omega) ?_
      rcases hb with hb | ⟨q, h1, h2, h3⟩
      · cases hb
      · by_cases hq : q = j
        · subst hq; exact Or.inl (decide_eq_true h3)
        · exact Or.inr ⟨q, by omega, h2, h3⟩
    · simp only [trishawlaw09_FetchMore.l1, e3, if_true, w64s j hjw]
      exact ih (j + 1) true (by omega) (Or.inl rfl)
theorem more_l0 (c1 c2 : List Nat) (hl1 : c1.length ≤ 127) (hl2 : c2.length ≤ 127) (hsub : ∀ x ∈ c2, x ∈ c1) : ∀ (d i : Nat), i + d = c2.length → Ev (fun k => trishawlaw09_FetchMore.l0 k (ints c1) (ints c2) i) true := by
  intro d
  induction d with
  | zero =>
    intro i hi
    have e3 : ¬ (i : Int) < ((ints c2).length : Int) := by rw [ints_len]; omega
    refine Ev.succ ?_
    simp only [trishawlaw09_FetchMore.l0, e3, if_false]
    exact alive_ev'
  | succ d ih =>
    intro i hi
    have e3 : (i : Int) < ((ints c2).length : Int) := by rw [ints_len]; omega
    have hil : i < c2.length := by omega
    refine Ev.succ ?_
    simp only [trishawlaw09_FetchMore.l0, e3, if_true]
    refine more_l1 c1 c2 hl1 i hil (by omega) (ih (i + 1) (by omega)) c1.length 0 false (by omega) (Or.inr ?_)
    obtain ⟨q, hq, e⟩ := List.getElem_of_mem (hsub _ (List.getElem_mem hil))
    exact ⟨q, Nat.zero_le _, hq, e⟩
theorem FetchMore_ev (a : Int) (st : List S34) (hst : st.length * 16 ≤ 140737488351232) (p q : Int) : Ev (fun k => trishawlaw09_FetchMore.f k a st p q) true := by
  have easy : ∀ x7, Ev (fun k => trishawlaw09_FetchMore.j0 k a st x7 true) true := fun x7 => by
    refine Ev.succ ?_
    simp only [trishawlaw09_FetchMore.j0, if_true]
    exact alive_ev'
  have main : codeN a st = 0 → codeN a (st ++ [⟨p, q⟩]) = 0 → Ev (fun k => trishawlaw09_FetchMore.j0 k a st (st ++ [⟨p, q⟩]) false) true := fun h h' => by
    obtain ⟨hs, h2, ha, hc⟩ := code_sane h
    obtain ⟨hs', _, _, hc'⟩ := code_sane h'
    refine Ev.succ ?_
    simp only [trishawlaw09_FetchMore.j0, Bool.false_eq_true, if_false]
    refine Ev.bind (fetch_Cuts_ev a st) (Ev.bind (fetch_Cuts_ev a _) (Ev.bind (fetch_Mend_ev a st) (Ev.bind (fetch_Mend_ev a _) ?_)))
    have hm := mend_more hs hs' (by omega) hc hc'
    have hd : decide (((ints (mendN a.toNat (st ++ [⟨p, q⟩])).2.1).length : Int) > ((ints (mendN a.toNat st).2.1).length : Int)) = false := decide_eq_false (by rw [ints_len, ints_len]; omega)
    simp only [h, h', if_true, hd]
    refine Ev.succ ?_
    simp only [trishawlaw09_FetchMore.j1, Bool.false_eq_true, if_false]
    exact more_l0 _ _ (cutsN_small hs) (cutsN_small hs') (fun x hx => cutsN_mem.mpr (cut_more (cutsN_mem.mp hx))) (cutsN a.toNat (st ++ [⟨p, q⟩])).length 0 (by omega)
  unfold trishawlaw09_FetchMore.f
  have g1 : ([] : List S34).length + st.length < 8796093022208 := by simp; omega
  have g2 : st.length + ([⟨p, q⟩] : List S34).length < 8796093022208 := by simp; omega
  simp only [few_eq, Option.bind_some, g1, g2, if_true, List.nil_append]
  generalize (if (st.length : Int) ≤ 40 then decide ((([] : List Int).length : Int) ≤ 60) else false) = b
  cases b
  · simp only [Bool.false_eq_true, if_false]; exact easy _
  · simp only [if_true]
    refine Ev.bind (quarter_ev a st) ?_
    by_cases h : codeN a st = 0
    · simp only [h, if_true]
      refine Ev.bind (quarter_ev a _) ?_
      by_cases h' : codeN a (st ++ [⟨p, q⟩]) = 0
      · simp only [h', bne_self_eq_false]; exact main h h'
      · have : (codeN a (st ++ [⟨p, q⟩]) != 0) = true := by rw [bne_iff_ne]; exact h'
        simp only [this]; exact easy _
    · simp only [h, if_false]; exact easy _
end Go.Proofs.Ytjbfbdanbpfplaa.OAll
