/- A part of the proof of 'fetchMends_holds', for every input, without a condition. -/
import Derived.Test.YtjbfbdanbpfplaaSNQg
import Derived.Test.YtjbfbdanbpfplaaSNOAllx14
namespace Go.Proofs.Ytjbfbdanbpfplaa.OAll
open Go.RowKit Go.Proofs.YtjbfbdanbpfplaaW.PrintWords Go.Proofs.YtjbfbdanbpfplaaW.PrintLast Go.Proofs.YtjbfbdanbpfplaaW.PrintMore
set_option linter.unusedVariables false
set_option linter.unusedSimpArgs false
def hits (all : List Nat) (X : Nat) : Bool := all.all fun c => !(c &&& X == 0)
def tellN (all : List Nat) (s : Bool × List Nat × Nat) (X : Nat) : Bool × List Nat × Nat :=
  if hits all X then
    (if s.1 = false ∨ (bitsN X).length < s.2.1.length then (true, bitsN X, 1)
     else if (bitsN X).length = s.2.1.length then (s.1, if lexN (bitsN X) s.2.1 then bitsN X else s.2.1, s.2.2 + 1) else s)
  else s
def fewN (all : List Nat) (m : Nat) : Bool × List Nat × Nat := (List.range m).foldl (tellN all) (false, [], 0)
def tellsFrom (all : List Nat) : Nat → Nat → Bool × List Nat × Nat → Bool × List Nat × Nat
  | _, 0, s => s
  | i, d + 1, s => tellsFrom all (i + 1) d (tellN all s i)
theorem tellsFrom_eq (all : List Nat) : ∀ (d i : Nat) (s : Bool × List Nat × Nat), tellsFrom all i d s = (List.range' i d).foldl (tellN all) s
  | 0, _, _ => rfl
  | d + 1, i, s => by rw [tellsFrom, List.range'_succ, List.foldl_cons, tellsFrom_eq all d (i + 1)]
theorem fewN_eq (all : List Nat) (m : Nat) : fewN all m = tellsFrom all 0 m (false, [], 0) := by rw [tellsFrom_eq, fewN, List.range_eq_range']
theorem tellN_len (all : List Nat) (s : Bool × List Nat × Nat) (X : Nat) (h : s.2.1.length ≤ 30) : (tellN all s X).2.1.length ≤ 30 := by
  have hb : (bitsN X).length ≤ 30 := bitsFrom_len X 0 30
  unfold tellN
  split
  · split
    · exact hb
    · split
      · show (if _ then bitsN X else s.2.1).length ≤ 30
        split <;> assumption
      · exact h
  · exact h
theorem tellN_many (all : List Nat) (s : Bool × List Nat × Nat) (X : Nat) : (tellN all s X).2.2 ≤ s.2.2 + 1 := by
  unfold tellN
  split
  · split
    · show 1 ≤ _; omega
    · split
      · exact Nat.le_refl _
      · exact Nat.le_succ _
  · exact Nat.le_succ _
theorem any_hits : ∀ (all : List Nat) (X : Nat), (∀ c ∈ all, c < 2 ^ 63) → X < 2 ^ 63 → (ints all).any (fun c => Go.bits .and .i64 c X == 0) = !hits all X
  | [], _, _, _ => rfl
  | c :: t, X, h, hX => by
    have ih := any_hits t X (fun c hc => h c (List.mem_cons_of_mem _ hc)) hX
    rw [ints_cons, List.any_cons, ih, hits, hits, List.all_cons, and_nat c X (h c (List.mem_cons_self)) hX]
    have : (((c &&& X : Nat) : Int) == 0) = (c &&& X == 0) := by rw [Bool.eq_iff_iff, beq_iff_eq, beq_iff_eq]; omega
    rw [this]; simp
theorem tell_ev (all : List Nat) (hall : ∀ c ∈ all, c < 2 ^ 63) (X : Nat) (hX : X < 2 ^ 30) (s : Bool × List Nat × Nat) (hs : s.2.1.length ≤ 30) (hm : s.2.2 < 2 ^ 30) :
    Ev (fun k => fetch_tell.f k (ints all) X s.1 (ints s.2.1) (s.2.2 : Int)) ((tellN all s X).1, ints (tellN all s X).2.1, ((tellN all s X).2.2 : Int)) := by
  unfold fetch_tell.f tellN
  rw [any_hits all X hall (by omega)]
  cases hh : hits all X
  · simp only [Bool.not_false, if_true, Bool.false_eq_true, if_false]
    exact Ev.pure _
  · simp only [Bool.not_true, if_true, Bool.false_eq_true, if_false]
    refine Ev.bind (list_ev X hX) ?_
    have hb : (bitsN X).length ≤ 30 := bitsFrom_len X 0 30
    rw [ints_len, ints_len]
    rcases Bool.eq_false_or_eq_true s.1 with h0 | h0
    · by_cases h1 : (bitsN X).length < s.2.1.length
      · have h1' : ((bitsN X).length : Int) < (s.2.1.length : Int) := by omega
        simp only [h0, Bool.true_eq_false, false_or, h1, h1', if_true, if_false]; exact Ev.pure _
      · have h1' : ¬ ((bitsN X).length : Int) < (s.2.1.length : Int) := by omega
        by_cases h2 : (bitsN X).length = s.2.1.length
        · have h2' : ((bitsN X).length : Int) = (s.2.1.length : Int) := by omega
          simp only [h0, Bool.true_eq_false, false_or, if_true, if_false, h2, Int.lt_irrefl, Nat.lt_irrefl]
          obtain ⟨c, hc, hl⟩ := compare_ev (bitsN X) s.2.1 (by omega) (by omega)
          refine Ev.bind hc ?_
          have hmw : s.2.2 < 9223372036854775807 := by omega
          by_cases h3 : lexN (bitsN X) s.2.1 = true
          · simp only [hl.mpr h3, h3, if_true, w64s _ hmw]; exact Ev.pure _
          · have h3' : ¬ c < 0 := fun h => h3 (hl.mp h)
            simp only [h3', h3, if_false, w64s _ hmw]; exact Ev.pure _
        · have h2' : ¬ ((bitsN X).length : Int) = (s.2.1.length : Int) := by omega
          simp only [h0, Bool.true_eq_false, false_or, h1, h1', if_false, h2, h2']; exact Ev.pure _
    · simp only [h0, true_or, if_true]; exact Ev.pure _
theorem fewest_l1 (all : List Nat) (hall : ∀ c ∈ all, c < 2 ^ 63) (m : Nat) (hm : m ≤ 2 ^ 14) : ∀ (d i : Nat) (s : Bool × List Nat × Nat), i + d = m → s.2.1.length ≤ 30 → s.2.2 ≤ i →
    Ev (fun k => fetch_quarter_fewest.l1 k (ints all) (m : Int) i s.1 (ints s.2.1) (s.2.2 : Int)) (ints (tellsFrom all i d s).2.1, ((tellsFrom all i d s).2.2 : Int)) := by
  intro d
  induction d with
  | zero =>
    intro i s hi hs hc
    have e3 : ¬ (i : Int) < (m : Int) := by omega
    refine Ev.succ ?_
    simp only [fetch_quarter_fewest.l1, e3, if_false]
    exact Ev.pure _
  | succ d ih =>
    intro i s hi hs hc
    have e3 : (i : Int) < (m : Int) := by omega
    have hiw : i < 9223372036854775807 := by omega
    refine Ev.succ ?_
    simp only [fetch_quarter_fewest.l1, e3, if_true, w64s i hiw]
    refine Ev.bind (tell_ev all hall i (by omega) s hs (by omega)) ?_
    have := tellN_many all s i
    exact ih (i + 1) (tellN all s i) (by omega) (tellN_len all s i hs) (by omega)
theorem fewest_l0 {n : Nat} {st : List S34} (hs : Sane n st) (a : Int) (cuts : List Nat) (hc : ∀ c ∈ cuts, c < 2 ^ 63) (hl : cuts.length ≤ 127) : ∀ (suf pre : List Nat), cuts = pre ++ suf →
    Ev (fun k => fetch_quarter_fewest.l0 k a st (ints cuts) (ints (pre.map (cross st))) pre.length) (ints (fewN (cuts.map (cross st)) (2 ^ st.length)).2.1, ((fewN (cuts.map (cross st)) (2 ^ st.length)).2.2 : Int)) := by
  intro suf
  induction suf with
  | nil =>
    intro pre e
    have e0 : pre = cuts := by rw [e, List.append_nil]
    subst e0
    have e3 : ¬ (pre.length : Int) < ((ints pre).length : Int) := by rw [ints_len]; omega
    refine Ev.succ ?_
    simp only [fetch_quarter_fewest.l0, e3, if_false]
    have h14 := hs.2.1
    have e5 : min st.length 64 = st.length := by omega
    have hp : (2 : Nat) ^ st.length ≤ 2 ^ 14 := Nat.pow_le_pow_right (by decide) h14
    have hall : ∀ c ∈ pre.map (cross st), c < 2 ^ 63 := fun c h => by
      obtain ⟨x, _, rfl⟩ := List.mem_map.mp h
      have := cross_lt hs x; omega
    rw [e5, fewN_eq]
    have h62 : st.length ≤ 62 := by omega
    rw [w64pow h62]
    exact fewest_l1 (pre.map (cross st)) hall (2 ^ st.length) hp (2 ^ st.length) 0 (false, [], 0) (by omega) (by simp) (by simp)
  | cons x t ih =>
    intro pre e
    have e3 : (pre.length : Int) < ((ints cuts).length : Int) := by rw [ints_len, e]; simp; omega
    have hpl : pre.length < 127 := by rw [e] at hl; simp at hl; omega
    have hiw : pre.length < 9223372036854775807 := by omega
    have r1 : rd (ints cuts) (pre.length : Int) = (x : Int) := by rw [e]; exact rd_intsmid pre t x
    have hl' : (ints (pre.map (cross st))).length < 17592186044416 := by rw [ints_len, List.length_map]; omega
    have hx : x < 2 ^ 63 := hc x (by rw [e]; simp)
    refine Ev.succ ?_
    simp only [fetch_quarter_fewest.l0, e3, if_true, Int.natCast_nonneg, r1, w64s _ hiw, hl']
    refine Ev.bind (crossing_ev hs a x hx) ?_
    have := ih (pre ++ [x]) (by rw [e]; simp)
    rw [List.map_append, ints_append, List.length_append] at this
    exact this
def mendN (n : Nat) (st : List S34) : Bool × List Nat × Nat := fewN ((cutsN n st).map (cross st)) (2 ^ st.length)
theorem fewest_ev {n : Nat} {st : List S34} (hs : Sane n st) : Ev (fun k => fetch_quarter_fewest.f k n st) (ints (mendN n st).2.1, ((mendN n st).2.2 : Int)) := by
  unfold fetch_quarter_fewest.f
  refine Ev.bind (cuts_ev hs) ?_
  exact fewest_l0 hs n (cutsN n st) (cutsN_lt hs) (cutsN_small hs) (cutsN n st) [] rfl
theorem fetch_Mend_ev (a : Int) (st : List S34) : Ev (fun k => fetch_Mend.f k a st) (if codeN a st = 0 then (ints (mendN a.toNat st).2.1, 0) else ([], codeN a st)) := by
  unfold fetch_Mend.f
  refine Ev.bind (read_ev a st) ?_
  by_cases h : codeN a st = 0
  · simp only [h, if_true]
    obtain ⟨hs, _, ha, _⟩ := code_sane h
    have := fewest_ev hs
    rw [ha] at this
    exact Ev.bind this (Ev.pure _)
  · simp only [h, if_false]
    exact Ev.pure _
theorem fetch_Mends_ev (a : Int) (st : List S34) : Ev (fun k => fetch_Mends.f k a st) (if codeN a st = 0 then (((mendN a.toNat st).2.2 : Int), 0) else (0, codeN a st)) := by
  unfold fetch_Mends.f
  refine Ev.bind (read_ev a st) ?_
  by_cases h : codeN a st = 0
  · simp only [h, if_true]
    obtain ⟨hs, _, ha, _⟩ := code_sane h
    have := fewest_ev hs
    rw [ha] at this
    exact Ev.bind this (Ev.pure _)
  · simp only [h, if_false]
    exact Ev.pure _
theorem rmends_l0 {n : Nat} {st : List S34} (hs : Sane n st) (cuts : List Nat) (hl : cuts.length ≤ 127) (X : Nat) (hX : X < 2 ^ 63) : ∀ (suf pre : List Nat), cuts = pre ++ suf →
    Ev (fun k => trishawref09_mends.l0 k st (ints cuts) X pre.length) (hits (suf.map (cross st)) X) := by
  intro suf
  induction suf with
  | nil =>
    intro pre e
    have e3 : ¬ (pre.length : Int) < ((ints cuts).length : Int) := by rw [ints_len, e]; simp
    refine Ev.succ ?_
    simp only [trishawref09_mends.l0, e3, if_false]
    exact Ev.pure _
  | cons x t ih =>
    intro pre e
    have e3 : (pre.length : Int) < ((ints cuts).length : Int) := by rw [ints_len, e]; simp; omega
    have hpl : pre.length < 127 := by rw [e] at hl; simp at hl; omega
    have hiw : pre.length < 9223372036854775807 := by omega
    have r1 : rd (ints cuts) (pre.length : Int) = (x : Int) := by rw [e]; exact rd_intsmid pre t x
    have hx3 : cross st x < 2 ^ 63 := by have := cross_lt hs x; omega
    refine Ev.succ ?_
    simp only [trishawref09_mends.l0, e3, if_true, Int.natCast_nonneg, r1, w64s _ hiw]
    refine Ev.bind (rcrossing_ev hs x) ?_
    simp only [and_nat _ _ hx3 hX, Int.natCast_eq_zero]
    rw [List.map_cons, hits, List.all_cons]
    by_cases h : cross st x &&& X = 0
    · have hb : (cross st x &&& X == 0) = true := by rw [h]; rfl
      simp only [h, if_true, hb, Bool.not_true, Bool.false_and]; exact Ev.pure _
    · have hb : (cross st x &&& X == 0) = false := beq_eq_false_iff_ne.mpr h
      simp only [h, if_false, hb, Bool.not_false, Bool.true_and]
      have := ih (pre ++ [x]) (by rw [e]; simp)
      rw [List.length_append] at this
      exact this
theorem rmends_ev {n : Nat} {st : List S34} (hs : Sane n st) (X : Nat) (hX : X < 2 ^ 63) : Ev (fun k => trishawref09_mends.f k st (ints (cutsN n st)) X) (hits ((cutsN n st).map (cross st)) X) :=
  rmends_l0 hs (cutsN n st) (cutsN_small hs) X hX (cutsN n st) [] rfl
def fewOf (m : Nat) (s : Bool × List Nat × Nat) : Nat := if s.1 then s.2.1.length else m + 1
theorem bitsFrom_lt {X m : Nat} (h : X < 2 ^ m) : ∀ d i, (bitsFrom X i d).length ≤ m - i
  | 0, i => by simp [bitsFrom]
  | d + 1, i => by
    rw [bitsFrom_succ]
    have := bitsFrom_lt h d (i + 1)
    split
    · rename_i hb
      have := bit_in h hb
      simp only [List.length_cons]; omega
    · omega
theorem bitsN_len {X m : Nat} (h : X < 2 ^ m) : (bitsN X).length ≤ m := by have := bitsFrom_lt h 30 0; simpa [bitsN] using this
theorem rfewest_l0 {n : Nat} {st : List S34} (hs : Sane n st) : ∀ (d i : Nat) (s : Bool × List Nat × Nat), i + d = 2 ^ st.length → s.2.1.length ≤ 30 → s.2.2 ≤ i → (s.1 = false → s.2.1 = [] ∧ s.2.2 = 0) →
    Ev (fun k => trishawref09_fewest.l0 k st (ints (cutsN n st)) (ints s.2.1) (s.2.2 : Int) (fewOf st.length s : Nat) i) (ints (tellsFrom ((cutsN n st).map (cross st)) i d s).2.1, ((tellsFrom ((cutsN n st).map (cross st)) i d s).2.2 : Int)) := by
  have h14 := hs.2.1
  have hp : (2 : Nat) ^ st.length ≤ 2 ^ 14 := Nat.pow_le_pow_right (by decide) h14
  have hsh : shl .i64 1 (st.length : Int) = ((2 ^ st.length : Nat) : Int) := by
    unfold shl
    rw [Int.one_mul, Int.toNat_natCast, show min st.length IntKind.i64.bits = st.length from by have : IntKind.i64.bits = 64 := rfl; omega, pow_cast]
    refine wraps_i64 _ (Int.natCast_nonneg _) ?_
    have : 2 ^ st.length < 2 ^ 63 := by omega
    generalize 2 ^ st.length = q at this ⊢
    omega
  intro d
  induction d with
  | zero =>
    intro i s hi hs1 hs2 hs3
    have e3 : ¬ (i : Int) < ((2 ^ st.length : Nat) : Int) := by omega
    refine Ev.succ ?_
    simp only [trishawref09_fewest.l0, hsh, e3, if_false]
    exact Ev.pure _
  | succ d ih =>
    intro i s hi hs1 hs2 hs3
    have e3 : (i : Int) < ((2 ^ st.length : Nat) : Int) := by omega
    have hiw : i < 9223372036854775807 := by omega
    have hil : i < 2 ^ st.length := by omega
    have hb := bitsN_len hil
    have hmw : s.2.2 < 9223372036854775807 := by omega
    have hlb : (bitsN i).length ≤ 100000 := by omega
    have hls : s.2.1.length ≤ 100000 := by omega
    have hi63 : i < 2 ^ 63 := by omega
    have next : tellN ((cutsN n st).map (cross st)) s i = s → Ev (fun k => trishawref09_fewest.j1 k st (ints (cutsN n st)) (ints s.2.1) (s.2.2 : Int) (fewOf st.length s : Nat) i (ints (bitsN i)) true) (ints (tellsFrom ((cutsN n st).map (cross st)) i (d + 1) s).2.1, ((tellsFrom ((cutsN n st).map (cross st)) i (d + 1) s).2.2 : Int)) := fun e => by
      refine Ev.succ ?_
      rw [tellsFrom, e]
      simp only [trishawref09_fewest.j1, if_true, w64s i hiw]
      exact ih (i + 1) s (by omega) hs1 (by omega) hs3
    refine Ev.succ ?_
    simp only [trishawref09_fewest.l0, hsh, e3, if_true]
    refine Ev.bind (members_ev i) ?_
    rw [ints_len]
    by_cases hgt : (bitsN i).length > fewOf st.length s
    · have hgt' : ((bitsN i).length : Int) > ((fewOf st.length s : Nat) : Int) := by omega
      simp only [hgt', if_true]
      apply next
      have h1 : s.1 = true := by
        cases h : s.1
        · rw [fewOf, h] at hgt; simp at hgt; omega
        · rfl
      have h2 : fewOf st.length s = s.2.1.length := by rw [fewOf, h1]; rfl
      unfold tellN
      split
      · rw [if_neg (show ¬ (s.1 = false ∨ (bitsN i).length < s.2.1.length) from fun h => h.elim (fun h => by rw [h1] at h; cases h) (fun h => by omega)), if_neg (by omega)]
      · rfl
    · have hgt' : ¬ ((bitsN i).length : Int) > ((fewOf st.length s : Nat) : Int) := by omega
      simp only [hgt', if_false]
      refine Ev.bind (rmends_ev hs i hi63) ?_
      cases hh : hits ((cutsN n st).map (cross st)) i
      · simp only [Bool.not_false]
        apply next
        rw [tellN, hh]; rfl
      · simp only [Bool.not_true]
        refine Ev.succ ?_
        rw [tellsFrom]
        by_cases hlt : (bitsN i).length < fewOf st.length s
        · have hlt' : ((ints (bitsN i)).length : Int) < ((fewOf st.length s : Nat) : Int) := by rw [ints_len]; omega
          have ht : tellN ((cutsN n st).map (cross st)) s i = (true, bitsN i, 1) := by
            rw [tellN, hh, if_pos rfl, if_pos]
            cases h : s.1
            · exact Or.inl rfl
            · right; rw [fewOf, h] at hlt; exact hlt
          rw [ht]
          simp only [trishawref09_fewest.j1, Bool.false_eq_true, if_false, hlt', if_true, w64s i hiw]
          have := ih (i + 1) (true, bitsN i, 1) (by omega) (by show (bitsN i).length ≤ 30; omega) (by show 1 ≤ i + 1; omega) (fun h => by cases h)
          rw [show ((ints (bitsN i)).length : Int) = ((fewOf st.length (true, bitsN i, 1) : Nat) : Int) from by rw [ints_len]; rfl]
          exact this
        · have hlt' : ¬ ((ints (bitsN i)).length : Int) < ((fewOf st.length s : Nat) : Int) := by rw [ints_len]; omega
          have h1 : s.1 = true := by
            cases h : s.1
            · rw [fewOf, h] at hlt; simp at hlt; omega
            · rfl
          have h2 : fewOf st.length s = s.2.1.length := by rw [fewOf, h1]; rfl
          have h3 : (bitsN i).length = s.2.1.length := by omega
          have ht : tellN ((cutsN n st).map (cross st)) s i = (s.1, if lexN (bitsN i) s.2.1 then bitsN i else s.2.1, s.2.2 + 1) := by
            rw [tellN, hh, if_pos rfl, if_neg (show ¬ (s.1 = false ∨ (bitsN i).length < s.2.1.length) from fun h => h.elim (fun h => by rw [h1] at h; cases h) (fun h => by omega)), if_pos h3]
          rw [ht]
          simp only [trishawref09_fewest.j1, Bool.false_eq_true, if_false, hlt', w64s i hiw]
          refine Ev.bind (less_ev (bitsN i) s.2.1 hlb hls) ?_
          have hf : ∀ l : List Nat, l.length = s.2.1.length → fewOf st.length (s.1, l, s.2.2 + 1) = fewOf st.length s := fun l hl => by
            rw [h2, fewOf, h1, if_pos rfl, hl]
          cases hx : lexN (bitsN i) s.2.1
          · simp only [Bool.false_eq_true, if_false, w64s _ hmw]
            have := ih (i + 1) (s.1, s.2.1, s.2.2 + 1) (by omega) hs1 (by show s.2.2 + 1 ≤ i + 1; omega) (fun h => by rw [h1] at h; cases h)
            rw [hf _ rfl] at this
            exact this
          · simp only [if_true, w64s _ hmw]
            have := ih (i + 1) (s.1, bitsN i, s.2.2 + 1) (by omega) (by show (bitsN i).length ≤ 30; omega) (by show s.2.2 + 1 ≤ i + 1; omega) (fun h => by rw [h1] at h; cases h)
            rw [hf _ h3] at this
            exact this
theorem rfewest_ev {n : Nat} {st : List S34} (h1 : 1 ≤ n) (hs : Sane n st) : Ev (fun k => trishawref09_fewest.f k n st) (ints (mendN n st).2.1, ((mendN n st).2.2 : Int)) := by
  unfold trishawref09_fewest.f
  refine Ev.bind (rcuts_ev h1 hs) ?_
  have h14 := hs.2.1
  have hw : st.length < 9223372036854775807 := by omega
  rw [mendN, fewN_eq, w64s _ hw]
  exact rfewest_l0 hs (2 ^ st.length) 0 (false, [], 0) (by omega) (by simp) (by simp) (fun _ => ⟨rfl, rfl⟩)
theorem ref_Mend_ev (a : Int) (st : List S34) : Ev (fun k => trishawref09_Mend.f k a st) (if codeN a st = 0 then (ints (mendN a.toNat st).2.1, 0) else ([], codeN a st)) := by
  unfold trishawref09_Mend.f
  refine Ev.bind (quarter_ev a st) ?_
  by_cases h : codeN a st = 0
  · simp only [h, if_true]
    obtain ⟨hs, _, ha, _⟩ := code_sane h
    have := rfewest_ev (by omega) hs
    rw [ha] at this
    exact Ev.bind this (Ev.pure _)
  · simp only [h, if_false]
    exact Ev.pure _
theorem ref_Mends_ev (a : Int) (st : List S34) : Ev (fun k => trishawref09_Mends.f k a st) (if codeN a st = 0 then (((mendN a.toNat st).2.2 : Int), 0) else (0, codeN a st)) := by
  unfold trishawref09_Mends.f
  refine Ev.bind (quarter_ev a st) ?_
  by_cases h : codeN a st = 0
  · simp only [h, if_true]
    obtain ⟨hs, _, ha, _⟩ := code_sane h
    have := rfewest_ev (by omega) hs
    rw [ha] at this
    exact Ev.bind this (Ev.pure _)
  · simp only [h, if_false]
    exact Ev.pure _
theorem mendN_len (n : Nat) (st : List S34) : (mendN n st).2.1.length ≤ 30 := by
  have : ∀ (l : List Nat) (all : List Nat) (s : Bool × List Nat × Nat), s.2.1.length ≤ 30 → (l.foldl (tellN all) s).2.1.length ≤ 30 := by
    intro l all
    induction l with
    | nil => intro s h; exact h
    | cons x t ih => intro s h; exact ih _ (tellN_len all s x h)
  exact this _ _ _ (by simp)
theorem FetchMends_ev (a : Int) (st : List S34) : Ev (fun k => trishawlaw09_FetchMends.f k a st) true := by
  have easy : Ev (fun k => trishawlaw09_FetchMends.j0 k a st true) true := by
    refine Ev.succ ?_
    simp only [trishawlaw09_FetchMends.j0, if_true]
    exact alive_ev'
  have main : Ev (fun k => trishawlaw09_FetchMends.j0 k a st false) true := by
    refine Ev.succ ?_
    simp only [trishawlaw09_FetchMends.j0, Bool.false_eq_true, if_false]
    refine Ev.bind (fetch_Mend_ev a st) (Ev.bind (ref_Mend_ev a st) ?_)
    refine Ev.bind (a := true) ?_ ?_
    · by_cases h : codeN a st = 0
      · simp only [h, if_true]
        exact same_ev rfl (by rw [ints_len]; have := mendN_len a.toNat st; omega)
      · simp only [h, if_false]
        exact same_ev rfl (by simp)
    · simp only [if_true, bne_self_eq_false]
      refine Ev.succ ?_
      simp only [trishawlaw09_FetchMends.j1, Bool.false_eq_true, if_false]
      refine Ev.bind (fetch_Mends_ev a st) (Ev.bind (ref_Mends_ev a st) ?_)
      simp only [if_true]
      exact alive_ev'
  have all : ∀ b, Ev (fun k => trishawlaw09_FetchMends.j0 k a st b) true := fun b => by
    cases b
    · exact main
    · exact easy
  unfold trishawlaw09_FetchMends.f
  simp only [few_eq, Option.bind_some]
  generalize (if (st.length : Int) ≤ 40 then decide ((([] : List Int).length : Int) ≤ 60) else false) = b
  cases b
  · simp only [Bool.false_eq_true, if_false]; exact all _
  · simp only [if_true]
    split
    · exact all _
    · exact all _
end Go.Proofs.Ytjbfbdanbpfplaa.OAll
