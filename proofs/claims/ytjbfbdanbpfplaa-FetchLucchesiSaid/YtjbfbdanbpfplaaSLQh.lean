/- A part of the proof of 'fetchLucchesi_holds', for every input, without a condition. -/
import Derived.Test.YtjbfbdanbpfplaaSLQg
import Derived.Test.YtjbfbdanbpfplaaSLOAllx14
namespace Go.Proofs.Ytjbfbdanbpfplaa.OAll
open Go.RowKit Go.Proofs.YtjbfbdanbpfplaaW.PrintWords Go.Proofs.YtjbfbdanbpfplaaW.PrintLast Go.Proofs.YtjbfbdanbpfplaaW.PrintMore
set_option linter.unusedVariables false
set_option linter.unusedSimpArgs false
def hits (all : List Nat) (X : Nat) : Bool := all.all fun c => !(c &&& X == 0)
def tellN (all : List Nat) (s : Bool × List Nat × Nat) (X : Nat) : Bool × List Nat × Nat :=
  if hits all X then
    (if s.1 = false ∨ (bitsN X).length < s.2.1.length then (true, bitsN X, 1)
     else if (bitsN X).length = s.2.1.length then (s.1, if lexN (bitsN X) s.2.1 then bitsN X else s.2.1, s.2.2 + 1) else s)
  else s
def fewN (all : List Nat) (m : Nat) : Bool × List Nat × Nat := (List.range m).foldl (tellN all) (false, [], 0)
def tellsFrom (all : List Nat) : Nat → Nat → Bool × List Nat × Nat → Bool × List Nat × Nat
  | _, 0, s => s
  | i, d + 1, s => tellsFrom all (i + 1) d (tellN all s i)
theorem tellsFrom_eq (all : List Nat) : ∀ (d i : Nat) (s : Bool × List Nat × Nat), tellsFrom all i d s = (List.range' i d).foldl (tellN all) s
  | 0, _, _ => rfl
  | d + 1, i, s => by rw [tellsFrom, List.range'_succ, List.foldl_cons, tellsFrom_eq all d (i + 1)]
theorem fewN_eq (all : List Nat) (m : Nat) : fewN all m = tellsFrom all 0 m (false, [], 0) := by rw [tellsFrom_eq, fewN, List.range_eq_range']
theorem tellN_len (all : List Nat) (s : Bool × List Nat × Nat) (X : Nat) (h : s.2.1.length ≤ 30) : (tellN all s X).2.1.length ≤ 30 := by
  have hb : (bitsN X).length ≤ 30 := bitsFrom_len X 0 30
  unfold tellN
  split
  · split
    · exact hb
    · split
      · show (if _ then bitsN X else s.2.1).length ≤ 30
        split <;> assumption
      · exact h
  · exact h
theorem tellN_many (all : List Nat) (s : Bool × List Nat × Nat) (X : Nat) : (tellN all s X).2.2 ≤ s.2.2 + 1 := by
  unfold tellN
  split
  · split
    · show 1 ≤ _; omega
    · split
      · exact Nat.le_refl _
      · exact Nat.le_succ _
  · exact Nat.le_succ _
theorem any_hits : ∀ (all : List Nat) (X : Nat), (∀ c ∈ all, c < 2 ^ 63) → X < 2 ^ 63 → (ints all).any (fun c => Go.bits .and .i64 c X == 0) = !hits all X
  | [], _, _, _ => rfl
  | c :: t, X, h, hX => by
    have ih := any_hits t X (fun c hc => h c (List.mem_cons_of_mem _ hc)) hX
    rw [ints_cons, List.any_cons, ih, hits, hits, List.all_cons, and_nat c X (h c (List.mem_cons_self)) hX]
    have : (((c &&& X : Nat) : Int) == 0) = (c &&& X == 0) := by rw [Bool.eq_iff_iff, beq_iff_eq, beq_iff_eq]; omega
    rw [this]; simp
theorem tell_ev (all : List Nat) (hall : ∀ c ∈ all, c < 2 ^ 63) (X : Nat) (hX : X < 2 ^ 30) (s : Bool × List Nat × Nat) (hs : s.2.1.length ≤ 30) (hm : s.2.2 < 2 ^ 30) :
    Ev (fun k => fetch_tell.f k (ints all) X s.1 (ints s.2.1) (s.2.2 : Int)) ((tellN all s X).1, ints (tellN all s X).2.1, ((tellN all s X).2.2 : Int)) := by
  unfold fetch_tell.f tellN
  rw [any_hits all X hall (by omega)]
  cases hh : hits all X
  · simp only [Bool.not_false, if_true, Bool.false_eq_true, if_false]
    exact Ev.pure _
  · simp only [Bool.not_true, if_true, Bool.false_eq_true, if_false]
    refine Ev.bind (list_ev X hX) ?_
    have hb : (bitsN X).length ≤ 30 := bitsFrom_len X 0 30
    rw [ints_len, ints_len]
    rcases Bool.eq_false_or_eq_true s.1 with h0 | h0
    · by_cases h1 : (bitsN X).length < s.2.1.length
      · have h1' : ((bitsN X).length : Int) < (s.2.1.length : Int) := by omega
        simp only [h0, Bool.true_eq_false, false_or, h1, h1', if_true, if_false]; exact Ev.pure _
      · have h1' : ¬ ((bitsN X).length : Int) < (s.2.1.length : Int) := by omega
        by_cases h2 : (bitsN X).length = s.2.1.length
        · have h2' : ((bitsN X).length : Int) = (s.2.1.length : Int) := by omega
          simp only [h0, Bool.true_eq_false, false_or, if_true, if_false, h2, Int.lt_irrefl, Nat.lt_irrefl]
          obtain ⟨c, hc, hl⟩ := compare_ev (bitsN X) s.2.1 (by omega) (by omega)
          refine Ev.bind hc ?_
          have hmw : s.2.2 < 9223372036854775807 := by omega
          by_cases h3 : lexN (bitsN X) s.2.1 = true
          · simp only [hl.mpr h3, h3, if_true, w64s _ hmw]; exact Ev.pure _
          · have h3' : ¬ c < 0 := fun h => h3 (hl.mp h)
            simp only [h3', h3, if_false, w64s _ hmw]; exact Ev.pure _
        · have h2' : ¬ ((bitsN X).length : Int) = (s.2.1.length : Int) := by omega
          simp only [h0, Bool.true_eq_false, false_or, h1, h1', if_false, h2, h2']; exact Ev.pure _
    · simp only [h0, true_or, if_true]; exact Ev.pure _
theorem fewest_l1 (all : List Nat) (hall : ∀ c ∈ all, c < 2 ^ 63) (m : Nat) (hm : m ≤ 2 ^ 14) : ∀ (d i : Nat) (s : Bool × List Nat × Nat), i + d = m → s.2.1.length ≤ 30 → s.2.2 ≤ i →
    Ev (fun k => fetch_quarter_fewest.l1 k (ints all) (m : Int) i s.1 (ints s.2.1) (s.2.2 : Int)) (ints (tellsFrom all i d s).2.1, ((tellsFrom all i d s).2.2 : Int)) := by
  intro d
  induction d with
  | zero =>
    intro i s hi hs hc
    have e3 : ¬ (i : Int) < (m : Int) := by omega
    refine Ev.succ ?_
    simp only [fetch_quarter_fewest.l1, e3, if_false]
    exact Ev.pure _
  | succ d ih =>
    intro i s hi hs hc
    have e3 : (i : Int) < (m : Int) := by omega
    have hiw : i < 9223372036854775807 := by omega
    refine Ev.succ ?_
    simp only [fetch_quarter_fewest.l1, e3, if_true, w64s i hiw]
    refine Ev.bind (tell_ev all hall i (by omega) s hs (by omega)) ?_
    have := tellN_many all s i
    exact ih (i + 1) (tellN all s i) (by omega) (tellN_len all s i hs) (by omega)
theorem fewest_l0 {n : Nat} {st : List S34} (hs : Sane n st) (a : Int) (cuts : List Nat) (hc : ∀ c ∈ cuts, c < 2 ^ 63) (hl : cuts.length ≤ 127) : ∀ (suf pre : List Nat), cuts = pre ++ suf →
    Ev (fun k => fetch_quarter_fewest.l0 k a st (ints cuts) (ints (pre.map (cross st))) pre.length) (ints (fewN (cuts.map (cross st)) (2 ^ st.length)).2.1, ((fewN (cuts.map (cross st)) (2 ^ st.length)).2.2 : Int)) := by
  intro suf
  induction suf with
  | nil =>
    intro pre e
    have e0 : pre = cuts := by rw [e, List.append_nil]
    subst e0
    have e3 : ¬ (pre.length : Int) < ((ints pre).length : Int) := by rw [ints_len]; omega
    refine Ev.succ ?_
    simp only [fetch_quarter_fewest.l0, e3, if_false]
    have h14 := hs.2.1
    have e5 : min st.length 64 = st.length := by omega
    have hp : (2 : Nat) ^ st.length ≤ 2 ^ 14 := Nat.pow_le_pow_right (by decide) h14
    have hall : ∀ c ∈ pre.map (cross st), c < 2 ^ 63 := fun c h => by
      obtain ⟨x, _, rfl⟩ := List.mem_map.mp h
      have := cross_lt hs x; omega
    rw [e5, fewN_eq]
    have h62 : st.length ≤ 62 := by omega
    rw [w64pow h62]
    exact fewest_l1 (pre.map (cross st)) hall (2 ^ st.length) hp (2 ^ st.length) 0 (false, [], 0) (by omega) (by simp) (by simp)
  | cons x t ih =>
    intro pre e
    have e3 : (pre.length : Int) < ((ints cuts).length : Int) := by rw [ints_len, e]; simp; omega
    have hpl : pre.length < 127 := by rw [e] at hl; simp at hl; omega
    have hiw : pre.length < 9223372036854775807 := by omega
    have r1 : rd (ints cuts) (pre.length : Int) = (x : Int) := by rw [e]; exact rd_intsmid pre t x
    have hl' : (ints (pre.map (cross st))).length < 17592186044416 := by rw [ints_len, List.length_map]; omega
    have hx : x < 2 ^ 63 := hc x (by rw [e]; simp)
    refine Ev.succ ?_
    simp only [fetch_quarter_fewest.l0, e3, if_true, Int.natCast_nonneg, r1, w64s _ hiw, hl']
    refine Ev.bind (crossing_ev hs a x hx) ?_
    have := ih (pre ++ [x]) (by rw [e]; simp)
    rw [List.map_append, ints_append, List.length_append] at this
    exact this
def mendN (n : Nat) (st : List S34) : Bool × List Nat × Nat := fewN ((cutsN n st).map (cross st)) (2 ^ st.length)
theorem fewest_ev {n : Nat} {st : List S34} (hs : Sane n st) : Ev (fun k => fetch_quarter_fewest.f k n st) (ints (mendN n st).2.1, ((mendN n st).2.2 : Int)) := by
  unfold fetch_quarter_fewest.f
  refine Ev.bind (cuts_ev hs) ?_
  exact fewest_l0 hs n (cutsN n st) (cutsN_lt hs) (cutsN_small hs) (cutsN n st) [] rfl
theorem fetch_Mend_ev (a : Int) (st : List S34) : Ev (fun k => fetch_Mend.f k a st) (if codeN a st = 0 then (ints (mendN a.toNat st).2.1, 0) else ([], codeN a st)) := by
  unfold fetch_Mend.f
  refine Ev.bind (read_ev a st) ?_
  by_cases h : codeN a st = 0
  · simp only [h, if_true]
    obtain ⟨hs, _, ha, _⟩ := code_sane h
    have := fewest_ev hs
    rw [ha] at this
    exact Ev.bind this (Ev.pure _)
  · simp only [h, if_false]
    exact Ev.pure _
theorem mendN_len (n : Nat) (st : List S34) : (mendN n st).2.1.length ≤ 30 := by
  have : ∀ (l : List Nat) (all : List Nat) (s : Bool × List Nat × Nat), s.2.1.length ≤ 30 → (l.foldl (tellN all) s).2.1.length ≤ 30 := by
    intro l all
    induction l with
    | nil => intro s h; exact h
    | cons x t ih => intro s h; exact ih _ (tellN_len all s x h)
  exact this _ _ _ (by simp)
end Go.Proofs.Ytjbfbdanbpfplaa.OAll
