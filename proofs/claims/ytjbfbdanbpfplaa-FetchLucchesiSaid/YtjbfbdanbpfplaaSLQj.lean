/- A part of the proof of 'fetchLucchesi_holds', for every input, without a condition. -/
import Derived.Test.YtjbfbdanbpfplaaSLQh
import Derived.Test.YtjbfbdanbpfplaaSLQi
import Derived.Test.YtjbfbdanbpfplaaSLOAllx19
namespace Go.Proofs.Ytjbfbdanbpfplaa.OAll
open Go.RowKit Go.Proofs.YtjbfbdanbpfplaaW.PrintWords Go.Proofs.YtjbfbdanbpfplaaW.PrintLast Go.Proofs.YtjbfbdanbpfplaaW.PrintMore
set_option linter.unusedVariables false
set_option linter.unusedSimpArgs false
def ascN (m : Nat) : Int → Nat → List Int → Option Nat
  | _, acc, [] => some acc
  | prev, acc, v :: t => if v < 0 ∨ v ≥ m ∨ v ≤ prev then none else ascN m v (acc ||| 2 ^ v.toNat) t
def ascR (o : Option Nat) : Int × Bool := match o with | none => (0, false) | some X => ((X : Int), true)
def prevOf (p : List Int) : Int := p.getLastD (-1)
theorem prevOf_snoc (p : List Int) (x : Int) : prevOf (p ++ [x]) = x := by simp [prevOf]
theorem rd_prev (p t : List Int) (y x : Int) : rd (p ++ [y] ++ x :: t) (p.length : Int) = y := by simp [rd]
theorem asc_l0 (a : Int) (st : List S34) (h14 : st.length ≤ 14) (l : List Int) (hl : l.length < 9223372036854775807) : ∀ (suf pre : List Int) (acc : Nat), l = pre ++ suf → acc < 2 ^ 14 →
    Ev (fun k => fetch_quarter_ascending.l0 k l acc l (l.length : Int) pre.length a st) (ascR (ascN st.length (prevOf pre) acc suf)) := by
  intro suf
  induction suf with
  | nil =>
    intro pre acc e ha
    have e3 : ¬ (pre.length : Int) < (l.length : Int) := by rw [e]; simp
    refine Ev.succ ?_
    simp only [fetch_quarter_ascending.l0, e3, if_false]
    exact Ev.pure _
  | cons x t ih =>
    intro pre acc e ha
    have e3 : (pre.length : Int) < (l.length : Int) := by rw [e]; simp; omega
    have hiw : pre.length < 9223372036854775807 := by omega
    have r1 : rd l (pre.length : Int) = x := by rw [e]; exact rd_mid pre t x
    have nx := ih (pre ++ [x])
    rw [List.length_append, prevOf_snoc] at nx
    refine Ev.succ ?_
    simp only [fetch_quarter_ascending.l0, e3, if_true, Int.natCast_nonneg, r1, w64s _ hiw]
    rw [ascN]
    by_cases c1 : x < 0
    · simp only [c1, true_or, if_true]; exact Ev.pure _
    · by_cases c2 : x ≥ (st.length : Int)
      · simp only [c1, c2, true_or, or_true, if_true, if_false]; exact Ev.pure _
      · have hx : x.toNat < 14 := by omega
        have hx0 : 0 ≤ x := by omega
        have hx64 : x ≤ 64 := by omega
        have hx62 : x.toNat ≤ 62 := by omega
        have hp : (2 : Nat) ^ x.toNat < 2 ^ 14 := Nat.pow_lt_pow_right (by decide) hx
        have hp3 : (2 : Nat) ^ x.toNat < 2 ^ 63 := by omega
        have ha3 : acc < 2 ^ 63 := by omega
        have nx' := nx (acc ||| 2 ^ x.toNat) (by rw [e]; simp) (Nat.or_lt_two_pow ha hp)
        rcases List.eq_nil_or_concat pre with h0 | ⟨p, y, h0⟩
        · have c3 : ¬ (pre.length : Int) > 0 := by rw [h0]; decide
          have c5 : ¬ x ≤ prevOf pre := by rw [h0, show prevOf [] = -1 from rfl]; omega
          simp only [c1, c2, c3, c5, or_self, if_false, hx0, hx64, if_true, w64pow hx62, or_nat _ _ ha3 hp3]
          exact nx'
        · have c3 : (pre.length : Int) > 0 := by rw [h0]; simp
          have e8 : (pre.length : Int) - 1 = (p.length : Int) := by rw [h0]; simp
          have hpw : p.length ≤ 9223372036854775807 := by rw [h0] at hiw; simp at hiw; omega
          have e9 : (p.length : Int) < (l.length : Int) := by rw [e, h0]; simp; omega
          have r2 : rd l (p.length : Int) = y := by rw [e, h0, List.concat_eq_append]; exact rd_prev p t y x
          have hpv : prevOf pre = y := by rw [h0, List.concat_eq_append]; exact prevOf_snoc p y
          simp only [c1, c2, c3, if_false, hx0, hx64, if_true, e8, w64n _ hpw, Int.natCast_nonneg, e9, r2]
          rw [hpv]
          by_cases c5 : x ≤ y
          · simp only [c5, or_true, if_true]; exact Ev.pure _
          · have c4 : ¬ (x < 0 ∨ x ≥ (st.length : Int) ∨ x ≤ y) := by omega
            simp only [c5, c4, if_false, w64pow hx62, or_nat _ _ ha3 hp3]
            exact nx'
theorem ascN_lt {m : Nat} (hm : m ≤ 14) : ∀ (l : List Int) (prev : Int) (acc X : Nat), acc < 2 ^ m → ascN m prev acc l = some X → X < 2 ^ m
  | [], _, acc, X, ha, h => by obtain rfl := Option.some.inj h; exact ha
  | v :: t, prev, acc, X, ha, h => by
    rw [ascN] at h
    by_cases c : v < 0 ∨ v ≥ (m : Int) ∨ v ≤ prev
    · rw [if_pos c] at h; cases h
    · rw [if_neg c] at h
      exact ascN_lt hm t v _ X (Nat.or_lt_two_pow ha (Nat.pow_lt_pow_right (by decide) (by omega))) h
theorem asc_ev {n : Nat} {st : List S34} (hs : Sane n st) (a : Int) (l : List Int) (hl : l.length < 9223372036854775807) : Ev (fun k => fetch_quarter_ascending.f k a st l) (ascR (ascN st.length (-1) 0 l)) :=
  asc_l0 a st hs.2.1 l hl l [] 0 rfl (by decide)
theorem fmends_l0 {n : Nat} {st : List S34} (hs : Sane n st) (a : Int) (cuts : List Nat) (hl : cuts.length ≤ 127) (hc : ∀ x ∈ cuts, x < 2 ^ 63) (X : Nat) (hX : X < 2 ^ 63) : ∀ (suf pre : List Nat), cuts = pre ++ suf →
    ∃ i : Int, Ev (fun k => fetch_quarter_mends.l0 k a st X (ints cuts) pre.length) i ∧ (i ≥ 0 ↔ hits (suf.map (cross st)) X = false) := by
  intro suf
  induction suf with
  | nil =>
    intro pre e
    have e3 : ¬ (pre.length : Int) < ((ints cuts).length : Int) := by rw [ints_len, e]; simp
    refine ⟨-1, Ev.succ ?_, by simp [hits]⟩
    simp only [fetch_quarter_mends.l0, e3, if_false]
    exact Ev.pure _
  | cons x t ih =>
    intro pre e
    have e3 : (pre.length : Int) < ((ints cuts).length : Int) := by rw [ints_len, e]; simp; omega
    have hpl : pre.length < 127 := by rw [e] at hl; simp at hl; omega
    have hiw : pre.length < 9223372036854775807 := by omega
    have r1 : rd (ints cuts) (pre.length : Int) = (x : Int) := by rw [e]; exact rd_intsmid pre t x
    have hx : x < 2 ^ 63 := hc x (by rw [e]; simp)
    have hx3 : cross st x < 2 ^ 63 := by have := cross_lt hs x; omega
    have un : ∀ k, fetch_quarter_mends.l0 (k + 1) a st X (ints cuts) (pre.length : Int) = (fetch_quarter_crossing.f k a st (x : Int)).bind fun t => if Go.bits .and .i64 t (X : Int) = 0 then some (pre.length : Int) else fetch_quarter_mends.l0 k a st X (ints cuts) ((pre.length + 1 : Nat) : Int) := fun k => by
      simp only [fetch_quarter_mends.l0, e3, if_true, Int.natCast_nonneg, r1, w64s _ hiw]
    rw [List.map_cons, hits, List.all_cons]
    by_cases h : cross st x &&& X = 0
    · have hb : (cross st x &&& X == 0) = true := by rw [h]; rfl
      refine ⟨(pre.length : Int), Ev.succ (Ev.congr un (Ev.bind (crossing_ev hs a x hx) ?_)), by rw [hb]; simp⟩
      simp only [and_nat _ _ hx3 hX, Int.natCast_eq_zero, h, if_true]; exact Ev.pure _
    · have hb : (cross st x &&& X == 0) = false := beq_eq_false_iff_ne.mpr h
      obtain ⟨i, hi, hi'⟩ := ih (pre ++ [x]) (by rw [e]; simp)
      rw [List.length_append] at hi
      refine ⟨i, Ev.succ (Ev.congr un (Ev.bind (crossing_ev hs a x hx) ?_)), by rw [hb, hi']; simp [hits]⟩
      simp only [and_nat _ _ hx3 hX, Int.natCast_eq_zero, h, if_false]
      exact hi
theorem fmends_ev {n : Nat} {st : List S34} (hs : Sane n st) (X : Nat) (hX : X < 2 ^ 63) : Ev (fun k => fetch_quarter_mends.f k n st X) (hits ((cutsN n st).map (cross st)) X) := by
  unfold fetch_quarter_mends.f
  refine Ev.bind (cuts_ev hs) ?_
  obtain ⟨i, hi, hi'⟩ := fmends_l0 hs n (cutsN n st) (cutsN_small hs) (cutsN_lt hs) X hX (cutsN n st) [] rfl
  refine Ev.bind hi ?_
  have : (!decide (i ≥ 0)) = hits ((cutsN n st).map (cross st)) X := by
    cases hh : hits ((cutsN n st).map (cross st)) X
    · rw [decide_eq_true (hi'.mpr hh)]; rfl
    · rw [decide_eq_false (fun h => by rw [hi'.mp h] at hh; cases hh)]; rfl
  rw [this]; exact Ev.pure _
def isMendN (n : Nat) (st : List S34) (l : List Int) : Bool := match ascN st.length (-1) 0 l with | none => false | some X => hits ((cutsN n st).map (cross st)) X
theorem asc63 {n : Nat} {st : List S34} (hs : Sane n st) {l : List Int} {X : Nat} (h : ascN st.length (-1) 0 l = some X) : X < 2 ^ 63 := by
  have h14 := hs.2.1
  have := ascN_lt h14 l (-1) 0 X (Nat.two_pow_pos _) h
  have : (2 : Nat) ^ st.length ≤ 2 ^ 14 := Nat.pow_le_pow_right (by decide) h14
  omega
theorem fetch_IsMend_ev (a : Int) (st : List S34) (l : List Int) (hl : l.length < 9223372036854775807) : Ev (fun k => fetch_IsMend.f k a st l) (if codeN a st = 0 then (isMendN a.toNat st l, 0) else (false, codeN a st)) := by
  unfold fetch_IsMend.f
  refine Ev.bind (read_ev a st) ?_
  by_cases h : codeN a st = 0
  · simp only [h, if_true]
    obtain ⟨hs, _, ha, _⟩ := code_sane h
    refine Ev.bind (asc_ev hs a l hl) ?_
    unfold isMendN
    cases hx : ascN st.length (-1) 0 l with
    | none => simp only [ascR, Bool.false_eq_true, if_false]; exact Ev.pure _
    | some X =>
      simp only [ascR, if_true]
      have := fmends_ev hs X (asc63 hs hx)
      rw [ha] at this
      exact Ev.bind this (Ev.pure _)
  · simp only [h, if_false]
    exact Ev.pure _
def apartB (n : Nat) (st : List S34) : Nat → List Int → Bool
  | _, [] => true
  | used, X :: t => if kindN n st X = 1 then (if cross st X.toNat &&& used = 0 then apartB n st (used ||| cross st X.toNat) t else false) else false
theorem fapart_l0 {n : Nat} {st : List S34} (hs : Sane n st) (l : List Int) (hl : l.length < 9223372036854775807) : ∀ (suf pre : List Int) (used : Nat), l = pre ++ suf → used < 2 ^ 14 →
    Ev (fun k => fetch_AreApart.l0 k used l (l.length : Int) pre.length n st) (apartB n st used suf, 0) := by
  intro suf
  induction suf with
  | nil =>
    intro pre used e hu
    have e3 : ¬ (pre.length : Int) < (l.length : Int) := by rw [e]; simp
    refine Ev.succ ?_
    simp only [fetch_AreApart.l0, e3, if_false]
    exact Ev.pure _
  | cons x t ih =>
    intro pre used e hu
    have e3 : (pre.length : Int) < (l.length : Int) := by rw [e]; simp; omega
    have hiw : pre.length < 9223372036854775807 := by omega
    have r1 : rd l (pre.length : Int) = x := by rw [e]; exact rd_mid pre t x
    refine Ev.succ ?_
    simp only [fetch_AreApart.l0, e3, if_true, Int.natCast_nonneg, r1, w64s _ hiw]
    refine Ev.bind (kind_ev hs x) ?_
    rw [apartB]
    by_cases h1 : kindN n st x = 1
    · obtain ⟨Y, rfl, hY⟩ := kind_cases h1
      have hY3 : Y < 2 ^ 63 := cutsN_lt hs Y (cutsN_mem.mpr hY)
      have hc3 : cross st Y < 2 ^ 63 := by have := cross_lt hs Y; omega
      have hu3 : used < 2 ^ 63 := by omega
      simp only [h1, if_true, Int.toNat_natCast]
      refine Ev.bind (crossing_ev hs n Y hY3) ?_
      simp only [and_nat _ _ hc3 hu3, Int.natCast_eq_zero]
      by_cases h2 : cross st Y &&& used = 0
      · simp only [h2, if_true]
        refine Ev.bind (crossing_ev hs n Y hY3) ?_
        simp only [or_nat _ _ hu3 hc3]
        have := ih (pre ++ [(Y : Int)]) (used ||| cross st Y) (by rw [e]; simp) (cross_or_lt hs hu Y)
        rw [List.length_append] at this
        exact this
      · simp only [h2, if_false]; exact Ev.pure _
    · simp only [h1, if_false]; exact Ev.pure _
theorem fetch_AreApart_ev (a : Int) (st : List S34) (l : List Int) (hl : l.length < 9223372036854775807) : Ev (fun k => fetch_AreApart.f k a st l) (if codeN a st = 0 then (apartB a.toNat st 0 l, 0) else (false, codeN a st)) := by
  unfold fetch_AreApart.f
  refine Ev.bind (read_ev a st) ?_
  by_cases h : codeN a st = 0
  · simp only [h, if_true]
    obtain ⟨hs, _, ha, _⟩ := code_sane h
    have := fapart_l0 hs l hl l [] 0 rfl (by decide)
    rw [ha] at this
    exact this
  · simp only [h, if_false]
    exact Ev.pure _
end Go.Proofs.Ytjbfbdanbpfplaa.OAll
