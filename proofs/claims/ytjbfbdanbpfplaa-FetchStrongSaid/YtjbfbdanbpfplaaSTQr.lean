/- A part of the proof of 'fetchStrong_holds', for every input, without a condition. -/
import Derived.Test.YtjbfbdanbpfplaaSTQq
import Derived.Test.YtjbfbdanbpfplaaSTQo
import Derived.Test.YtjbfbdanbpfplaaSTQn
import Derived.Test.YtjbfbdanbpfplaaSTQg
import Derived.Test.YtjbfbdanbpfplaaSTOAllx23
namespace Go.Proofs.Ytjbfbdanbpfplaa.OAll
open Go.RowKit Go.Proofs.YtjbfbdanbpfplaaW.PrintWords Go.Proofs.YtjbfbdanbpfplaaW.PrintLast Go.Proofs.YtjbfbdanbpfplaaW.PrintMore
set_option linter.unusedVariables false
set_option linter.unusedSimpArgs false
def clsP (n : Nat) (st : List S34) (c d : Nat) : Bool := (reachN n st c).testBit d && (reachN n st d).testBit c
def clsN (n : Nat) (st : List S34) (c : Nat) : Nat := bitsOf (clsP n st c) n
def partsL (n : Nat) (st : List S34) : Nat → Nat → List (List Nat) → Nat → List (List Nat)
  | 0, _, out, _ => out
  | e + 1, c, out, done => if done.testBit c then partsL n st e (c + 1) out done else partsL n st e (c + 1) (out ++ [bitsN (clsN n st c)]) (done ||| clsN n st c)
def partsN (n : Nat) (st : List S34) : List (List Nat) := partsL n st n 0 [] 0
def intss (l : List (List Nat)) : List (List Int) := l.map ints
theorem clsN_lt {n : Nat} {st : List S34} (c : Nat) : clsN n st c < 2 ^ n := bitsOf_lt _ n
theorem reach_lt63 {n : Nat} {st : List S34} (hs : Sane n st) {c : Nat} (hc : c < n) : reachN n st c < 2 ^ 63 := by
  have := (reachN_rch hs hc).1.lt
  have h7 : (2 : Nat) ^ n ≤ 2 ^ 7 := Nat.pow_le_pow_right (by decide) hs.1
  omega
theorem fparts_l1 {n : Nat} {st : List S34} (hs : Sane n st) (out : List (List Int)) (done c : Nat) (hc : c < n) (r : List (List Int))
    (next : Ev (fun k => (fetch_list.f k ((clsN n st c : Nat) : Int)).bind fun t624 => (if out.length < 5864062014805 then (fetch_quarter_parts.l0 k (out ++ [t624]) (Go.bits .or .i64 (done : Int) ((clsN n st c : Nat) : Int)) n (wrap64 ((c : Int) + 1)) n st) else (none))) r) : ∀ (e d : Nat), d + e = n →
    Ev (fun k => fetch_quarter_parts.l1 k out done c ((bitsOf (clsP n st c) d : Nat) : Int) n c n d n st) r := by
  have h7 := hs.1
  have c64 : (c : Int) ≤ 64 := by omega
  intro e
  induction e with
  | zero =>
    intro d hd
    obtain rfl : d = n := by omega
    have e3 : ¬ (d : Int) < (d : Int) := by omega
    refine Ev.succ ?_
    simp only [fetch_quarter_parts.l1, e3, if_false]
    exact next
  | succ e ih =>
    intro d hd
    have hdn : d < n := by omega
    have e3 : (d : Int) < (n : Int) := by omega
    have d64 : (d : Int) ≤ 64 := by omega
    have d62 : d ≤ 62 := by omega
    have hdw : d < 9223372036854775807 := by omega
    have hp : 2 ^ d < 2 ^ 63 := Nat.pow_lt_pow_right (by decide) (by omega)
    have ha : bitsOf (clsP n st c) d < 2 ^ 63 := Nat.lt_of_lt_of_le (bitsOf_lt _ d) (Nat.pow_le_pow_right (by decide) (by omega))
    have ih' := ih (d + 1) (by omega)
    rw [bitsOf, clsP] at ih'
    refine Ev.succ ?_
    simp only [fetch_quarter_parts.l1, e3, if_true]
    refine Ev.bind (freach_ev hs hc) ?_
    simp only [Int.natCast_nonneg, d64, c64, if_true, Int.toNat_natCast, bit_and _ _ (reach_lt63 hs hc), w64s d hdw, w64pow d62, or_nat _ _ ha hp]
    cases h0 : (reachN n st c).testBit d
    · rw [h0] at ih'
      simp only [Bool.false_eq_true, if_false, Int.zero_ne_one]
      exact ih'
    · rw [h0] at ih'
      simp only [if_true]
      refine Ev.bind (freach_ev hs hdn) ?_
      simp only [bit_and _ _ (reach_lt63 hs hdn)]
      cases h1 : (reachN n st d).testBit c
      · rw [h1] at ih'
        simp only [Bool.false_eq_true, if_false, Int.zero_ne_one]
        exact ih'
      · rw [h1] at ih'
        simp only [if_true]
        exact ih'
theorem fparts_l0 {n : Nat} {st : List S34} (hs : Sane n st) : ∀ (e c : Nat) (out : List (List Nat)) (done : Nat), c + e = n → out.length ≤ c → done < 2 ^ n →
    Ev (fun k => fetch_quarter_parts.l0 k (intss out) done n c n st) (intss (partsL n st e c out done)) := by
  have h7 := hs.1
  have hp7 : (2 : Nat) ^ n ≤ 2 ^ 7 := Nat.pow_le_pow_right (by decide) h7
  intro e
  induction e with
  | zero =>
    intro c out done hc ho hd
    have e3 : ¬ (c : Int) < (n : Int) := by omega
    refine Ev.succ ?_
    simp only [fetch_quarter_parts.l0, e3, if_false]
    exact Ev.pure _
  | succ e ih =>
    intro c out done hc ho hd
    have hcn : c < n := by omega
    have e3 : (c : Int) < (n : Int) := by omega
    have c64 : (c : Int) ≤ 64 := by omega
    have hcw : c < 9223372036854775807 := by omega
    have hd3 : done < 2 ^ 63 := by omega
    have hcl := clsN_lt (n := n) (st := st) c
    have hcl3 : clsN n st c < 2 ^ 63 := by omega
    refine Ev.succ ?_
    simp only [fetch_quarter_parts.l0, e3, if_true, Int.natCast_nonneg, c64, Int.toNat_natCast, bit_and _ _ hd3, w64s c hcw]
    rw [partsL]
    cases hb : done.testBit c
    · simp only [Bool.false_eq_true, if_false, Int.zero_ne_one]
      refine fparts_l1 hs (intss out) done c hcn _ ?_ n 0 (by omega)
      refine Ev.bind (list_ev _ (by omega)) ?_
      have hl : (intss out).length < 5864062014805 := by rw [intss, List.length_map]; omega
      simp only [hl, if_true, or_nat _ _ hd3 hcl3, w64s c hcw]
      have := ih (c + 1) (out ++ [bitsN (clsN n st c)]) (done ||| clsN n st c) (by omega) (by simp; omega) (Nat.or_lt_two_pow hd hcl)
      rw [show intss (out ++ [bitsN (clsN n st c)]) = intss out ++ [ints (bitsN (clsN n st c))] from by simp [intss]] at this
      exact this
    · simp only [if_true]
      exact ih (c + 1) out done (by omega) (by omega) hd
theorem fparts_ev {n : Nat} {st : List S34} (hs : Sane n st) : Ev (fun k => fetch_quarter_parts.f k n st) (intss (partsN n st)) :=
  fparts_l0 hs n 0 [] 0 (by omega) (by simp) (Nat.two_pow_pos n)
theorem fetch_Parts_ev (a : Int) (st : List S34) : Ev (fun k => fetch_Parts.f k a st) (if codeN a st = 0 then (intss (partsN a.toNat st), 0) else ([], codeN a st)) := by
  unfold fetch_Parts.f
  refine Ev.bind (read_ev a st) ?_
  by_cases h : codeN a st = 0
  · simp only [h, if_true]
    obtain ⟨hs, _, ha, _⟩ := code_sane h
    have := fparts_ev hs
    rw [ha] at this
    exact Ev.bind this (Ev.pure _)
  · simp only [h, if_false]
    exact Ev.pure _
theorem fetch_Strong_ev (a : Int) (st : List S34) : Ev (fun k => fetch_Strong.f k a st) (if codeN a st = 0 then (((partsN a.toNat st).length : Int) == 1, 0) else (false, codeN a st)) := by
  unfold fetch_Strong.f
  refine Ev.bind (read_ev a st) ?_
  by_cases h : codeN a st = 0
  · simp only [h, if_true]
    obtain ⟨hs, _, ha, _⟩ := code_sane h
    have := fparts_ev hs
    rw [ha] at this
    refine Ev.bind this ?_
    rw [intss, List.length_map]
    exact Ev.pure _
  · simp only [h, if_false]
    exact Ev.pure _
theorem partsL_len (n : Nat) (st : List S34) : ∀ (e c : Nat) (out : List (List Nat)) (done : Nat), out.length ≤ (partsL n st e c out done).length
  | 0, _, _, _ => Nat.le_refl _
  | e + 1, c, out, done => by
    rw [partsL]
    split
    · exact partsL_len n st e _ _ _
    · have := partsL_len n st e (c + 1) (out ++ [bitsN (clsN n st c)]) (done ||| clsN n st c)
      simp only [List.length_append, List.length_cons, List.length_nil] at this
      omega
theorem partsL_stay (n : Nat) (st : List S34) : ∀ (e c : Nat) (out : List (List Nat)) (done : Nat), (partsL n st e c out done).length = out.length ↔ ∀ d, c ≤ d → d < c + e → done.testBit d = true
  | 0, c, out, done => ⟨fun _ d h1 h2 => by omega, fun _ => rfl⟩
  | e + 1, c, out, done => by
    rw [partsL]
    cases hb : done.testBit c
    · simp only [Bool.false_eq_true, if_false]
      constructor
      · intro h
        have := partsL_len n st e (c + 1) (out ++ [bitsN (clsN n st c)]) (done ||| clsN n st c)
        simp only [List.length_append, List.length_cons, List.length_nil] at this
        omega
      · intro h
        have := h c (Nat.le_refl _) (by omega)
        rw [hb] at this; cases this
    · simp only [if_true]
      rw [partsL_stay n st e (c + 1) out done]
      constructor
      · intro h d h1 h2
        by_cases hd : d = c
        · rw [hd]; exact hb
        · exact h d (by omega) (by omega)
      · intro h d h1 h2
        exact h d (by omega) (by omega)
theorem parts_one {n : Nat} {st : List S34} (h1 : 1 ≤ n) : (partsN n st).length = 1 ↔ ∀ d, d < n → clsP n st 0 d = true := by
  obtain ⟨m, rfl⟩ : ∃ m, n = m + 1 := ⟨n - 1, by omega⟩
  have e : partsN (m + 1) st = partsL (m + 1) st m 1 [bitsN (clsN (m + 1) st 0)] (0 ||| clsN (m + 1) st 0) := by
    rw [partsN, partsL, if_neg (by simp), List.nil_append]
  have := partsL_stay (m + 1) st m 1 [bitsN (clsN (m + 1) st 0)] (0 ||| clsN (m + 1) st 0)
  rw [e]
  rw [show ([bitsN (clsN (m + 1) st 0)] : List (List Nat)).length = 1 from rfl] at this
  rw [this]
  constructor
  · intro h d hd
    by_cases h0 : d = 0
    · subst h0
      have hp : (2 ^ 0).testBit 0 = true := by decide
      have : (reachN (m + 1) st 0).testBit 0 = true := iterD_sub (m + 1) (2 ^ 0) 0 hp
      rw [clsP, this]; rfl
    · have := h d (by omega) (by omega)
      rw [Nat.zero_or, clsN, bitsOf_bit, Bool.and_eq_true] at this
      exact this.2
  · intro h d h1 h2
    rw [Nat.zero_or, clsN, bitsOf_bit, Bool.and_eq_true]
    exact ⟨decide_eq_true (by omega), h d (by omega)⟩
theorem reach_cut {n : Nat} {st : List S34} (hs : Sane n st) : (∀ c, c < n → reachN n st c = 2 ^ n - 1) ↔ cutsN n st = [] := by
  have back : ∀ {X : Nat}, X < 2 ^ n → ((∀ s ∈ st, backS X s = false) ↔ shut false st (compN n X)) := fun {X} hX => by
    constructor
    · intro h s hs'
      have hm := hs.2.2 s hs'
      have := h s hs'
      refine ⟨fun h0 => ?_, fun h => by cases h⟩
      rw [compN_inb hX hm.1 hm.2.1] at h0
      rw [compN_inb hX hm.2.2.1 hm.2.2.2.1]
      rw [backS, h0] at this
      revert this
      cases inb X s.f1 <;> simp
    · intro h s hs'
      have hm := hs.2.2 s hs'
      have := (h s hs').1
      rw [compN_inb hX hm.1 hm.2.1, compN_inb hX hm.2.2.1 hm.2.2.2.1] at this
      rw [backS]
      revert this
      cases inb X s.f0 <;> cases inb X s.f1 <;> simp
  constructor
  · intro h
    apply List.eq_nil_iff_forall_not_mem.mpr
    intro X hX
    have hp := isCut_pos (cutsN_mem.mp hX)
    have hl : X < 2 ^ n := by omega
    have hY := compN_lt hl
    have hne : compN n X ≠ 0 := fun h0 => by
      have := compN_comp hl
      rw [h0, compN, Nat.xor_zero] at this; omega
    obtain ⟨c, hc⟩ : ∃ c, (compN n X).testBit c = true := by
      apply Classical.byContradiction
      intro hno
      apply hne
      apply Nat.eq_of_testBit_eq; intro j
      rw [Nat.zero_testBit]
      cases hj : (compN n X).testBit j
      · rfl
      · exact absurd ⟨j, hj⟩ hno
    have hcn := bit_in hY hc
    have := (reachN_rch hs hcn).1.least _ hc ((back hl).mp hp.2.2)
    rw [h c hcn] at this
    have hfull := subB_antisymm (subB_full hY) this
    have := compN_comp hl
    rw [hfull, compN, Nat.xor_self] at this
    omega
  · intro h c hc
    apply Classical.byContradiction
    intro hne
    have hr := reachN_rch hs hc
    have hl := hr.1.lt
    have e := compN_comp hl
    have hcut : isCutB n st (compN n (reachN n st c)) = true := by
      have h0 : compN n (reachN n st c) ≠ 0 := fun h0 => by
        rw [h0, compN, Nat.xor_zero] at e; exact hne e.symm
      have h2 : compN n (reachN n st c) ≠ 2 ^ n - 1 := fun h0 => by
        rw [h0, compN, Nat.xor_self] at e
        have := hr.1.has
        rw [← e] at this; simp at this
      have := compN_lt hl
      refine isCut_mk (by omega) (by omega) ((back this).mpr ?_)
      rw [e]; exact hr.2
    have := cutsN_mem.mpr hcut
    rw [h] at this; cases this
theorem parts_cut {n : Nat} {st : List S34} (hs : Sane n st) (h1 : 1 ≤ n) : (partsN n st).length = 1 ↔ cutsN n st = [] := by
  rw [parts_one h1, ← reach_cut hs]
  constructor
  · intro h c hc
    have h0 := h c hc
    rw [clsP, Bool.and_eq_true] at h0
    have hr := reachN_rch hs hc
    have hz := reachN_rch hs (c := 0) (by omega)
    have hsub : subB (reachN n st 0) (reachN n st c) := hz.1.least _ h0.2 hr.2
    refine subB_antisymm (subB_full hr.1.lt) fun i hi => hsub i ?_
    rw [full_bit, decide_eq_true_eq] at hi
    have := h i hi
    rw [clsP, Bool.and_eq_true] at this
    exact this.1
  · intro h d hd
    rw [clsP, h 0 (by omega), h d hd, full_bit, full_bit, decide_eq_true hd, decide_eq_true (by omega)]; rfl
end Go.Proofs.Ytjbfbdanbpfplaa.OAll
