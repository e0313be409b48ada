/- A part of the proof of 'fetchMeets_holds', for every input, without a condition. -/
import Derived.Test.YtjbfbdanbpfplaaSMQe
import Derived.Test.YtjbfbdanbpfplaaSMOAllx10
namespace Go.Proofs.Ytjbfbdanbpfplaa.OAll
open Go.RowKit Go.Proofs.YtjbfbdanbpfplaaW.PrintWords Go.Proofs.YtjbfbdanbpfplaaW.PrintLast Go.Proofs.YtjbfbdanbpfplaaW.PrintMore
set_option linter.unusedVariables false
set_option linter.unusedSimpArgs false
theorem inb_and (X Y : Nat) (v : Int) : inb (X &&& Y) v = (inb X v && inb Y v) := by simp [inb, Nat.testBit_and]
theorem inb_or (X Y : Nat) (v : Int) : inb (X ||| Y) v = (inb X v || inb Y v) := by simp [inb, Nat.testBit_or]
theorem cut_and {n : Nat} {st : List S34} {X Y : Nat} (hX : isCutB n st X = true) (hY : isCutB n st Y = true) (h : X &&& Y ≠ 0) : isCutB n st (X &&& Y) = true := by
  have hx := isCut_pos hX
  have hy := isCut_pos hY
  have hl : X &&& Y ≤ X := Nat.and_le_left
  refine isCut_mk (by omega) (by omega) fun s hs => ?_
  have h1 := hx.2.2 s hs
  have h2 := hy.2.2 s hs
  unfold backS at *
  rw [inb_and, inb_and]
  revert h1 h2
  cases inb X s.f0 <;> cases inb X s.f1 <;> cases inb Y s.f0 <;> cases inb Y s.f1 <;> decide
theorem cut_or {n : Nat} {st : List S34} {X Y : Nat} (hX : isCutB n st X = true) (hY : isCutB n st Y = true) (h : X ||| Y ≠ 2 ^ n - 1) : isCutB n st (X ||| Y) = true := by
  have hx := isCut_pos hX
  have hy := isCut_pos hY
  have hl : X ≤ X ||| Y := Nat.left_le_or
  have hu : X ||| Y < 2 ^ n := Nat.or_lt_two_pow (by omega) (by omega)
  refine isCut_mk (by omega) (by omega) fun s hs => ?_
  have h1 := hx.2.2 s hs
  have h2 := hy.2.2 s hs
  unfold backS at *
  rw [inb_or, inb_or]
  revert h1 h2
  cases inb X s.f0 <;> cases inb X s.f1 <;> cases inb Y s.f0 <;> cases inb Y s.f1 <;> decide
theorem cutsN_sorted (n : Nat) (st : List S34) : (cutsN n st).Pairwise (· < ·) := List.Pairwise.filter _ List.pairwise_lt_range
theorem cutsN_lt_get {n : Nat} {st : List S34} {i j : Nat} (hij : i < j) (hj : j < (cutsN n st).length) : (cutsN n st)[i] < (cutsN n st)[j] :=
  List.pairwise_iff_getElem.mp (cutsN_sorted n st) i j (by omega) hj hij
theorem cutsN_get {n : Nat} {st : List S34} {i : Nat} (h : i < (cutsN n st).length) : isCutB n st (cutsN n st)[i] = true := cutsN_mem.mp (List.getElem_mem h)
theorem wf8 {x : Int} (h : (Lit.int .u8 x).wf = true) : 0 ≤ x ∧ x ≤ 255 := by
  have h1 : IntKind.u8.min = 0 := by decide
  have h2 : IntKind.u8.max = 255 := by decide
  simp [Lit.wf, h1, h2] at h
  omega
theorem meets_l0 {n : Nat} {st : List S34} (hs : Sane n st) (X Y : Nat) (hX : X < 2 ^ 63) (hY : Y < 2 ^ 63) : ∀ (d i : Nat) (b13 b14 : Bool), i + d = (cutsN n st).length →
    (b13 = true ∨ ∃ j, i ≤ j ∧ ∃ h : j < (cutsN n st).length, (cutsN n st)[j] = X &&& Y) → (b14 = true ∨ ∃ j, i ≤ j ∧ ∃ h : j < (cutsN n st).length, (cutsN n st)[j] = X ||| Y) →
    Ev (fun k => trishawlaw09_FetchMeets.l0 k n (ints (cutsN n st)) X Y b13 b14 i) true := by
  intro d
  induction d with
  | zero =>
    intro i b13 b14 hi h13 h14
    have e3 : ¬ (i : Int) < ((ints (cutsN n st)).length : Int) := by rw [ints_len]; omega
    have e13 : b13 = true := h13.elim id fun ⟨j, hj, hj', _⟩ => by omega
    have e14 : b14 = true := h14.elim id fun ⟨j, hj, hj', _⟩ => by omega
    refine Ev.succ ?_
    simp only [trishawlaw09_FetchMeets.l0, e3, if_false, e13, e14, if_true]
    exact alive_ev'
  | succ d ih =>
    intro i b13 b14 hi h13 h14
    have hl : i < (cutsN n st).length := by omega
    have hsm := cutsN_small hs
    have e3 : (i : Int) < ((ints (cutsN n st)).length : Int) := by rw [ints_len]; omega
    have hc := isCut_pos (cutsN_get hl)
    have h64 : (n : Int) ≤ 64 := by have := hs.1; omega
    have c1 : ¬ (((cutsN n st)[i] : Nat) : Int) < 1 := by omega
    have c2 : ¬ (((cutsN n st)[i] : Nat) : Int) ≥ ((2 ^ n - 1 : Nat) : Int) := by omega
    have hiw : i < 9223372036854775807 := by omega
    have nx : ∀ (b c : Bool) (Z : Nat), b = (c || decide ((cutsN n st)[i] = Z)) → (c = true ∨ ∃ j, i ≤ j ∧ ∃ h : j < (cutsN n st).length, (cutsN n st)[j] = Z) → (b = true ∨ ∃ j, i + 1 ≤ j ∧ ∃ h : j < (cutsN n st).length, (cutsN n st)[j] = Z) := by
      intro b c Z hb hc
      rcases hc with hc | ⟨j, h1, h2, h3⟩
      · left; rw [hb, hc]; rfl
      · by_cases hij : j = i
        · subst hij; left; rw [hb, decide_eq_true h3]; simp
        · exact Or.inr ⟨j, by omega, h2, h3⟩
    have ih' := ih (i + 1) (b13 || decide ((cutsN n st)[i] = X &&& Y)) (b14 || decide ((cutsN n st)[i] = X ||| Y)) (by omega) (nx _ _ _ rfl h13) (nx _ _ _ rfl h14)
    have eb : ∀ Z : Nat, ((((cutsN n st)[i] : Nat) : Int) == (Z : Int)) = decide ((cutsN n st)[i] = Z) := fun Z => by
      rw [Bool.eq_iff_iff, beq_iff_eq, decide_eq_true_iff]; omega
    refine Ev.succ (Ev.congr (fun k => ?_) ih')
    rcases Nat.eq_zero_or_pos i with h0 | h0
    · have hz : ¬ (i : Int) > 0 := by omega
      simp only [trishawlaw09_FetchMeets.l0, e3, if_true, Int.natCast_nonneg, rd_ints _ i hl, c1, if_false, h64, full_w hs.1, c2, hz, w64s i hiw, and_nat X Y hX hY, or_nat X Y hX hY, eb]
      cases b13 <;> cases b14 <;> simp only [Bool.true_or, Bool.false_or, if_true, if_false, Bool.false_eq_true]
    · obtain ⟨j, rfl⟩ : ∃ j, i = j + 1 := ⟨i - 1, by omega⟩
      have hz : ((j + 1 : Nat) : Int) > 0 := by omega
      have hj : j < (cutsN n st).length := by omega
      have e9 : (j : Int) < ((ints (cutsN n st)).length : Int) := by rw [ints_len]; omega
      have hlt := cutsN_lt_get (i := j) (j := j + 1) (by omega) hl
      have c4 : ¬ (((cutsN n st)[j + 1] : Nat) : Int) ≤ (((cutsN n st)[j] : Nat) : Int) := by omega
      have e8 : wrap64 (((j + 1 : Nat) : Int) - 1) = (j : Int) := by
        rw [show ((j + 1 : Nat) : Int) - 1 = (j : Int) from by omega]; exact w64n _ (by omega)
      simp only [trishawlaw09_FetchMeets.l0, e3, if_true, Int.natCast_nonneg, rd_ints _ (j + 1) hl, rd_ints _ j hj, c1, if_false, h64, full_w hs.1, c2, hz, e8, e9, c4, w64s (j + 1) hiw, and_nat X Y hX hY, or_nat X Y hX hY, eb]
      cases b13 <;> cases b14 <;> simp only [Bool.true_or, Bool.false_or, if_true, if_false, Bool.false_eq_true]
theorem tmod_nat (a : Nat) {l : Nat} (h : 0 < l) : Int.tmod (a : Int) (l : Int) = ((a % l : Nat) : Int) := by
  rw [Int.tmod_eq_emod_of_nonneg (Int.natCast_nonneg _)]; omega
theorem mem_get {l : List Nat} {x : Nat} (h : x ∈ l) : ∃ j, 0 ≤ j ∧ ∃ h : j < l.length, l[j] = x := by
  obtain ⟨j, hj, e⟩ := List.getElem_of_mem h
  exact ⟨j, Nat.zero_le _, hj, e⟩
theorem FetchMeets_ev (a : Int) (st : List S34) (a2 a3 : Int) (w2 : (Lit.int .u8 a2).wf = true) (w3 : (Lit.int .u8 a3).wf = true) : Ev (fun k => trishawlaw09_FetchMeets.f k a st a2 a3) true := by
  have w2' := wf8 w2
  have w3' := wf8 w3
  have easy : Ev (fun k => trishawlaw09_FetchMeets.j0 k a st a2 a3 true) true := by
    refine Ev.succ ?_
    simp only [trishawlaw09_FetchMeets.j0, if_true]
    exact alive_ev'
  have main : codeN a st = 0 → Ev (fun k => trishawlaw09_FetchMeets.j0 k a st a2 a3 false) true := fun h => by
    refine Ev.succ ?_
    simp only [trishawlaw09_FetchMeets.j0, Bool.false_eq_true, if_false]
    refine Ev.bind (fetch_Cuts_ev a st) ?_
    simp only [h, if_true]
    obtain ⟨hs, h2, ha, _⟩ := code_sane h
    refine Ev.succ ?_
    have hsm := cutsN_small hs
    by_cases hl : (cutsN a.toNat st).length = 0
    · have : (((ints (cutsN a.toNat st)).length : Int) == 0) = true := by rw [ints_len, hl]; rfl
      simp only [trishawlaw09_FetchMeets.j1, this, if_true]
      exact alive_ev'
    · have e0 : (((ints (cutsN a.toNat st)).length : Int) == 0) = false := by rw [ints_len, beq_eq_false_iff_ne]; omega
      have e0' : ¬ ((ints (cutsN a.toNat st)).length : Int) = 0 := by rw [ints_len]; omega
      have ea : 0 ≤ a := by omega
      have ea' : a ≤ 64 := by have := hs.1; omega
      obtain ⟨p, rfl⟩ : ∃ p : Nat, a2 = (p : Int) := ⟨a2.toNat, by omega⟩
      obtain ⟨q, rfl⟩ : ∃ q : Nat, a3 = (q : Int) := ⟨a3.toNat, by omega⟩
      have hp : p % (cutsN a.toNat st).length < (cutsN a.toNat st).length := Nat.mod_lt _ (by omega)
      have hq : q % (cutsN a.toNat st).length < (cutsN a.toNat st).length := Nat.mod_lt _ (by omega)
      have lp : ((p % (cutsN a.toNat st).length : Nat) : Int) < ((ints (cutsN a.toNat st)).length : Int) := by rw [ints_len]; omega
      have lq : ((q % (cutsN a.toNat st).length : Nat) : Int) < ((ints (cutsN a.toNat st)).length : Int) := by rw [ints_len]; omega
      have tp : Int.tmod (p : Int) ((ints (cutsN a.toNat st)).length : Int) = ((p % (cutsN a.toNat st).length : Nat) : Int) := by rw [ints_len]; exact tmod_nat p (by omega)
      have tq : Int.tmod (q : Int) ((ints (cutsN a.toNat st)).length : Int) = ((q % (cutsN a.toNat st).length : Nat) : Int) := by rw [ints_len]; exact tmod_nat q (by omega)
      have cX := cutsN_get hp
      have cY := cutsN_get hq
      have hX := cutsN_lt hs _ (List.getElem_mem hp)
      have hY := cutsN_lt hs _ (List.getElem_mem hq)
      have hpw : p ≤ 9223372036854775807 := by omega
      have hqw : q ≤ 9223372036854775807 := by omega
      have hn7 := hs.1
      have full : wrap64 (wrap64 (2 ^ a.toNat) - 1) = ((2 ^ a.toNat - 1 : Nat) : Int) := by have := full_w hs.1; rwa [Int.toNat_natCast] at this
      simp only [trishawlaw09_FetchMeets.j1, e0, e0', Bool.false_eq_true, if_false, w64n p hpw, w64n q hqw, tp, tq, Int.natCast_nonneg, lp, lq, if_true, ea, ea', rd_ints _ _ hp, rd_ints _ _ hq, and_nat _ _ hX hY, or_nat _ _ hX hY, full]
      have := meets_l0 hs _ _ hX hY (cutsN a.toNat st).length 0 (((((cutsN a.toNat st)[p % (cutsN a.toNat st).length] &&& (cutsN a.toNat st)[q % (cutsN a.toNat st).length] : Nat) : Int)) == 0) (((((cutsN a.toNat st)[p % (cutsN a.toNat st).length] ||| (cutsN a.toNat st)[q % (cutsN a.toNat st).length] : Nat) : Int)) == ((2 ^ a.toNat - 1 : Nat) : Int)) (by omega) (by
          by_cases hm : (cutsN a.toNat st)[p % (cutsN a.toNat st).length] &&& (cutsN a.toNat st)[q % (cutsN a.toNat st).length] = 0
          · left; rw [hm]; rfl
          · exact Or.inr (mem_get (cutsN_mem.mpr (cut_and cX cY hm)))) (by
          by_cases hm : (cutsN a.toNat st)[p % (cutsN a.toNat st).length] ||| (cutsN a.toNat st)[q % (cutsN a.toNat st).length] = 2 ^ a.toNat - 1
          · left; rw [hm]; exact beq_self_eq_true _
          · exact Or.inr (mem_get (cutsN_mem.mpr (cut_or cX cY hm))))
      rw [ha] at this
      exact this
  unfold trishawlaw09_FetchMeets.f
  simp only [few_eq, Option.bind_some]
  generalize (if (st.length : Int) ≤ 40 then decide ((([] : List Int).length : Int) ≤ 60) else false) = b
  cases b
  · simp only [Bool.false_eq_true, if_false]; exact easy
  · simp only [if_true]
    refine Ev.bind (quarter_ev a st) ?_
    by_cases h : codeN a st = 0
    · simp only [h, bne_self_eq_false]
      exact main h
    · have : (codeN a st != 0) = true := by rw [bne_iff_ne]; exact h
      simp only [this]
      exact easy
end Go.Proofs.Ytjbfbdanbpfplaa.OAll
