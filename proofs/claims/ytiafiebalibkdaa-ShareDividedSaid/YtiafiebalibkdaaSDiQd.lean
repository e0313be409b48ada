/- A part of the proof of 'shareDivided_holds', for every input, without a condition. -/
import Derived.Test.YtiafiebalibkdaaSDiQc
import Derived.Test.YtiafiebalibkdaaSDiOAllx15
namespace Go.Proofs.Ytiafiebalibkdaa.OAll
open Go.RowKit Go.Proofs.YtiafiebalibkdaaW.PrintWords Go.Proofs.YtiafiebalibkdaaW.PrintLast Go.Proofs.YtiafiebalibkdaaW.PrintMore
set_option linter.unusedVariables false
set_option linter.unusedSimpArgs false
theorem alive_ev : Ev (fun k => trishawlaw08_alive.f k) true :=
  Ev.mono (fun k => trishawlaw08_alive.mono k) (k := 60) (by kernel_rfl)
theorem alive_ev' : Ev (fun k => (trishawlaw08_alive.f k).bind fun t => some t) true := Ev.bind alive_ev (Ev.pure _)
def fewN (a b c : List Int) : Bool := if (a.length : Int) ≤ 30 then (if (b.length : Int) ≤ 30 then decide ((c.length : Int) ≤ 30) else false) else false
theorem few_eq (a b c : List Int) : trishawlaw08_few.f a b c = some (fewN a b c) := by
  unfold trishawlaw08_few.f fewN; split <;> (try split) <;> rfl
theorem wf8 {x : Int} (h : (Lit.int .u8 x).wf = true) : 0 ≤ x ∧ x ≤ 255 := by
  have h1 : IntKind.u8.min = 0 := by decide
  have h2 : IntKind.u8.max = 255 := by decide
  simp [Lit.wf, h1, h2] at h
  omega
theorem tmod_nat (a : Nat) {l : Nat} (h : 0 < l) : Int.tmod (a : Int) (l : Int) = ((a % l : Nat) : Int) := by
  rw [Int.tmod_eq_emod_of_nonneg (Int.natCast_nonneg _)]; omega
theorem bit_mul (b : Bool) (x : Int) (h0 : 0 ≤ x) (h1 : x ≤ 100) : wrap64 (x * (if b then (1 : Int) else 0)) = if b then x else 0 := by
  cases b
  · simp only [Bool.false_eq_true, if_false, Int.mul_zero]; unfold wrap64; omega
  · simp only [if_true, Int.mul_one]; exact w64 (by omega) (by omega)
theorem bit_mul' (b : Bool) (x : Int) (h0 : 0 ≤ x) (h1 : x ≤ 100) : wrap64 (x * (wrap64 (1 - (if b then (1 : Int) else 0)))) = if b then 0 else x := by
  cases b
  · have : wrap64 ((1 : Int) - 0) = 1 := by unfold wrap64; omega
    simp only [Bool.false_eq_true, if_false, this, Int.mul_one]; exact w64 (by omega) (by omega)
  · have : wrap64 ((1 : Int) - 1) = 0 := by unfold wrap64; omega
    simp only [if_true, this, Int.mul_zero]; unfold wrap64; omega
theorem divided_l0 (a b : List Int) (hl : a.length ≤ 8) (s t : Nat) (hs : s < 2 ^ 8) (ht : t < 2 ^ 8) (m : Int) (hm : m = minS a b s) (hle : minS a b t ≤ m) (hfirst : minS a b t = m → s ≤ t) : ∀ (sa sb pa pb : List Int) (p q x y : Int), a = pa ++ sa → b = pb ++ sb → pa.length = pb.length → sa.length = sb.length → sa.all inR = true → sb.all inR = true →
    0 ≤ p → p ≤ 100 * pa.length → 0 ≤ q → q ≤ 100 * pa.length → 0 ≤ x → x ≤ 100 * pa.length → 0 ≤ y → y ≤ 100 * pa.length →
    p + sumP s pa.length sa = sumP s 0 a → q + sumQ s pa.length sb = sumQ s 0 b → x + sumP t pa.length sa = sumP t 0 a → y + sumQ t pa.length sb = sumQ t 0 b →
    Ev (fun k => trishawlaw08_ShareDivided.l0 k a b s m t p q x y pa.length) true
  | [], [], pa, pb, p, q, x, y, e, e', _, _, _, _, _, _, _, _, _, _, _, _, h1, h2, h3, h4 => by
    refine Ev.succ ?_
    have e3 : ¬ (pa.length : Int) < (a.length : Int) := by rw [e]; simp
    simp only [sumP, sumQ, Int.add_zero] at h1 h2 h3 h4
    have k1 : m = mn p q := by rw [hm, minS, h1, h2]
    have k2 : mn x y ≤ m := by rw [h3, h4]; exact hle
    simp only [trishawlaw08_ShareDivided.l0, e3, if_false]
    simp only [if_pos k1, if_pos k2]
    by_cases hlt : mn x y < m
    · simp only [if_pos hlt]; exact alive_ev'
    · simp only [if_neg hlt]
      have : (t : Int) ≥ (s : Int) := by
        have := hfirst (by rw [minS, ← h3, ← h4]; omega); omega
      simp only [if_pos this]; exact alive_ev'
  | u :: sa, v :: sb, pa, pb, p, q, x, y, e, e', hpp, hab, ha, hb, p0, p1, q0, q1, x0, x1, y0, y1, h1, h2, h3, h4 => by
    refine Ev.succ ?_
    have hlt : pa.length < a.length := by rw [e]; simp
    have e3 : (pa.length : Int) < (a.length : Int) := by omega
    have e4 : (pa.length : Int) < (b.length : Int) := by
      have h2 : b.length = pb.length + (sb.length + 1) := by rw [e']; simp
      omega
    have e2 : rd a (pa.length : Int) = u := by rw [e]; exact rd_mid _ _ _
    have e5 : rd b (pa.length : Int) = v := by rw [e', hpp]; exact rd_mid _ _ _
    rw [List.all_cons, Bool.and_eq_true] at ha hb
    have hu := inR_iff.mp ha.1
    have hv := inR_iff.mp hb.1
    have e1 : wrap64 ((pa.length : Int) + 1) = (((pa ++ [u]).length : Nat) : Int) := by rw [w64s _ (by omega)]; simp
    have el : (pa ++ [u]).length = pa.length + 1 := by simp
    have w1 : wrap64 (p + (if s.testBit pa.length = true then u else 0)) = p + (if s.testBit pa.length = true then u else 0) := w64 (by split <;> omega) (by split <;> omega)
    have w2 : wrap64 (q + (if s.testBit pa.length = true then 0 else v)) = q + (if s.testBit pa.length = true then 0 else v) := w64 (by split <;> omega) (by split <;> omega)
    have w3 : wrap64 (x + (if t.testBit pa.length = true then u else 0)) = x + (if t.testBit pa.length = true then u else 0) := w64 (by split <;> omega) (by split <;> omega)
    have w4 : wrap64 (y + (if t.testBit pa.length = true then 0 else v)) = y + (if t.testBit pa.length = true then 0 else v) := w64 (by split <;> omega) (by split <;> omega)
    simp only [trishawlaw08_ShareDivided.l0, e3, e4, if_true, nonneg_len, e2, e5, e1, tmod_bit s (show pa.length ≤ 64 by omega), tmod_bit t (show pa.length ≤ 64 by omega), bit_mul _ u hu.1 hu.2, bit_mul' _ v hv.1 hv.2, w1, w2, w3, w4]
    rw [sumP] at h1 h3
    rw [sumQ] at h2 h4
    refine divided_l0 a b hl s t hs ht m hm hle hfirst sa sb (pa ++ [u]) (pb ++ [v]) _ _ _ _ (by rw [e]; simp) (by rw [e']; simp) (by simp [hpp]) (by simpa using hab) ha.2 hb.2 ?_ ?_ ?_ ?_ ?_ ?_ ?_ ?_ ?_ ?_ ?_ ?_
    all_goals (try rw [el])
    · split <;> omega
    · split <;> omega
    · split <;> omega
    · split <;> omega
    · split <;> omega
    · split <;> omega
    · split <;> omega
    · split <;> omega
    · rw [Int.add_assoc]; exact h1
    · rw [Int.add_assoc]; exact h2
    · rw [Int.add_assoc]; exact h3
    · rw [Int.add_assoc]; exact h4
  | [], v :: sb, pa, pb, p, q, x, y, e, e', _, hab, _, _, _, _, _, _, _, _, _, _, _, _, _, _ => by simp at hab
  | u :: sa, [], pa, pb, p, q, x, y, e, e', _, hab, _, _, _, _, _, _, _, _, _, _, _, _, _, _ => by simp at hab
theorem mn_nonneg {x y : Int} (h : 0 ≤ x) (h' : 0 ≤ y) : 0 ≤ mn x y := by unfold mn; split <;> assumption
theorem minS_nonneg {a b : List Int} (h : codeP a b = 0) (s : Nat) : 0 ≤ minS a b s :=
  mn_nonneg (sumP_bound s a 0 (all_zip h).1).1 (sumQ_bound s b 0 (all_zip h).2).1
theorem ShareDivided_ev (a b : List Int) (a2 : Int) (w2 : (Lit.int .u8 a2).wf = true) : Ev (fun k => trishawlaw08_ShareDivided.f k a b a2) true := by
  have w2' := wf8 w2
  have easy : Ev (fun k => trishawlaw08_ShareDivided.j0 k a b a2 true) true := by
    refine Ev.succ ?_
    simp only [trishawlaw08_ShareDivided.j0, if_true]
    exact alive_ev'
  unfold trishawlaw08_ShareDivided.f
  simp only [few_eq, Option.bind_some]
  generalize fewN a b [] = f
  cases f
  · simp only [Bool.false_eq_true, if_false]; exact easy
  · simp only [if_true]
    refine Ev.bind (points_ev a b) ?_
    by_cases hc : codeP a b = 0
    · have h8 := codeP_ok hc
      have hz := all_zip hc
      have hp : 2 ^ a.length ≤ 2 ^ 8 := Nat.pow_le_pow_right (by decide) h8.1
      have hpos : 0 < 2 ^ a.length := Nat.two_pow_pos _
      obtain ⟨s1, s2, s3, s4⟩ := wholeN_spec a b (2 ^ a.length) hpos (minS_nonneg hc)
      simp only [hc, bne_self_eq_false]
      refine Ev.succ ?_
      simp only [trishawlaw08_ShareDivided.j0, Bool.false_eq_true, if_false]
      refine Ev.bind (whole_ev a b) ?_
      simp only [wholeR, hc, if_true]
      generalize hr : wholeN a b (2 ^ a.length) = r at s1 s2 s3 s4 ⊢
      have c1 : ¬ ((r.1 : Nat) : Int) < 0 := by omega
      have c2 : decide (((r.1 : Nat) : Int) ≥ shl .i64 1 (a.length : Int)) = false := by rw [shl_pow (by omega)]; exact decide_eq_false (by omega)
      simp only [c1, if_false, c2]
      refine Ev.succ ?_
      have c3 : ¬ (shl .i64 1 (a.length : Int)) = 0 := by rw [shl_pow (by omega)]; omega
      simp only [trishawlaw08_ShareDivided.j1, Bool.false_eq_true, if_false, c3]
      obtain ⟨q, rfl⟩ : ∃ q : Nat, a2 = (q : Int) := ⟨a2.toNat, by omega⟩
      rw [shl_pow (by omega), w64n q (by omega), tmod_nat q hpos]
      have hq : q % 2 ^ a.length < 2 ^ a.length := Nat.mod_lt _ hpos
      exact divided_l0 a b h8.1 r.1 (q % 2 ^ a.length) (by omega) (by omega) r.2 s2 (s3 _ hq) (fun e => s4 _ hq e) a b [] [] 0 0 0 0 rfl rfl rfl h8.2.2.2 hz.1 hz.2 (by simp) (by simp) (by simp) (by simp) (by simp) (by simp) (by simp) (by simp) (by simp) (by simp) (by simp) (by simp)
    · have : (codeP a b != 0) = true := by rw [bne_iff_ne]; exact hc
      simp only [this]; exact easy
end Go.Proofs.Ytiafiebalibkdaa.OAll
