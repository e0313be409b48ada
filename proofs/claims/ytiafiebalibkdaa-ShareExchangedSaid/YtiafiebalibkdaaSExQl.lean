/- A part of the proof of 'shareExchanged_holds', for every input, without a condition. -/
import Derived.Test.YtiafiebalibkdaaSExQk
import Derived.Test.YtiafiebalibkdaaSExOAllx16
namespace Go.Proofs.Ytiafiebalibkdaa.OAll
open Go.RowKit Go.Proofs.YtiafiebalibkdaaW.PrintWords Go.Proofs.YtiafiebalibkdaaW.PrintLast Go.Proofs.YtiafiebalibkdaaW.PrintMore
set_option linter.unusedVariables false
set_option linter.unusedSimpArgs false
theorem dotA_compl (D : Int) : ∀ (a b l : List Int), a.length = b.length → dotA (zipS a b) (l.map (D - ·)) = dotB D (zipS b a) l
  | [], [], _, _ => by simp [zipS, dotA, dotB]
  | x :: a, y :: b, [], _ => by simp [zipS, dotA, dotB]
  | x :: a, y :: b, u :: l, h => by simp only [zipS, List.map_cons, dotA, dotB, dotA_compl D a b l (by simpa using h)]
  | [], y :: b, _, h => by simp at h
  | x :: a, [], _, h => by simp at h
theorem dotB_compl (D : Int) : ∀ (a b l : List Int), a.length = b.length → dotB D (zipS a b) (l.map (D - ·)) = dotA (zipS b a) l
  | [], [], _, _ => by simp [zipS, dotA, dotB]
  | x :: a, y :: b, [], _ => by simp [zipS, dotA, dotB]
  | x :: a, y :: b, u :: l, h => by
    simp only [zipS, List.map_cons, dotA, dotB, dotB_compl D a b l (by simpa using h)]
    rw [show D - (D - u) = u by omega]
  | [], y :: b, _, h => by simp at h
  | x :: a, [], _, h => by simp at h
theorem codeP_swap {a b : List Int} (h : codeP a b = 0) : codeP b a = 0 := by
  have h8 := codeP_ok h
  have e1 : pointedN a = 0 := by rw [pointedN, if_neg (by omega), if_pos h8.2.1]
  have e2 : pointedN b = 0 := by rw [pointedN, if_neg (by omega), if_pos h8.2.2.1]
  rw [codeP, if_pos e2, if_pos e1, if_pos h8.2.2.2.symm]
theorem winN_len (a b : List Int) : (winN a b).1.length = a.length := by rw [winN, winGo_len, List.length_replicate]
theorem score_le {a b : List Int} (hc : codeP a b = 0) : (winN b a).2.2 * (winN a b).2.1 ≤ (winN a b).2.2 * (winN b a).2.1 := by
  have h8 := codeP_ok hc
  have c := winN_cert hc
  have c' := winN_cert (codeP_swap hc)
  have l1 := winN_len b a
  have z1 := zipS_len a b h8.2.2.2
  have z2 := zipS_len b a h8.2.2.2.symm
  have hb := c.best (l := (winN b a).1.map ((winN b a).2.1 - ·)) (D' := (winN b a).2.1) (Int.le_of_lt c'.d0) (fun x hx => by
    obtain ⟨y, hy, rfl⟩ := List.mem_map.mp hx
    have := c'.bn y hy
    omega)
  have e1 := dotL_ordIn (zipS a b) ((winN b a).1.map ((winN b a).2.1 - ·)) [] (by rw [List.length_map]; omega)
  have e2 := dotM_ordIn (winN b a).2.1 (zipS a b) ((winN b a).1.map ((winN b a).2.1 - ·)) [] (by rw [List.length_map]; omega)
  have e3 := dotL_ordIn (zipS b a) (winN b a).1 [] (by omega)
  have e4 := dotM_ordIn (winN b a).2.1 (zipS b a) (winN b a).1 [] (by omega)
  simp only [List.nil_append, List.length_nil] at e1 e2 e3 e4
  rw [dotA_compl _ _ _ _ h8.2.2.2, ← e4, c'.sb] at e1
  rw [dotB_compl _ _ _ _ h8.2.2.2, ← e3, c'.sa] at e2
  rw [e1, e2] at hb
  have := c.d0
  by_cases h : (winN a b).2.2 * (winN b a).2.1 < (winN b a).2.2 * (winN a b).2.1
  · exact absurd ⟨h, h⟩ hb
  · omega
theorem lowR_eq {S D S' D' : Int} (h : 0 < D) (h' : 0 < D') (e : S * D' = S' * D) : lowR S D = lowR S' D' := by
  rw [← lowR_scale S D h', ← lowR_scale S' D' h, e, Int.mul_comm D D']
theorem score_swap {a b : List Int} (hc : codeP a b = 0) : lowR (winN a b).2.2 (winN a b).2.1 = lowR (winN b a).2.2 (winN b a).2.1 := by
  have h1 := score_le hc
  have h2 := score_le (codeP_swap hc)
  exact lowR_eq (winN_cert hc).d0 (winN_cert (codeP_swap hc)).d0 (by omega)
theorem sumP_compl {n s : Nat} (hs : s < 2 ^ n) : ∀ (l : List Int) (i : Nat), i + l.length ≤ n → sumP (2 ^ n - (s + 1)) i l = sumQ s i l
  | [], _, _ => rfl
  | x :: l, i, h => by
    rw [List.length_cons] at h
    have e : (2 ^ n - (s + 1)).testBit i = !s.testBit i := by
      rw [Nat.testBit_two_pow_sub_succ hs, decide_eq_true (show i < n by omega), Bool.true_and]
    rw [sumP, sumQ, sumP_compl hs l (i + 1) (by omega), e]
    cases s.testBit i <;> rfl
theorem sumQ_compl {n s : Nat} (hs : s < 2 ^ n) : ∀ (l : List Int) (i : Nat), i + l.length ≤ n → sumQ (2 ^ n - (s + 1)) i l = sumP s i l
  | [], _, _ => rfl
  | x :: l, i, h => by
    rw [List.length_cons] at h
    have e : (2 ^ n - (s + 1)).testBit i = !s.testBit i := by
      rw [Nat.testBit_two_pow_sub_succ hs, decide_eq_true (show i < n by omega), Bool.true_and]
    rw [sumP, sumQ, sumQ_compl hs l (i + 1) (by omega), e]
    cases s.testBit i <;> rfl
theorem mn_comm (x y : Int) : mn x y = mn y x := by unfold mn; split <;> split <;> omega
theorem minS_compl {a b : List Int} (hab : a.length = b.length) {s : Nat} (hs : s < 2 ^ a.length) : minS b a (2 ^ a.length - (s + 1)) = minS a b s := by
  rw [minS, minS, sumP_compl hs b 0 (by omega), sumQ_compl hs a 0 (by omega), mn_comm]
theorem whole_le {a b : List Int} (hc : codeP a b = 0) : (wholeN a b (2 ^ a.length)).2 ≤ (wholeN b a (2 ^ b.length)).2 := by
  have h8 := codeP_ok hc
  have hpos : 0 < 2 ^ a.length := Nat.two_pow_pos _
  obtain ⟨s1, s2, s3, s4⟩ := wholeN_spec a b (2 ^ a.length) hpos (minS_nonneg hc)
  obtain ⟨t1, t2, t3, t4⟩ := wholeN_spec b a (2 ^ b.length) (Nat.two_pow_pos _) (minS_nonneg (codeP_swap hc))
  rw [s2, ← minS_compl h8.2.2.2 s1]
  refine t3 _ ?_
  rw [← h8.2.2.2]
  omega
theorem whole_swap {a b : List Int} (hc : codeP a b = 0) : (wholeN a b (2 ^ a.length)).2 = (wholeN b a (2 ^ b.length)).2 :=
  Int.le_antisymm (whole_le hc) (whole_le (codeP_swap hc))
theorem ShareExchanged_ev (a b : List Int) : Ev (fun k => trishawlaw08_ShareExchanged.f k a b) true := by
  have easy : Ev (fun k => trishawlaw08_ShareExchanged.j0 k a b true) true := by
    refine Ev.succ ?_
    simp only [trishawlaw08_ShareExchanged.j0, if_true]
    exact alive_ev'
  unfold trishawlaw08_ShareExchanged.f
  simp only [few_eq, Option.bind_some]
  generalize fewN a b [] = f
  cases f
  · simp only [Bool.false_eq_true, if_false]; exact easy
  · simp only [if_true]
    refine Ev.bind (points_ev a b) ?_
    by_cases hc : codeP a b = 0
    · have hc' := codeP_swap hc
      simp only [hc, bne_self_eq_false]
      refine Ev.succ ?_
      simp only [trishawlaw08_ShareExchanged.j0, Bool.false_eq_true, if_false]
      refine Ev.bind (win_ev a b) ?_
      refine Ev.bind (win_ev b a) ?_
      refine Ev.bind (whole_ev a b) ?_
      refine Ev.bind (whole_ev b a) ?_
      have hs := score_swap hc
      simp only [winR, wholeR, hc, hc', if_true, outW]
      unfold winN at hs
      rw [hs, whole_swap hc]
      simp only [if_true, beq_self_eq_true, Bool.and_self]
      exact alive_ev'
    · have : (codeP a b != 0) = true := by rw [bne_iff_ne]; exact hc
      simp only [this]; exact easy
end Go.Proofs.Ytiafiebalibkdaa.OAll
