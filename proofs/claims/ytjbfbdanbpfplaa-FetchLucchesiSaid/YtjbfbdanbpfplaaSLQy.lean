/- A part of the proof of 'fetchLucchesi_holds', for every input, without a condition. -/
import Derived.Test.YtjbfbdanbpfplaaSLQx
import Derived.Test.YtjbfbdanbpfplaaSLOAllx20
namespace Go.Proofs.Ytjbfbdanbpfplaa.OAll
open Go.RowKit Go.Proofs.YtjbfbdanbpfplaaW.PrintWords Go.Proofs.YtjbfbdanbpfplaaW.PrintLast Go.Proofs.YtjbfbdanbpfplaaW.PrintMore
set_option linter.unusedVariables false
set_option linter.unusedSimpArgs false
theorem luc_l0 (l2 l3 mm : List Int) (aa : List Nat) (z w : Bool) (haa : aa.length < 9223372036854775806) (hs : aa.Pairwise (· < ·)) (hz : z = true → mm.length ≤ l2.length) (hw : w = true → l3.length ≤ aa.length) : ∀ (d i : Nat), i + d = aa.length + 1 → 1 ≤ i →
    Ev (fun k => trishawlaw09_FetchLucchesi.l0 k l2 l3 mm (ints aa) z w (i : Int)) true := by
  intro d
  induction d with
  | zero =>
    intro i hi h1
    have e3 : ¬ (i : Int) < ((ints aa).length : Int) := by rw [ints_len]; omega
    refine Ev.succ ?_
    simp only [trishawlaw09_FetchLucchesi.l0, e3, if_false]
    have hz' : z = true → (l2.length : Int) ≥ (mm.length : Int) := fun h => by have := hz h; omega
    have hw' : w = true → (l3.length : Int) ≤ ((ints aa).length : Int) := fun h => by have := hw h; rw [ints_len]; omega
    cases z <;> cases w
    · simp only [Bool.false_eq_true, if_false]; exact alive_ev'
    · simp only [Bool.false_eq_true, if_false, if_true, hw' rfl]; exact alive_ev'
    · simp only [Bool.false_eq_true, if_false, if_true, hz' rfl]; exact alive_ev'
    · simp only [if_true, hz' rfl, hw' rfl]; exact alive_ev'
  | succ d ih =>
    intro i hi h1
    refine Ev.succ ?_
    by_cases hl : i < aa.length
    · have e3 : (i : Int) < ((ints aa).length : Int) := by rw [ints_len]; omega
      obtain ⟨j, rfl⟩ : ∃ j, i = j + 1 := ⟨i - 1, by omega⟩
      have e4 : wrap64 (((j + 1 : Nat) : Int) - 1) = (j : Int) := by rw [w64 (by omega) (by omega)]; omega
      have e5 : (j : Int) < ((ints aa).length : Int) := by rw [ints_len]; omega
      have r1 := rd_ints aa (j + 1) hl
      have r2 := rd_ints aa j (by omega)
      have hlt : aa[j] < aa[j + 1] := List.pairwise_iff_getElem.mp hs j (j + 1) (by omega) hl (by omega)
      have e6 : ¬ ((aa[j + 1] : Nat) : Int) ≤ ((aa[j] : Nat) : Int) := by omega
      simp only [trishawlaw09_FetchLucchesi.l0, e3, if_true, Int.natCast_nonneg, e4, e5, r1, r2, e6, if_false, w64s (j + 1) (by omega)]
      exact ih (j + 1 + 1) (by omega) (by omega)
    · have e3 : ¬ (i : Int) < ((ints aa).length : Int) := by rw [ints_len]; omega
      have hz' : z = true → (l2.length : Int) ≥ (mm.length : Int) := fun h => by have := hz h; omega
      have hw' : w = true → (l3.length : Int) ≤ ((ints aa).length : Int) := fun h => by have := hw h; rw [ints_len]; omega
      simp only [trishawlaw09_FetchLucchesi.l0, e3, if_false]
      cases z <;> cases w
      · simp only [Bool.false_eq_true, if_false]; exact alive_ev'
      · simp only [Bool.false_eq_true, if_false, if_true, hw' rfl]; exact alive_ev'
      · simp only [Bool.false_eq_true, if_false, if_true, hz' rfl]; exact alive_ev'
      · simp only [if_true, hz' rfl, hw' rfl]; exact alive_ev'
theorem FetchLucchesi_ev (a : Int) (st : List S34) (l2 l3 : List Int) : Ev (fun k => trishawlaw09_FetchLucchesi.f k a st l2 l3) true := by
  have easy : Ev (fun k => trishawlaw09_FetchLucchesi.j0 k a st l2 l3 true) true := by
    refine Ev.succ ?_
    simp only [trishawlaw09_FetchLucchesi.j0, if_true]
    exact alive_ev'
  have main : codeN a st = 0 → l2.length ≤ 60 → l3.length ≤ 60 → Ev (fun k => trishawlaw09_FetchLucchesi.j0 k a st l2 l3 false) true := fun h h60 h60' => by
    obtain ⟨hs, hn2, ha, hcn⟩ := code_sane h
    have h1 : 1 ≤ a.toNat := by omega
    have hl2 : l2.length < 9223372036854775807 := by omega
    have hl3 : l3.length < 9223372036854775807 := by omega
    have hm30 := mendN_len a.toNat st
    have hly := ly_eq hs h1 hcn
    have hai := apartN_is a.toNat st
    have hmem : ∀ X ∈ apartN a.toNat st, isCutB a.toNat st X = true := fun X hX => cutsN_mem.mp (hai.1.subset hX)
    have hsorted : (apartN a.toNat st).Pairwise (· < ·) := List.Pairwise.sublist hai.1 (cutsN_sorted2 a.toNat st)
    have hmm := mend_mends hs h1 hcn
    have haa : apartB a.toNat st 0 (ints (apartN a.toNat st)) = true := apartB_mk _ 0 hmem (fun x _ => Nat.and_zero _) hai.2
    have hz : isMendN a.toNat st l2 = true → (ints (mendN a.toNat st).2.1).length ≤ l2.length := fun h => by rw [ints_len]; exact mend_less hs h1 hcn h
    have hw : apartB a.toNat st 0 l3 = true → l3.length ≤ (apartN a.toNat st).length := fun h => by
      obtain ⟨L, p1, p2, _, p4⟩ := apartB_get l3 0 h
      rw [← p1]; exact apart_len hs h1 hcn p2 p4
    refine Ev.succ ?_
    simp only [trishawlaw09_FetchLucchesi.j0, Bool.false_eq_true, if_false]
    refine Ev.bind (fetch_Mend_ev a st) (Ev.bind (fetch_Apart_ev a st) ?_)
    have e1 : (((ints (mendN a.toNat st).2.1).length : Int) != ((ints (apartN a.toNat st)).length : Int)) = false := by
      rw [ints_len, ints_len, hly]; exact bne_self_eq_false _
    simp only [h, if_true, e1]
    refine Ev.succ ?_
    simp only [trishawlaw09_FetchLucchesi.j1, Bool.false_eq_true, if_false]
    refine Ev.bind (fetch_IsMend_ev a st _ (by rw [ints_len]; omega)) (Ev.bind (fetch_AreApart_ev a st _ (by rw [ints_len]; omega)) (Ev.bind (fetch_IsMend_ev a st l2 hl2) (Ev.bind (fetch_AreApart_ev a st l3 hl3) ?_)))
    simp only [h, if_true, hmm, haa, Bool.not_true]
    refine Ev.succ ?_
    simp only [trishawlaw09_FetchLucchesi.j2, Bool.false_eq_true, if_false]
    exact luc_l0 l2 l3 (ints (mendN a.toNat st).2.1) (apartN a.toNat st) _ _ (by omega) hsorted hz hw (apartN a.toNat st).length 1 (by omega) (Nat.le_refl _)
  unfold trishawlaw09_FetchLucchesi.f
  simp only [few_eq, Option.bind_some]
  by_cases h40 : (st.length : Int) ≤ 40
  · by_cases h60 : (l2.length : Int) ≤ 60
    · simp only [h40, h60, decide_true, if_true]
      by_cases h60' : (l3.length : Int) > 60
      · simp only [h60', if_true]; exact easy
      · simp only [h60', if_false]
        refine Ev.bind (quarter_ev a st) ?_
        by_cases h : codeN a st = 0
        · simp only [h, bne_self_eq_false]
          exact main h (by omega) (by omega)
        · have : (codeN a st != 0) = true := by rw [bne_iff_ne]; exact h
          simp only [this]
          exact easy
    · simp only [h40, h60, decide_false, if_true, Bool.false_eq_true, if_false]; exact easy
  · simp only [h40, if_false, Bool.false_eq_true]; exact easy
end Go.Proofs.Ytjbfbdanbpfplaa.OAll
