/- A part of the proof of 'fetchStrong_holds', for every input, without a condition. -/
import Derived.Test.YtjbfbdanbpfplaaSTQh
import Derived.Test.YtjbfbdanbpfplaaSTQg
import Derived.Test.YtjbfbdanbpfplaaSTOAllx8
import Derived.Test.YtjbfbdanbpfplaaSTOAllx0
import Derived.Test.YtjbfbdanbpfplaaSTOAllx1
import Derived.Test.YtjbfbdanbpfplaaSTOAllx6
import Derived.Test.YtjbfbdanbpfplaaSTOAllx7
import Derived.Test.YtjbfbdanbpfplaaSTOAllx9
import Derived.Test.YtjbfbdanbpfplaaSTOAllx13
import Derived.Test.YtjbfbdanbpfplaaSTOAllx2
import Derived.Test.YtjbfbdanbpfplaaSTOAllx3
import Derived.Test.YtjbfbdanbpfplaaSTOAllx4
import Derived.Test.YtjbfbdanbpfplaaSTOAllx16
import Derived.Test.YtjbfbdanbpfplaaSTOAllx18
namespace Go.Proofs.Ytjbfbdanbpfplaa.OAll
open Go.RowKit Go.Proofs.YtjbfbdanbpfplaaW.PrintWords Go.Proofs.YtjbfbdanbpfplaaW.PrintLast Go.Proofs.YtjbfbdanbpfplaaW.PrintMore
set_option linter.unusedVariables false
set_option linter.unusedSimpArgs false
def ascN (m : Nat) : Int → Nat → List Int → Option Nat
  | _, acc, [] => some acc
  | prev, acc, v :: t => if v < 0 ∨ v ≥ m ∨ v ≤ prev then none else ascN m v (acc ||| 2 ^ v.toNat) t
def ascR (o : Option Nat) : Int × Bool := match o with | none => (0, false) | some X => ((X : Int), true)
def prevOf (p : List Int) : Int := p.getLastD (-1)
theorem prevOf_snoc (p : List Int) (x : Int) : prevOf (p ++ [x]) = x := by simp [prevOf]
theorem rd_prev (p t : List Int) (y x : Int) : rd (p ++ [y] ++ x :: t) (p.length : Int) = y := by simp [rd]
theorem asc_l0 (a : Int) (st : List S34) (h14 : st.length ≤ 14) (l : List Int) (hl : l.length < 9223372036854775807) : ∀ (suf pre : List Int) (acc : Nat), l = pre ++ suf → acc < 2 ^ 14 →
    Ev (fun k => fetch_quarter_ascending.l0 k l acc l (l.length : Int) pre.length a st) (ascR (ascN st.length (prevOf pre) acc suf)) := by
  intro suf
  induction suf with
  | nil =>
    intro pre acc e ha
    have e3 : ¬ (pre.length : Int) < (l.length : Int) := by rw [e]; simp
    refine Ev.succ ?_
    simp only [fetch_quarter_ascending.l0, e3, if_false]
    exact Ev.pure _
  | cons x t ih =>
    intro pre acc e ha
    have e3 : (pre.length : Int) < (l.length : Int) := by rw [e]; simp; omega
    have hiw : pre.length < 9223372036854775807 := by omega
    have r1 : rd l (pre.length : Int) = x := by rw [e]; exact rd_mid pre t x
    have nx := ih (pre ++ [x])
    rw [List.length_append, prevOf_snoc] at nx
    refine Ev.succ ?_
    simp only [fetch_quarter_ascending.l0, e3, if_true, Int.natCast_nonneg, r1, w64s _ hiw]
    rw [ascN]
    by_cases c1 : x < 0
    · simp only [c1, true_or, if_true]; exact Ev.pure _
    · by_cases c2 : x ≥ (st.length : Int)
      · simp only [c1, c2, true_or, or_true, if_true, if_false]; exact Ev.pure _
      · have hx : x.toNat < 14 := by omega
        have hx0 : 0 ≤ x := by omega
        have hx64 : x ≤ 64 := by omega
        have hx62 : x.toNat ≤ 62 := by omega
        have hp : (2 : Nat) ^ x.toNat < 2 ^ 14 := Nat.pow_lt_pow_right (by decide) hx
        have hp3 : (2 : Nat) ^ x.toNat < 2 ^ 63 := by omega
        have ha3 : acc < 2 ^ 63 := by omega
        have nx' := nx (acc ||| 2 ^ x.toNat) (by rw [e]; simp) (Nat.or_lt_two_pow ha hp)
        rcases List.eq_nil_or_concat pre with h0 | ⟨p, y, h0⟩
        · have c3 : ¬ (pre.length : Int) > 0 := by rw [h0]; decide
          have c5 : ¬ x ≤ prevOf pre := by rw [h0, show prevOf [] = -1 from rfl]; omega
          simp only [c1, c2, c3, c5, or_self, if_false, hx0, hx64, if_true, w64pow hx62, or_nat _ _ ha3 hp3]
          exact nx'
        · have c3 : (pre.length : Int) > 0 := by rw [h0]; simp
          have e8 : (pre.length : Int) - 1 = (p.length : Int) := by rw [h0]; simp
          have hpw : p.length ≤ 9223372036854775807 := by rw [h0] at hiw; simp at hiw; omega
          have e9 : (p.length : Int) < (l.length : Int) := by rw [e, h0]; simp; omega
          have r2 : rd l (p.length : Int) = y := by rw [e, h0, List.concat_eq_append]; exact rd_prev p t y x
          have hpv : prevOf pre = y := by rw [h0, List.concat_eq_append]; exact prevOf_snoc p y
          simp only [c1, c2, c3, if_false, hx0, hx64, if_true, e8, w64n _ hpw, Int.natCast_nonneg, e9, r2]
          rw [hpv]
          by_cases c5 : x ≤ y
          · simp only [c5, or_true, if_true]; exact Ev.pure _
          · have c4 : ¬ (x < 0 ∨ x ≥ (st.length : Int) ∨ x ≤ y) := by omega
            simp only [c5, c4, if_false, w64pow hx62, or_nat _ _ ha3 hp3]
            exact nx'
theorem asc_ev {n : Nat} {st : List S34} (hs : Sane n st) (a : Int) (l : List Int) (hl : l.length < 9223372036854775807) : Ev (fun k => fetch_quarter_ascending.f k a st l) (ascR (ascN st.length (-1) 0 l)) :=
  asc_l0 a st hs.2.1 l hl l [] 0 rfl (by decide)
theorem set_l0 {n : Nat} {st : List S34} (hs : Sane n st) (l : List Int) (hl : l.length < 9223372036854775807) : ∀ (suf pre : List Int) (acc : Nat), l = pre ++ suf → acc < 2 ^ (prevOf pre + 1).toNat → acc < 2 ^ 14 → -1 ≤ prevOf pre →
    Ev (fun k => trishawref09_Set.l0 k st l acc pre.length) (ascR (ascN st.length (prevOf pre) acc suf)) := by
  have h14 := hs.2.1
  intro suf
  induction suf with
  | nil =>
    intro pre acc e ha ha14 hpr
    have e3 : ¬ (pre.length : Int) < (l.length : Int) := by rw [e]; simp
    refine Ev.succ ?_
    simp only [trishawref09_Set.l0, e3, if_false]
    exact Ev.pure _
  | cons x t ih =>
    intro pre acc e ha ha14 hpr
    have e3 : (pre.length : Int) < (l.length : Int) := by rw [e]; simp; omega
    have hiw : pre.length < 9223372036854775807 := by omega
    have r1 : rd l (pre.length : Int) = x := by rw [e]; exact rd_mid pre t x
    have nx := ih (pre ++ [x])
    rw [List.length_append, prevOf_snoc] at nx
    refine Ev.succ ?_
    simp only [trishawref09_Set.l0, e3, if_true, Int.natCast_nonneg, r1, w64s _ hiw]
    rw [ascN]
    by_cases c1 : x < 0
    · simp only [c1, true_or, if_true]; exact Ev.pure _
    · by_cases c2 : x ≥ (st.length : Int)
      · simp only [c1, c2, true_or, or_true, if_true, if_false]; exact Ev.pure _
      · have hx : x.toNat < 14 := by omega
        have hx0 : 0 ≤ x := by omega
        have hx64 : x ≤ 64 := by omega
        have hx62 : x.toNat ≤ 62 := by omega
        have hp : (2 : Nat) ^ x.toNat < 2 ^ 14 := Nat.pow_lt_pow_right (by decide) hx
        have good : ¬ x ≤ prevOf pre → acc + 2 ^ x.toNat = acc ||| 2 ^ x.toNat ∧ acc ||| 2 ^ x.toNat < 2 ^ (x + 1).toNat := fun h => by
          have h1 : acc < 2 ^ x.toNat := Nat.lt_of_lt_of_le ha (Nat.pow_le_pow_right (by decide) (by omega))
          have h2 := Nat.two_pow_add_eq_or_of_lt h1 1
          rw [Nat.mul_one] at h2
          have h3 : acc ||| 2 ^ x.toNat = acc + 2 ^ x.toNat := by rw [Nat.or_comm, ← h2, Nat.add_comm]
          refine ⟨h3.symm, ?_⟩
          have : 2 ^ (x + 1).toNat = 2 ^ x.toNat + 2 ^ x.toNat := by
            rw [show (x + 1).toNat = x.toNat + 1 from by omega, Nat.pow_succ]; omega
          omega
        have hsum : acc + 2 ^ x.toNat ≤ 9223372036854775807 := by omega
        have nx' := fun h : ¬ x ≤ prevOf pre => nx (acc ||| 2 ^ x.toNat) (by rw [e]; simp) (good h).2 (Nat.or_lt_two_pow ha14 hp) (by omega)
        have e6 : ∀ h : ¬ x ≤ prevOf pre, wrap64 ((acc : Int) + ((2 ^ x.toNat : Nat) : Int)) = ((acc ||| 2 ^ x.toNat : Nat) : Int) := fun h => by
          rw [← Int.natCast_add, (good h).1, w64n]
          have := (good h).1; omega
        rcases List.eq_nil_or_concat pre with h0 | ⟨p, y, h0⟩
        · have c3 : ¬ (pre.length : Int) > 0 := by rw [h0]; decide
          have c5 : ¬ x ≤ prevOf pre := by rw [h0, show prevOf [] = -1 from rfl]; omega
          simp only [c1, c2, c3, c5, or_self, if_false, hx0, hx64, if_true, w64pow hx62, e6 c5]
          exact nx' c5
        · have c3 : (pre.length : Int) > 0 := by rw [h0]; simp
          have e8 : (pre.length : Int) - 1 = (p.length : Int) := by rw [h0]; simp
          have hpw : p.length ≤ 9223372036854775807 := by rw [h0] at hiw; simp at hiw; omega
          have e9 : (p.length : Int) < (l.length : Int) := by rw [e, h0]; simp; omega
          have r2 : rd l (p.length : Int) = y := by rw [e, h0, List.concat_eq_append]; exact rd_prev p t y x
          have hpv : prevOf pre = y := by rw [h0, List.concat_eq_append]; exact prevOf_snoc p y
          simp only [c1, c2, c3, if_false, hx0, hx64, if_true, e8, w64n _ hpw, Int.natCast_nonneg, e9, r2]
          rw [hpv] at e6 nx' ⊢
          by_cases c5 : x ≤ y
          · simp only [c5, or_true, if_true]; exact Ev.pure _
          · have c4 : ¬ (x < 0 ∨ x ≥ (st.length : Int) ∨ x ≤ y) := fun h => h.elim c1 (fun h => h.elim c2 c5)
            simp only [c5, c4, if_false, w64pow hx62, e6 c5]
            exact nx' c5
theorem set_ev {n : Nat} {st : List S34} (hs : Sane n st) (l : List Int) (hl : l.length < 9223372036854775807) : Ev (fun k => trishawref09_Set.f k st l) (ascR (ascN st.length (-1) 0 l)) :=
  set_l0 hs l hl l [] 0 rfl (by decide) (by decide) (by decide)
end Go.Proofs.Ytjbfbdanbpfplaa.OAll
