/- A part of the proof of 'tripTurned_holds', for every input, without a condition. -/
import Derived.Test.YtlmlneneakpohaaTTuQq
namespace Go.Proofs.Ytlmlneneakpohaa.OAll
open Go.RowKit Go.Proofs.YtlmlneneakpohaaW.PrintWords Go.Proofs.YtlmlneneakpohaaW.PrintLast Go.Proofs.YtlmlneneakpohaaW.PrintMore
set_option linter.unusedVariables false
set_option linter.unusedSimpArgs false
def swp (p : Nat → Nat) (a b : Nat) (k : Nat) : Nat := if k = a then p b else if k = b then p a else p k
theorem sumE_two {f g : Nat → Int} {n a b : Nat} (hab : a < b) (hb : b < n) (h : ∀ k, k < n → k ≠ a → k ≠ b → f k = g k) : sumE f n - sumE g n = f a + f b - g a - g b := by
  have e : sumE (fun k => f k - g k) n = f a + f b - g a - g b := by
    have aux : ∀ m : Nat, m ≤ n → sumE (fun k => f k - g k) m = (if a < m then f a - g a else 0) + (if b < m then f b - g b else 0) := by
      intro m
      induction m with
      | zero => intro _; simp [sumE]
      | succ m ih =>
        intro hm
        simp only [sumE, ih (by omega)]
        by_cases c1 : m = a
        · subst c1
          rw [if_neg (by omega), if_neg (by omega), if_pos (by omega), if_neg (by omega)]; omega
        · by_cases c2 : m = b
          · subst c2
            rw [if_pos (by omega), if_neg (by omega), if_pos (by omega), if_pos (by omega)]; omega
          · have := h m (by omega) c1 c2
            rw [this]
            have e1 : (a < m + 1) ↔ (a < m) := by omega
            have e2 : (b < m + 1) ↔ (b < m) := by omega
            simp only [e1, e2]; omega
    rw [aux n (Nat.le_refl n), if_pos (by omega), if_pos hb]; omega
  rw [← e, sumE_sub]
theorem swp_perm {p : Nat → Nat} {n a b : Nat} (h : PermF p n) (ha : a < n) (hb : b < n) (hab : a ≠ b) : PermF (swp p a b) n where
  maps := fun i hi => by
    unfold swp
    split
    · exact h.maps b hb
    · split
      · exact h.maps a ha
      · exact h.maps i hi
  inj := fun i j hi hj e => by
    have hh := h.inj
    unfold swp at e
    have i1 := hh b a hb ha
    have i2 := hh b j hb hj
    have i3 := hh a b ha hb
    have i4 := hh a j ha hj
    have i5 := hh i b hi hb
    have i6 := hh i a hi ha
    have i7 := hh i j hi hj
    split at e <;> (try split at e) <;> (try split at e) <;> (try split at e) <;> first | omega | (have := i1 e; omega) | (have := i2 e; omega) | (have := i3 e; omega) | (have := i4 e; omega) | (have := i5 e; omega) | (have := i6 e; omega) | (exact i7 e)
variable {T F : Nat → Int} {n : Nat}
theorem up_swap (hH : Hts T F n) {p : Nat → Nat} (hp : PermF p n) {a k : Nat} (hk : k + 1 < n) (ha : a ≤ k) (hc : p a ≤ k) (hf : p (k + 1) = k + 1) (hkind : (a = k ∧ F k ≤ T k) ∨ (p a = k ∧ T k ≤ F k)) (h : Int) :
    upP T F n (swp p a (k + 1)) h = upP T F n p h + gapH T F k h := by
  have h2 := sumE_two (f := fun i => cross h (T i) (F (swp p a (k + 1) i))) (g := fun i => cross h (T i) (F (p i))) (n := n) (a := a) (b := k + 1) (by omega) hk (fun i hi h1 h2 => by
    show cross h (T i) (F (swp p a (k + 1) i)) = cross h (T i) (F (p i))
    unfold swp; rw [if_neg h1, if_neg h2])
  have e1 : swp p a (k + 1) a = k + 1 := by unfold swp; rw [if_pos rfl, hf]
  have e2 : swp p a (k + 1) (k + 1) = p a := by unfold swp; rw [if_neg (by omega), if_pos rfl]
  simp only [e1, e2, hf] at h2
  have t1 := hH.mT a k ha (by omega)
  have t2 := hH.mT k (k + 1) (by omega) hk
  have f1 := hH.mF (p a) k hc (by omega)
  have f2 := hH.mF k (k + 1) (by omega) hk
  have e3 : cross h (T a) (F (k + 1)) + cross h (T (k + 1)) (F (p a)) - cross h (T a) (F (p a)) - cross h (T (k + 1)) (F (k + 1)) = gapH T F k h := by
    unfold gapH mx mn
    rcases hkind with ⟨rfl, h3⟩ | ⟨h3, h4⟩
    · unfold cross
      (repeat' split) <;> omega
    · rw [h3] at f1 ⊢
      unfold cross
      (repeat' split) <;> omega
  unfold upP
  omega
end Go.Proofs.Ytlmlneneakpohaa.OAll
