/- A part of the proof of 'tripTurned_holds', for every input, without a condition. -/
import Derived.Test.YtlmlneneakpohaaTTuQr
namespace Go.Proofs.Ytlmlneneakpohaa.OAll
open Go.RowKit Go.Proofs.YtlmlneneakpohaaW.PrintWords Go.Proofs.YtlmlneneakpohaaW.PrintLast Go.Proofs.YtlmlneneakpohaaW.PrintMore
set_option linter.unusedVariables false
set_option linter.unusedSimpArgs false
def Sm (f : Nat → Nat) (i j : Nat) : Prop := ∃ t, it f t i = j
theorem Sm.refl (f : Nat → Nat) (i : Nat) : Sm f i i := ⟨0, rfl⟩
theorem Sm.trans {f : Nat → Nat} {i j k : Nat} (h1 : Sm f i j) (h2 : Sm f j k) : Sm f i k := by
  obtain ⟨s, hs⟩ := h1; obtain ⟨t, ht⟩ := h2
  exact ⟨t + s, by rw [it_add, hs, ht]⟩
theorem PermF.Sm_sym {f : Nat → Nat} {n : Nat} (h : PermF f n) {i j : Nat} (hi : i < n) (hs : Sm f i j) : Sm f j i := by
  obtain ⟨s, rfl⟩ := hs
  exact h.sym hi s
theorem walk_new {f : Nat → Nat} {n a b p : Nat} (h : PermF f n) (ha : a < n) (hab : ¬ Sm f a b) (hne : a ≠ b) (g : Nat → Nat) (gb : g b = f a) (go : ∀ x, x ≠ a → x ≠ b → g x = f x) (hs : ∀ s, 1 ≤ s → s < p → it f s a ≠ a) : ∀ t, 1 ≤ t → t ≤ p → it g t b = it f t a
  | 0, h1, _ => by omega
  | 1, _, _ => gb
  | t + 2, _, h2 => by
    have ih := walk_new h ha hab hne g gb go hs (t + 1) (by omega) (by omega)
    show g (it g (t + 1) b) = f (it f (t + 1) a)
    rw [ih]
    exact go _ (hs (t + 1) (by omega) (by omega)) (fun e => hab ⟨t + 1, e⟩)
theorem all_new {f : Nat → Nat} {n a b : Nat} (h : PermF f n) (ha : a < n) (hab : ¬ Sm f a b) (hne : a ≠ b) (g : Nat → Nat) (gb : g b = f a) (go : ∀ x, x ≠ a → x ≠ b → g x = f x) {x : Nat} (hx : Sm f a x) : Sm g b x := by
  obtain ⟨p, hp, _, e, hs⟩ := h.back ha
  obtain ⟨s, rfl⟩ := hx
  obtain ⟨s', h1, h2⟩ := it_mod hp e s
  rw [h2]
  have w := walk_new h ha hab hne g gb go hs
  by_cases c : s' = 0
  · subst c
    exact ⟨p, by rw [w p hp (Nat.le_refl p), e]; rfl⟩
  · exact ⟨s', w s' (by omega) (by omega)⟩
theorem out_new {f : Nat → Nat} {n a b i : Nat} (h : PermF f n) (hi : i < n) (h1 : ¬ Sm f a i) (h2 : ¬ Sm f b i) (g : Nat → Nat) (go : ∀ x, x ≠ a → x ≠ b → g x = f x) : ∀ t, it g t i = it f t i
  | 0 => rfl
  | t + 1 => by
    show g (it g t i) = f (it f t i)
    rw [out_new h hi h1 h2 g go t]
    refine go _ (fun e => h1 (h.Sm_sym hi ⟨t, e⟩)) (fun e => h2 (h.Sm_sym hi ⟨t, e⟩))
theorem merge_iff {f : Nat → Nat} {n a b : Nat} (h : PermF f n) (ha : a < n) (hb : b < n) (hab : ¬ Sm f a b) {i j : Nat} (hi : i < n) (hj : j < n) :
    Sm (swp f a b) i j ↔ Sm f i j ∨ ((Sm f a i ∨ Sm f b i) ∧ (Sm f a j ∨ Sm f b j)) := by
  have hne : a ≠ b := fun e => hab (e ▸ Sm.refl f a)
  have hba : ¬ Sm f b a := fun e => hab (h.Sm_sym hb e)
  have hg := swp_perm h ha hb hne
  have gb : swp f a b b = f a := by unfold swp; rw [if_neg hne.symm, if_pos rfl]
  have ga : swp f a b a = f b := by unfold swp; rw [if_pos rfl]
  have go : ∀ x, x ≠ a → x ≠ b → swp f a b x = f x := fun x h1 h2 => by unfold swp; rw [if_neg h1, if_neg h2]
  have nA : ∀ x, Sm f a x → Sm (swp f a b) b x := fun x hx => all_new h ha hab hne _ gb go hx
  have nB : ∀ x, Sm f b x → Sm (swp f a b) a x := fun x hx => all_new h hb hba hne.symm _ ga (fun y h1 h2 => go y h2 h1) hx
  have ba : Sm (swp f a b) b a := nA a (Sm.refl f a)
  have inB : ∀ x, (Sm f a x ∨ Sm f b x) → Sm (swp f a b) b x := fun x hx => hx.elim (nA x) (fun e => ba.trans (nB x e))
  have both : ∀ x y, (Sm f a x ∨ Sm f b x) → (Sm f a y ∨ Sm f b y) → Sm (swp f a b) x y := fun x y hx hy => (hg.Sm_sym hb (inB x hx)).trans (inB y hy)
  by_cases ci : Sm f a i ∨ Sm f b i
  · constructor
    · intro hs
      by_cases cj : Sm f a j ∨ Sm f b j
      · exact .inr ⟨ci, cj⟩
      · obtain ⟨t, ht⟩ := hg.Sm_sym hi hs
        rw [out_new h hj (fun e => cj (.inl e)) (fun e => cj (.inr e)) _ go t] at ht
        exact .inl (h.Sm_sym hj ⟨t, ht⟩)
    · rintro (hs | ⟨_, cj⟩)
      · exact both i j ci (ci.elim (fun e => .inl (e.trans hs)) (fun e => .inr (e.trans hs)))
      · exact both i j ci cj
  · have w := out_new h hi (fun e => ci (.inl e)) (fun e => ci (.inr e)) _ go
    constructor
    · rintro ⟨t, ht⟩
      rw [w t] at ht
      exact .inl ⟨t, ht⟩
    · rintro (⟨t, ht⟩ | ⟨c, _⟩)
      · exact ⟨t, by rw [w t]; exact ht⟩
      · exact absurd c ci
end Go.Proofs.Ytlmlneneakpohaa.OAll
