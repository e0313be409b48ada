/- A part of the proof of 'topReach_holds', for every input, without a condition. -/
import Derived.Test.YtknecgmmpjggiaaDoorTReQb
namespace Go.Proofs.YtknecgmmpjggiaaDoor.OAll
open Go.RowKit Go.Proofs.YtknecgmmpjggiaaDoorW.PrintWords Go.Proofs.YtknecgmmpjggiaaDoorW.PrintLast Go.Proofs.YtknecgmmpjggiaaDoorW.PrintMore
set_option linter.unusedVariables false
set_option linter.unusedSimpArgs false
def stepD (X : Nat) (s : S30) : Nat := if inb X s.f0 then X ||| 2 ^ s.f1.toNat else X
def passD (st : List S30) (X : Nat) : Nat := st.foldl stepD X
def iterD (st : List S30) : Nat → Nat → Nat
  | 0, X => X
  | d + 1, X => iterD st d (passD st X)
theorem stepD_lt {n X : Nat} {s : S30} (hX : X < 2 ^ n) (hm : 0 ≤ s.f0 ∧ s.f0 < n ∧ 0 ≤ s.f1 ∧ s.f1 < n ∧ s.f0 ≠ s.f1) : stepD X s < 2 ^ n := by
  unfold stepD; split
  · exact Nat.or_lt_two_pow hX (bit_lt hm.2.2.1 hm.2.2.2.1)
  · exact hX
theorem stepD_sub (X : Nat) (s : S30) : subB X (stepD X s) := by
  unfold stepD; split
  · exact subB_or _ _
  · exact subB_refl X
theorem passLD_sub : ∀ (l : List S30) (X : Nat), subB X (l.foldl stepD X)
  | [], X => subB_refl X
  | s :: t, X => subB_trans (stepD_sub X s) (passLD_sub t _)
theorem passLD_least {Y : Nat} : ∀ (l : List S30) (X : Nat), shut false l Y → subB X Y → subB (l.foldl stepD X) Y
  | [], _, _, h => h
  | s :: t, X, hY, h => by
    refine passLD_least t _ (fun s' h' => hY s' (List.mem_cons_of_mem _ h')) ?_
    unfold stepD; split
    · rename_i hc
      exact or_subB h (pow_subB ((hY s (List.mem_cons_self)).1 (h _ hc)))
    · exact h
theorem stepD_fix {X : Nat} {s : S30} (h : stepD X s = X) : shutS false X s := by
  refine ⟨fun hc => ?_, fun h => by cases h⟩
  rw [stepD, if_pos hc] at h
  rw [inb, ← h, Nat.testBit_or, Nat.testBit_two_pow]; simp
theorem passLD_fix : ∀ (l : List S30) (X : Nat), l.foldl stepD X = X → shut false l X
  | [], _, _ => fun _ h => by cases h
  | s :: t, X, h => by
    have h1 : subB (stepD X s) X := by
      have := passLD_sub t (stepD X s)
      rw [List.foldl_cons] at h
      rw [h] at this; exact this
    have h2 : stepD X s = X := subB_antisymm h1 (stepD_sub X s)
    rw [List.foldl_cons, h2] at h
    intro s' hs'
    rcases List.mem_cons.mp hs' with rfl | h'
    · exact stepD_fix h2
    · exact passLD_fix t X h s' h'
theorem passD_lt {n : Nat} {st : List S30} (hs : Sane n st) {X : Nat} (hX : X < 2 ^ n) : passD st X < 2 ^ n := by
  have : ∀ (l : List S30) (X : Nat), (∀ s ∈ l, s ∈ st) → X < 2 ^ n → l.foldl stepD X < 2 ^ n := by
    intro l
    induction l with
    | nil => intro X _ h; exact h
    | cons s t ih => intro X hm h; exact ih _ (fun s' h' => hm s' (List.mem_cons_of_mem _ h')) (stepD_lt h (hs.2.2 s (hm s (List.mem_cons_self))))
  exact this st X (fun _ h => h) hX
theorem iterD_shut {st : List S30} : ∀ (d X : Nat), shut false st X → iterD st d X = X
  | 0, _, _ => rfl
  | d + 1, X, h => by
    have : passD st X = X := subB_antisymm (passLD_least st X h (subB_refl X)) (passLD_sub st X)
    rw [iterD, this]; exact iterD_shut d X h
theorem iterD_grow {n : Nat} {st : List S30} (hs : Sane n st) : ∀ (d X : Nat), X < 2 ^ n → shut false st (iterD st d X) ∨ cntB X n + d ≤ cntB (iterD st d X) n
  | 0, X, _ => Or.inr (Nat.le_refl _)
  | d + 1, X, hX => by
    by_cases hc : passD st X = X
    · have := passLD_fix st X hc
      rw [iterD_shut (d + 1) X this]
      exact Or.inl this
    · obtain ⟨i, hi, hi'⟩ := sub_ne_bit (passLD_sub st X) (fun h => hc h.symm)
      have hl := passD_lt hs hX
      have h1 := cntB_lt (passLD_sub st X) hi hi' n (bit_in hl hi')
      rcases iterD_grow hs d (passD st X) hl with h | h
      · exact Or.inl h
      · refine Or.inr ?_
        rw [iterD]
        have h2 : cntB X n < cntB (passD st X) n := h1
        omega
theorem iterD_lt {n : Nat} {st : List S30} (hs : Sane n st) : ∀ (d X : Nat), X < 2 ^ n → iterD st d X < 2 ^ n
  | 0, _, h => h
  | d + 1, X, h => iterD_lt hs d _ (passD_lt hs h)
theorem iterD_sub {st : List S30} : ∀ (d X : Nat), subB X (iterD st d X)
  | 0, X => subB_refl X
  | d + 1, X => subB_trans (passLD_sub st X) (iterD_sub d _)
theorem iterD_least {st : List S30} {Y : Nat} (hY : shut false st Y) : ∀ (d X : Nat), subB X Y → subB (iterD st d X) Y
  | 0, _, h => h
  | d + 1, X, h => iterD_least hY d _ (passLD_least st X hY h)
def reachN (n : Nat) (st : List S30) (c : Nat) : Nat := iterD st n (2 ^ c)
theorem reachN_rch {n : Nat} {st : List S30} (hs : Sane n st) {c : Nat} (hc : c < n) : Rch n st false c (reachN n st c) ∧ shut false st (reachN n st c) := by
  have hX : (2 : Nat) ^ c < 2 ^ n := Nat.pow_lt_pow_right (by decide) hc
  have hb : (2 ^ c).testBit c = true := by simp
  refine ⟨⟨iterD_lt hs n _ hX, iterD_sub n _ c hb, fun Y hY hY' => iterD_least hY' n _ (pow_subB hY)⟩, ?_⟩
  rcases iterD_grow hs n (2 ^ c) hX with h | h
  · exact h
  · exfalso
    have : 1 ≤ cntB (2 ^ c) n := by
      have := cntB_lt (X := 0) (Y := 2 ^ c) (fun i h => by simp at h) (i := c) (by simp) hb n hc
      omega
    have := cntB_le (iterD st n (2 ^ c)) n
    omega
end Go.Proofs.YtknecgmmpjggiaaDoor.OAll
