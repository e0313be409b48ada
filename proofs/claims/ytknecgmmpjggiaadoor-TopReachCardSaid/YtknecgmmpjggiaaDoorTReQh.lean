/- A part of the proof of 'topReach_holds', for every input, without a condition. -/
import Derived.Test.YtknecgmmpjggiaaDoorTReQg
import Derived.Test.YtknecgmmpjggiaaDoorTReTt
namespace Go.Proofs.YtknecgmmpjggiaaDoor.OAll
open Go.RowKit Go.Proofs.YtknecgmmpjggiaaDoorW.PrintWords Go.Proofs.YtknecgmmpjggiaaDoorW.PrintLast Go.Proofs.YtknecgmmpjggiaaDoorW.PrintMore
set_option linter.unusedVariables false
set_option linter.unusedSimpArgs false
def wayS (x : S32) : S30 := ⟨x.f0, x.f1⟩
def arcsI (p : Nat → Bool) (ways : List S32) : Nat → Nat → List S30
  | 0, _ => []
  | d + 1, i => (if p i then [wayS (rd_T32 ways (i : Int))] else []) ++ arcsI p ways d (i + 1)
theorem arcsI_len (p : Nat → Bool) (ways : List S32) : ∀ d i, (arcsI p ways d i).length ≤ d
  | 0, _ => Nat.le_refl _
  | d + 1, i => by
    have := arcsI_len p ways d (i + 1)
    rw [arcsI, List.length_append]
    split <;> simp <;> omega
theorem arcsI_mem (p : Nat → Bool) (ways : List S32) (r : S30) : ∀ d i, r ∈ arcsI p ways d i ↔ ∃ j, i ≤ j ∧ j < i + d ∧ p j = true ∧ r = wayS (rd_T32 ways (j : Int))
  | 0, i => by simp [arcsI]; omega
  | d + 1, i => by
    rw [arcsI, List.mem_append, arcsI_mem p ways r d (i + 1)]
    constructor
    · rintro (h | ⟨j, h1, h2, h3, h4⟩)
      · split at h
        · rename_i hp; exact ⟨i, Nat.le_refl _, by omega, hp, by simpa using h⟩
        · cases h
      · exact ⟨j, by omega, by omega, h3, h4⟩
    · rintro ⟨j, h1, h2, h3, h4⟩
      rcases Nat.eq_or_lt_of_le h1 with g | g
      · subst g; left; rw [if_pos h3, h4]; exact List.mem_singleton.2 rfl
      · exact .inr ⟨j, g, by omega, h3, h4⟩
theorem pasI_eq (p : Nat → Bool) (ways : List S32) : ∀ d i s, pasI p ways d i s = (arcsI p ways d i).foldl stepD s
  | 0, _, _ => rfl
  | d + 1, i, s => by
    rw [pasI, pasI_eq p ways d (i + 1), arcsI, List.foldl_append]
    congr 1
    unfold stpI
    cases p i
    · rfl
    · simp only [Bool.true_and, if_true, List.foldl_cons, List.foldl_nil]
      rfl
theorem itrI_eq (p : Nat → Bool) (ways : List S32) : ∀ r s, itrI p ways r s = iterD (arcsI p ways ways.length 0) r s
  | 0, _ => rfl
  | r + 1, s => by rw [itrI, itrI_eq p ways r, pasI_eq, iterD]; rfl
theorem arcsI_sane {p : Nat → Bool} {n : Nat} {ways : List S32} (hn : n ≤ 7) (ho : OkW n ways) (h14 : ways.length ≤ 14) : Sane n (arcsI p ways ways.length 0) :=
  ⟨hn, by have := arcsI_len p ways ways.length 0; omega, fun s hm => by
    obtain ⟨j, _, h2, _, h4⟩ := (arcsI_mem p ways s ways.length 0).1 hm
    have := ho.2 _ (rd_T32_mem (show j < ways.length by omega))
    rw [h4]; exact ⟨this.1, this.2.1, this.2.2.1, this.2.2.2.1, this.2.2.2.2.1⟩⟩
theorem rchI_rch {p : Nat → Bool} {n : Nat} {ways : List S32} (hn : n ≤ 7) (ho : OkW n ways) (h14 : ways.length ≤ 14) {f : Nat} (hf : f < n) :
    Rch n (arcsI (fun i => !p i) ways ways.length 0) false f (rchI p ways n f) ∧ shut false (arcsI (fun i => !p i) ways ways.length 0) (rchI p ways n f) := by
  unfold rchI
  rw [itrI_eq]
  exact reachN_rch (arcsI_sane hn ho h14) hf
theorem setF_bit (R : Nat → Nat) (c : Nat) : ∀ (d i s x : Nat), (setF R c d i s).testBit x = (s.testBit x || (decide (i ≤ x ∧ x < i + d) && (R x).testBit c))
  | 0, i, s, x => by simp [setF]; omega
  | d + 1, i, s, x => by
    rw [setF, setF_bit R c d (i + 1)]
    by_cases hx : x = i
    · subst hx
      have h1 : decide (x + 1 ≤ x ∧ x < x + 1 + d) = false := decide_eq_false (by omega)
      have h2 : decide (x ≤ x ∧ x < x + (d + 1)) = true := decide_eq_true (by omega)
      rw [h1, h2]
      cases (R x).testBit c
      · simp
      · simp
    · have h1 : decide (i + 1 ≤ x ∧ x < i + 1 + d) = decide (i ≤ x ∧ x < i + (d + 1)) := decide_eq_decide.2 (by omega)
      rw [h1]
      congr 1
      split
      · rw [Nat.testBit_or, Nat.testBit_two_pow]; simp; omega
      · rfl
theorem badF_iff (R : Nat → Nat) (c s : Nat) : ∀ (d i : Nat), badF R c s d i = true ↔ ∃ x, i ≤ x ∧ x < i + d ∧ s.testBit x = true ∧ (R c).testBit x = false
  | 0, i => by simp [badF]; omega
  | d + 1, i => by
    rw [badF]
    split
    · rename_i h
      simp only [Bool.and_eq_true, Bool.not_eq_true'] at h
      exact ⟨fun _ => ⟨i, Nat.le_refl _, by omega, h.1, h.2⟩, fun _ => rfl⟩
    · rename_i h
      rw [badF_iff R c s d (i + 1)]
      constructor
      · rintro ⟨x, h1, h2, h3, h4⟩; exact ⟨x, by omega, by omega, h3, h4⟩
      · rintro ⟨x, h1, h2, h3, h4⟩
        rcases Nat.eq_or_lt_of_le h1 with g | g
        · subst g; rw [h3, h4] at h; simp at h
        · exact ⟨x, g, by omega, h3, h4⟩
structure Pre (n : Nat) (R : Nat → Nat) : Prop where
  lt : ∀ f, f < n → R f < 2 ^ n
  self : ∀ f, f < n → (R f).testBit f = true
  trans : ∀ a b c, a < n → b < n → (R a).testBit b = true → (R b).testBit c = true → (R a).testBit c = true
theorem setF_set (R : Nat → Nat) (n c x : Nat) : (setF R c n 0 0).testBit x = (decide (x < n) && (R x).testBit c) := by
  rw [setF_bit, Nat.zero_testBit, Bool.false_or]
  congr 1
  exact decide_eq_decide.2 (by omega)
theorem alF_zero {R : Nat → Nat} {n : Nat} (hP : Pre n R) : ∀ (d c : Nat), c + d ≤ n → alF R n d c = 0 → ∀ x, c ≤ x → x < c + d → (R 0).testBit x = true ∨ badF R x (setF R x n 0 0) n 0 = true
  | 0, c, _, _, x, h1, h2 => by omega
  | d + 1, c, hc, h, x, h1, h2 => by
    rw [alF] at h
    rcases Nat.eq_or_lt_of_le h1 with g | g
    · subst g
      split at h
      · rename_i h0; exact .inl h0
      · split at h
        · rename_i h0; exact .inr h0
        · exfalso
          have : (setF R c n 0 0).testBit c = true := by rw [setF_set, hP.self c (by omega)]; simp; omega
          rw [h] at this; simp at this
    · split at h
      · exact alF_zero hP d (c + 1) (by omega) h x g (by omega)
      · split at h
        · exact alF_zero hP d (c + 1) (by omega) h x g (by omega)
        · exfalso
          have : (setF R c n 0 0).testBit c = true := by rw [setF_set, hP.self c (by omega)]; simp; omega
          rw [h] at this; simp at this
theorem alF_some {R : Nat → Nat} {n : Nat} : ∀ (d c : Nat), c + d ≤ n → alF R n d c ≠ 0 → ∃ x, x < n ∧ alF R n d c = setF R x n 0 0
  | 0, c, _, h => absurd rfl h
  | d + 1, c, hc, h => by
    rw [alF] at h ⊢
    split at h
    · rename_i h0; rw [if_pos h0]; exact alF_some d (c + 1) (by omega) h
    · rename_i h0
      rw [if_neg h0]
      split at h
      · rename_i h1; rw [if_pos h1]; exact alF_some d (c + 1) (by omega) h
      · rename_i h1; rw [if_neg h1]; exact ⟨c, by omega, rfl⟩
theorem alF_full {R : Nat → Nat} {n : Nat} (h : ∀ x, x < n → (R 0).testBit x = true) : ∀ (d c : Nat), c + d ≤ n → alF R n d c = 0
  | 0, _, _ => rfl
  | d + 1, c, hc => by rw [alF, if_pos (h c (by omega))]; exact alF_full h d (c + 1) (by omega)
theorem source_ex {R : Nat → Nat} {n : Nat} (hP : Pre n R) (h0n : 0 < n) : ∀ (k c : Nat), cntB (setF R c n 0 0) n ≤ k → c < n → (R 0).testBit c = false → ∃ x, x < n ∧ (R 0).testBit x = false ∧ badF R x (setF R x n 0 0) n 0 = false
  | k, c, hk, hc, h0 => by
    cases hb : badF R c (setF R c n 0 0) n 0
    · exact ⟨c, hc, h0, hb⟩
    · obtain ⟨x, _, hxn, h1, h2⟩ := (badF_iff R c _ n 0).1 hb
      rw [Nat.zero_add] at hxn
      rw [setF_set] at h1
      simp only [Bool.and_eq_true, decide_eq_true_eq] at h1
      have hx0 : (R 0).testBit x = false := by
        cases hx : (R 0).testBit x
        · rfl
        · have := hP.trans 0 x c h0n hxn hx h1.2
          rw [h0] at this; cases this
      have hsub : subB (setF R x n 0 0) (setF R c n 0 0) := fun i hi => by
        rw [setF_set] at hi ⊢
        simp only [Bool.and_eq_true, decide_eq_true_eq] at hi ⊢
        exact ⟨hi.1, hP.trans i x c hi.1 hxn hi.2 h1.2⟩
      have hlt := cntB_lt hsub (i := c) (by rw [setF_set, h2]; simp) (by rw [setF_set, hP.self c hc]; simp [hc]) n hc
      cases k with
      | zero => omega
      | succ k => exact source_ex hP h0n k x (by omega) hxn hx0
  termination_by k => k
theorem alF_iff {R : Nat → Nat} {n : Nat} (hP : Pre n R) (h0n : 0 < n) : alF R n n 0 = 0 ↔ R 0 = 2 ^ n - 1 := by
  constructor
  · intro h
    refine Nat.eq_of_testBit_eq fun i => ?_
    rw [full_bit]
    by_cases hi : i < n
    · rw [decide_eq_true hi]
      cases h0 : (R 0).testBit i
      · exfalso
        obtain ⟨x, hx, hx0, hxb⟩ := source_ex hP h0n _ i (Nat.le_refl _) hi h0
        rcases alF_zero hP n 0 (by omega) h x (Nat.zero_le _) (by omega) with g | g
        · rw [hx0] at g; cases g
        · rw [hxb] at g; cases g
      · rfl
    · rw [decide_eq_false hi]
      cases h0 : (R 0).testBit i
      · rfl
      · exact absurd (bit_in (hP.lt 0 h0n) h0) hi
  · intro h
    refine alF_full (fun x hx => ?_) n 0 (by omega)
    rw [h, full_bit]; exact decide_eq_true hx
theorem rchI_pre {p : Nat → Bool} {n : Nat} {ways : List S32} (hn : n ≤ 7) (ho : OkW n ways) (h14 : ways.length ≤ 14) : Pre n (rchI p ways n) :=
  ⟨fun f hf => (rchI_rch hn ho h14 hf).1.lt, fun f hf => (rchI_rch hn ho h14 hf).1.has, fun a b c ha hb h1 h2 => (rchI_rch hn ho h14 hb).1.least _ h1 (rchI_rch hn ho h14 ha).2 c h2⟩
theorem alone_zero {p : Nat → Bool} {n : Nat} {ways : List S32} (h1 : 1 ≤ n) (hn : n ≤ 7) (ho : OkW n ways) (h14 : ways.length ≤ 14) : alF (rchI p ways n) n n 0 = 0 ↔ rchI p ways n 0 = 2 ^ n - 1 := alF_iff (rchI_pre hn ho h14) (by omega)
theorem entL_in (ways : List S32) (s : Nat) : ∀ (m : Nat) (x : Int), x ∈ entL ways s m → ∃ j : Nat, j < m ∧ x = (j : Int) ∧ entP (rd_T32 ways (j : Int)) s = true
  | 0, x, h => by cases h
  | m + 1, x, h => by
    rw [entL, List.mem_append] at h
    rcases h with h | h
    · obtain ⟨j, h1, h2, h3⟩ := entL_in ways s m x h
      exact ⟨j, by omega, h2, h3⟩
    · split at h
      · rename_i hp
        exact ⟨m, by omega, by simpa using h, hp⟩
      · cases h
theorem alone_out {p : Nat → Bool} {n : Nat} {ways : List S32} (h1 : 1 ≤ n) (hn : n ≤ 7) (ho : OkW n ways) (h14 : ways.length ≤ 14) (hz : alF (rchI p ways n) n n 0 ≠ 0) {j : Nat} (hj : j < ways.length) (he : entP (rd_T32 ways (j : Int)) (alF (rchI p ways n) n n 0) = true) : p j = true := by
  obtain ⟨c, hc, e⟩ := alF_some n 0 (by omega) hz
  rw [e] at he
  cases hp : p j
  · exfalso
    have hok := ho.2 _ (rd_T32_mem hj)
    unfold entP at he
    simp only [Bool.and_eq_true, Bool.not_eq_true', setF_set] at he
    obtain ⟨he0, he1⟩ := he
    have hA : (rd_T32 ways (j : Int)).f0.toNat < n := by omega
    have hB : (rd_T32 ways (j : Int)).f1.toNat < n := by omega
    simp only [decide_eq_true_eq] at he1
    have hP := rchI_pre (p := p) hn ho h14
    have hm : wayS (rd_T32 ways (j : Int)) ∈ arcsI (fun i => !p i) ways ways.length 0 := (arcsI_mem _ ways _ _ _).2 ⟨j, Nat.zero_le _, by omega, by simp [hp], rfl⟩
    have hsh := (rchI_rch (p := p) hn ho h14 hA).2 _ hm
    have hAB : (rchI p ways n (rd_T32 ways (j : Int)).f0.toNat).testBit (rd_T32 ways (j : Int)).f1.toNat = true := hsh.1 (hP.self _ hA)
    have := hP.trans _ _ c hA hB hAB he1.2
    rw [this, decide_eq_true hA] at he0
    cases he0
  · rfl
end Go.Proofs.YtknecgmmpjggiaaDoor.OAll
