/- A part of the proof of 'fetchStrong_holds', for every input, without a condition. -/
import Derived.Test.YtjbfbdanbpfplaaSTQb
import Derived.Test.YtjbfbdanbpfplaaSTOAllx4
import Derived.Test.YtjbfbdanbpfplaaSTOAllx5
namespace Go.Proofs.Ytjbfbdanbpfplaa.OAll
open Go.RowKit Go.Proofs.YtjbfbdanbpfplaaW.PrintWords Go.Proofs.YtjbfbdanbpfplaaW.PrintLast Go.Proofs.YtjbfbdanbpfplaaW.PrintMore
set_option linter.unusedVariables false
set_option linter.unusedSimpArgs false
def subB (X Y : Nat) : Prop := ∀ i, X.testBit i = true → Y.testBit i = true
theorem subB_refl (X : Nat) : subB X X := fun _ h => h
theorem subB_trans {X Y Z : Nat} (h : subB X Y) (h' : subB Y Z) : subB X Z := fun i hi => h' i (h i hi)
theorem subB_le {X Y : Nat} (h : subB X Y) : X ≤ Y := by
  have : X &&& Y = X := by
    apply Nat.eq_of_testBit_eq; intro i
    rw [Nat.testBit_and]
    cases hx : X.testBit i
    · rfl
    · rw [h i hx]; rfl
  rw [← this]; exact Nat.and_le_right
theorem subB_antisymm {X Y : Nat} (h : subB X Y) (h' : subB Y X) : X = Y := Nat.le_antisymm (subB_le h) (subB_le h')
theorem subB_or (X Y : Nat) : subB X (X ||| Y) := fun i h => by rw [Nat.testBit_or, h]; rfl
theorem or_subB {X Y Z : Nat} (h : subB X Z) (h' : subB Y Z) : subB (X ||| Y) Z := fun i hi => by
  rw [Nat.testBit_or, Bool.or_eq_true] at hi
  exact hi.elim (h i) (h' i)
theorem pow_subB {j X : Nat} (h : X.testBit j = true) : subB (2 ^ j) X := fun i hi => by
  rw [Nat.testBit_two_pow, decide_eq_true_eq] at hi
  rw [← hi]; exact h
theorem full_bit (n i : Nat) : (2 ^ n - 1).testBit i = decide (i < n) := Nat.testBit_two_pow_sub_one n i
theorem subB_full {n X : Nat} (h : X < 2 ^ n) : subB X (2 ^ n - 1) := fun i hi => by
  rw [full_bit, decide_eq_true_eq]
  exact Nat.lt_of_not_le fun hn => by rw [Nat.testBit_lt_two_pow (Nat.lt_of_lt_of_le h (Nat.pow_le_pow_right (by decide) hn))] at hi; cases hi
def shutS (b : Bool) (Y : Nat) (s : S34) : Prop := (inb Y s.f0 = true → inb Y s.f1 = true) ∧ (b = true → inb Y s.f1 = true → inb Y s.f0 = true)
def shut (b : Bool) (st : List S34) (Y : Nat) : Prop := ∀ s ∈ st, shutS b Y s
structure Rch (n : Nat) (st : List S34) (b : Bool) (c X : Nat) : Prop where
  lt : X < 2 ^ n
  has : X.testBit c = true
  least : ∀ Y, Y.testBit c = true → shut b st Y → subB X Y
def addS (X : Nat) (s : S34) : Nat := X ||| 2 ^ s.f0.toNat ||| 2 ^ s.f1.toNat
theorem bit_lt {n : Nat} {v : Int} (h0 : 0 ≤ v) (h : v < n) : 2 ^ v.toNat < 2 ^ n := Nat.pow_lt_pow_right (by decide) (by omega)
theorem addS_lt {n X : Nat} {s : S34} (hX : X < 2 ^ n) (hm : 0 ≤ s.f0 ∧ s.f0 < n ∧ 0 ≤ s.f1 ∧ s.f1 < n ∧ s.f0 ≠ s.f1) : addS X s < 2 ^ n :=
  Nat.or_lt_two_pow (Nat.or_lt_two_pow hX (bit_lt hm.1 hm.2.1)) (bit_lt hm.2.2.1 hm.2.2.2.1)
theorem addS_sub (X : Nat) (s : S34) : subB X (addS X s) := subB_trans (subB_or _ _) (subB_or _ _)
theorem addS_bits (X : Nat) (s : S34) : inb (addS X s) s.f0 = true ∧ inb (addS X s) s.f1 = true := by
  constructor <;> simp [inb, addS, Nat.testBit_or, Nat.testBit_two_pow]
theorem addS_least {X Y : Nat} {s : S34} {b : Bool} (h : subB X Y) (hY : shutS b Y s) (hs : inb X s.f0 = true ∨ b = true ∧ inb X s.f1 = true) : subB (addS X s) Y := by
  have : inb Y s.f0 = true ∧ inb Y s.f1 = true := by
    rcases hs with hs | ⟨hb, hs⟩
    · exact ⟨h _ hs, hY.1 (h _ hs)⟩
    · exact ⟨hY.2 hb (h _ hs), h _ hs⟩
  exact or_subB (or_subB h (pow_subB this.1)) (pow_subB this.2)
theorem addS_grows {X : Nat} {s : S34} (h : ¬ (inb X s.f0 = true ∧ inb X s.f1 = true)) : X < addS X s := by
  refine Nat.lt_of_le_of_ne (subB_le (addS_sub X s)) fun e => h ?_
  have := addS_bits X s
  rw [← e] at this; exact this
theorem or_add_eq {n X : Nat} {s : S34} (hn : n ≤ 7) (hX : X < 2 ^ n) (hm : 0 ≤ s.f0 ∧ s.f0 < n ∧ 0 ≤ s.f1 ∧ s.f1 < n ∧ s.f0 ≠ s.f1) :
    Go.bits .or .i64 (Go.bits .or .i64 (X : Int) (wrap64 (2 ^ s.f0.toNat))) (wrap64 (2 ^ s.f1.toNat)) = ((addS X s : Nat) : Int) := by
  have h7 : (2 : Nat) ^ n ≤ 2 ^ 7 := Nat.pow_le_pow_right (by decide) hn
  have h0 := bit_lt hm.1 hm.2.1
  have h1 := bit_lt hm.2.2.1 hm.2.2.2.1
  have h2 : X ||| 2 ^ s.f0.toNat < 2 ^ n := Nat.or_lt_two_pow hX h0
  rw [w64pow (by omega), w64pow (by omega), or_nat _ _ (by omega) (by omega), or_nat _ _ (by omega) (by omega)]
  rfl
theorem reached_pass {n : Nat} {st : List S34} (hs : Sane n st) (b : Bool) (c X0 : Nat)
    (H : ∀ X, X0 < X → Rch n st b c X → ∃ R : Nat, Ev (fun k => trishawref09_reached.l0 k st b X true) (R : Int) ∧ Rch n st b c R ∧ shut b st R) :
    ∀ (suf pre : List S34) (X : Nat) (ch : Bool), st = pre ++ suf → Rch n st b c X → (ch = true ∧ X0 < X ∨ ch = false ∧ X = X0 ∧ shut b pre X0) →
      ∃ R : Nat, Ev (fun k => trishawref09_reached.l1 k st b X ch pre.length) (R : Int) ∧ Rch n st b c R ∧ shut b st R := by
  intro suf
  induction suf with
  | nil =>
    intro pre X ch e hX hc
    have e3 : ¬ (pre.length : Int) < (st.length : Int) := by rw [e]; simp
    rcases hc with ⟨rfl, hlt⟩ | ⟨rfl, rfl, hp⟩
    · obtain ⟨R, hR, hg⟩ := H X hlt hX
      refine ⟨R, Ev.succ ?_, hg⟩
      simp only [trishawref09_reached.l1, e3, if_false]
      exact hR
    · refine ⟨X, Ev.succ ?_, hX, by rw [e, List.append_nil]; exact hp⟩
      simp only [trishawref09_reached.l1, e3, if_false]
      refine Ev.succ ?_
      simp only [trishawref09_reached.l0, Bool.false_eq_true, if_false]
      exact Ev.pure _
  | cons s t ih =>
    intro pre X ch e hX hc
    have hm := sane_mem hs e
    have hl := sane_le hs e
    have hn := sane_len hs e
    have e7 : (pre ++ [s]).length = pre.length + 1 := by simp
    have e1 : wrap64 ((pre.length : Int) + 1) = (((pre ++ [s]).length : Nat) : Int) := by
      rw [w64s _ (by omega), e7]
    have e2 : rd_T34 st (pre.length : Int) = s := by rw [e]; exact rd34_mid _ _ _
    have e3 : (pre.length : Int) < (st.length : Int) := by rw [e]; exact mid_lt _ _ _
    have ee : st = (pre ++ [s]) ++ t := by rw [e]; simp
    have hmem : s ∈ st := by rw [e]; simp
    have stay : shutS b X s → ∃ R : Nat, Ev (fun k => trishawref09_reached.l1 k st b X ch (((pre ++ [s]).length : Nat) : Int)) (R : Int) ∧ Rch n st b c R ∧ shut b st R := fun hq => by
      refine ih (pre ++ [s]) X ch ee hX ?_
      rcases hc with hc | ⟨rfl, rfl, hp⟩
      · exact Or.inl hc
      · refine Or.inr ⟨rfl, rfl, fun s' hs' => ?_⟩
        rcases List.mem_append.mp hs' with h | h
        · exact hp s' h
        · obtain rfl := List.mem_singleton.mp h; exact hq
    have grow : ¬ (inb X s.f0 = true ∧ inb X s.f1 = true) → (inb X s.f0 = true ∨ b = true ∧ inb X s.f1 = true) → ∃ R : Nat, Ev (fun k => trishawref09_reached.l1 k st b ((addS X s : Nat) : Int) true (((pre ++ [s]).length : Nat) : Int)) (R : Int) ∧ Rch n st b c R ∧ shut b st R := fun hg hq => by
      refine ih (pre ++ [s]) (addS X s) true ee ⟨addS_lt hX.lt hm, addS_sub X s c hX.has, fun Y hY hY' => addS_least (hX.least Y hY hY') (hY' s hmem) hq⟩ (Or.inl ⟨rfl, ?_⟩)
      have := addS_grows hg
      rcases hc with hc | ⟨_, rfl, _⟩ <;> omega
    have red : ∀ R : Int, Ev (fun k => trishawref09_reached.l1 (k + 1) st b X ch (pre.length : Int)) R → Ev (fun k => trishawref09_reached.l1 k st b X ch (pre.length : Int)) R := fun R h => Ev.succ h
    have e6 := or_add_eq hs.1 hX.lt hm
    have un : (fun k => trishawref09_reached.l1 (k + 1) st b X ch (pre.length : Int)) = fun k => if inb X s.f0 = true then (if inb X s.f1 = true then trishawref09_reached.l1 k st b X ch (((pre ++ [s]).length : Nat) : Int) else trishawref09_reached.l1 k st b ((addS X s : Nat) : Int) true (((pre ++ [s]).length : Nat) : Int)) else (if b = true ∧ inb X s.f1 = true then trishawref09_reached.l1 k st b ((addS X s : Nat) : Int) true (((pre ++ [s]).length : Nat) : Int) else trishawref09_reached.l1 k st b X ch (((pre ++ [s]).length : Nat) : Int)) := by
      funext k
      simp only [trishawref09_reached.l1, e1, e2, e3, e6, hm.1, hm.2.2.1, hl.1, hl.2, if_true, nonneg_len, bit_mod X _, inb]
      rcases Bool.eq_false_or_eq_true (X.testBit s.f0.toNat) with h0 | h0 <;> rcases Bool.eq_false_or_eq_true (X.testBit s.f1.toNat) with h1 | h1 <;> cases b <;> simp [h0, h1]
    cases h0 : inb X s.f0 <;> cases h1 : inb X s.f1
    · obtain ⟨R, hR, hg⟩ := stay ⟨fun h => by rw [h0] at h; (cases h), fun _ h => by rw [h1] at h; (cases h)⟩
      refine ⟨R, red R ?_, hg⟩
      rw [un]; simp only [h0, h1, Bool.false_eq_true, and_false, if_false]; exact hR
    · cases hb : b
      · subst hb
        obtain ⟨R, hR, hg⟩ := stay ⟨fun h => by rw [h0] at h; (cases h), fun h => by (cases h)⟩
        refine ⟨R, red R ?_, hg⟩
        rw [un]; simp only [h0, Bool.false_eq_true, false_and, if_false]; exact hR
      · obtain ⟨R, hR, hg⟩ := grow (by rw [h0]; intro h; exact absurd h.1 (by decide)) (Or.inr ⟨hb, h1⟩)
        subst hb
        refine ⟨R, red R ?_, hg⟩
        rw [un]; simp only [h0, h1, Bool.false_eq_true, and_true, if_false, if_true]; exact hR
    · obtain ⟨R, hR, hg⟩ := grow (by rw [h1]; intro h; exact absurd h.2 (by decide)) (Or.inl h0)
      refine ⟨R, red R ?_, hg⟩
      rw [un]; simp only [h0, h1, Bool.false_eq_true, if_false, if_true]; exact hR
    · obtain ⟨R, hR, hg⟩ := stay ⟨fun _ => h1, fun _ _ => h0⟩
      refine ⟨R, red R ?_, hg⟩
      rw [un]; simp only [h0, h1, if_true]; exact hR
theorem reached_l0 {n : Nat} {st : List S34} (hs : Sane n st) (b : Bool) (c : Nat) : ∀ (d X : Nat), 2 ^ n ≤ d + X → Rch n st b c X →
    ∃ R : Nat, Ev (fun k => trishawref09_reached.l0 k st b X true) (R : Int) ∧ Rch n st b c R ∧ shut b st R := by
  intro d
  induction d with
  | zero => intro X hd hX; have := hX.lt; omega
  | succ d ih =>
    intro X hd hX
    obtain ⟨R, hR, hg⟩ := reached_pass hs b c X (fun X' hlt hX' => ih X' (by omega) hX') st [] X false rfl hX (Or.inr ⟨rfl, rfl, fun s h => by cases h⟩)
    refine ⟨R, Ev.succ ?_, hg⟩
    simp only [trishawref09_reached.l0, if_true]
    exact hR
theorem reached_ev {n : Nat} {st : List S34} (hs : Sane n st) (b : Bool) (c : Nat) (hc : c < n) :
    ∃ R : Nat, Ev (fun k => trishawref09_reached.f k st c b) (R : Int) ∧ Rch n st b c R ∧ shut b st R := by
  have h64 : (c : Int) ≤ 64 := by have := hs.1; omega
  obtain ⟨R, hR, hg⟩ := reached_l0 hs b c (2 ^ n) (2 ^ c) (Nat.le_add_right _ _) ⟨Nat.pow_lt_pow_right (by decide) hc, by simp, fun Y hY _ => pow_subB hY⟩
  refine ⟨R, ?_, hg⟩
  have e5 : wrap64 (2 ^ c) = ((2 ^ c : Nat) : Int) := w64pow (by have := hs.1; omega)
  simp only [trishawref09_reached.f, Int.natCast_nonneg, h64, if_true, Int.toNat_natCast, e5]
  exact hR
end Go.Proofs.Ytjbfbdanbpfplaa.OAll
