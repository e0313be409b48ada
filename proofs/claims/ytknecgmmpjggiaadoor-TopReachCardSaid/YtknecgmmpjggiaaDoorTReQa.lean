/- A part of the proof of 'topReach_holds', for every input, without a condition. -/
import Derived.Test.YtknecgmmpjggiaaDoorTReOAllx7
namespace Go.Proofs.YtknecgmmpjggiaaDoor.OAll
open Go.RowKit Go.Proofs.YtknecgmmpjggiaaDoorW.PrintWords Go.Proofs.YtknecgmmpjggiaaDoorW.PrintLast Go.Proofs.YtknecgmmpjggiaaDoorW.PrintMore
set_option linter.unusedVariables false
set_option linter.unusedSimpArgs false
def Ev {α : Type} (g : Nat → Option α) (r : α) : Prop := ∃ K, ∀ k, K ≤ k → g k = some r
theorem Ev.pure {α : Type} (r : α) : Ev (fun _ => some r) r := ⟨0, fun _ _ => rfl⟩
theorem Ev.bind {α β : Type} {g : Nat → Option α} {h : Nat → α → Option β} {a : α} {r : β} (hg : Ev g a) (hh : Ev (fun k => h k a) r) : Ev (fun k => (g k).bind (h k)) r := by
  obtain ⟨K, hK⟩ := hg; obtain ⟨L, hL⟩ := hh
  exact ⟨max K L, fun k hk => by show (g k).bind (h k) = _; rw [hK k (by omega), Option.bind_some]; exact hL k (by omega)⟩
theorem Ev.succ {α : Type} {g : Nat → Option α} {r : α} (h : Ev (fun k => g (k + 1)) r) : Ev g r := by
  obtain ⟨K, hK⟩ := h
  exact ⟨K + 1, fun k hk => by obtain ⟨j, rfl⟩ : ∃ j, k = j + 1 := ⟨k - 1, by omega⟩; exact hK j (by omega)⟩
theorem Ev.ex {α : Type} {g : Nat → Option α} {r : α} (h : Ev g r) : ∃ k, g k = some r := by
  obtain ⟨K, hK⟩ := h; exact ⟨K, hK K (Nat.le_refl _)⟩
theorem Ev.congr {α : Type} {g h : Nat → Option α} {r : α} (e : ∀ k, g k = h k) (hh : Ev h r) : Ev g r := by
  obtain ⟨K, hK⟩ := hh; exact ⟨K, fun k hk => by rw [e]; exact hK k hk⟩
theorem w64 {n : Int} (h : -9223372036854775808 ≤ n) (h' : n ≤ 9223372036854775807) : wrap64 n = n := by unfold wrap64; omega
theorem w64n (n : Nat) (h : n ≤ 9223372036854775807) : wrap64 (n : Int) = n := by unfold wrap64; omega
theorem w64s (n : Nat) (h : n < 9223372036854775807) : wrap64 ((n : Int) + 1) = ((n + 1 : Nat) : Int) := by unfold wrap64; omega
theorem pow_small {j : Nat} (h : j ≤ 62) : 2 ^ j ≤ 4611686018427387904 := by
  calc 2 ^ j ≤ 2 ^ 62 := Nat.pow_le_pow_right (by decide) h
    _ = 4611686018427387904 := by decide
theorem pow_cast (j : Nat) : ((2 : Int) ^ j) = ((2 ^ j : Nat) : Int) := by push_cast; rfl
theorem w64pow {j : Nat} (h : j ≤ 62) : wrap64 (2 ^ j) = ((2 ^ j : Nat) : Int) := by
  have := pow_small h
  rw [pow_cast, w64n]; omega
theorem rd_mid (p t : List Int) (x : Int) : rd (p ++ x :: t) (p.length : Int) = x := by
  simp [rd]
theorem rd30_mid (p t : List S30) (x : S30) : rd_T30 (p ++ x :: t) (p.length : Int) = x := by
  simp [rd_T30]
theorem mid_lt {α : Type} (p t : List α) (x : α) : (p.length : Int) < ((p ++ x :: t).length : Int) := by
  simp only [List.length_append, List.length_cons]; omega
theorem nonneg_len {α : Type} (p : List α) : (0 : Int) ≤ (p.length : Int) := Int.natCast_nonneg _
def inb (X : Nat) (v : Int) : Bool := X.testBit v.toNat
def backS (X : Nat) (s : S30) : Bool := !inb X s.f0 && inb X s.f1
def Sane (n : Nat) (st : List S30) : Prop := n ≤ 7 ∧ st.length ≤ 14 ∧ ∀ s ∈ st, 0 ≤ s.f0 ∧ s.f0 < n ∧ 0 ≤ s.f1 ∧ s.f1 < n ∧ s.f0 ≠ s.f1
def isCutB (n : Nat) (st : List S30) (X : Nat) : Bool := decide (0 < X) && decide (X < 2 ^ n - 1) && st.all fun s => !backS X s
def cutsN (n : Nat) (st : List S30) : List Nat := (List.range (2 ^ n - 1)).filter (isCutB n st)
theorem full_w {n : Nat} (h : n ≤ 7) : wrap64 (wrap64 (2 ^ (n : Int).toNat) - 1) = ((2 ^ n - 1 : Nat) : Int) := by
  have hp : (2 : Nat) ^ n ≤ 2 ^ 7 := Nat.pow_le_pow_right (by decide) h
  have : 1 ≤ 2 ^ n := Nat.one_le_two_pow
  rw [Int.toNat_natCast, w64pow (by omega), w64] <;> omega
theorem isCut_pos {n : Nat} {st : List S30} {X : Nat} (h : isCutB n st X = true) : 0 < X ∧ X < 2 ^ n - 1 ∧ ∀ s ∈ st, backS X s = false := by
  simp only [isCutB, Bool.and_eq_true, decide_eq_true_eq, List.all_eq_true] at h
  exact ⟨h.1.1, h.1.2, fun s hs => by simpa using h.2 s hs⟩
theorem isCut_mk {n : Nat} {st : List S30} {X : Nat} (h0 : 0 < X) (h1 : X < 2 ^ n - 1) (h2 : ∀ s ∈ st, backS X s = false) : isCutB n st X = true := by
  simp only [isCutB, Bool.and_eq_true, decide_eq_true_eq, List.all_eq_true]
  exact ⟨⟨h0, h1⟩, fun s hs => by simp [h2 s hs]⟩
def subB (X Y : Nat) : Prop := ∀ i, X.testBit i = true → Y.testBit i = true
theorem subB_refl (X : Nat) : subB X X := fun _ h => h
theorem subB_trans {X Y Z : Nat} (h : subB X Y) (h' : subB Y Z) : subB X Z := fun i hi => h' i (h i hi)
theorem subB_le {X Y : Nat} (h : subB X Y) : X ≤ Y := by
  have : X &&& Y = X := by
    apply Nat.eq_of_testBit_eq; intro i
    rw [Nat.testBit_and]
    cases hx : X.testBit i
    · rfl
    · rw [h i hx]; rfl
  rw [← this]; exact Nat.and_le_right
theorem subB_antisymm {X Y : Nat} (h : subB X Y) (h' : subB Y X) : X = Y := Nat.le_antisymm (subB_le h) (subB_le h')
theorem subB_or (X Y : Nat) : subB X (X ||| Y) := fun i h => by rw [Nat.testBit_or, h]; rfl
theorem or_subB {X Y Z : Nat} (h : subB X Z) (h' : subB Y Z) : subB (X ||| Y) Z := fun i hi => by
  rw [Nat.testBit_or, Bool.or_eq_true] at hi
  exact hi.elim (h i) (h' i)
theorem pow_subB {j X : Nat} (h : X.testBit j = true) : subB (2 ^ j) X := fun i hi => by
  rw [Nat.testBit_two_pow, decide_eq_true_eq] at hi
  rw [← hi]; exact h
theorem full_bit (n i : Nat) : (2 ^ n - 1).testBit i = decide (i < n) := Nat.testBit_two_pow_sub_one n i
theorem subB_full {n X : Nat} (h : X < 2 ^ n) : subB X (2 ^ n - 1) := fun i hi => by
  rw [full_bit, decide_eq_true_eq]
  exact Nat.lt_of_not_le fun hn => by rw [Nat.testBit_lt_two_pow (Nat.lt_of_lt_of_le h (Nat.pow_le_pow_right (by decide) hn))] at hi; cases hi
def shutS (b : Bool) (Y : Nat) (s : S30) : Prop := (inb Y s.f0 = true → inb Y s.f1 = true) ∧ (b = true → inb Y s.f1 = true → inb Y s.f0 = true)
def shut (b : Bool) (st : List S30) (Y : Nat) : Prop := ∀ s ∈ st, shutS b Y s
structure Rch (n : Nat) (st : List S30) (b : Bool) (c X : Nat) : Prop where
  lt : X < 2 ^ n
  has : X.testBit c = true
  least : ∀ Y, Y.testBit c = true → shut b st Y → subB X Y
theorem bit_lt {n : Nat} {v : Int} (h0 : 0 ≤ v) (h : v < n) : 2 ^ v.toNat < 2 ^ n := Nat.pow_lt_pow_right (by decide) (by omega)
def badS (n : Int) (s : S30) : Bool := decide (s.f0 < 0) || decide (s.f0 ≥ n) || decide (s.f1 < 0) || decide (s.f1 ≥ n) || decide (s.f0 = s.f1)
theorem mn_eq (a b : Int) : mn a b < 0 ↔ a < 0 ∨ b < 0 := by unfold mn; split <;> omega
theorem mx_eq (a b n : Int) : mx a b ≥ n ↔ a ≥ n ∨ b ≥ n := by unfold mx; split <;> omega
theorem badS_iff (n : Int) (s : S30) : badS n s = true ↔ s.f0 < 0 ∨ s.f1 < 0 ∨ s.f0 ≥ n ∨ s.f1 ≥ n ∨ s.f0 = s.f1 := by
  simp only [badS, Bool.or_eq_true, decide_eq_true_eq]; omega
def cntB (X : Nat) : Nat → Nat
  | 0 => 0
  | n + 1 => cntB X n + (X.testBit n).toNat
theorem cntB_le (X : Nat) : ∀ n, cntB X n ≤ n
  | 0 => Nat.le_refl _
  | n + 1 => by have := cntB_le X n; have := Bool.toNat_le (X.testBit n); simp only [cntB]; omega
theorem cntB_sub {X Y : Nat} (h : subB X Y) : ∀ n, cntB X n ≤ cntB Y n
  | 0 => Nat.le_refl _
  | n + 1 => by
    have := cntB_sub h n
    have : (X.testBit n).toNat ≤ (Y.testBit n).toNat := by
      cases hx : X.testBit n
      · simp
      · rw [h n hx]; simp
    simp only [cntB]; omega
theorem cntB_lt {X Y : Nat} (h : subB X Y) {i : Nat} (hi : X.testBit i = false) (hi' : Y.testBit i = true) : ∀ n, i < n → cntB X n < cntB Y n
  | 0, hn => by omega
  | n + 1, hn => by
    have h0 := cntB_sub h n
    have h1 : (X.testBit n).toNat ≤ (Y.testBit n).toNat := by
      cases hx : X.testBit n
      · simp
      · rw [h n hx]; simp
    rcases Nat.lt_or_ge i n with h2 | h2
    · have := cntB_lt h hi hi' n h2
      simp only [cntB]; omega
    · obtain rfl : i = n := by omega
      simp only [cntB, hi, hi', Bool.toNat_false, Bool.toNat_true]; omega
theorem sub_ne_bit {X Y : Nat} (h : subB X Y) (hne : X ≠ Y) : ∃ i, X.testBit i = false ∧ Y.testBit i = true := by
  apply Classical.byContradiction
  intro hc
  apply hne
  apply Nat.eq_of_testBit_eq; intro i
  cases hx : X.testBit i
  · cases hy : Y.testBit i
    · rfl
    · exact absurd ⟨i, hx, hy⟩ hc
  · rw [h i hx]
theorem bit_in {n X i : Nat} (hX : X < 2 ^ n) (h : X.testBit i = true) : i < n :=
  Nat.lt_of_not_le fun hn => by rw [Nat.testBit_lt_two_pow (Nat.lt_of_lt_of_le hX (Nat.pow_le_pow_right (by decide) hn))] at h; cases h
theorem cutsN_mem {n : Nat} {st : List S30} {X : Nat} : X ∈ cutsN n st ↔ isCutB n st X = true := by
  rw [cutsN, List.mem_filter, List.mem_range]
  exact ⟨fun h => h.2, fun h => ⟨(isCut_pos h).2.1, h⟩⟩
def bitsFrom (X i d : Nat) : List Nat := (List.range' i d).filter fun j => X.testBit j
def bitsN (X : Nat) : List Nat := bitsFrom X 0 30
def hits (all : List Nat) (X : Nat) : Bool := all.all fun c => !(c &&& X == 0)
def compN (n X : Nat) : Nat := (2 ^ n - 1) ^^^ X
theorem compN_bit {n X : Nat} (hX : X < 2 ^ n) (i : Nat) : (compN n X).testBit i = (decide (i < n) && !X.testBit i) := by
  rw [compN, Nat.testBit_xor, full_bit]
  by_cases h : i < n
  · simp [h]
  · have : X.testBit i = false := Nat.testBit_lt_two_pow (Nat.lt_of_lt_of_le hX (Nat.pow_le_pow_right (by decide) (by omega)))
    simp [h, this]
theorem compN_lt {n X : Nat} (hX : X < 2 ^ n) : compN n X < 2 ^ n := Nat.xor_lt_two_pow (by have := Nat.two_pow_pos n; omega) hX
theorem compN_inb {n X : Nat} (hX : X < 2 ^ n) {v : Int} (h0 : 0 ≤ v) (h1 : v < n) : inb (compN n X) v = !inb X v := by
  rw [inb, inb, compN_bit hX, decide_eq_true (by omega), Bool.true_and]
structure Least (all : List Nat) (i : Nat) (s : Bool × List Nat × Nat) : Prop where
  low : ∀ X, X < i → hits all X = true → s.1 = true ∧ s.2.1.length ≤ (bitsN X).length
  is : s.1 = true → ∃ X, X < i ∧ hits all X = true ∧ s.2.1 = bitsN X
def turnS (s : S30) : S30 := ⟨s.f1, s.f0⟩
end Go.Proofs.YtknecgmmpjggiaaDoor.OAll
