/- A part of the proof of 'fetchStrong_holds', for every input, without a condition. -/
import Derived.Test.YtjbfbdanbpfplaaSTOAllx2
import Derived.Test.YtjbfbdanbpfplaaSTOAllx3
namespace Go.Proofs.Ytjbfbdanbpfplaa.OAll
open Go.RowKit Go.Proofs.YtjbfbdanbpfplaaW.PrintWords Go.Proofs.YtjbfbdanbpfplaaW.PrintLast Go.Proofs.YtjbfbdanbpfplaaW.PrintMore
set_option linter.unusedVariables false
set_option linter.unusedSimpArgs false
def Ev {α : Type} (g : Nat → Option α) (r : α) : Prop := ∃ K, ∀ k, K ≤ k → g k = some r
theorem Ev.pure {α : Type} (r : α) : Ev (fun _ => some r) r := ⟨0, fun _ _ => rfl⟩
theorem Ev.bind {α β : Type} {g : Nat → Option α} {h : Nat → α → Option β} {a : α} {r : β} (hg : Ev g a) (hh : Ev (fun k => h k a) r) : Ev (fun k => (g k).bind (h k)) r := by
  obtain ⟨K, hK⟩ := hg; obtain ⟨L, hL⟩ := hh
  exact ⟨max K L, fun k hk => by show (g k).bind (h k) = _; rw [hK k (by omega), Option.bind_some]; exact hL k (by omega)⟩
theorem Ev.succ {α : Type} {g : Nat → Option α} {r : α} (h : Ev (fun k => g (k + 1)) r) : Ev g r := by
  obtain ⟨K, hK⟩ := h
  exact ⟨K + 1, fun k hk => by obtain ⟨j, rfl⟩ : ∃ j, k = j + 1 := ⟨k - 1, by omega⟩; exact hK j (by omega)⟩
theorem Ev.mono {α : Type} {g : Nat → Option α} (hm : ∀ k, LeO (g k) (g (k + 1))) {k : Nat} {r : α} (h : g k = some r) : Ev g r := by
  refine ⟨k, fun j hj => ?_⟩
  obtain ⟨d, rfl⟩ := Nat.exists_eq_add_of_le hj
  clear hj
  induction d with
  | zero => exact h
  | succ d ih => exact hm _ _ ih
theorem Ev.ex {α : Type} {g : Nat → Option α} {r : α} (h : Ev g r) : ∃ k, g k = some r := by
  obtain ⟨K, hK⟩ := h; exact ⟨K, hK K (Nat.le_refl _)⟩
theorem Ev.congr {α : Type} {g h : Nat → Option α} {r : α} (e : ∀ k, g k = h k) (hh : Ev h r) : Ev g r := by
  obtain ⟨K, hK⟩ := hh; exact ⟨K, fun k hk => by rw [e]; exact hK k hk⟩
theorem w64 {n : Int} (h : -9223372036854775808 ≤ n) (h' : n ≤ 9223372036854775807) : wrap64 n = n := by unfold wrap64; omega
theorem w64n (n : Nat) (h : n ≤ 9223372036854775807) : wrap64 (n : Int) = n := by unfold wrap64; omega
theorem w64s (n : Nat) (h : n < 9223372036854775807) : wrap64 ((n : Int) + 1) = ((n + 1 : Nat) : Int) := by unfold wrap64; omega
theorem pow_small {j : Nat} (h : j ≤ 62) : 2 ^ j ≤ 4611686018427387904 := by
  calc 2 ^ j ≤ 2 ^ 62 := Nat.pow_le_pow_right (by decide) h
    _ = 4611686018427387904 := by decide
theorem pow_cast (j : Nat) : ((2 : Int) ^ j) = ((2 ^ j : Nat) : Int) := by push_cast; rfl
theorem w64pow {j : Nat} (h : j ≤ 62) : wrap64 (2 ^ j) = ((2 ^ j : Nat) : Int) := by
  have := pow_small h
  rw [pow_cast, w64n]; omega
theorem wraps_i64 (n : Int) (h₀ : 0 ≤ n) (h₁ : n < 2 ^ 63) : IntKind.i64.wrap n = n := by rw [IntKind.wrap_i64]; omega
theorem and_nat (a b : Nat) (ha : a < 2 ^ 63) (hb : b < 2 ^ 63) : Go.bits .and .i64 (a : Int) (b : Int) = ((a &&& b : Nat) : Int) :=
  (bits_nat .i64 63 (by decide) wraps_i64 a b ha hb).1
theorem or_nat (a b : Nat) (ha : a < 2 ^ 63) (hb : b < 2 ^ 63) : Go.bits .or .i64 (a : Int) (b : Int) = ((a ||| b : Nat) : Int) :=
  (bits_nat .i64 63 (by decide) wraps_i64 a b ha hb).2
theorem and_one (a : Nat) (ha : a < 2 ^ 63) : Go.bits .and .i64 (a : Int) 1 = ((a % 2 : Nat) : Int) := by
  have := and_nat a 1 ha (by decide)
  rw [Nat.and_one_is_mod] at this
  exact this
theorem shr_nat (a j : Nat) : ((a : Int) / 2 ^ j) = ((a / 2 ^ j : Nat) : Int) := by rw [pow_cast]; exact (Int.natCast_ediv _ _).symm
theorem bit_and (a j : Nat) (ha : a < 2 ^ 63) : Go.bits .and .i64 ((a : Int) / 2 ^ j) 1 = if a.testBit j then 1 else 0 := by
  rw [shr_nat, and_one _ (Nat.lt_of_le_of_lt (Nat.div_le_self _ _) ha), Nat.testBit_eq_decide_div_mod_eq]
  rcases Nat.mod_two_eq_zero_or_one (a / 2 ^ j) with h | h <;> simp [h]
theorem bit_mod (a j : Nat) : Int.tmod ((a : Int) / 2 ^ j) 2 = if a.testBit j then 1 else 0 := by
  rw [shr_nat, Nat.testBit_eq_decide_div_mod_eq]
  have : Int.tmod ((a / 2 ^ j : Nat) : Int) 2 = ((a / 2 ^ j % 2 : Nat) : Int) := by
    rw [Int.tmod_eq_emod_of_nonneg (Int.natCast_nonneg _)]; omega
  rw [this]
  rcases Nat.mod_two_eq_zero_or_one (a / 2 ^ j) with h | h <;> simp [h]
theorem rd_mid (p t : List Int) (x : Int) : rd (p ++ x :: t) (p.length : Int) = x := by
  simp [rd]
theorem rd34_mid (p t : List S34) (x : S34) : rd_T34 (p ++ x :: t) (p.length : Int) = x := by
  simp [rd_T34]
theorem mid_lt {α : Type} (p t : List α) (x : α) : (p.length : Int) < ((p ++ x :: t).length : Int) := by
  simp only [List.length_append, List.length_cons]; omega
theorem nonneg_len {α : Type} (p : List α) : (0 : Int) ≤ (p.length : Int) := Int.natCast_nonneg _
def inb (X : Nat) (v : Int) : Bool := X.testBit v.toNat
def backS (X : Nat) (s : S34) : Bool := !inb X s.f0 && inb X s.f1
def Sane (n : Nat) (st : List S34) : Prop := n ≤ 7 ∧ st.length ≤ 14 ∧ ∀ s ∈ st, 0 ≤ s.f0 ∧ s.f0 < n ∧ 0 ≤ s.f1 ∧ s.f1 < n ∧ s.f0 ≠ s.f1
def isCutB (n : Nat) (st : List S34) (X : Nat) : Bool := decide (0 < X) && decide (X < 2 ^ n - 1) && st.all fun s => !backS X s
def cutsN (n : Nat) (st : List S34) : List Nat := (List.range (2 ^ n - 1)).filter (isCutB n st)
def ints (l : List Nat) : List Int := l.map Int.ofNat
end Go.Proofs.Ytjbfbdanbpfplaa.OAll
