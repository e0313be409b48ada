/- A part of the proof of 'fetchContracted_holds', for every input, without a condition. -/
import Derived.Test.YtjbfbdanbpfplaaSDQg
import Derived.Test.YtjbfbdanbpfplaaSDOAllx14
import Derived.Test.YtjbfbdanbpfplaaSDOAllx12
import Derived.Test.YtjbfbdanbpfplaaSDQm
import Derived.Test.YtjbfbdanbpfplaaSDOAllx11
namespace Go.Proofs.Ytjbfbdanbpfplaa.OAll
open Go.RowKit Go.Proofs.YtjbfbdanbpfplaaW.PrintWords Go.Proofs.YtjbfbdanbpfplaaW.PrintLast Go.Proofs.YtjbfbdanbpfplaaW.PrintMore
set_option linter.unusedVariables false
set_option linter.unusedSimpArgs false
def bitsOf (p : Nat → Bool) : Nat → Nat
  | 0 => 0
  | n + 1 => if p n then bitsOf p n ||| 2 ^ n else bitsOf p n
theorem bitsOf_bit (p : Nat → Bool) (n i : Nat) : (bitsOf p n).testBit i = (decide (i < n) && p i) := by
  induction n with
  | zero => simp [bitsOf]
  | succ n ih =>
    rw [bitsOf]
    by_cases hp : p n = true
    · rw [if_pos hp, Nat.testBit_or, ih, Nat.testBit_two_pow]
      by_cases hi : i = n
      · subst hi; simp [hp]
      · have : decide (n = i) = false := decide_eq_false (by omega)
        rw [this, Bool.or_false]
        by_cases h : i < n
        · rw [decide_eq_true h, decide_eq_true (by omega)]
        · rw [decide_eq_false h, decide_eq_false (by omega)]
    · rw [if_neg hp, ih]
      by_cases hi : i = n
      · subst hi; simp [hp]
      · by_cases h : i < n
        · rw [decide_eq_true h, decide_eq_true (by omega)]
        · rw [decide_eq_false h, decide_eq_false (by omega)]
theorem bitsOf_lt (p : Nat → Bool) : ∀ n, bitsOf p n < 2 ^ n
  | 0 => by simp [bitsOf]
  | n + 1 => by
    have h := bitsOf_lt p n
    have e : 2 ^ (n + 1) = 2 ^ n + 2 ^ n := by rw [Nat.pow_succ]; omega
    rw [bitsOf]
    split
    · exact Nat.or_lt_two_pow (by omega) (by omega)
    · omega
def toF (lo hi v : Nat) : Nat := if v = hi then lo else if v > hi then v - 1 else v
def toS (lo hi : Nat) (s : S34) : S34 := ⟨(toF lo hi s.f0.toNat : Nat), (toF lo hi s.f1.toNat : Nat)⟩
def conSt (lo hi : Nat) (st : List S34) : List S34 := (st.filter fun s => !(toF lo hi s.f0.toNat == toF lo hi s.f1.toNat)).map (toS lo hi)
def preN (n lo hi Z : Nat) : Nat := bitsOf (fun v => Z.testBit (toF lo hi v)) n
def imgFrom (lo hi X : Nat) : Nat → Nat → Nat → Nat
  | _, 0, acc => acc
  | v, d + 1, acc => imgFrom lo hi X (v + 1) d (if X.testBit v then acc ||| 2 ^ toF lo hi v else acc)
def imgN (n lo hi X : Nat) : Nat := imgFrom lo hi X 0 n 0
theorem imgFrom_bit (lo hi X : Nat) : ∀ (d v acc i : Nat), (imgFrom lo hi X v d acc).testBit i = true ↔ acc.testBit i = true ∨ ∃ u, v ≤ u ∧ u < v + d ∧ X.testBit u = true ∧ toF lo hi u = i
  | 0, v, acc, i => by simp only [imgFrom]; exact ⟨Or.inl, fun h => h.elim id fun ⟨u, h1, h2, _⟩ => by omega⟩
  | d + 1, v, acc, i => by
    rw [imgFrom, imgFrom_bit lo hi X d (v + 1)]
    constructor
    · rintro (h | ⟨u, h1, h2, h3⟩)
      · split at h
        · rename_i hb
          rw [Nat.testBit_or, Bool.or_eq_true, Nat.testBit_two_pow, decide_eq_true_eq] at h
          exact h.imp id fun h => ⟨v, Nat.le_refl _, by omega, hb, h⟩
        · exact Or.inl h
      · exact Or.inr ⟨u, by omega, by omega, h3⟩
    · rintro (h | ⟨u, h1, h2, h3, h4⟩)
      · left; split
        · rw [Nat.testBit_or, h]; rfl
        · exact h
      · by_cases hu : u = v
        · subst hu; left
          rw [if_pos h3, Nat.testBit_or, Bool.or_eq_true, Nat.testBit_two_pow, decide_eq_true_eq]
          exact Or.inr h4
        · exact Or.inr ⟨u, by omega, by omega, h3, h4⟩
theorem imgN_bit {n lo hi X i : Nat} : (imgN n lo hi X).testBit i = true ↔ ∃ u, u < n ∧ X.testBit u = true ∧ toF lo hi u = i := by
  rw [imgN, imgFrom_bit]
  simp
theorem toF_lt {n lo hi v : Nat} (h1 : lo < hi) (h2 : hi < n) (hv : v < n) : toF lo hi v < n - 1 := by
  unfold toF; split
  · omega
  · split <;> omega
theorem toF_eq {lo hi u v : Nat} (h1 : lo < hi) (h : toF lo hi u = toF lo hi v) : u = v ∨ (u = lo ∧ v = hi) ∨ (u = hi ∧ v = lo) := by
  unfold toF at h
  split at h <;> split at h <;> (try split at h) <;> (try split at h) <;> omega
theorem toF_onto {n lo hi w : Nat} (h1 : lo < hi) (h2 : hi < n) (hw : w < n - 1) : ∃ v, v < n ∧ toF lo hi v = w := by
  by_cases h : w < hi
  · exact ⟨w, by omega, by rw [toF, if_neg (by omega), if_neg (by omega)]⟩
  · exact ⟨w + 1, by omega, by rw [toF, if_neg (by omega), if_pos (by omega)]; omega⟩
theorem imgN_lt {n lo hi X : Nat} (h1 : lo < hi) (h2 : hi < n) : imgN n lo hi X < 2 ^ (n - 1) := by
  apply Nat.lt_pow_two_of_testBit
  intro i hi'
  cases hb : (imgN n lo hi X).testBit i
  · rfl
  · obtain ⟨u, hu, _, e⟩ := imgN_bit.mp hb
    have := toF_lt h1 h2 hu
    omega
theorem preN_bit (n lo hi Z v : Nat) : (preN n lo hi Z).testBit v = (decide (v < n) && Z.testBit (toF lo hi v)) := bitsOf_bit _ n v
theorem img_pre {n lo hi Z : Nat} (h1 : lo < hi) (h2 : hi < n) (hZ : Z < 2 ^ (n - 1)) : imgN n lo hi (preN n lo hi Z) = Z := by
  apply Nat.eq_of_testBit_eq; intro i
  rw [Bool.eq_iff_iff, imgN_bit]
  constructor
  · rintro ⟨u, hu, hb, rfl⟩
    rw [preN_bit, Bool.and_eq_true] at hb; exact hb.2
  · intro h
    obtain ⟨v, hv, rfl⟩ := toF_onto h1 h2 (bit_in hZ h)
    exact ⟨v, hv, by rw [preN_bit, decide_eq_true hv, h]; rfl, rfl⟩
theorem pre_img {n lo hi X : Nat} (h1 : lo < hi) (h2 : hi < n) (hX : X < 2 ^ n) (hb : X.testBit lo = X.testBit hi) : preN n lo hi (imgN n lo hi X) = X := by
  apply Nat.eq_of_testBit_eq; intro v
  rw [Bool.eq_iff_iff, preN_bit, Bool.and_eq_true, decide_eq_true_eq, imgN_bit]
  constructor
  · rintro ⟨hv, u, hu, hx, e⟩
    rcases toF_eq h1 e with rfl | ⟨rfl, rfl⟩ | ⟨rfl, rfl⟩
    · exact hx
    · rw [← hb]; exact hx
    · rw [hb]; exact hx
  · intro h
    have hv := bit_in hX h
    exact ⟨hv, v, hv, h, rfl⟩
theorem pre_same {n lo hi Z : Nat} (h1 : lo < hi) (h2 : hi < n) : (preN n lo hi Z).testBit lo = (preN n lo hi Z).testBit hi := by
  rw [preN_bit, preN_bit, decide_eq_true (by omega), decide_eq_true h2]
  have : toF lo hi lo = toF lo hi hi := by rw [toF, toF, if_neg (by omega), if_neg (by omega), if_pos rfl]
  rw [this]
theorem preN_lt (n lo hi Z : Nat) : preN n lo hi Z < 2 ^ n := bitsOf_lt _ n
theorem pre_inb {n : Nat} {lo hi Z : Nat} {v : Int} (h0 : 0 ≤ v) (h : v < n) : inb (preN n lo hi Z) v = Z.testBit (toF lo hi v.toNat) := by
  rw [inb, preN_bit, decide_eq_true (by omega), Bool.true_and]
theorem con_mem {lo hi : Nat} {st : List S34} {s : S34} : s ∈ conSt lo hi st ↔ ∃ t ∈ st, toF lo hi t.f0.toNat ≠ toF lo hi t.f1.toNat ∧ toS lo hi t = s := by
  rw [conSt, List.mem_map]
  constructor
  · rintro ⟨t, ht, e⟩
    rw [List.mem_filter] at ht
    exact ⟨t, ht.1, by simpa using ht.2, e⟩
  · rintro ⟨t, ht, hne, e⟩
    exact ⟨t, List.mem_filter.mpr ⟨ht, by simpa using hne⟩, e⟩
theorem sane_con {n : Nat} {st : List S34} (hs : Sane n st) {lo hi : Nat} (h1 : lo < hi) (h2 : hi < n) : Sane (n - 1) (conSt lo hi st) := by
  have h7 := hs.1
  refine ⟨by omega, ?_, fun s h => ?_⟩
  · rw [conSt, List.length_map]
    exact Nat.le_trans (List.length_filter_le _ _) hs.2.1
  · obtain ⟨t, ht, hne, rfl⟩ := con_mem.mp h
    have hm := hs.2.2 t ht
    have a0 := toF_lt h1 h2 (v := t.f0.toNat) (by omega)
    have a1 := toF_lt h1 h2 (v := t.f1.toNat) (by omega)
    simp only [toS]
    omega
theorem conn_con {n : Nat} {st : List S34} (hs : Sane n st) {lo hi : Nat} (h1 : lo < hi) (h2 : hi < n) (h3 : 3 ≤ n) (hc : connB n st = true) : connB (n - 1) (conSt lo hi st) = true := by
  refine (conn_iff (sane_con hs h1 h2) (by omega)).mpr fun Y hY hY0 hYs => ?_
  have hp0 : (preN n lo hi Y).testBit 0 = true := by
    rw [preN_bit, decide_eq_true (by omega), toF, if_neg (by omega), if_neg (by omega), hY0]; rfl
  have hps : shut true st (preN n lo hi Y) := fun s hs' => by
    have hm := hs.2.2 s hs'
    rw [shutS, pre_inb hm.1 hm.2.1, pre_inb hm.2.2.1 hm.2.2.2.1]
    by_cases he : toF lo hi s.f0.toNat = toF lo hi s.f1.toNat
    · rw [he]; exact ⟨id, fun _ => id⟩
    · have := hYs (toS lo hi s) (con_mem.mpr ⟨s, hs', he, rfl⟩)
      simpa [shutS, inb, toS] using this
  have hf := (conn_iff hs (by omega)).mp hc _ (preN_lt n lo hi Y) hp0 hps
  apply Nat.eq_of_testBit_eq; intro w
  rw [full_bit]
  by_cases hw : w < n - 1
  · obtain ⟨v, hv, rfl⟩ := toF_onto h1 h2 hw
    rw [decide_eq_true hw]
    have := preN_bit n lo hi Y v
    rw [hf, full_bit, decide_eq_true hv, Bool.true_and] at this
    exact this.symm
  · rw [decide_eq_false hw]
    exact Nat.testBit_lt_two_pow (Nat.lt_of_lt_of_le hY (Nat.pow_le_pow_right (by decide) (by omega)))
theorem pre_cut {n : Nat} {st : List S34} (hs : Sane n st) {lo hi : Nat} (h1 : lo < hi) (h2 : hi < n) {Z : Nat} (hZ : Z < 2 ^ (n - 1)) : isCutB (n - 1) (conSt lo hi st) Z = true ↔ isCutB n st (preN n lo hi Z) = true := by
  have hpl := preN_lt n lo hi Z
  have hzero : preN n lo hi Z = 0 ↔ Z = 0 := by
    constructor
    · intro h
      have := img_pre h1 h2 hZ
      rw [h] at this
      rw [← this]
      apply Nat.eq_of_testBit_eq; intro i
      rw [Nat.zero_testBit]
      cases hb : (imgN n lo hi 0).testBit i
      · rfl
      · obtain ⟨u, _, hu, _⟩ := imgN_bit.mp hb; simp at hu
    · rintro rfl
      apply Nat.eq_of_testBit_eq; intro i
      rw [preN_bit]; simp
  have hfull : preN n lo hi Z = 2 ^ n - 1 ↔ Z = 2 ^ (n - 1) - 1 := by
    constructor
    · intro h
      apply Nat.eq_of_testBit_eq; intro w
      rw [full_bit]
      by_cases hw : w < n - 1
      · obtain ⟨v, hv, rfl⟩ := toF_onto h1 h2 hw
        have := preN_bit n lo hi Z v
        rw [h, full_bit, decide_eq_true hv, Bool.true_and] at this
        rw [decide_eq_true hw]; exact this.symm
      · rw [decide_eq_false hw]
        exact Nat.testBit_lt_two_pow (Nat.lt_of_lt_of_le hZ (Nat.pow_le_pow_right (by decide) (by omega)))
    · rintro rfl
      apply Nat.eq_of_testBit_eq; intro v
      rw [preN_bit, full_bit, full_bit]
      by_cases hv : v < n
      · rw [decide_eq_true hv, decide_eq_true (toF_lt h1 h2 hv)]; rfl
      · rw [decide_eq_false hv]; rfl
  have hback : (∀ s ∈ conSt lo hi st, backS Z s = false) ↔ ∀ s ∈ st, backS (preN n lo hi Z) s = false := by
    constructor
    · intro h s hs'
      have hm := hs.2.2 s hs'
      rw [backS, pre_inb hm.1 hm.2.1, pre_inb hm.2.2.1 hm.2.2.2.1]
      by_cases he : toF lo hi s.f0.toNat = toF lo hi s.f1.toNat
      · rw [he]; cases Z.testBit (toF lo hi s.f1.toNat) <;> rfl
      · have := h (toS lo hi s) (con_mem.mpr ⟨s, hs', he, rfl⟩)
        simpa [backS, inb, toS] using this
    · intro h s hs'
      obtain ⟨t, ht, hne, rfl⟩ := con_mem.mp hs'
      have hm := hs.2.2 t ht
      have := h t ht
      rw [backS, pre_inb hm.1 hm.2.1, pre_inb hm.2.2.1 hm.2.2.2.1] at this
      simpa [backS, inb, toS] using this
  constructor
  · intro h
    have hp := isCut_pos h
    exact isCut_mk (by have := mt hzero.mp; omega) (by have := mt hfull.mp; omega) (hback.mp hp.2.2)
  · intro h
    have hp := isCut_pos h
    exact isCut_mk (by have := mt hzero.mpr; omega) (by have := mt hfull.mpr; omega) (hback.mpr hp.2.2)
theorem con_count {n : Nat} {st : List S34} (hs : Sane n st) {lo hi : Nat} (h1 : lo < hi) (h2 : hi < n) :
    ((cutsN n st).filter fun X => X.testBit lo == X.testBit hi).length = (cutsN (n - 1) (conSt lo hi st)).length := by
  have hlt : ∀ {X}, X ∈ cutsN n st → X < 2 ^ n := fun h => by have := isCut_pos (cutsN_mem.mp h); omega
  have hlt' : ∀ {X}, X ∈ cutsN (n - 1) (conSt lo hi st) → X < 2 ^ (n - 1) := fun h => by have := isCut_pos (cutsN_mem.mp h); omega
  have hperm : (((cutsN n st).filter fun X => X.testBit lo == X.testBit hi).map (imgN n lo hi)).Perm (cutsN (n - 1) (conSt lo hi st)) := by
    refine (List.perm_ext_iff_of_nodup ?_ (sorted_nodup (cutsN_sorted2 _ _))).mpr fun Z => ?_
    · rw [List.Nodup, List.pairwise_map]
      refine List.Pairwise.imp_of_mem (fun {a b} ha hb hlt2 e => ?_) (List.Pairwise.filter _ (cutsN_sorted2 n st))
      rw [List.mem_filter] at ha hb
      have e1 := pre_img h1 h2 (hlt ha.1) (by simpa using ha.2)
      have e2 := pre_img h1 h2 (hlt hb.1) (by simpa using hb.2)
      rw [e, e2] at e1
      omega
    · rw [List.mem_map]
      constructor
      · rintro ⟨X, hX, rfl⟩
        rw [List.mem_filter] at hX
        have e1 := pre_img h1 h2 (hlt hX.1) (by simpa using hX.2)
        rw [cutsN_mem, pre_cut hs h1 h2 (imgN_lt h1 h2), e1]
        exact cutsN_mem.mp hX.1
      · intro hZ
        have hl := hlt' hZ
        refine ⟨preN n lo hi Z, List.mem_filter.mpr ⟨cutsN_mem.mpr ((pre_cut hs h1 h2 hl).mp (cutsN_mem.mp hZ)), by rw [pre_same h1 h2]; exact beq_self_eq_true _⟩, img_pre h1 h2 hl⟩
  rw [← hperm.length_eq, List.length_map]
theorem con_img {n : Nat} {st : List S34} (hs : Sane n st) {lo hi : Nat} (h1 : lo < hi) (h2 : hi < n) {X : Nat} (hX : X ∈ cutsN n st) (hb : X.testBit lo = X.testBit hi) : imgN n lo hi X ∈ cutsN (n - 1) (conSt lo hi st) := by
  have hl : X < 2 ^ n := by have := isCut_pos (cutsN_mem.mp hX); omega
  rw [cutsN_mem, pre_cut hs h1 h2 (imgN_lt h1 h2), pre_img h1 h2 hl hb]
  exact cutsN_mem.mp hX
end Go.Proofs.Ytjbfbdanbpfplaa.OAll
