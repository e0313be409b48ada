/- A part of the proof of 'fetchLucchesi_holds', for every input, without a condition. -/
import Derived.Test.YtjbfbdanbpfplaaSLQd
namespace Go.Proofs.Ytjbfbdanbpfplaa.OAll
open Go.RowKit Go.Proofs.YtjbfbdanbpfplaaW.PrintWords Go.Proofs.YtjbfbdanbpfplaaW.PrintLast Go.Proofs.YtjbfbdanbpfplaaW.PrintMore
set_option linter.unusedVariables false
set_option linter.unusedSimpArgs false
def cntP (p : Nat → Bool) : Nat → Nat
  | 0 => 0
  | n + 1 => cntP p n + (p n).toNat
theorem cntP_le {p q : Nat → Bool} (h : ∀ i, p i = true → q i = true) : ∀ n, cntP p n ≤ cntP q n
  | 0 => Nat.le_refl _
  | n + 1 => by
    have := cntP_le h n
    have h2 := h n
    simp only [cntP]
    cases hp : p n <;> cases hq : q n <;> simp_all <;> omega
theorem cntP_lt {p q : Nat → Bool} (h : ∀ i, p i = true → q i = true) {i : Nat} (hi : p i = false) (hi' : q i = true) : ∀ n, i < n → cntP p n < cntP q n
  | 0, h0 => absurd h0 (by omega)
  | n + 1, h0 => by
    simp only [cntP]
    by_cases e : i = n
    · subst e
      have := cntP_le h i
      rw [hi, hi']; simp; omega
    · have := cntP_lt h hi hi' n (by omega)
      have h2 := h n
      cases hp : p n <;> cases hq : q n <;> simp_all <;> omega
theorem cntP_add {p q r s : Nat → Bool} (h : ∀ i, (p i).toNat + (q i).toNat = (r i).toNat + (s i).toNat) : ∀ n, cntP p n + cntP q n = cntP r n + cntP s n
  | 0 => rfl
  | n + 1 => by
    have := cntP_add h n
    have h2 := h n
    simp only [cntP]; omega
theorem cntP_bound (p : Nat → Bool) : ∀ n, cntP p n ≤ n
  | 0 => Nat.le_refl _
  | n + 1 => by
    have := cntP_bound p n
    simp only [cntP]
    cases p n <;> simp <;> omega
theorem countP_two {α : Type} {p q r s : α → Bool} : ∀ (l : List α), (∀ x ∈ l, (p x).toNat + (q x).toNat = (r x).toNat + (s x).toNat) → l.countP p + l.countP q = l.countP r + l.countP s
  | [], _ => rfl
  | x :: t, h => by
    have h1 := countP_two t fun y hy => h y (List.mem_cons_of_mem _ hy)
    have h2 := h x List.mem_cons_self
    simp only [List.countP_cons]
    revert h2
    cases p x <;> cases q x <;> cases r x <;> cases s x <;> simp <;> omega
theorem countP_same {α : Type} {p q : α → Bool} : ∀ (l : List α), (∀ x ∈ l, p x = q x) → l.countP p = l.countP q
  | [], _ => rfl
  | x :: t, h => by
    simp only [List.countP_cons]
    rw [countP_same t fun y hy => h y (List.mem_cons_of_mem _ hy), h x List.mem_cons_self]
theorem pick {α : Type} (R : α → α → Prop) : ∀ l : List α, l.Pairwise R ∨ ∃ x y t, l.Perm (x :: y :: t) ∧ ¬ R x y
  | [] => .inl .nil
  | x :: l => by
    rcases pick R l with h | ⟨a, b, t, hp, hr⟩
    · by_cases hx : ∀ y ∈ l, R x y
      · exact .inl (List.pairwise_cons.mpr ⟨hx, h⟩)
      · obtain ⟨y, hy⟩ := Classical.not_forall.mp hx
        obtain ⟨hy, hr⟩ := Classical.not_imp.mp hy
        obtain ⟨s, t, rfl⟩ := List.append_of_mem hy
        exact .inr ⟨x, y, s ++ t, List.Perm.cons _ List.perm_middle, hr⟩
    · refine .inr ⟨a, b, x :: t, ?_, hr⟩
      exact (hp.cons x).trans ((List.Perm.swap a x _).trans ((List.Perm.swap b x _).cons a))
theorem sorted_ex {α : Type} (f : α → Nat) : ∀ l : List α, ∃ l' : List α, l'.Perm l ∧ l'.Pairwise fun x y => f x ≤ f y
  | [] => ⟨[], .nil, .nil⟩
  | x :: l => by
    obtain ⟨l', hp, hs⟩ := sorted_ex f l
    have ins : ∀ l : List α, l.Pairwise (fun x y => f x ≤ f y) → ∃ l' : List α, l'.Perm (x :: l) ∧ l'.Pairwise fun x y => f x ≤ f y := by
      intro l hs
      induction l with
      | nil => exact ⟨[x], .refl _, by simp⟩
      | cons y t ih =>
        rw [List.pairwise_cons] at hs
        by_cases h : f x ≤ f y
        · refine ⟨x :: y :: t, .refl _, ?_⟩
          rw [List.pairwise_cons, List.pairwise_cons]
          refine ⟨fun z hz => ?_, hs⟩
          rcases List.mem_cons.mp hz with rfl | hz
          · exact h
          · exact Nat.le_trans h (hs.1 z hz)
        · obtain ⟨l', hp, hs'⟩ := ih hs.2
          refine ⟨y :: l', (hp.cons y).trans (.swap x y t), ?_⟩
          rw [List.pairwise_cons]
          refine ⟨fun z hz => ?_, hs'⟩
          rcases List.mem_cons.mp (hp.mem_iff.mp hz) with rfl | hz
          · omega
          · exact hs.1 z hz
    obtain ⟨l'', hp', hs'⟩ := ins l' hs
    exact ⟨l'', hp'.trans (hp.cons x), hs'⟩
def dS (u v : Nat → Nat) (X j : Nat) : Bool := X.testBit (u j) && !X.testBit (v j)
structure FamS (n m : Nat) (u v : Nat → Nat) (M : Nat → Bool) : Prop where
  lt : ∀ X, M X = true → X < 2 ^ n
  ne : ∀ X, M X = true → X ≠ 0
  dir : ∀ X, M X = true → ∀ j, j < m → X.testBit (v j) = true → X.testBit (u j) = true
  close : ∀ X Y, M X = true → M Y = true → X &&& Y ≠ 0 → X ||| Y ≠ 2 ^ n - 1 → M (X &&& Y) = true ∧ M (X ||| Y) = true
  vl : ∀ j, j < m → v j < n
def useL (u v : Nat → Nat) (F : List Nat) (j : Nat) : Nat := F.countP fun X => dS u v X j
def packL (m : Nat) (u v : Nat → Nat) (M : Nat → Bool) (c : Nat → Nat) (k : Nat) : Prop := ∃ F : List Nat, F.length = k ∧ (∀ X ∈ F, M X = true) ∧ ∀ j, j < m → useL u v F j ≤ c j
def wt (J : Nat → Bool) (c : Nat → Nat) : Nat → Nat
  | 0 => 0
  | m + 1 => wt J c m + if J m then c m else 0
theorem wt_none (c : Nat → Nat) : ∀ m, wt (fun _ => false) c m = 0
  | 0 => rfl
  | m + 1 => by simp [wt, wt_none c m]
theorem wt_one {J : Nat → Bool} {c d : Nat → Nat} {i : Nat} (h : ∀ j, c j ≤ d j + if j = i then 1 else 0) : ∀ m, wt J c m ≤ wt J d m + if i < m then 1 else 0
  | 0 => by simp [wt]
  | m + 1 => by
    have h1 := wt_one (J := J) h m
    have h2 := h m
    simp only [wt]
    by_cases e : m = i
    · subst e
      simp only [if_true, Nat.lt_irrefl, if_false, Nat.lt_succ_self] at *
      split <;> omega
    · simp only [e, if_false] at h2
      have e2 : (if i < m then 1 else 0) ≤ if i < m + 1 then 1 else 0 := by split <;> split <;> omega
      split <;> omega
theorem wt_plus {J : Nat → Bool} {c : Nat → Nat} {e : Nat} (he : c e = 0) : ∀ m, wt (fun j => J j || decide (j = e)) c m = wt J c m
  | 0 => rfl
  | m + 1 => by
    simp only [wt, wt_plus he m]
    by_cases h : m = e
    · subst h; simp [he]
    · simp [h]
def szN (n X : Nat) : Nat := cntP X.testBit n
theorem szN_mod (n X Y : Nat) : szN n (X &&& Y) + szN n (X ||| Y) = szN n X + szN n Y :=
  cntP_add (fun i => by rw [Nat.testBit_and, Nat.testBit_or]; cases X.testBit i <;> cases Y.testBit i <;> rfl) n
theorem szN_lt {n X Y : Nat} (hY : Y < 2 ^ n) (h : subB X Y) (hne : ¬ subB Y X) : szN n X < szN n Y := by
  obtain ⟨i, hi⟩ := Classical.not_forall.mp hne
  obtain ⟨hi, hx⟩ := Classical.not_imp.mp hi
  refine cntP_lt h (by simpa using hx) hi n ?_
  exact Nat.lt_of_not_le fun hn => by rw [Nat.testBit_lt_two_pow (Nat.lt_of_lt_of_le hY (Nat.pow_le_pow_right (by decide) hn))] at hi; cases hi
theorem and_sub (X Y : Nat) : subB (X &&& Y) X := fun i h => by rw [Nat.testBit_and, Bool.and_eq_true] at h; exact h.1
theorem and_sub' (X Y : Nat) : subB (X &&& Y) Y := fun i h => by rw [Nat.testBit_and, Bool.and_eq_true] at h; exact h.2
theorem dS_mod {n m : Nat} {u v : Nat → Nat} {M : Nat → Bool} (hF : FamS n m u v M) {X Y j : Nat} (hX : M X = true) (hY : M Y = true) (hj : j < m) :
    (dS u v (X &&& Y) j).toNat + (dS u v (X ||| Y) j).toNat = (dS u v X j).toNat + (dS u v Y j).toNat := by
  have h1 := hF.dir X hX j hj
  have h2 := hF.dir Y hY j hj
  simp only [dS, Nat.testBit_and, Nat.testBit_or]
  revert h1 h2
  cases X.testBit (u j) <;> cases X.testBit (v j) <;> cases Y.testBit (u j) <;> cases Y.testBit (v j) <;> simp
def freeS (n : Nat) (X Y : Nat) : Prop := X &&& Y = 0 ∨ X ||| Y = 2 ^ n - 1 ∨ subB X Y ∨ subB Y X
def sqL (n : Nat) (L : List Nat) : Nat := (L.map fun X => szN n X * szN n X).sum
theorem sqL_cons (n X : Nat) (L : List Nat) : sqL n (X :: L) = szN n X * szN n X + sqL n L := by simp [sqL]
theorem sqL_le (n : Nat) : ∀ L, sqL n L ≤ L.length * (n * n)
  | [] => by simp [sqL]
  | X :: L => by
    have h1 := sqL_le n L
    have h2 := cntP_bound X.testBit n
    have h3 : szN n X * szN n X ≤ n * n := Nat.mul_le_mul h2 h2
    rw [sqL_cons, List.length_cons, Nat.add_mul]; omega
theorem sqL_perm {n : Nat} {L L' : List Nat} (h : L.Perm L') : sqL n L = sqL n L' := (h.map _).sum_nat
theorem sq_grow {a b x y : Nat} (h : a + b = x + y) (hx : a < x) (hy : a < y) : x * x + y * y < a * a + b * b := by
  obtain ⟨p, rfl⟩ := Nat.exists_eq_add_of_lt hx
  obtain ⟨q, rfl⟩ := Nat.exists_eq_add_of_lt hy
  obtain rfl : b = a + p + 1 + q + 1 := by omega
  simp only [Nat.mul_add, Nat.add_mul]
  have := Nat.mul_comm p q
  have := Nat.mul_comm p a
  have := Nat.mul_comm q a
  omega
theorem uncross {n m : Nat} {u v : Nat → Nat} {M : Nat → Bool} (hF : FamS n m u v M) : ∀ (d : Nat) (L : List Nat), L.length * (n * n) ≤ d + sqL n L → (∀ X ∈ L, M X = true) →
    ∃ L', L'.length = L.length ∧ (∀ X ∈ L', M X = true) ∧ (∀ j, j < m → useL u v L' j = useL u v L j) ∧ L'.Pairwise (freeS n)
  | d, L, hd, hM => by
    rcases pick (freeS n) L with h | ⟨X, Y, T, hp, hr⟩
    · exact ⟨L, rfl, hM, fun _ _ => rfl, h⟩
    · have hX : M X = true := hM X (hp.mem_iff.mpr (by simp))
      have hY : M Y = true := hM Y (hp.mem_iff.mpr (by simp))
      have h0 : X &&& Y ≠ 0 := fun e => hr (.inl e)
      have h1 : X ||| Y ≠ 2 ^ n - 1 := fun e => hr (.inr (.inl e))
      have h2 : ¬ subB X Y := fun e => hr (.inr (.inr (.inl e)))
      have h3 : ¬ subB Y X := fun e => hr (.inr (.inr (.inr e)))
      obtain ⟨c1, c2⟩ := hF.close X Y hX hY h0 h1
      have s1 : szN n (X &&& Y) < szN n X := szN_lt (hF.lt X hX) (and_sub X Y) (fun e => h2 (subB_trans e (and_sub' X Y)))
      have s2 : szN n (X &&& Y) < szN n Y := szN_lt (hF.lt Y hY) (and_sub' X Y) (fun e => h3 (subB_trans e (and_sub X Y)))
      have s3 := sq_grow (szN_mod n X Y) s1 s2
      have q1 := sqL_perm (n := n) hp
      have q2 := sqL_le n ((X &&& Y) :: (X ||| Y) :: T)
      have l1 := hp.length_eq
      have l2 : ((X &&& Y) :: (X ||| Y) :: T).length = L.length := by rw [l1]; rfl
      rw [sqL_cons, sqL_cons] at q1
      rw [l2, sqL_cons, sqL_cons] at q2
      obtain ⟨e, rfl⟩ : ∃ e, d = e + 1 := ⟨d - 1, by omega⟩
      obtain ⟨L', a1, a2, a3, a4⟩ := uncross hF e ((X &&& Y) :: (X ||| Y) :: T) (by rw [l2, sqL_cons, sqL_cons]; omega) (by
        intro Z hZ
        rcases List.mem_cons.mp hZ with rfl | hZ
        · exact c1
        rcases List.mem_cons.mp hZ with rfl | hZ
        · exact c2
        exact hM Z (hp.mem_iff.mpr (by simp [hZ])))
      refine ⟨L', a1.trans l2, a2, fun j hj => (a3 j hj).trans ?_, a4⟩
      have hm := dS_mod hF hX hY hj
      rw [useL, useL, hp.countP_eq]
      simp only [List.countP_cons]
      revert hm
      cases dS u v (X &&& Y) j <;> cases dS u v (X ||| Y) j <;> cases dS u v X j <;> cases dS u v Y j <;> simp <;> omega
def belowB (X Z : Nat) : Bool := decide (Z &&& X = Z)
def aloofB (X Z : Nat) : Bool := decide (Z &&& X = 0)
theorem belowB_iff {X Z : Nat} : belowB X Z = true ↔ subB Z X := by
  rw [belowB, decide_eq_true_eq]
  constructor
  · intro h i hi; rw [← h, Nat.testBit_and, Bool.and_eq_true] at hi; exact hi.2
  · intro h
    apply Nat.eq_of_testBit_eq; intro i
    rw [Nat.testBit_and]
    cases hz : Z.testBit i
    · rfl
    · rw [h i hz]; rfl
def rankN (W P : List Nat) (X : Nat) : Nat := P.countP (belowB X) + W.countP (aloofB X)
def partC (W : List Nat) (b : Nat) : List Nat → List Nat → List Nat
  | _, [] => []
  | P, X :: T => if rankN W P X % 2 = b then X :: partC W b (P ++ [X]) T else partC W b (P ++ [X]) T
theorem partC_len (W : List Nat) : ∀ T P, (partC W 0 P T).length + (partC W 1 P T).length = T.length
  | [], P => rfl
  | X :: T, P => by
    have := partC_len W T (P ++ [X])
    simp only [partC, List.length_cons]
    rcases Nat.mod_two_eq_zero_or_one (rankN W P X) with h | h <;> simp [h] <;> omega
theorem partC_mem (W : List Nat) (b : Nat) : ∀ T P X, X ∈ partC W b P T → X ∈ T
  | [], P, X, h => by simp [partC] at h
  | Y :: T, P, X, h => by
    rw [partC] at h
    split at h
    · rcases List.mem_cons.mp h with rfl | h
      · simp
      · exact List.mem_cons_of_mem _ (partC_mem W b T _ X h)
    · exact List.mem_cons_of_mem _ (partC_mem W b T _ X h)
def outB (u v : Nat → Nat) (j Z : Nat) : Bool := !Z.testBit (u j) && !Z.testBit (v j)
theorem rank_eq {n m : Nat} {u v : Nat → Nat} {M : Nat → Bool} (hF : FamS n m u v M) {P T : List Nat} {X j : Nat} (hM : ∀ Z ∈ P ++ X :: T, M Z = true) (hfree : (P ++ X :: T).Pairwise (freeS n))
    (hsort : (P ++ X :: T).Pairwise fun x y => szN n x ≤ szN n y) (hj : j < m) (hx : dS u v X j = true) : rankN (P ++ X :: T) P X = (P ++ X :: T).countP (outB u v j) + useL u v P j := by
  have hMX : M X = true := hM X (by simp)
  simp only [dS, Bool.and_eq_true, Bool.not_eq_true'] at hx
  have hnotfull : ∀ Z, Z.testBit (v j) = false → ¬ (X ||| Z = 2 ^ n - 1) := by
    intro Z hz e
    have : (X ||| Z).testBit (v j) = true := by rw [e, full_bit]; exact decide_eq_true (hF.vl j hj)
    rw [Nat.testBit_or, hx.2, hz] at this; cases this
  have hP : ∀ Z ∈ P, (belowB X Z).toNat + (aloofB X Z).toNat = (outB u v j Z).toNat + (dS u v Z j).toNat := by
    intro Z hZ
    have hMZ : M Z = true := hM Z (by simp [hZ])
    have f := (List.pairwise_append.mp hfree).2.2 Z hZ X (by simp)
    have s := (List.pairwise_append.mp hsort).2.2 Z hZ X (by simp)
    have hd := hF.dir Z hMZ j hj
    simp only [outB, dS]
    cases hu : Z.testBit (u j) <;> cases hv : Z.testBit (v j)
    ·
      have hb : subB Z X ∨ Z &&& X = 0 := by
        rcases f with f | f | f | f
        · exact .inr f
        · exact absurd (by rw [Nat.or_comm]; exact f) (hnotfull Z hv)
        · exact .inl f
        · exact absurd (f _ hx.1) (by rw [hu]; simp)
      have : (belowB X Z).toNat + (aloofB X Z).toNat = 1 := by
        rcases hb with hb | hb
        · have e1 := belowB_iff.mpr hb
          have e2 : aloofB X Z = false := by
            rw [belowB, decide_eq_true_eq] at e1
            rw [aloofB, decide_eq_false_iff_not, e1]
            exact hF.ne Z hMZ
          rw [e1, e2]; rfl
        · have e1 : aloofB X Z = true := decide_eq_true hb
          have e2 : belowB X Z = false := by
            rw [belowB, decide_eq_false_iff_not, hb]
            exact fun e => hF.ne Z hMZ e.symm
          rw [e1, e2]; rfl
      simpa using this
    · exact absurd (hd hv) (by rw [hu]; simp)
    ·
      have hb : subB Z X := by
        rcases f with f | f | f | f
        · have : (Z &&& X).testBit (u j) = true := by rw [Nat.testBit_and, hu, hx.1]; rfl
          rw [f] at this; simp at this
        · exact absurd (by rw [Nat.or_comm]; exact f) (hnotfull Z hv)
        · exact f
        · refine Classical.byContradiction fun hn => ?_
          have := szN_lt (hF.lt Z hMZ) f hn
          omega
      have e1 := belowB_iff.mpr hb
      have e2 : aloofB X Z = false := by
        rw [belowB, decide_eq_true_eq] at e1
        rw [aloofB, decide_eq_false_iff_not, e1]
        exact hF.ne Z hMZ
      rw [e1, e2]; rfl
    · have e1 : belowB X Z = false := by
        refine Bool.eq_false_iff.mpr fun h => ?_
        have := belowB_iff.mp h _ hv
        rw [hx.2] at this; cases this
      have e2 : aloofB X Z = false := by
        rw [aloofB, decide_eq_false_iff_not]
        intro f
        have : (Z &&& X).testBit (u j) = true := by rw [Nat.testBit_and, hu, hx.1]; rfl
        rw [f] at this; simp at this
      rw [e1, e2]; rfl
  have hT : ∀ Z ∈ X :: T, aloofB X Z = outB u v j Z := by
    intro Z hZ
    have hMZ : M Z = true := hM Z (by rw [List.mem_append]; exact .inr hZ)
    have hd := hF.dir Z hMZ j hj
    cases hu : Z.testBit (u j)
    · have hv : Z.testBit (v j) = false := by
        cases hv : Z.testBit (v j)
        · rfl
        · exact absurd (hd hv) (by rw [hu]; simp)
      have e : outB u v j Z = true := by rw [outB, hu, hv]; rfl
      rw [e]
      have hZT : Z ∈ T := by
        rcases List.mem_cons.mp hZ with rfl | h
        · rw [hx.1] at hu; cases hu
        · exact h
      have f := (List.pairwise_cons.mp (List.pairwise_append.mp hfree).2.1).1 Z hZT
      have s := (List.pairwise_cons.mp (List.pairwise_append.mp hsort).2.1).1 Z hZT
      refine decide_eq_true ?_
      rcases f with f | f | f | f
      · rw [Nat.and_comm]; exact f
      · exact absurd f (hnotfull Z hv)
      · exact absurd (f _ hx.1) (by rw [hu]; simp)
      · exfalso
        have hn : ¬ subB X Z := fun h => by have := h _ hx.1; rw [hu] at this; cases this
        have := szN_lt (hF.lt X hMX) f hn
        omega
    · have e : outB u v j Z = false := by rw [outB, hu]; rfl
      rw [e, aloofB, decide_eq_false_iff_not]
      intro f
      have : (Z &&& X).testBit (u j) = true := by rw [Nat.testBit_and, hu, hx.1]; rfl
      rw [f] at this; simp at this
  have h1 := countP_two P hP
  have h2 := countP_same (X :: T) hT
  rw [rankN, List.countP_append, List.countP_append, h2, useL]
  omega
theorem partC_use {n m : Nat} {u v : Nat → Nat} {M : Nat → Bool} (hF : FamS n m u v M) {W : List Nat} {j b : Nat} (hM : ∀ Z ∈ W, M Z = true) (hfree : W.Pairwise (freeS n))
    (hsort : W.Pairwise fun x y => szN n x ≤ szN n y) (hj : j < m) (hb : b < 2) : ∀ (T P : List Nat), W = P ++ T →
      2 * useL u v (partC W b P T) j ≤ useL u v T j + if (W.countP (outB u v j) + useL u v P j) % 2 = b then 1 else 0
  | [], P, e => by simp [partC, useL]
  | X :: T, P, e => by
    have ih := partC_use hF hM hfree hsort hj hb T (P ++ [X]) (by rw [e]; simp)
    have ea : useL u v (P ++ [X]) j = useL u v P j + if dS u v X j = true then 1 else 0 := by
      rw [useL, List.countP_append, List.countP_singleton]; rfl
    have eb : useL u v (X :: T) j = useL u v T j + if dS u v X j = true then 1 else 0 := by
      rw [useL, List.countP_cons]; rfl
    have ec : ∀ L, useL u v (X :: L) j = useL u v L j + if dS u v X j = true then 1 else 0 := fun L => by
      rw [useL, List.countP_cons]; rfl
    rw [ea] at ih
    rw [eb, partC]
    by_cases hx : dS u v X j = true
    · have hr : rankN W P X = W.countP (outB u v j) + useL u v P j := by
        rw [e] at hM hfree hsort ⊢
        exact rank_eq hF hM hfree hsort hj hx
      rw [hr]
      simp only [hx, if_true] at ih ⊢
      by_cases hq : (W.countP (outB u v j) + useL u v P j) % 2 = b
      · have hq' : ¬ (W.countP (outB u v j) + (useL u v P j + 1)) % 2 = b := by omega
        rw [if_neg hq'] at ih
        rw [if_pos hq, if_pos hq, ec, if_pos hx]
        omega
      · have hq' : (W.countP (outB u v j) + (useL u v P j + 1)) % 2 = b := by omega
        rw [if_pos hq'] at ih
        rw [if_neg hq, if_neg hq]
        omega
    · simp only [hx, if_false, Nat.add_zero] at ih ⊢
      have : useL u v (if rankN W P X % 2 = b then X :: partC W b (P ++ [X]) T else partC W b (P ++ [X]) T) j = useL u v (partC W b (P ++ [X]) T) j := by
        split
        · rw [ec, if_neg hx]; rfl
        · rfl
      simp only [this, Bool.false_eq_true, if_false, Nat.add_zero] at ih ⊢
      exact ih
theorem halves {n m : Nat} {u v : Nat → Nat} {M : Nat → Bool} (hF : FamS n m u v M) {c : Nat → Nat} {k : Nat} {L : List Nat} (hl : L.length = 2 * k + 1) (hM : ∀ X ∈ L, M X = true) (hu : ∀ j, j < m → useL u v L j ≤ 2 * c j) :
    packL m u v M c (k + 1) := by
  obtain ⟨L1, l1, m1, u1, f1⟩ := uncross hF (L.length * (n * n)) L (Nat.le_add_right _ _) hM
  obtain ⟨W, hp, hs⟩ := sorted_ex (szN n) L1
  have sym : ∀ {x y}, freeS n x y → freeS n y x := by
    rintro x y (h | h | h | h)
    · exact .inl (by rw [Nat.and_comm]; exact h)
    · exact .inr (.inl (by rw [Nat.or_comm]; exact h))
    · exact .inr (.inr (.inr h))
    · exact .inr (.inr (.inl h))
  have hf : W.Pairwise (freeS n) := hp.symm.pairwise f1 sym
  have hMW : ∀ Z ∈ W, M Z = true := fun Z hZ => m1 Z (hp.mem_iff.mp hZ)
  have hlen := partC_len W W []
  have hWl : W.length = 2 * k + 1 := by rw [hp.length_eq, l1, hl]
  have key : ∀ b, b < 2 → k + 1 ≤ (partC W b [] W).length → packL m u v M c (k + 1) := by
    intro b hb hk
    refine ⟨(partC W b [] W).take (k + 1), by rw [List.length_take]; omega, fun X hX => hMW X (partC_mem W b W [] X (List.mem_of_mem_take hX)), fun j hj => ?_⟩
    have h1 := partC_use hF hMW hf hs hj hb W [] rfl
    have h2 : useL u v W j = useL u v L j := by rw [← u1 j hj]; exact hp.countP_eq _
    have h3 := hu j hj
    have h4 : useL u v ((partC W b [] W).take (k + 1)) j ≤ useL u v (partC W b [] W) j := (List.take_sublist _ _).countP_le
    have h5 : (if (W.countP (outB u v j) + useL u v [] j) % 2 = b then 1 else 0) ≤ 1 := by split <;> omega
    omega
  by_cases h : k + 1 ≤ (partC W 0 [] W).length
  · exact key 0 (by omega) h
  · exact key 1 (by omega) (by omega)
theorem firstStep {P : Nat → Prop} : ∀ m, ¬ P 0 → P m → ∃ i, i < m ∧ ¬ P i ∧ P (i + 1)
  | 0, h0, h => absurd h h0
  | m + 1, h0, h => by
    by_cases hm : P m
    · obtain ⟨i, hi, h1, h2⟩ := firstStep m h0 hm
      exact ⟨i, by omega, h1, h2⟩
    · exact ⟨m, by omega, hm, h⟩
theorem lucchesi {n m : Nat} {u v : Nat → Nat} : ∀ (N : Nat) (M : Nat → Bool) (c : Nat → Nat) (k : Nat), FamS n m u v M → (∀ X, M X = true → ∃ j, j < m ∧ dS u v X j = true) → k + cntP M (2 ^ n) ≤ N → ¬ packL m u v M c (k + 1) →
    ∃ J : Nat → Bool, (∀ X, M X = true → ∃ j, j < m ∧ J j = true ∧ dS u v X j = true) ∧ wt J c m ≤ k := by
  intro N
  induction N with
  | zero =>
    intro M c k hF hne hN hp
    refine ⟨fun _ => false, fun X hX => ?_, by rw [wt_none]; omega⟩
    have h := cntP_lt (p := fun _ => false) (q := M) (fun _ h => by cases h) rfl hX (2 ^ n) (hF.lt X hX)
    omega
  | succ N ih =>
    intro M c k hF hne hN hp
    by_cases hz : ∃ e X, e < m ∧ c e = 0 ∧ M X = true ∧ dS u v X e = true
    · obtain ⟨e, X, he, hc, hX, hd⟩ := hz
      have hsub : ∀ Z, (M Z && !dS u v Z e) = true → M Z = true := fun Z h => (Bool.and_eq_true _ _ ▸ h).1
      have hF' : FamS n m u v (fun Z => M Z && !dS u v Z e) := by
        refine ⟨fun Z h => hF.lt Z (hsub Z h), fun Z h => hF.ne Z (hsub Z h), fun Z h => hF.dir Z (hsub Z h), fun Z Y h h' h0 h1 => ?_, hF.vl⟩
        obtain ⟨c1, c2⟩ := hF.close Z Y (hsub Z h) (hsub Y h') h0 h1
        have hm := dS_mod hF (hsub Z h) (hsub Y h') he
        simp only [Bool.and_eq_true, Bool.not_eq_true'] at h h'
        rw [h.2, h'.2] at hm
        simp only [Bool.and_eq_true, Bool.not_eq_true']
        refine ⟨⟨c1, ?_⟩, ⟨c2, ?_⟩⟩
        · cases hq : dS u v (Z &&& Y) e
          · rfl
          · rw [hq] at hm; simp at hm
        · cases hq : dS u v (Z ||| Y) e
          · rfl
          · rw [hq] at hm; simp at hm
      have hlt := cntP_lt (p := fun Z => M Z && !dS u v Z e) (q := M) hsub (i := X) (by simp [hd]) hX (2 ^ n) (hF.lt X hX)
      obtain ⟨J, hJ, hw⟩ := ih (fun Z => M Z && !dS u v Z e) c k hF' (fun Z h => hne Z (hsub Z h)) (by omega) (by
        rintro ⟨F, f1, f2, f3⟩
        exact hp ⟨F, f1, fun Z hZ => hsub Z (f2 Z hZ), f3⟩)
      refine ⟨fun j => J j || decide (j = e), fun Z hZ => ?_, by rw [wt_plus hc]; exact hw⟩
      cases hq : dS u v Z e
      · obtain ⟨j, h1, h2, h3⟩ := hJ Z (by simp [hZ, hq])
        exact ⟨j, h1, by simp [h2], h3⟩
      · exact ⟨e, he, by simp, hq⟩
    · by_cases hD : ∃ D, M D = true
      · obtain ⟨D, hD⟩ := hD
        have hpos : ∀ X, M X = true → ∀ j, j < m → dS u v X j = true → 1 ≤ c j := fun X hX j hj hd => Nat.pos_of_ne_zero fun h => hz ⟨j, X, hj, h, hX, hd⟩
        obtain ⟨k, rfl⟩ : ∃ k', k = k' + 1 := by
          cases k with
          | zero =>
            refine absurd ⟨[D], rfl, fun X hX => by rw [List.mem_singleton.mp hX]; exact hD, fun j hj => ?_⟩ hp
            rw [useL, List.countP_singleton]
            split
            · exact hpos D hD j hj (by assumption)
            · omega
          | succ k => exact ⟨k, rfl⟩
        by_cases hk : packL m u v M c (k + 1)
        · obtain ⟨i, hi, n1, n2⟩ := firstStep (P := fun i => packL m u v M (fun j => c j + if j < i ∧ dS u v D j = true then 1 else 0) (k + 1 + 1)) m (by simpa using hp) (by
            obtain ⟨F, f1, f2, f3⟩ := hk
            refine ⟨D :: F, by simp [f1], fun X hX => ?_, fun j hj => ?_⟩
            · rcases List.mem_cons.mp hX with rfl | hX
              · exact hD
              · exact f2 X hX
            · have := f3 j hj
              rw [useL, List.countP_cons]
              rw [useL] at this
              by_cases hd : dS u v D j = true
              · simp only [hd, hj, and_self, if_true]; omega
              · simp only [hd, and_false, if_false]; simpa using this)
          have hdi : dS u v D i = true := by
            refine Classical.byContradiction fun hd => n1 ?_
            obtain ⟨F, f1, f2, f3⟩ := n2
            refine ⟨F, f1, f2, fun j hj => Nat.le_trans (f3 j hj) ?_⟩
            by_cases e : j = i
            · subst e; simp [hd]
            · have : j < i + 1 ↔ j < i := by omega
              simp only [this]; omega
          have hci : 1 ≤ c i := hpos D hD i hi hdi
          have n3 : ¬ packL m u v M (fun j => (c j + if j < i ∧ dS u v D j = true then 1 else 0) - if j = i then 1 else 0) (k + 1) := by
            rintro ⟨A, a1, a2, a3⟩
            obtain ⟨B, b1, b2, b3⟩ := n2
            refine n1 (halves hF (L := A ++ B) (by rw [List.length_append, a1, b1]; omega) (fun X hX => ?_) (fun j hj => ?_))
            · rcases List.mem_append.mp hX with h | h
              · exact a2 X h
              · exact b2 X h
            · have h1 := a3 j hj
              have h2 := b3 j hj
              have h3 : useL u v (A ++ B) j = useL u v A j + useL u v B j := List.countP_append ..
              rw [h3]
              by_cases e : j = i
              · subst e
                simp only [Nat.lt_irrefl, false_and, if_false, if_true, Nat.lt_succ_self, true_and, hdi, Nat.add_zero] at h1 h2 ⊢
                omega
              · have e2 : j < i + 1 ↔ j < i := by omega
                simp only [e, if_false, e2] at h1 h2 ⊢
                omega
          obtain ⟨J, hJ, hw⟩ := ih M _ k hF hne (by omega) n3
          refine ⟨J, hJ, ?_⟩
          have := wt_one (J := J) (c := c) (d := fun j => (c j + if j < i ∧ dS u v D j = true then 1 else 0) - if j = i then 1 else 0) (i := i) (fun j => by
            by_cases e : j = i
            · subst e; simp only [if_true]; omega
            · simp only [e, if_false]; omega) m
          rw [if_pos hi] at this
          omega
        · obtain ⟨J, hJ, hw⟩ := ih M c k hF hne (by omega) hk
          exact ⟨J, hJ, by omega⟩
      · exact ⟨fun _ => false, fun X hX => absurd ⟨X, hX⟩ hD, by rw [wt_none]; omega⟩
end Go.Proofs.Ytjbfbdanbpfplaa.OAll
