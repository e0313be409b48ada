/- A part of the proof of 'shareAssigns_holds', for every input, without a condition. -/
namespace Go.Proofs.Ytiafiebalibkdaa.OAll
set_option linter.unusedVariables false
set_option linter.unusedSimpArgs false
def wt (t : Nat → Nat → Int) : List Nat → Int
  | a :: b :: l => t a b + wt t (b :: l)
  | [_] => 0
  | [] => 0
theorem wt_two (t : Nat → Nat → Int) (a b : Nat) (l : List Nat) : wt t (a :: b :: l) = t a b + wt t (b :: l) := rfl
theorem wt_one (t : Nat → Nat → Int) (a : Nat) : wt t [a] = 0 := rfl
theorem wt_split (t : Nat → Nat → Int) (v : Nat) (B : List Nat) : ∀ (A : List Nat), wt t (A ++ v :: B) = wt t (A ++ [v]) + wt t (v :: B)
  | [] => by simp [wt_one]
  | [a] => by show wt t (a :: v :: B) = wt t (a :: [v]) + _; rw [wt_two, wt_two, wt_one]; omega
  | a :: b :: A => by
    have := wt_split t v B (b :: A)
    simp only [List.cons_append, wt_two] at this ⊢
    omega
theorem dup_split : ∀ (l : List Nat), ¬ l.Nodup → ∃ A u B C, l = A ++ u :: (B ++ u :: C)
  | [], h => absurd List.nodup_nil h
  | a :: l, h => by
    by_cases ha : a ∈ l
    · obtain ⟨B, C, rfl⟩ := List.append_of_mem ha
      exact ⟨[], a, B, C, rfl⟩
    · obtain ⟨A, u, B, C, e⟩ := dup_split l (fun hn => h (List.nodup_cons.mpr ⟨ha, hn⟩))
      exact ⟨a :: A, u, B, C, by rw [e]; rfl⟩
theorem closed_of_simple (t : Nat → Nat → Int) (n : Nat) (hs : ∀ v B, (v :: B).Nodup → (∀ x ∈ v :: B, x < n) → 0 ≤ wt t (v :: (B ++ [v]))) :
    ∀ (m : Nat) (v : Nat) (B : List Nat), B.length ≤ m → (∀ x ∈ v :: B, x < n) → 0 ≤ wt t (v :: (B ++ [v])) := by
  intro m
  induction m with
  | zero =>
    intro v B hB hx
    obtain rfl := List.eq_nil_of_length_eq_zero (Nat.le_zero.mp hB)
    exact hs v [] (by simp) hx
  | succ m ih =>
    intro v B hB hx
    by_cases hn : (v :: B).Nodup
    · exact hs v B hn hx
    · obtain ⟨A, u, B1, C, e⟩ := dup_split _ hn
      cases A with
      | nil =>
        simp only [List.nil_append, List.cons.injEq] at e
        obtain ⟨rfl, rfl⟩ := e
        have e1 : v :: ((B1 ++ v :: C) ++ [v]) = (v :: B1) ++ v :: (C ++ [v]) := by simp
        rw [e1, wt_split]
        have h1 := ih v B1 (by simp at hB; omega) (fun x hx' => hx x (by simp at hx' ⊢; rcases hx' with h | h <;> simp [h]))
        have h2 := ih v C (by simp at hB; omega) (fun x hx' => hx x (by simp at hx' ⊢; rcases hx' with h | h <;> simp [h]))
        have e2 : v :: (B1 ++ [v]) = (v :: B1) ++ [v] := by simp
        rw [e2] at h1
        omega
      | cons a A =>
        simp only [List.cons_append, List.cons.injEq] at e
        obtain ⟨rfl, rfl⟩ := e
        have e1 : v :: ((A ++ u :: (B1 ++ u :: C)) ++ [v]) = (v :: A) ++ u :: ((B1 ++ u :: C) ++ [v]) := by simp
        have e2 : u :: ((B1 ++ u :: C) ++ [v]) = (u :: B1) ++ u :: (C ++ [v]) := by simp
        have e3 : v :: ((A ++ u :: C) ++ [v]) = (v :: A) ++ u :: (C ++ [v]) := by simp
        have h1 := ih u B1 (by simp at hB; omega) (fun x hx' => hx x (by simp at hx' ⊢; rcases hx' with h | h <;> simp [h]))
        have h2 := ih v (A ++ u :: C) (by simp at hB ⊢; omega) (fun x hx' => hx x (by simp at hx' ⊢; rcases hx' with h | h | h | h <;> simp [h]))
        rw [e3, wt_split] at h2
        have e4 : u :: (B1 ++ [u]) = (u :: B1) ++ [u] := by simp
        rw [e4] at h1
        rw [e1, wt_split t u ((B1 ++ u :: C) ++ [v]) (v :: A), e2, wt_split t u (C ++ [v]) (u :: B1)]
        omega
def isum : List Int → Int
  | [] => 0
  | x :: l => x + isum l
theorem isum_append (a b : List Int) : isum (a ++ b) = isum a + isum b := by
  induction a with
  | nil => simp [isum]
  | cons x a ih => simp only [List.cons_append, isum, ih]; omega
theorem isum_perm {a b : List Int} (h : a.Perm b) : isum a = isum b := by
  induction h with
  | nil => rfl
  | cons x _ ih => simp only [isum, ih]
  | swap x y l => simp only [isum]; omega
  | trans _ _ i1 i2 => rw [i1, i2]
theorem isum_zero (f : Nat → Int) : ∀ (l : List Nat), (∀ x ∈ l, f x = 0) → isum (l.map f) = 0
  | [], _ => rfl
  | x :: l, h => by simp only [List.map_cons, isum, h x (by simp), isum_zero f l (fun y hy => h y (by simp [hy]))]; omega
def rho : List Nat → Nat → Nat
  | a :: b :: l, y => if y = b then a else rho (b :: l) y
  | _, y => y
theorem rho_out (y : Nat) : ∀ (l : List Nat) (a : Nat), y ∉ l → rho (a :: l) y = y
  | [], _, _ => rfl
  | b :: l, a, h => by
    simp only [List.mem_cons, not_or] at h
    rw [rho, if_neg h.1, rho_out y l b h.2]
theorem rho_tail (a b : Nat) (l : List Nat) (hb : b ∉ l) {γ : Type} (f : Nat → Nat → γ) : (l.map fun y => f (rho (a :: b :: l) y) y) = l.map fun y => f (rho (b :: l) y) y := by
  refine List.map_congr_left fun y hy => ?_
  have : y ≠ b := fun e => hb (e ▸ hy)
  rw [rho, if_neg this]
theorem rho_sum (t : Nat → Nat → Int) : ∀ (l : List Nat) (a : Nat), (a :: l).Nodup → isum (l.map fun y => t (rho (a :: l) y) y) = wt t (a :: l)
  | [], _, _ => rfl
  | b :: l, a, h => by
    have h2 := (List.nodup_cons.mp h).2
    have h3 := (List.nodup_cons.mp h2).1
    rw [List.map_cons, isum, rho_tail a b l h3 t, rho_sum t l b h2, wt_two]
    simp [rho]
theorem rho_perm : ∀ (l : List Nat) (a : Nat), (a :: l).Nodup → (l.getLastD a :: l.map (rho (a :: l))).Perm (a :: l)
  | [], _, _ => List.Perm.refl _
  | b :: l, a, h => by
    have h2 := (List.nodup_cons.mp h).2
    have h3 := (List.nodup_cons.mp h2).1
    have ih := rho_perm l b h2
    have e := rho_tail a b l h3 (fun x _ => x)
    rw [List.map_cons, e]
    have e1 : rho (a :: b :: l) b = a := by simp [rho]
    rw [e1, List.getLastD_cons]
    exact (List.Perm.swap _ _ _).trans (List.Perm.cons a ih)
def sig (a : Nat) (l : List Nat) (y : Nat) : Nat := if y = a then l.getLastD a else rho (a :: l) y
theorem sig_tail {γ : Type} (a : Nat) (l : List Nat) (h : a ∉ l) (f : Nat → Nat → γ) : (l.map fun y => f (sig a l y) y) = l.map fun y => f (rho (a :: l) y) y := by
  refine List.map_congr_left fun y hy => ?_
  have : y ≠ a := fun e => h (e ▸ hy)
  rw [sig, if_neg this]
theorem sig_out (a : Nat) (l : List Nat) (y : Nat) (h : y ∉ a :: l) : sig a l y = y := by
  simp only [List.mem_cons, not_or] at h
  rw [sig, if_neg h.1, rho_out y l a h.2]
theorem wt_snoc (t : Nat → Nat → Int) (z : Nat) : ∀ (l : List Nat) (a : Nat), wt t (a :: (l ++ [z])) = wt t (a :: l) + t (l.getLastD a) z
  | [], a => by show wt t (a :: [z]) = wt t [a] + t a z; rw [wt_two, wt_one, wt_one]; omega
  | b :: l, a => by rw [List.cons_append, wt_two, wt_snoc t z l b, wt_two, List.getLastD_cons]; omega
theorem sig_sum (t : Nat → Nat → Int) (a : Nat) (l : List Nat) (h : (a :: l).Nodup) : isum ((a :: l).map fun y => t (sig a l y) y) = wt t (a :: (l ++ [a])) := by
  rw [List.map_cons, isum, sig_tail a l (List.nodup_cons.mp h).1 t, rho_sum t l a h, wt_snoc]
  have : sig a l a = l.getLastD a := by simp [sig]
  rw [this]; omega
theorem sig_perm (a : Nat) (l : List Nat) (h : (a :: l).Nodup) : ((a :: l).map (sig a l)).Perm (a :: l) := by
  have e := sig_tail a l (List.nodup_cons.mp h).1 (fun x _ => x)
  have e1 : sig a l a = l.getLastD a := by simp [sig]
  rw [List.map_cons, e, e1]
  exact rho_perm l a h
theorem range_perm (n : Nat) (C : List Nat) (hn : C.Nodup) (hx : ∀ x ∈ C, x < n) : ∃ R, (List.range n).Perm (C ++ R) ∧ ∀ x ∈ R, x ∉ C := by
  refine ⟨(List.range n).filter (fun x => !C.contains x), ?_, fun x hx' => by simp at hx'; exact hx'.2⟩
  have h1 : ((List.range n).filter (fun x => C.contains x) ++ (List.range n).filter (fun x => !C.contains x)).Perm (List.range n) := List.filter_append_perm _ _
  refine h1.symm.trans (List.Perm.append_right _ ?_)
  refine ((List.perm_ext_iff_of_nodup hn (List.Pairwise.filter _ List.nodup_range)).mpr fun y => ?_).symm
  simp only [List.mem_filter, List.mem_range, List.contains_eq_mem, decide_eq_true_eq]
  exact ⟨fun hy => ⟨hx y hy, hy⟩, fun hy => hy.2⟩
theorem perm_nodup {n : Nat} {l : List Nat} (h1 : l.length = n) (hn : l.Nodup) (hx : ∀ x ∈ l, x < n) : l.Perm (List.range n) := by
  obtain ⟨R, hp, hR⟩ := range_perm n l hn hx
  have := hp.length_eq
  simp only [List.length_range, List.length_append] at this
  obtain rfl := List.eq_nil_of_length_eq_zero (show R.length = 0 by omega)
  rw [List.append_nil] at hp
  exact hp.symm
theorem sig_range (n : Nat) (a : Nat) (l : List Nat) (h : (a :: l).Nodup) (hx : ∀ x ∈ a :: l, x < n) : ((List.range n).map (sig a l)).Perm (List.range n) := by
  obtain ⟨R, hp, hR⟩ := range_perm n _ h hx
  refine (hp.map _).trans ?_
  rw [List.map_append]
  have e : R.map (sig a l) = R := by
    conv => rhs; rw [← List.map_id R]
    exact List.map_congr_left fun y hy => sig_out a l y (hR y hy)
  rw [e]
  exact (List.Perm.append_right _ (sig_perm a l h)).trans hp.symm
theorem sig_sum_range (t : Nat → Nat → Int) (n : Nat) (h0 : ∀ y, t y y = 0) (a : Nat) (l : List Nat) (h : (a :: l).Nodup) (hx : ∀ x ∈ a :: l, x < n) :
    isum ((List.range n).map fun y => t (sig a l y) y) = wt t (a :: (l ++ [a])) := by
  obtain ⟨R, hp, hR⟩ := range_perm n _ h hx
  rw [isum_perm (hp.map _), List.map_append, isum_append, sig_sum t a l h, isum_zero _ R (fun y hy => by rw [sig_out a l y (hR y hy)]; exact h0 y)]
  omega
def wfrom (w : Nat → Nat → Int) : Nat → List Nat → Int
  | _, [] => 0
  | j, x :: l => w j x + wfrom w (j + 1) l
theorem wfrom_map (w : Nat → Nat → Int) (h : Nat → Nat) (s : Nat → Nat) : ∀ (l : List Nat) (j : Nat), (∀ i, (hi : i < l.length) → h l[i] = j + i) →
    wfrom w j l - wfrom w j (l.map s) = isum (l.map fun y => w (h y) y - w (h y) (s y))
  | [], _, _ => by simp [wfrom, isum]
  | x :: l, j, hh => by
    have h0 := hh 0 (by simp)
    simp only [List.getElem_cons_zero, Nat.add_zero] at h0
    have ih := wfrom_map w h s l (j + 1) (fun i hi => by have := hh (i + 1) (by simp; omega); simpa [Nat.add_assoc, Nat.add_comm 1] using this)
    simp only [List.map_cons, wfrom, isum, ← ih, h0]
    omega
def stepT (w : Nat → Nat → Int) (h : Nat → Nat) (x y : Nat) : Int := w (h y) y - w (h y) x
theorem closed_nonneg (w : Nat → Nat → Int) (h : Nat → Nat) (n : Nat) (l : List Nat) (hl : l.Perm (List.range n)) (hh : ∀ i, (hi : i < l.length) → h l[i] = i)
    (best : ∀ l' : List Nat, l'.Perm (List.range n) → wfrom w 0 l' ≤ wfrom w 0 l) (v : Nat) (B : List Nat) (hx : ∀ x ∈ v :: B, x < n) : 0 ≤ wt (stepT w h) (v :: (B ++ [v])) := by
  refine closed_of_simple _ n (fun a C hn hC => ?_) B.length v B (Nat.le_refl _) hx
  have h1 := best (l.map (sig a C)) ((hl.map _).trans (sig_range n a C hn hC))
  have h2 := wfrom_map w h (sig a C) l 0 (fun i hi => by rw [hh i hi]; omega)
  rw [isum_perm (hl.map _)] at h2
  have h3 := sig_sum_range (stepT w h) n (fun y => by simp [stepT]) a C hn hC
  simp only [stepT] at h3
  rw [h3] at h2
  show 0 ≤ wt (fun x y => w (h y) y - w (h y) x) _
  have e : (fun x y => w (h y) y - w (h y) x) = stepT w h := rfl
  rw [e]
  omega
structure Tab (t : Nat → Nat → Int) (n : Nat) (D : Nat → Nat → Int) : Prop where
  walk : ∀ x y, x < n → y < n → ∃ B : List Nat, (∀ z ∈ B, z < n) ∧ D x y = wt t (x :: (B ++ [y]))
  le : ∀ x y, x < n → y < n → D x y ≤ t x y
def Pos (t : Nat → Nat → Int) (n : Nat) : Prop := ∀ v B, (∀ x ∈ v :: B, x < n) → 0 ≤ wt t (v :: (B ++ [v]))
theorem Tab.start (t : Nat → Nat → Int) (n : Nat) (D : Nat → Nat → Int) (h : ∀ x y, x < n → y < n → D x y = t x y) : Tab t n D :=
  ⟨fun x y hx hy => ⟨[], by simp, by rw [h x y hx hy]; show _ = wt t (x :: [y]); rw [wt_two, wt_one]; omega⟩, fun x y hx hy => by rw [h x y hx hy]; exact Int.le_refl _⟩
theorem walk_join (t : Nat → Nat → Int) (x z y : Nat) (A B : List Nat) : wt t (x :: ((A ++ z :: B) ++ [y])) = wt t (x :: (A ++ [z])) + wt t (z :: (B ++ [y])) := by
  have e : x :: ((A ++ z :: B) ++ [y]) = (x :: A) ++ z :: (B ++ [y]) := by simp
  rw [e, wt_split]; simp
theorem Tab.step {t : Nat → Nat → Int} {n : Nat} {D D' : Nat → Nat → Int} (h : Tab t n D) {x y z : Nat} (hx : x < n) (hy : y < n) (hz : z < n)
    (e : ∀ a b, a < n → b < n → D' a b = if a = x ∧ b = y then (if D x y ≤ D x z + D z y then D x y else D x z + D z y) else D a b) : Tab t n D' := by
  refine ⟨fun a b ha hb => ?_, fun a b ha hb => ?_⟩
  · rw [e a b ha hb]
    split
    · rename_i hab
      obtain ⟨rfl, rfl⟩ := hab
      split
      · exact h.walk a b hx hy
      · obtain ⟨A, hA, eA⟩ := h.walk a z hx hz
        obtain ⟨B, hB, eB⟩ := h.walk z b hz hy
        refine ⟨A ++ z :: B, fun u hu => ?_, by rw [walk_join, eA, eB]⟩
        simp only [List.mem_append, List.mem_cons] at hu
        rcases hu with hu | rfl | hu
        · exact hA u hu
        · exact hz
        · exact hB u hu
    · exact h.walk a b ha hb
  · rw [e a b ha hb]
    have := h.le a b ha hb
    split
    · rename_i hab
      obtain ⟨rfl, rfl⟩ := hab
      split <;> omega
    · exact this
theorem Tab.diag {t : Nat → Nat → Int} {n : Nat} {D : Nat → Nat → Int} (h : Tab t n D) (hp : Pos t n) (h0 : ∀ y, t y y = 0) {x : Nat} (hx : x < n) : D x x = 0 := by
  obtain ⟨B, hB, e⟩ := h.walk x x hx hx
  have h1 := hp x B (fun u hu => by rcases List.mem_cons.mp hu with h | h <;> first | exact h ▸ hx | exact hB u h)
  have h2 := h.le x x hx hx
  rw [h0] at h2
  omega
theorem Tab.bound {t : Nat → Nat → Int} {n : Nat} {D : Nat → Nat → Int} (h : Tab t n D) (hp : Pos t n) {c : Int} (hb : ∀ x y, x < n → y < n → t x y ≤ c) {x y : Nat} (hx : x < n) (hy : y < n) : -c ≤ D x y ∧ D x y ≤ c := by
  have h1 := h.le x y hx hy
  have h2 := hb x y hx hy
  have h3 := hb y x hy hx
  obtain ⟨B, hB, e⟩ := h.walk x y hx hy
  have h4 := hp x (B ++ [y]) (fun u hu => by simp only [List.mem_cons, List.mem_append, List.not_mem_nil, or_false] at hu; rcases hu with h | h | h <;> first | exact h ▸ hx | exact h ▸ hy | exact hB u h)
  have e2 : x :: ((B ++ [y]) ++ [x]) = x :: ((B ++ y :: []) ++ [x]) := rfl
  rw [e2, walk_join] at h4
  have e3 : wt t (y :: ([] ++ [x])) = t y x := by show wt t (y :: [x]) = _; rw [wt_two, wt_one]; omega
  omega
structure Least (t : Nat → Nat → Int) (n : Nat) (D : Nat → Nat → Int) : Prop where
  tab : Tab t n D
  low : ∀ x y B, x < n → y < n → (∀ z ∈ B, z < n) → D x y ≤ wt t (x :: (B ++ [y]))
theorem Least.unique {t : Nat → Nat → Int} {n : Nat} {D E : Nat → Nat → Int} (h : Least t n D) (h' : Least t n E) {x y : Nat} (hx : x < n) (hy : y < n) : D x y = E x y := by
  obtain ⟨B, hB, e⟩ := h.tab.walk x y hx hy
  obtain ⟨C, hC, e'⟩ := h'.tab.walk x y hx hy
  have h1 := h.low x y C hx hy hC
  have h2 := h'.low x y B hx hy hB
  omega
theorem Least.of_tri {t : Nat → Nat → Int} {n : Nat} {D : Nat → Nat → Int} (h : Tab t n D) (ht : ∀ x y z, x < n → y < n → z < n → D x y ≤ D x z + D z y) : Least t n D := by
  refine ⟨h, fun x y B => ?_⟩
  induction B generalizing x with
  | nil =>
    intro hx hy _
    show D x y ≤ wt t (x :: [y])
    rw [wt_two, wt_one]
    have := h.le x y hx hy
    omega
  | cons z B ih =>
    intro hx hy hB
    have hz := hB z (by simp)
    have h1 := ih z hz hy (fun u hu => hB u (by simp [hu]))
    have h2 := ht x y z hx hy hz
    have h3 := h.le x z hx hz
    rw [List.cons_append, wt_two]
    omega
theorem Least.of_short {t : Nat → Nat → Int} {n : Nat} {D : Nat → Nat → Int} (hp : Pos t n) (h : Tab t n D) (hs : ∀ x y B, x < n → y < n → (∀ z ∈ B, z < n) → B.length ≤ n → D x y ≤ wt t (x :: (B ++ [y]))) : Least t n D := by
  refine ⟨h, fun x y B => ?_⟩
  generalize hm : B.length = m
  induction m using Nat.strongRecOn generalizing B with
  | _ m ih =>
  intro hx hy hB
  by_cases hm' : m ≤ n
  · exact hs x y B hx hy hB (by omega)
  · have hd : ¬ B.Nodup := by
      intro hn
      obtain ⟨R, hR, _⟩ := range_perm n B hn hB
      have := hR.length_eq
      simp at this
      omega
    obtain ⟨A, u, B1, C, rfl⟩ := dup_split _ hd
    have h1 := ih (A ++ u :: C).length (by rw [← hm]; simp; omega) (A ++ u :: C) rfl hx hy (fun z hz => hB z (by simp at hz ⊢; rcases hz with h | h | h <;> simp [h]))
    have h2 := hp u B1 (fun z hz => hB z (by simp at hz ⊢; rcases hz with h | h <;> simp [h]))
    rw [walk_join] at h1 ⊢
    rw [walk_join]
    omega
def via (D : Nat → Nat → Int) (z x y : Nat) : Int := if D x y ≤ D x z + D z y then D x y else D x z + D z y
theorem via_tri {n : Nat} {D : Nat → Nat → Int} {k : Nat} (hk : k < n) (h0 : D k k = 0) (h : ∀ x y z, x < n → y < n → z < k → D x y ≤ D x z + D z y) :
    ∀ x y z, x < n → y < n → z < k + 1 → via D k x y ≤ via D k x z + via D k z y := by
  intro x y z hx hy hz
  rcases Nat.lt_succ_iff_lt_or_eq.mp hz with hz | rfl
  · have a1 := h x y z hx hy hz
    have a2 := h k y z hk hy hz
    have a3 := h x k z hx hk hz
    have a4 := h k k z hk hk hz
    unfold via
    split <;> split <;> split <;> omega
  · unfold via
    split <;> split <;> split <;> omega
end Go.Proofs.Ytiafiebalibkdaa.OAll
