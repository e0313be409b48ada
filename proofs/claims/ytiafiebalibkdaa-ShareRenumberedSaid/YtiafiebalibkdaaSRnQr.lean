/- A part of the proof of 'shareRenumbered_holds', for every input, without a condition. -/
namespace Go.Proofs.Ytiafiebalibkdaa.OAll
set_option linter.unusedVariables false
set_option linter.unusedSimpArgs false
def wt (t : Nat → Nat → Int) : List Nat → Int
  | a :: b :: l => t a b + wt t (b :: l)
  | [_] => 0
  | [] => 0
theorem wt_two (t : Nat → Nat → Int) (a b : Nat) (l : List Nat) : wt t (a :: b :: l) = t a b + wt t (b :: l) := rfl
theorem wt_one (t : Nat → Nat → Int) (a : Nat) : wt t [a] = 0 := rfl
theorem wt_split (t : Nat → Nat → Int) (v : Nat) (B : List Nat) : ∀ (A : List Nat), wt t (A ++ v :: B) = wt t (A ++ [v]) + wt t (v :: B)
  | [] => by simp [wt_one]
  | [a] => by show wt t (a :: v :: B) = wt t (a :: [v]) + _; rw [wt_two, wt_two, wt_one]; omega
  | a :: b :: A => by
    have := wt_split t v B (b :: A)
    simp only [List.cons_append, wt_two] at this ⊢
    omega
def isum : List Int → Int
  | [] => 0
  | x :: l => x + isum l
theorem isum_perm {a b : List Int} (h : a.Perm b) : isum a = isum b := by
  induction h with
  | nil => rfl
  | cons x _ ih => simp only [isum, ih]
  | swap x y l => simp only [isum]; omega
  | trans _ _ i1 i2 => rw [i1, i2]
theorem range_perm (n : Nat) (C : List Nat) (hn : C.Nodup) (hx : ∀ x ∈ C, x < n) : ∃ R, (List.range n).Perm (C ++ R) ∧ ∀ x ∈ R, x ∉ C := by
  refine ⟨(List.range n).filter (fun x => !C.contains x), ?_, fun x hx' => by simp at hx'; exact hx'.2⟩
  have h1 : ((List.range n).filter (fun x => C.contains x) ++ (List.range n).filter (fun x => !C.contains x)).Perm (List.range n) := List.filter_append_perm _ _
  refine h1.symm.trans (List.Perm.append_right _ ?_)
  refine ((List.perm_ext_iff_of_nodup hn (List.Pairwise.filter _ List.nodup_range)).mpr fun y => ?_).symm
  simp only [List.mem_filter, List.mem_range, List.contains_eq_mem, decide_eq_true_eq]
  exact ⟨fun hy => ⟨hx y hy, hy⟩, fun hy => hy.2⟩
theorem perm_nodup {n : Nat} {l : List Nat} (h1 : l.length = n) (hn : l.Nodup) (hx : ∀ x ∈ l, x < n) : l.Perm (List.range n) := by
  obtain ⟨R, hp, hR⟩ := range_perm n l hn hx
  have := hp.length_eq
  simp only [List.length_range, List.length_append] at this
  obtain rfl := List.eq_nil_of_length_eq_zero (show R.length = 0 by omega)
  rw [List.append_nil] at hp
  exact hp.symm
def wfrom (w : Nat → Nat → Int) : Nat → List Nat → Int
  | _, [] => 0
  | j, x :: l => w j x + wfrom w (j + 1) l
structure Tab (t : Nat → Nat → Int) (n : Nat) (D : Nat → Nat → Int) : Prop where
  walk : ∀ x y, x < n → y < n → ∃ B : List Nat, (∀ z ∈ B, z < n) ∧ D x y = wt t (x :: (B ++ [y]))
  le : ∀ x y, x < n → y < n → D x y ≤ t x y
def Pos (t : Nat → Nat → Int) (n : Nat) : Prop := ∀ v B, (∀ x ∈ v :: B, x < n) → 0 ≤ wt t (v :: (B ++ [v]))
theorem walk_join (t : Nat → Nat → Int) (x z y : Nat) (A B : List Nat) : wt t (x :: ((A ++ z :: B) ++ [y])) = wt t (x :: (A ++ [z])) + wt t (z :: (B ++ [y])) := by
  have e : x :: ((A ++ z :: B) ++ [y]) = (x :: A) ++ z :: (B ++ [y]) := by simp
  rw [e, wt_split]; simp
theorem Tab.step {t : Nat → Nat → Int} {n : Nat} {D D' : Nat → Nat → Int} (h : Tab t n D) {x y z : Nat} (hx : x < n) (hy : y < n) (hz : z < n)
    (e : ∀ a b, a < n → b < n → D' a b = if a = x ∧ b = y then (if D x y ≤ D x z + D z y then D x y else D x z + D z y) else D a b) : Tab t n D' := by
  refine ⟨fun a b ha hb => ?_, fun a b ha hb => ?_⟩
  · rw [e a b ha hb]
    split
    · rename_i hab
      obtain ⟨rfl, rfl⟩ := hab
      split
      · exact h.walk a b hx hy
      · obtain ⟨A, hA, eA⟩ := h.walk a z hx hz
        obtain ⟨B, hB, eB⟩ := h.walk z b hz hy
        refine ⟨A ++ z :: B, fun u hu => ?_, by rw [walk_join, eA, eB]⟩
        simp only [List.mem_append, List.mem_cons] at hu
        rcases hu with hu | rfl | hu
        · exact hA u hu
        · exact hz
        · exact hB u hu
    · exact h.walk a b ha hb
  · rw [e a b ha hb]
    have := h.le a b ha hb
    split
    · rename_i hab
      obtain ⟨rfl, rfl⟩ := hab
      split <;> omega
    · exact this
theorem Tab.bound {t : Nat → Nat → Int} {n : Nat} {D : Nat → Nat → Int} (h : Tab t n D) (hp : Pos t n) {c : Int} (hb : ∀ x y, x < n → y < n → t x y ≤ c) {x y : Nat} (hx : x < n) (hy : y < n) : -c ≤ D x y ∧ D x y ≤ c := by
  have h1 := h.le x y hx hy
  have h2 := hb x y hx hy
  have h3 := hb y x hy hx
  obtain ⟨B, hB, e⟩ := h.walk x y hx hy
  have h4 := hp x (B ++ [y]) (fun u hu => by simp only [List.mem_cons, List.mem_append, List.not_mem_nil, or_false] at hu; rcases hu with h | h | h <;> first | exact h ▸ hx | exact h ▸ hy | exact hB u h)
  have e2 : x :: ((B ++ [y]) ++ [x]) = x :: ((B ++ y :: []) ++ [x]) := rfl
  rw [e2, walk_join] at h4
  have e3 : wt t (y :: ([] ++ [x])) = t y x := by show wt t (y :: [x]) = _; rw [wt_two, wt_one]; omega
  omega
end Go.Proofs.Ytiafiebalibkdaa.OAll
