/- A part of the proof of 'fetchLucchesi_holds', for every input, without a condition. -/
import Derived.Test.YtjbfbdanbpfplaaSLQe
namespace Go.Proofs.Ytjbfbdanbpfplaa.OAll
open Go.RowKit Go.Proofs.YtjbfbdanbpfplaaW.PrintWords Go.Proofs.YtjbfbdanbpfplaaW.PrintLast Go.Proofs.YtjbfbdanbpfplaaW.PrintMore
set_option linter.unusedVariables false
set_option linter.unusedSimpArgs false
def disjN (st : List S34) : Nat → List Nat → Prop
  | _, [] => True
  | used, x :: t => cross st x &&& used = 0 ∧ disjN st (used ||| cross st x) t
theorem longN_max (st : List S34) (c : List Nat) : ∀ (d i used : Nat) (now best l : List Nat), d + i = c.length → l.Sublist (c.drop i) → disjN st used l → now.length ≤ best.length → now.length + l.length ≤ (longN st c d i used now best).length := by
  intro d
  induction d with
  | zero =>
    intro i used now best l hd hl hj hb
    rw [List.drop_of_length_le (by omega)] at hl
    rw [List.sublist_nil.mp hl, longN]
    simpa using hb
  | succ d ih =>
    intro i used now best l hd hl hj hb
    have hi : i < c.length := by omega
    rw [longN, dif_pos hi]
    rw [List.drop_eq_getElem_cons hi] at hl
    cases l with
    | nil =>
      have h0 := longN_ge st c d (i + 1) used now
      simp only [List.length_nil, Nat.add_zero]
      split
      · refine Nat.le_trans ?_ (h0 _)
        split <;> omega
      · exact Nat.le_trans hb (h0 _)
    | cons x t =>
      rcases List.sublist_cons_iff.mp hl with h | ⟨r, hr, h⟩
      · have hgo : ∀ b : List Nat, now.length ≤ b.length → now.length + (x :: t).length ≤ (longN st c d (i + 1) used now b).length := fun b hb' => ih (i + 1) used now b (x :: t) (by omega) h hj hb'
        split
        · exact hgo _ (by split <;> omega)
        · exact hgo _ hb
      · obtain ⟨rfl, rfl⟩ := List.cons.inj hr
        rw [if_pos hj.1]
        have hy := ih (i + 1) (used ||| cross st c[i]) (now ++ [c[i]]) (now ++ [c[i]]) t (by omega) h hj.2 (Nat.le_refl _)
        have h1 : (now ++ [c[i]]).length = now.length + 1 := by simp
        rw [h1] at hy
        show now.length + (t.length + 1) ≤ _
        refine Nat.le_trans ?_ (longN_ge st c d (i + 1) used now _)
        split <;> omega
theorem longN_is (st : List S34) (c : List Nat) : ∀ (d i used : Nat) (now best : List Nat), longN st c d i used now best = best ∨ ∃ l, l.Sublist (c.drop i) ∧ disjN st used l ∧ longN st c d i used now best = now ++ l := by
  intro d
  induction d with
  | zero => intro i used now best; exact Or.inl rfl
  | succ d ih =>
    intro i used now best
    rw [longN]
    by_cases hi : i < c.length
    · rw [dif_pos hi, List.drop_eq_getElem_cons hi]
      have up : ∀ b, (longN st c d (i + 1) used now b = b ∨ ∃ l, l.Sublist (c.drop (i + 1)) ∧ disjN st used l ∧ longN st c d (i + 1) used now b = now ++ l) := fun b => ih (i + 1) used now b
      have lift : ∀ b, (∃ l, l.Sublist (c.drop (i + 1)) ∧ disjN st used l ∧ longN st c d (i + 1) used now b = now ++ l) → ∃ l, l.Sublist (c[i] :: c.drop (i + 1)) ∧ disjN st used l ∧ longN st c d (i + 1) used now b = now ++ l := fun b ⟨l, h1, h2, h3⟩ => ⟨l, h1.cons _, h2, h3⟩
      by_cases hx : cross st c[i] &&& used = 0
      · rw [if_pos hx]
        have hy : ∃ l, l.Sublist (c[i] :: c.drop (i + 1)) ∧ disjN st used l ∧ longN st c d (i + 1) (used ||| cross st c[i]) (now ++ [c[i]]) (now ++ [c[i]]) = now ++ l := by
          rcases ih (i + 1) (used ||| cross st c[i]) (now ++ [c[i]]) (now ++ [c[i]]) with h | ⟨l, h1, h2, h3⟩
          · exact ⟨[c[i]], (List.nil_sublist _).cons_cons _, ⟨hx, trivial⟩, h⟩
          · exact ⟨c[i] :: l, h1.cons_cons _, ⟨hx, h2⟩, by rw [h3]; simp⟩
        by_cases hl : (longN st c d (i + 1) (used ||| cross st c[i]) (now ++ [c[i]]) (now ++ [c[i]])).length > best.length
        · simp only [hl, if_true]
          rcases up (longN st c d (i + 1) (used ||| cross st c[i]) (now ++ [c[i]]) (now ++ [c[i]])) with h | h
          · rw [h]; exact Or.inr hy
          · exact Or.inr (lift _ h)
        · simp only [hl, if_false]
          exact (up best).imp id (lift best)
      · rw [if_neg hx]
        exact (up best).imp id (lift best)
    · rw [dif_neg hi]; exact Or.inl rfl
theorem and_or_zero {a b c : Nat} : a &&& (b ||| c) = 0 ↔ a &&& b = 0 ∧ a &&& c = 0 := by
  rw [Nat.and_or_distrib_left, Nat.or_eq_zero_iff]
theorem disjN_iff (st : List S34) : ∀ (l : List Nat) (used : Nat), disjN st used l ↔ (∀ x ∈ l, cross st x &&& used = 0) ∧ l.Pairwise fun x y => cross st x &&& cross st y = 0
  | [], used => by simp [disjN]
  | x :: t, used => by
    rw [disjN, disjN_iff st t, List.pairwise_cons]
    constructor
    · rintro ⟨h1, h2, h3⟩
      refine ⟨fun y hy => ?_, fun y hy => ?_, h3⟩
      · rcases List.mem_cons.mp hy with rfl | h
        · exact h1
        · exact (and_or_zero.mp (h2 y h)).1
      · rw [Nat.and_comm]; exact (and_or_zero.mp (h2 y hy)).2
    · rintro ⟨h1, h2, h3⟩
      exact ⟨h1 x (List.mem_cons_self), fun y hy => and_or_zero.mpr ⟨h1 y (List.mem_cons_of_mem _ hy), by rw [Nat.and_comm]; exact h2 y hy⟩, h3⟩
theorem apartN_is (n : Nat) (st : List S34) : (apartN n st).Sublist (cutsN n st) ∧ (apartN n st).Pairwise fun x y => cross st x &&& cross st y = 0 := by
  rcases longN_is st (cutsN n st) (cutsN n st).length 0 0 [] [] with h | ⟨l, h1, h2, h3⟩
  · rw [apartN, h]; exact ⟨List.nil_sublist _, List.Pairwise.nil⟩
  · rw [apartN, h3, List.nil_append]
    exact ⟨by simpa using h1, ((disjN_iff st l 0).mp h2).2⟩
theorem cutsN_sorted2 (n : Nat) (st : List S34) : (cutsN n st).Pairwise (· < ·) := List.Pairwise.filter _ List.pairwise_lt_range
theorem sorted_nodup {l : List Nat} (h : l.Pairwise (· < ·)) : l.Nodup := h.imp fun h => Nat.ne_of_lt h
theorem apartN_max (n : Nat) (st : List S34) (l : List Nat) (hn : l.Nodup) (hc : ∀ x ∈ l, isCutB n st x = true) (hp : ∀ x ∈ l, ∀ y ∈ l, x ≠ y → cross st x &&& cross st y = 0) : l.length ≤ (apartN n st).length := by
  have hs : ((cutsN n st).filter (· ∈ l)).Sublist (cutsN n st) := List.filter_sublist
  have hnd : ((cutsN n st).filter (· ∈ l)).Nodup := List.Pairwise.sublist hs (sorted_nodup (cutsN_sorted2 n st))
  have hperm : ((cutsN n st).filter (· ∈ l)).Perm l := (List.perm_ext_iff_of_nodup hnd hn).mpr fun x => by
    rw [List.mem_filter, cutsN_mem]
    exact ⟨fun h => of_decide_eq_true h.2, fun h => ⟨hc x h, decide_eq_true h⟩⟩
  rw [← hperm.length_eq]
  have hd : disjN st 0 ((cutsN n st).filter (· ∈ l)) := (disjN_iff st _ 0).mpr ⟨fun x _ => Nat.and_zero _, by
    have := List.Pairwise.sublist hs (cutsN_sorted2 n st)
    refine List.Pairwise.imp_of_mem (fun {x y} hx hy hlt => ?_) this
    rw [List.mem_filter] at hx hy
    exact hp x (of_decide_eq_true hx.2) y (of_decide_eq_true hy.2) (Nat.ne_of_lt hlt)⟩
  have := longN_max st (cutsN n st) (cutsN n st).length 0 0 [] [] ((cutsN n st).filter (· ∈ l)) (by omega) (by simp) hd (Nat.le_refl _)
  simpa [apartN] using this
end Go.Proofs.Ytjbfbdanbpfplaa.OAll
