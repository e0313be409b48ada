/- A part of the proof of 'shareContent_holds', for every input, without a condition. -/
import Derived.Test.YtiafiebalibkdaaSCoQd
import Derived.Test.YtiafiebalibkdaaSCoOAllx5
import Derived.Test.YtiafiebalibkdaaSCoOAllx6
import Derived.Test.YtiafiebalibkdaaSCoOAllx0
import Derived.Test.YtiafiebalibkdaaSCoOAllx10
namespace Go.Proofs.Ytiafiebalibkdaa.OAll
open Go.RowKit Go.Proofs.YtiafiebalibkdaaW.PrintWords Go.Proofs.YtiafiebalibkdaaW.PrintLast Go.Proofs.YtiafiebalibkdaaW.PrintMore
set_option linter.unusedVariables false
set_option linter.unusedSimpArgs false
def Sm (x : Int) : Prop := -4611686018427387904 ≤ x ∧ x ≤ 4611686018427387904
theorem mx_abs {x : Int} (h : Sm x) : mx x (wrap64 (-x)) = (x.natAbs : Int) := by
  unfold Sm at h
  have e : wrap64 (-x) = -x := w64 (by omega) (by omega)
  rw [e]; unfold mx; split <;> omega
theorem gcd_step (a b : Int) : b.natAbs.gcd (Int.tmod a b).natAbs = a.natAbs.gcd b.natAbs := by
  rw [Int.natAbs_tmod, Nat.gcd_comm a.natAbs, Nat.gcd_rec b.natAbs a.natAbs, Nat.gcd_comm]
theorem tmod_sm {a b : Int} (h : Sm b) (hb : b ≠ 0) : Sm (Int.tmod a b) ∧ (Int.tmod a b).natAbs < b.natAbs := by
  have h1 : (Int.tmod a b).natAbs < b.natAbs := by rw [Int.natAbs_tmod]; exact Nat.mod_lt _ (by omega)
  unfold Sm at h ⊢
  exact ⟨by omega, h1⟩
theorem divisor_ev : ∀ (m : Nat) (a b : Int), b.natAbs ≤ m → Sm a → Sm b → Ev (fun k => ratio_divisor.f k a b) ((a.natAbs.gcd b.natAbs : Nat) : Int) := by
  intro m
  induction m with
  | zero =>
    intro a b hb ha hb'
    obtain rfl : b = 0 := by omega
    refine Ev.succ ?_
    simp only [ratio_divisor.f, if_true, mx_abs ha, Int.natAbs_zero, Nat.gcd_zero_right]
    exact Ev.pure _
  | succ m ih =>
    intro a b hb ha hb'
    refine Ev.succ ?_
    by_cases h : b = 0
    · subst h
      simp only [ratio_divisor.f, if_true, mx_abs ha, Int.natAbs_zero, Nat.gcd_zero_right]
      exact Ev.pure _
    · simp only [ratio_divisor.f, h, if_false]
      have ht := tmod_sm (a := a) hb' h
      have := ih b (Int.tmod a b) (by omega) hb' ht.1
      rw [gcd_step] at this
      exact Ev.bind this (Ev.pure _)
def gcdL (g : Nat) (l : List Int) : Nat := l.foldl (fun g x => g.gcd x.natAbs) g
theorem gcdL_dvd : ∀ (l : List Int) (g : Nat), gcdL g l ∣ g ∧ ∀ x ∈ l, (gcdL g l) ∣ x.natAbs
  | [], g => ⟨Nat.dvd_refl _, fun _ h => by cases h⟩
  | x :: t, g => by
    have h := gcdL_dvd t (g.gcd x.natAbs)
    refine ⟨Nat.dvd_trans h.1 (Nat.gcd_dvd_left _ _), fun y hy => ?_⟩
    rcases List.mem_cons.mp hy with rfl | hy
    · exact Nat.dvd_trans h.1 (Nat.gcd_dvd_right _ _)
    · exact h.2 y hy
theorem gcdL_great : ∀ (l : List Int) (g d : Nat), d ∣ g → (∀ x ∈ l, d ∣ x.natAbs) → d ∣ gcdL g l
  | [], g, d, h, _ => h
  | x :: t, g, d, h, h' => gcdL_great t _ d (Nat.dvd_gcd h (h' x List.mem_cons_self)) fun y hy => h' y (List.mem_cons_of_mem _ hy)
theorem gcdL_pos {g : Nat} (h : 0 < g) (l : List Int) : 0 < gcdL g l := Nat.pos_of_dvd_of_pos (gcdL_dvd l g).1 h
theorem gcdL_le {g : Nat} (h : 0 < g) (l : List Int) : gcdL g l ≤ g := Nat.le_of_dvd h (gcdL_dvd l g).1
def lowN (nums : List Int) (den : Int) : List Int × Int := (nums.map fun x => Int.tdiv x (gcdL den.natAbs nums), Int.tdiv den (gcdL den.natAbs nums))
theorem tdiv_sm {a b : Int} (h : Sm a) : wrap64 (Int.tdiv a b) = Int.tdiv a b := by
  have h1 : (Int.tdiv a b).natAbs ≤ a.natAbs := by rw [Int.natAbs_tdiv]; exact Nat.div_le_self _ _
  unfold Sm at h
  exact w64 (by omega) (by omega)
theorem rmap_set (f : Int → Int) (p t : List Int) (x : Int) : (p.map f ++ List.replicate (x :: t).length 0).set p.length (f x) = (p ++ [x]).map f ++ List.replicate t.length 0 := by
  simp [List.replicate_succ]
theorem parts_l1 (l : List Int) (d den : Int) (hd : d ≠ 0) (hden : Sm den) (hs : ∀ x ∈ l, Sm x) (hl : l.length < 9223372036854775807) : ∀ (suf pre : List Int), l = pre ++ suf →
    Ev (fun k => ratio_Parts.l1 k den d (pre.map (fun x => Int.tdiv x d) ++ List.replicate suf.length 0) l (l.length : Int) pre.length) (l.map (fun x => Int.tdiv x d), Int.tdiv den d)
  | [], pre, e => by
    refine Ev.succ ?_
    have e3 : ¬ (pre.length : Int) < (l.length : Int) := by rw [e]; simp
    have el : l = pre := by rw [e]; simp
    simp only [ratio_Parts.l1, e3, if_false, hd, tdiv_sm hden, List.length_nil, List.replicate_zero, List.append_nil]
    rw [el]
    exact Ev.pure _
  | x :: t, pre, e => by
    refine Ev.succ ?_
    have hlt : pre.length < l.length := by rw [e]; simp
    have e3 : (pre.length : Int) < (l.length : Int) := by omega
    have e2 : rd l (pre.length : Int) = x := by rw [e]; exact rd_mid _ _ _
    have e4 : (pre.length : Int) < ((pre.map (fun x => Int.tdiv x d) ++ List.replicate (x :: t).length 0).length : Int) := by simp; omega
    have e1 : wrap64 ((pre.length : Int) + 1) = (((pre ++ [x]).length : Nat) : Int) := by rw [w64s _ (by omega)]; simp
    have hx := hs x (by rw [e]; simp)
    simp only [ratio_Parts.l1, e3, e4, if_true, nonneg_len, e2, hd, if_false, e1, tdiv_sm hx, Int.toNat_natCast]
    have := parts_l1 l d den hd hden hs hl t (pre ++ [x]) (by rw [e]; simp)
    rw [← rmap_set (fun x => Int.tdiv x d)] at this
    exact this
theorem parts_l0 (l : List Int) (den : Int) (hpos : 0 < den) (hden : Sm den) (hs : ∀ x ∈ l, Sm x) (hl : l.length ≤ 1000) : ∀ (suf pre : List Int), l = pre ++ suf →
    Ev (fun k => ratio_Parts.l0 k l den ((gcdL den.natAbs pre : Nat) : Int) l (l.length : Int) pre.length) (lowN l den)
  | [], pre, e => by
    refine Ev.succ ?_
    have e3 : ¬ (pre.length : Int) < (l.length : Int) := by rw [e]; simp
    have el : l = pre := by rw [e]; simp
    have hp : 0 < gcdL den.natAbs pre := gcdL_pos (by omega) pre
    have hle := gcdL_le (show 0 < den.natAbs by omega) pre
    have hg : Sm ((gcdL den.natAbs pre : Nat) : Int) := by unfold Sm at hden ⊢; omega
    have e5 : l.length ≤ 35184372088832 := by omega
    simp only [ratio_Parts.l0, e3, if_false, nonneg_len, if_true, e5, mx_abs hg, Int.natAbs_natCast, Int.toNat_natCast]
    have := parts_l1 l ((gcdL den.natAbs pre : Nat) : Int) den (by omega) hden hs (by omega) l [] rfl
    simp only [List.map_nil, List.nil_append] at this
    rw [lowN]
    rw [← el] at this ⊢
    exact this
  | x :: t, pre, e => by
    refine Ev.succ ?_
    have hlt : pre.length < l.length := by rw [e]; simp
    have e3 : (pre.length : Int) < (l.length : Int) := by omega
    have e2 : rd l (pre.length : Int) = x := by rw [e]; exact rd_mid _ _ _
    have e1 : wrap64 ((pre.length : Int) + 1) = (((pre ++ [x]).length : Nat) : Int) := by rw [w64s _ (by omega)]; simp
    have hx := hs x (by rw [e]; simp)
    have hle := gcdL_le (show 0 < den.natAbs by omega) pre
    have hg : Sm ((gcdL den.natAbs pre : Nat) : Int) := by unfold Sm at hden ⊢; omega
    simp only [ratio_Parts.l0, e3, if_true, nonneg_len, e2, e1]
    refine Ev.bind (divisor_ev _ _ _ (Nat.le_refl _) hg hx) ?_
    have eg : (((gcdL den.natAbs pre : Nat) : Int).natAbs.gcd x.natAbs) = gcdL den.natAbs (pre ++ [x]) := by
      rw [gcdL, gcdL, List.foldl_append]; rfl
    rw [eg]
    exact parts_l0 l den hpos hden hs hl t (pre ++ [x]) (by rw [e]; simp)
theorem parts_ev (l : List Int) (den : Int) (hpos : 0 < den) (hden : Sm den) (hs : ∀ x ∈ l, Sm x) (hl : l.length ≤ 1000) : Ev (fun k => ratio_Parts.f k l den) (lowN l den) := by
  have := parts_l0 l den hpos hden hs hl l [] rfl
  unfold ratio_Parts.f
  have e : ((gcdL den.natAbs [] : Nat) : Int) = den := by show (den.natAbs : Int) = den; omega
  rw [e] at this
  exact this
end Go.Proofs.Ytiafiebalibkdaa.OAll
