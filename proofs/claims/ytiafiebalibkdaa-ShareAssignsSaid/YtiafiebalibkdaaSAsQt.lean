/- A part of the proof of 'shareAssigns_holds', for every input, without a condition. -/
import Derived.Test.YtiafiebalibkdaaSAsQs
import Derived.Test.YtiafiebalibkdaaSAsOAllx6
namespace Go.Proofs.Ytiafiebalibkdaa.OAll
open Go.RowKit Go.Proofs.YtiafiebalibkdaaW.PrintWords Go.Proofs.YtiafiebalibkdaaW.PrintLast Go.Proofs.YtiafiebalibkdaaW.PrintMore
set_option linter.unusedVariables false
set_option linter.unusedSimpArgs false
structure Sq (n : Nat) (out : List (List Int)) : Prop where
  len : out.length = n
  row : ∀ x : Nat, x < n → (rd_L1 out (x : Int)).length = n
theorem rd_put (l : List Int) (y b : Nat) (v : Int) (hy : y < l.length) : rd (l.set y v) (b : Int) = if b = y then v else rd l (b : Int) := by
  simp only [rd, Int.toNat_natCast, List.getD_eq_getElem?_getD]
  by_cases e : b = y
  · subst e; simp [hy]
  · rw [List.getElem?_set_ne (by omega), if_neg e]
theorem rd_L1_put (out : List (List Int)) (x i : Nat) (r : List Int) (hx : x < out.length) : rd_L1 (out.set x r) (i : Int) = if i = x then r else rd_L1 out (i : Int) := by
  simp only [rd_L1, Int.toNat_natCast, List.getD_eq_getElem?_getD]
  by_cases e : i = x
  · subst e; simp [hx]
  · rw [List.getElem?_set_ne (by omega), if_neg e]
theorem Sq.put {n : Nat} {out : List (List Int)} (hs : Sq n out) {x y : Nat} (hx : x < n) (hy : y < n) (v : Int) :
    Sq n (out.set x ((rd_L1 out (x : Int)).set y v)) ∧ ∀ a b, wN (out.set x ((rd_L1 out (x : Int)).set y v)) a b = if a = x ∧ b = y then v else wN out a b := by
  have hl := hs.len
  have hr := hs.row x hx
  refine ⟨⟨by rw [List.length_set]; exact hl, fun a ha => ?_⟩, fun a b => ?_⟩
  · rw [rd_L1_put _ _ _ _ (by omega)]
    split
    · rw [List.length_set]; exact hr
    · exact hs.row a ha
  · unfold wN
    rw [rd_L1_put _ _ _ _ (by omega)]
    by_cases e : a = x
    · subst e
      rw [if_pos rfl, rd_put _ _ _ _ (by omega)]
      simp
    · simp [e]
section
variable {t : Nat → Nat → Int} {n : Nat}
theorem relax_spec (hp : Pos t n) (hb : ∀ x y, x < n → y < n → t x y ≤ 1000) {out : List (List Int)} (hs : Sq n out) (ht : Tab t n (wN out)) {x y z : Nat} (hx : x < n) (hy : y < n) (hz : z < n) :
    Sq n (relax z x out y) ∧ Tab t n (wN (relax z x out y)) ∧ ∀ a b, wN (relax z x out y) a b = if a = x ∧ b = y then via (wN out) z x y else wN out a b := by
  have b1 := ht.bound hp hb hx hz
  have b2 := ht.bound hp hb hz hy
  have hv : mn (rd (rd_L1 out (x : Int)) (y : Int)) (wrap64 (rd (rd_L1 out (x : Int)) (z : Int) + rd (rd_L1 out (z : Int)) (y : Int))) = via (wN out) z x y := by
    have e1 : rd (rd_L1 out (x : Int)) (z : Int) = wN out x z := rfl
    have e2 : rd (rd_L1 out (z : Int)) (y : Int) = wN out z y := rfl
    have e3 : rd (rd_L1 out (x : Int)) (y : Int) = wN out x y := rfl
    rw [e1, e2, e3, w64 (by omega) (by omega)]
    unfold mn via
    split <;> split <;> omega
  obtain ⟨h1, h2⟩ := hs.put hx hy (via (wN out) z x y)
  have e : relax z x out y = out.set x ((rd_L1 out (x : Int)).set y (via (wN out) z x y)) := by unfold relax; rw [hv]
  rw [e]
  refine ⟨h1, ?_, h2⟩
  exact ht.step hx hy hz (fun a b ha hb => by rw [h2 a b]; rfl)
def Mix (O : List (List Int)) (z n : Nat) (P : Nat → Nat → Bool) (C : List (List Int)) : Prop := ∀ a b, a < n → b < n → wN C a b = if P a b then via (wN O) z a b else wN O a b
theorem relax_mix (hp : Pos t n) (hb : ∀ x y, x < n → y < n → t x y ≤ 1000) {O C : List (List Int)} {P : Nat → Nat → Bool} (hs : Sq n C) (ht : Tab t n (wN C)) {x y z : Nat} (hx : x < n) (hy : y < n) (hz : z < n)
    (h0 : wN O z z = 0) (hm : Mix O z n P C) (hxy : P x y = false) : Sq n (relax z x C y) ∧ Tab t n (wN (relax z x C y)) ∧ Mix O z n (fun a b => P a b || (a == x && b == y)) (relax z x C y) := by
  obtain ⟨h1, h2, h3⟩ := relax_spec hp hb hs ht hx hy hz
  refine ⟨h1, h2, fun a b ha hb' => ?_⟩
  rw [h3 a b]
  have k1 : wN C x z = wN O x z := by rw [hm x z hx hz]; unfold via; split <;> (try split) <;> omega
  have k2 : wN C z y = wN O z y := by rw [hm z y hz hy]; unfold via; split <;> (try split) <;> omega
  have k3 : wN C x y = wN O x y := by rw [hm x y hx hy, hxy]; simp
  by_cases e : a = x ∧ b = y
  · obtain ⟨rfl, rfl⟩ := e
    simp only [and_self, if_true, BEq.rfl, Bool.and_self, Bool.or_true]
    unfold via
    rw [k1, k2, k3]
  · rw [if_neg e, hm a b ha hb']
    have : (a == x && b == y) = false := by
      rw [Bool.and_eq_false_iff, beq_eq_false_iff_ne, beq_eq_false_iff_ne]
      by_cases h : a = x
      · exact .inr fun h' => e ⟨h, h'⟩
      · exact .inl h
    simp only [this, Bool.or_false]
theorem Mix.congr {O C : List (List Int)} {z : Nat} {P Q : Nat → Nat → Bool} (h : Mix O z n P C) (e : ∀ a b, a < n → b < n → P a b = Q a b) : Mix O z n Q C := fun a b ha hb => by rw [h a b ha hb, e a b ha hb]
theorem relaxY_mix (hp : Pos t n) (hb : ∀ x y, x < n → y < n → t x y ≤ 1000) {O C : List (List Int)} {x z : Nat} (hx : x < n) (hz : z < n) (h0 : wN O z z = 0) (hs : Sq n C) (ht : Tab t n (wN C))
    (hm : Mix O z n (fun a _ => decide (a < x)) C) : ∀ m, m ≤ n → Sq n (relaxY z x m C) ∧ Tab t n (wN (relaxY z x m C)) ∧ Mix O z n (fun a b => decide (a < x) || (a == x && decide (b < m))) (relaxY z x m C)
  | 0, _ => ⟨hs, ht, hm.congr fun a b _ _ => by simp⟩
  | m + 1, hmn => by
    obtain ⟨i1, i2, i3⟩ := relaxY_mix hp hb hx hz h0 hs ht hm m (by omega)
    rw [relaxY_succ]
    obtain ⟨j1, j2, j3⟩ := relax_mix hp hb i1 i2 hx (show m < n by omega) hz h0 i3 (by simp)
    refine ⟨j1, j2, j3.congr fun a b _ _ => ?_⟩
    by_cases e : a = x
    · subst e
      simp only [Nat.lt_irrefl, decide_false, Bool.false_or, BEq.rfl, Bool.true_and]
      rw [Bool.eq_iff_iff]
      simp only [Bool.or_eq_true, decide_eq_true_eq, beq_iff_eq]
      omega
    · have : (a == x) = false := beq_eq_false_iff_ne.mpr e
      simp [this]
theorem relaxX_mix (hp : Pos t n) (hb : ∀ x y, x < n → y < n → t x y ≤ 1000) {O : List (List Int)} {z : Nat} (hz : z < n) (h0 : wN O z z = 0) (hs : Sq n O) (ht : Tab t n (wN O)) :
    ∀ m, m ≤ n → Sq n (relaxX n z m O) ∧ Tab t n (wN (relaxX n z m O)) ∧ Mix O z n (fun a _ => decide (a < m)) (relaxX n z m O)
  | 0, _ => ⟨hs, ht, fun a b _ _ => by simp; rfl⟩
  | m + 1, hmn => by
    obtain ⟨i1, i2, i3⟩ := relaxX_mix hp hb hz h0 hs ht m (by omega)
    rw [relaxX_succ]
    obtain ⟨j1, j2, j3⟩ := relaxY_mix hp hb (show m < n by omega) hz h0 i1 i2 i3 n (Nat.le_refl _)
    refine ⟨j1, j2, j3.congr fun a b _ hb' => ?_⟩
    simp only [hb', decide_true, Bool.and_true]
    rw [Bool.eq_iff_iff]
    simp only [Bool.or_eq_true, decide_eq_true_eq, beq_iff_eq]
    omega
theorem relaxZ_spec (hp : Pos t n) (ht0 : ∀ y, t y y = 0) (hb : ∀ x y, x < n → y < n → t x y ≤ 1000) {O : List (List Int)} (hs : Sq n O) (ht : Tab t n (wN O)) :
    ∀ m, m ≤ n → Sq n (relaxZ n m O) ∧ Tab t n (wN (relaxZ n m O)) ∧ ∀ x y z, x < n → y < n → z < m → wN (relaxZ n m O) x y ≤ wN (relaxZ n m O) x z + wN (relaxZ n m O) z y
  | 0, _ => ⟨hs, ht, fun _ _ _ _ _ h => absurd h (Nat.not_lt_zero _)⟩
  | m + 1, hmn => by
    obtain ⟨i1, i2, i3⟩ := relaxZ_spec hp ht0 hb hs ht m (by omega)
    rw [relaxZ_succ]
    have hd := i2.diag hp ht0 (show m < n by omega)
    obtain ⟨j1, j2, j3⟩ := relaxX_mix hp hb (show m < n by omega) hd i1 i2 n (Nat.le_refl _)
    refine ⟨j1, j2, fun x y z hx hy hz => ?_⟩
    have e : ∀ a b, a < n → b < n → wN (relaxX n m n (relaxZ n m O)) a b = via (wN (relaxZ n m O)) m a b := fun a b ha hb' => by rw [j3 a b ha hb']; simp [ha]
    rw [e x y hx hy, e x z hx (by omega), e z y (by omega) hy]
    exact via_tri (show m < n by omega) hd i3 x y z hx hy hz
theorem relaxZ_least (hp : Pos t n) (ht0 : ∀ y, t y y = 0) (hb : ∀ x y, x < n → y < n → t x y ≤ 1000) {O : List (List Int)} (hs : Sq n O) (ht : Tab t n (wN O)) : Sq n (relaxZ n n O) ∧ Least t n (wN (relaxZ n n O)) := by
  obtain ⟨h1, h2, h3⟩ := relaxZ_spec hp ht0 hb hs ht n (Nat.le_refl _)
  exact ⟨h1, Least.of_tri h2 h3⟩
end
section
variable {W : List (List Int)} {n : Nat} {rent : Int}
def hold (m : List Nat) (y : Nat) : Nat := m.idxOf y
def stT (W : List (List Int)) (n : Nat) : Nat → Nat → Int := stepT (wN W) (hold (bestA (wN W) n).1)
theorem hold_get {m : List Nat} (hn : m.Nodup) {i : Nat} (hi : i < m.length) : hold m m[i] = i := hn.idxOf_getElem i hi
theorem hold_lt {m : List Nat} (hm : m.Perm (List.range n)) {y : Nat} (hy : y < n) : hold m y < n := by
  have h1 : y ∈ m := hm.mem_iff.mpr (by simpa using hy)
  have h2 := List.idxOf_lt_length_of_mem h1
  rw [hm.length_eq, List.length_range] at h2
  exact h2
theorem Wish.best (hW : Wish W n rent) : (bestA (wN W) n).1.Perm (List.range n) := (bestA_spec (wN W) n hW.perm0).1
theorem Wish.step0 (y : Nat) : stT W n y y = 0 := by simp [stT, stepT]
theorem Wish.stepb (hW : Wish W n rent) (x y : Nat) (hx : x < n) (hy : y < n) : stT W n x y ≤ 1000 := by
  have hh := hold_lt hW.best hy
  have h1 := hW.ent _ y hh hy
  have h2 := hW.ent _ x hh hx
  simp only [stT, stepT, wN]; omega
theorem Wish.posT (hW : Wish W n rent) : Pos (stT W n) n := by
  have hb := bestA_spec (wN W) n hW.perm0
  have hn : (bestA (wN W) n).1.Nodup := hb.1.nodup_iff.mpr List.nodup_range
  exact fun v B hx => closed_nonneg (wN W) (hold (bestA (wN W) n).1) n (bestA (wN W) n).1 hb.1 (fun i hi => hold_get hn hi) hb.2.2 v B hx
theorem rowN_rd (hW : Wish W n rent) {m : List Nat} (hm : m.Perm (List.range n)) {x : Nat} (hx : x < n) : ∀ c, c ≤ n → ∀ y, y < n → rd (rowN W (cs m) x c) (y : Int) = if hold m y < c then stepT (wN W) (hold m) x y else 0
  | 0, _, y, hy => by
    have e : rowN W (cs m) x 0 = List.replicate (cs m).length 0 := rfl
    rw [if_neg (Nat.not_lt_zero _), e, rd, List.getD_eq_getElem?_getD, List.getElem?_replicate]
    split <;> rfl
  | c + 1, hc, y, hy => by
    have hml : m.length = n := by rw [hm.length_eq]; simp
    have hcl : c < m.length := by omega
    have hn : m.Nodup := hm.nodup_iff.mpr List.nodup_range
    have hmc : m[c] < n := by have := hm.mem_iff.mp (List.getElem_mem hcl); simpa using this
    rw [rowN_succ, setRow, cs_get m hcl, Int.toNat_natCast, rd_put _ _ _ _ (by rw [rowN_len, cs_len]; omega), rowN_rd hW hm hx c (by omega) y hy]
    have hy' : y ∈ m := hm.mem_iff.mpr (by simpa using hy)
    by_cases e : y = m[c]
    · rw [if_pos e]
      have hh : hold m y = c := by rw [e]; exact hold_get hn hcl
      have h1 := hW.ent c y (by omega) hy
      have h2 := hW.ent c x (by omega) hx
      rw [if_pos (by omega), stepT, hh, ← e]
      simp only [wN]
      exact w64 (by omega) (by omega)
    · rw [if_neg e]
      have hh : hold m y ≠ c := by
        intro h
        refine e ?_
        have h3 : m.idxOf y < m.length := List.idxOf_lt_length_of_mem hy'
        have h4 : m[m.idxOf y] = y := List.getElem_idxOf h3
        have h5 : m.idxOf y = c := h
        rw [← h4]; simp only [h5]
      have : (hold m y < c + 1) ↔ (hold m y < c) := by omega
      simp only [this]
theorem start_spec (hW : Wish W n rent) {m : List Nat} (hm : m.Perm (List.range n)) : Sq n ((List.range n).map fun x => rowN W (cs m) x n) ∧ ∀ x y, x < n → y < n → wN ((List.range n).map fun x => rowN W (cs m) x n) x y = stepT (wN W) (hold m) x y := by
  have hml : m.length = n := by rw [hm.length_eq]; simp
  have hrow : ∀ x : Nat, x < n → rd_L1 ((List.range n).map fun x => rowN W (cs m) x n) (x : Int) = rowN W (cs m) x n := fun x hx => by rw [rd_L1_get (by simpa using hx)]; simp
  refine ⟨⟨by simp, fun x hx => by rw [hrow x hx, rowN_len, cs_len, hml]⟩, fun x y hx hy => ?_⟩
  unfold wN
  rw [hrow x hx]
  have := rowN_rd hW hm hx n (Nat.le_refl _) y hy
  rw [if_pos (hold_lt hm hy)] at this
  exact this
def dearT (W : List (List Int)) (n : Nat) : List (List Int) := dearN W (cs (bestA (wN W) n).1)
theorem dearT_least (hW : Wish W n rent) : Sq n (dearT W n) ∧ Least (stT W n) n (wN (dearT W n)) := by
  have hm := hW.best
  have hml : (cs (bestA (wN W) n).1).length = n := by rw [cs_len, hm.length_eq]; simp
  obtain ⟨h1, h2⟩ := start_spec hW hm
  have := relaxZ_least hW.posT Wish.step0 hW.stepb h1 (Tab.start _ _ _ h2)
  unfold dearT dearN
  rw [hml]
  exact this
theorem goodB_ok (hW : Wish W n rent) : goodB W (cs (bestA (wN W) n).1) = true := by
  have hm := hW.best
  have hml : (cs (bestA (wN W) n).1).length = n := by rw [cs_len, hm.length_eq]; simp
  have h5 := hW.five
  simp only [goodB, hml, Bool.and_eq_true, decide_eq_true_eq, List.all_eq_true]
  refine ⟨⟨⟨hW.len.symm, by omega⟩, fun y hy => ?_⟩, fun r hr => ?_⟩
  · simp only [cs, List.mem_map] at hy
    obtain ⟨a, ha, rfl⟩ := hy
    have : a < n := by simpa using hm.mem_iff.mp ha
    omega
  · obtain ⟨j, hj, rfl⟩ := List.mem_iff_getElem.mp hr
    have := hW.row j (by rw [← hW.len]; exact hj)
    rwa [rd_L1_get hj] at this
theorem dearer_ev (hW : Wish W n rent) : Ev (fun k => share_dearer.f k W) (dearT W n) := by
  unfold share_dearer.f
  refine Ev.bind (assign_ev hW) ?_
  dsimp only
  rw [if_pos (goodB_ok hW)]
  exact Ev.pure _
end
end Go.Proofs.Ytiafiebalibkdaa.OAll
