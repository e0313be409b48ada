/- A part of the proof of 'shareAssigns_holds', for every input, without a condition. -/
import Derived.Test.YtiafiebalibkdaaSAsQu
import Derived.Test.YtiafiebalibkdaaSAsOAllx18
namespace Go.Proofs.Ytiafiebalibkdaa.OAll
open Go.RowKit Go.Proofs.YtiafiebalibkdaaW.PrintWords Go.Proofs.YtiafiebalibkdaaW.PrintLast Go.Proofs.YtiafiebalibkdaaW.PrintMore
set_option linter.unusedVariables false
set_option linter.unusedSimpArgs false
theorem sq_ext {n : Nat} {A B : List (List Int)} (ha : Sq n A) (hb : Sq n B) (h : ∀ x y, x < n → y < n → wN A x y = wN B x y) : A = B := by
  refine List.ext_getElem (by rw [ha.len, hb.len]) fun i h1 h2 => ?_
  have hi : i < n := by rw [← ha.len]; exact h1
  have e1 := ha.row i hi
  have e2 := hb.row i hi
  rw [rd_L1_get h1] at e1
  rw [rd_L1_get h2] at e2
  refine List.ext_getElem (by rw [e1, e2]) fun j k1 k2 => ?_
  have := h i j hi (by omega)
  unfold wN at this
  rw [rd_L1_get h1, rd_L1_get h2, rd_get k1, rd_get k2] at this
  exact this
section
variable {t : Nat → Nat → Int} {n : Nat}
structure RS (t : Nat → Nat → Int) (n r : Nat) (out : List (List Int)) : Prop where
  sq : Sq n out
  tab : Tab t n (wN out)
  short : ∀ x y B, x < n → y < n → (∀ u ∈ B, u < n) → B.length ≤ r → wN out x y ≤ wt t (x :: (B ++ [y]))
def Ext (t : Nat → Nat → Int) (n r : Nat) (out : List (List Int)) (x y z : Nat) : Prop := ∀ B : List Nat, (∀ u ∈ B, u < n) → B.length ≤ r → wN out x y ≤ wt t (x :: (B ++ [z])) + t z y
theorem RS.relax (hp : Pos t n) (hb : ∀ x y, x < n → y < n → t x y ≤ 1000) {r : Nat} {out : List (List Int)} (h : RS t n r out) {x y z : Nat} (hx : x < n) (hy : y < n) (hz : z < n) :
    RS t n r (relax z x out y) ∧ (∀ a b, wN (OAll.relax z x out y) a b ≤ wN out a b) ∧ Ext t n r (OAll.relax z x out y) x y z := by
  obtain ⟨h1, h2, h3⟩ := relax_spec hp hb h.sq h.tab hx hy hz
  have hle : ∀ a b, wN (OAll.relax z x out y) a b ≤ wN out a b := fun a b => by
    rw [h3 a b]
    split
    · rename_i e
      obtain ⟨rfl, rfl⟩ := e
      unfold via; split <;> omega
    · exact Int.le_refl _
  refine ⟨⟨h1, h2, fun a b B ha hb' hB hl => Int.le_trans (hle a b) (h.short a b B ha hb' hB hl)⟩, hle, fun B hB hl => ?_⟩
  have e1 := h.short x z B hx hz hB hl
  have e2 := h.tab.le z y hz hy
  rw [h3 x y, if_pos ⟨rfl, rfl⟩]
  unfold via; split <;> omega
def Lx (x y z a b c : Nat) : Prop := a < x ∨ a = x ∧ (b < y ∨ b = y ∧ c < z)
structure RL (t : Nat → Nat → Int) (n r x y z : Nat) (out : List (List Int)) : Prop where
  rs : RS t n r out
  don : ∀ a b c, a < n → b < n → c < n → Lx x y z a b c → Ext t n r out a b c
theorem RL.next {r x y z x' y' z' : Nat} {out : List (List Int)} (h : RL t n r x y z out) (e : ∀ a b c, a < n → b < n → c < n → Lx x' y' z' a b c → Lx x y z a b c) : RL t n r x' y' z' out :=
  ⟨h.rs, fun a b c ha hb hc hl => h.don a b c ha hb hc (e a b c ha hb hc hl)⟩
variable (hp : Pos t n) (ht0 : ∀ y, t y y = 0) (hb : ∀ x y, x < n → y < n → t x y ≤ 1000) (h5 : n ≤ 5) (R : List (List Int))
include hp hb h5
theorem l6_ev {r x y : Nat} (hr : r < n) (hx : x < n) (hy : y < n) (post : ∀ out, RL t n r x (y + 1) 0 out → Ev (fun k => trishawref08_dearer.l5 k (n : Int) out (r : Int) (x : Int) ((y + 1 : Nat) : Int)) R) :
    ∀ (c z : Nat) (out : List (List Int)), n - z = c → z ≤ n → RL t n r x y z out → Ev (fun k => trishawref08_dearer.l6 k (n : Int) out (r : Int) (x : Int) (y : Int) (z : Int)) R := by
  intro c
  induction c with
  | zero =>
    intro z out hc hz h
    refine Ev.succ ?_
    have c1 : ¬ (z : Int) < (n : Int) := by omega
    have w1 := Aside0.mk (show wrap64 ((y : Int) + 1) = ((y + 1 : Nat) : Int) from w64s y (by omega))
    simp only [trishawref08_dearer.l6, if_neg c1, w1.out]
    exact post out (h.next fun a b c ha hb hc hl => by unfold Lx at hl ⊢; omega)
  | succ c ih =>
    intro z out hc hz h
    refine Ev.succ ?_
    have hzn : z < n := by omega
    have hsx := h.rs.sq.row x hx
    have hsz := h.rs.sq.row z hzn
    have hsl := h.rs.sq.len
    have c1 : (z : Int) < (n : Int) := by omega
    have c2 : (0 : Int) ≤ (x : Int) := by omega
    have c3 : (x : Int) < (out.length : Int) := by omega
    have c4 : (0 : Int) ≤ (y : Int) := by omega
    have c5 : (y : Int) < ((rd_L1 out (x : Int)).length : Int) := by omega
    have c6 : (0 : Int) ≤ (z : Int) := by omega
    have c7 : (z : Int) < ((rd_L1 out (x : Int)).length : Int) := by omega
    have c8 : (z : Int) < (out.length : Int) := by omega
    have c9 : (y : Int) < ((rd_L1 out (z : Int)).length : Int) := by omega
    have w1 := Aside0.mk (show wrap64 ((z : Int) + 1) = ((z + 1 : Nat) : Int) from w64s z (by omega))
    simp only [trishawref08_dearer.l6, if_pos c1, if_pos c2, if_pos c3, if_pos c4, if_pos c5, if_pos c6, if_pos c7, if_pos c8, if_pos c9, w1.out, Int.toNat_natCast]
    obtain ⟨k1, k2, k3⟩ := h.rs.relax hp hb hx hy hzn
    refine ih (z + 1) (relax z x out y) (by omega) (by omega) ⟨k1, fun a b c ha hb' hc hl => ?_⟩
    by_cases e : a = x ∧ b = y ∧ c = z
    · obtain ⟨rfl, rfl, rfl⟩ := e; exact k3
    · exact fun B hB hl' => Int.le_trans (k2 a b) (h.don a b c ha hb' hc (by unfold Lx at hl ⊢; omega) B hB hl')
theorem l5_ev {r x : Nat} (hr : r < n) (hx : x < n) (post : ∀ out, RL t n r (x + 1) 0 0 out → Ev (fun k => trishawref08_dearer.l4 k (n : Int) out (r : Int) ((x + 1 : Nat) : Int)) R) :
    ∀ (c y : Nat) (out : List (List Int)), n - y = c → y ≤ n → RL t n r x y 0 out → Ev (fun k => trishawref08_dearer.l5 k (n : Int) out (r : Int) (x : Int) (y : Int)) R := by
  intro c
  induction c with
  | zero =>
    intro y out hc hy h
    refine Ev.succ ?_
    have c1 : ¬ (y : Int) < (n : Int) := by omega
    have w1 := Aside0.mk (show wrap64 ((x : Int) + 1) = ((x + 1 : Nat) : Int) from w64s x (by omega))
    simp only [trishawref08_dearer.l5, if_neg c1, w1.out]
    exact post out (h.next fun a b c ha hb hc hl => by unfold Lx at hl ⊢; omega)
  | succ c ih =>
    intro y out hc hy h
    refine Ev.succ ?_
    have c1 : (y : Int) < (n : Int) := by omega
    simp only [trishawref08_dearer.l5, if_pos c1]
    exact l6_ev hp hb h5 R hr hx (show y < n by omega) (fun o ho => ih (y + 1) o (by omega) (by omega) ho) n 0 out (by omega) (by omega) h
theorem l4_ev {r : Nat} (hr : r < n) (post : ∀ out, RL t n r n 0 0 out → Ev (fun k => trishawref08_dearer.l3 k (n : Int) out ((r + 1 : Nat) : Int)) R) :
    ∀ (c x : Nat) (out : List (List Int)), n - x = c → x ≤ n → RL t n r x 0 0 out → Ev (fun k => trishawref08_dearer.l4 k (n : Int) out (r : Int) (x : Int)) R := by
  intro c
  induction c with
  | zero =>
    intro x out hc hx h
    refine Ev.succ ?_
    obtain rfl : x = n := by omega
    have c1 : ¬ (x : Int) < (x : Int) := by omega
    have w1 := Aside0.mk (show wrap64 ((r : Int) + 1) = ((r + 1 : Nat) : Int) from w64s r (by omega))
    simp only [trishawref08_dearer.l4, if_neg c1, w1.out]
    exact post out h
  | succ c ih =>
    intro x out hc hx h
    refine Ev.succ ?_
    have c1 : (x : Int) < (n : Int) := by omega
    simp only [trishawref08_dearer.l4, if_pos c1]
    exact l5_ev hp hb h5 R hr (show x < n by omega) (fun o ho => ih (x + 1) o (by omega) (by omega) ho) n 0 out (by omega) (by omega) h
theorem l3_ev (fin : ∀ out, RS t n n out → out = R) : ∀ (c r : Nat) (out : List (List Int)), n - r = c → r ≤ n → RS t n r out → Ev (fun k => trishawref08_dearer.l3 k (n : Int) out (r : Int)) R := by
  intro c
  induction c with
  | zero =>
    intro r out hc hr h
    refine Ev.succ ?_
    obtain rfl : r = n := by omega
    have c1 : ¬ (r : Int) < (r : Int) := by omega
    simp only [trishawref08_dearer.l3, if_neg c1, fin out h]
    exact Ev.pure _
  | succ c ih =>
    intro r out hc hr h
    refine Ev.succ ?_
    have c1 : (r : Int) < (n : Int) := by omega
    simp only [trishawref08_dearer.l3, if_pos c1]
    refine l4_ev hp hb h5 R (show r < n by omega) (fun o ho => ih (r + 1) o (by omega) (by omega) ⟨ho.rs.sq, ho.rs.tab, fun x y B hx hy hB hl => ?_⟩) n 0 out (by omega) (by omega) ⟨h, fun a b c _ _ _ hl => by unfold Lx at hl; omega⟩
    by_cases hl' : B.length ≤ r
    · exact ho.rs.short x y B hx hy hB hl'
    · have hne : B ≠ [] := by intro e; rw [e] at hl'; simp at hl'
      obtain ⟨B', z, rfl⟩ : ∃ B' z, B = B' ++ [z] := ⟨_, _, (List.dropLast_concat_getLast hne).symm⟩
      have hz : z < n := hB z (by simp)
      have e1 := ho.don x y z hx hy hz (.inl hx) B' (fun u hu => hB u (by simp [hu])) (by simp at hl; omega)
      have e2 : wt t (x :: ((B' ++ [z]) ++ [y])) = wt t (x :: (B' ++ [z])) + t z y := by
        rw [walk_join t x z y B' []]
        have : wt t (z :: ([] ++ [y])) = t z y := by show wt t (z :: [y]) = _; rw [wt_two, wt_one]; omega
        rw [this]
      rw [e2]; exact e1
end
section
variable {W : List (List Int)} {n : Nat} {rent : Int} (hW : Wish W n rent)
include hW
theorem rfin (out : List (List Int)) (h : RS (stT W n) n n out) : out = dearT W n := by
  obtain ⟨h1, h2⟩ := dearT_least hW
  have h3 : Least (stT W n) n (wN out) := Least.of_short hW.posT h.tab h.short
  exact sq_ext h.sq h1 fun x y hx hy => h3.unique h2 hx hy
theorem rl1_ev {hs : List Int} (hl : hs.length = n) (hh : ∀ y : Nat, y < n → rd hs (y : Int) = (hold (bestA (wN W) n).1 y : Int)) :
    ∀ (c i : Nat) (out : List (List Int)), n - i = c → i ≤ n → out.length = i → (∀ x : Nat, x < i → (rd_L1 out (x : Int)).length = n ∧ ∀ y, y < n → wN out x y = stT W n x y) →
    Ev (fun k => trishawref08_dearer.l1 k W (n : Int) hs out (i : Int)) (dearT W n) := by
  have h5 := hW.five
  intro c
  induction c with
  | zero =>
    intro i out hc hi hol h
    refine Ev.succ ?_
    obtain rfl : i = n := by omega
    have c1 : ¬ (i : Int) < (i : Int) := by omega
    simp only [trishawref08_dearer.l1, if_neg c1]
    refine l3_ev hW.posT hW.stepb h5 (dearT W i) (rfin hW) i 0 out (by omega) (by omega) ?_
    have ht : Tab (stT W i) i (wN out) := Tab.start _ _ _ fun x y hx hy => (h x hx).2 y hy
    refine ⟨⟨hol, fun x hx => (h x hx).1⟩, ht, fun x y B hx hy hB hl' => ?_⟩
    obtain rfl := List.eq_nil_of_length_eq_zero (Nat.le_zero.mp hl')
    have : wt (stT W i) (x :: ([] ++ [y])) = stT W i x y := by show wt _ (x :: [y]) = _; rw [wt_two, wt_one]; omega
    rw [this]; exact ht.le x y hx hy
  | succ c ih =>
    intro i out hc hi hol h
    refine Ev.succ ?_
    have c1 : (i : Int) < (n : Int) := by omega
    have c2 : (0 : Int) ≤ (n : Int) := by omega
    have c3 : n ≤ 35184372088832 := by omega
    simp only [trishawref08_dearer.l1, if_pos c1, if_pos c2, Int.toNat_natCast, if_pos c3]
    have hin : i < n := by omega
    have go : ∀ (d y : Nat) (row : List Int), n - y = d → y ≤ n → row.length = n → (∀ b : Nat, b < y → rd row (b : Int) = stT W n i b) → Ev (fun k => trishawref08_dearer.l2 k W (n : Int) hs out (i : Int) row (y : Int)) (dearT W n) := by
      intro d
      induction d with
      | zero =>
        intro y row hd hy hr hb
        refine Ev.succ ?_
        have k1 : ¬ (y : Int) < (n : Int) := by omega
        have k2 : out.length < 5864062014805 := by omega
        have w1 := Aside0.mk (show wrap64 ((i : Int) + 1) = ((i + 1 : Nat) : Int) from w64s i (by omega))
        simp only [trishawref08_dearer.l2, if_neg k1, if_pos k2, w1.out]
        refine ih (i + 1) (out ++ [row]) (by omega) (by omega) (by simp [hol]) (fun x hx => ?_)
        by_cases e : x = i
        · subst e
          have er : rd_L1 (out ++ [row]) (x : Int) = row := by rw [rd_L1_get (by simp [hol])]; simp [hol]
          refine ⟨by rw [er]; exact hr, fun b hb' => ?_⟩
          unfold wN; rw [er]; exact hb b (by omega)
        · have hx' : x < i := by omega
          have er : rd_L1 (out ++ [row]) (x : Int) = rd_L1 out (x : Int) := by
            rw [rd_L1_get (by simp [hol]; omega), rd_L1_get (by omega)]
            exact List.getElem_append_left _
          have := h x hx'
          unfold wN at this ⊢
          rw [er]; exact this
      | succ d ihd =>
        intro y row hd hy hr hb
        refine Ev.succ ?_
        have hyn : y < n := by omega
        have hhl : hold (bestA (wN W) n).1 y < n := hold_lt hW.best hyn
        have hho := hh y hyn
        have hrl := hW.row _ hhl
        have k1 : (y : Int) < (n : Int) := by omega
        have k2 : (0 : Int) ≤ (y : Int) := by omega
        have k3 : (y : Int) < (hs.length : Int) := by omega
        have k4 : (0 : Int) ≤ (hold (bestA (wN W) n).1 y : Int) := by omega
        have k5 : (hold (bestA (wN W) n).1 y : Int) < (W.length : Int) := by rw [hW.len]; omega
        have k6 : (y : Int) < ((rd_L1 W (hold (bestA (wN W) n).1 y : Int)).length : Int) := by omega
        have k7 : (0 : Int) ≤ (i : Int) := by omega
        have k8 : (i : Int) < ((rd_L1 W (hold (bestA (wN W) n).1 y : Int)).length : Int) := by omega
        have k9 : (y : Int) < (row.length : Int) := by omega
        have w1 := Aside0.mk (show wrap64 ((y : Int) + 1) = ((y + 1 : Nat) : Int) from w64s y (by omega))
        have e1 := hW.ent _ y hhl hyn
        have e2 := hW.ent _ i hhl hin
        have w2 : Aside0 (wrap64 (rd (rd_L1 W (hold (bestA (wN W) n).1 y : Int)) (y : Int) - rd (rd_L1 W (hold (bestA (wN W) n).1 y : Int)) (i : Int)) = stT W n i y) := by
          rw [w64 (by omega) (by omega)]; exact ⟨rfl⟩
        simp only [trishawref08_dearer.l2, if_pos k1, if_pos k2, if_pos k3, hho, if_pos k4, if_pos k5, if_pos k6, if_pos k7, if_pos k8, if_pos k9, w1.out, w2.out, Int.toNat_natCast]
        refine ihd (y + 1) (row.set y (stT W n i y)) (by omega) (by omega) (by rw [List.length_set]; exact hr) (fun b hb' => ?_)
        rw [rd_put _ _ _ _ (by omega)]
        split
        · rename_i e; rw [e]
        · exact hb b (by omega)
    exact go n 0 _ (by omega) (by omega) (by simp) (fun b hb => absurd hb (Nat.not_lt_zero _))
theorem rdearer_ev : Ev (fun k => trishawref08_dearer.f k W) (dearT W n) := by
  have h5 := hW.five
  have hm := hW.best
  have hml : (bestA (wN W) n).1.length = n := by rw [hm.length_eq]; simp
  have hn : (bestA (wN W) n).1.Nodup := hm.nodup_iff.mpr List.nodup_range
  unfold trishawref08_dearer.f
  refine Ev.bind (rassign_ev hW) ?_
  have c1 : (0 : Int) ≤ (W.length : Int) := by omega
  have c2 : W.length ≤ 35184372088832 := by rw [hW.len]; omega
  simp only [if_pos c1, Int.toNat_natCast, if_pos c2]
  rw [hW.len]
  have go : ∀ (c i : Nat) (hs : List Int), n - i = c → i ≤ n → hs.length = n → (∀ j, (hj : j < i) → (hj' : j < (bestA (wN W) n).1.length) → rd hs ((bestA (wN W) n).1[j] : Int) = (j : Int)) →
      Ev (fun k => trishawref08_dearer.l0 k W (n : Int) (cs (bestA (wN W) n).1) hs (i : Int)) (dearT W n) := by
    intro c
    induction c with
    | zero =>
      intro i hs hc hi hl h
      refine Ev.succ ?_
      have k1 : ¬ (i : Int) < (n : Int) := by omega
      simp only [trishawref08_dearer.l0, if_neg k1]
      refine rl1_ev hW hl (fun y hy => ?_) n 0 [] (by omega) (by omega) rfl (fun x hx => absurd hx (Nat.not_lt_zero _))
      have hym : y ∈ (bestA (wN W) n).1 := hm.mem_iff.mpr (by simpa using hy)
      have h1 := hold_lt hm hy
      have h2 : (bestA (wN W) n).1.idxOf y < (bestA (wN W) n).1.length := List.idxOf_lt_length_of_mem hym
      have h3 := h (hold (bestA (wN W) n).1 y) (by omega) h2
      have h4 : (bestA (wN W) n).1[(bestA (wN W) n).1.idxOf y] = y := List.getElem_idxOf h2
      have h5' : (bestA (wN W) n).1[hold (bestA (wN W) n).1 y]'h2 = y := h4
      rw [h5'] at h3
      exact h3
    | succ c ih =>
      intro i hs hc hi hl h
      refine Ev.succ ?_
      have him : i < (bestA (wN W) n).1.length := by omega
      have hmi : (bestA (wN W) n).1[i] < n := by have := hm.mem_iff.mp (List.getElem_mem him); simpa using this
      have e0 : rd (cs (bestA (wN W) n).1) (i : Int) = ((bestA (wN W) n).1[i] : Int) := cs_get _ him
      have k1 : (i : Int) < (n : Int) := by omega
      have k2 : (0 : Int) ≤ (i : Int) := by omega
      have k3 : (i : Int) < ((cs (bestA (wN W) n).1).length : Int) := by rw [cs_len]; omega
      have k4 : (0 : Int) ≤ ((bestA (wN W) n).1[i] : Int) := by omega
      have k5 : ((bestA (wN W) n).1[i] : Int) < (hs.length : Int) := by omega
      have w1 := Aside0.mk (show wrap64 ((i : Int) + 1) = ((i + 1 : Nat) : Int) from w64s i (by omega))
      simp only [trishawref08_dearer.l0, if_pos k1, if_pos k2, if_pos k3, e0, if_pos k4, if_pos k5, w1.out, Int.toNat_natCast]
      refine ih (i + 1) _ (by omega) (by omega) (by rw [List.length_set]; exact hl) (fun j hj hj' => ?_)
      rw [rd_put _ _ _ _ (by omega)]
      by_cases e : j = i
      · subst e; rw [if_pos rfl]
      · rw [if_neg (fun e' => e (by
          have h1 := hold_get hn hj'
          have h2 := hold_get hn him
          rw [e'] at h1
          omega))]
        exact h j (by omega) hj'
  exact go n 0 _ (by omega) (by omega) (by simp) (fun j hj => absurd hj (Nat.not_lt_zero _))
end
end Go.Proofs.Ytiafiebalibkdaa.OAll
