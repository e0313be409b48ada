/- A part of the proof of 'shareDiffers_holds', for every input, without a condition. -/
import Derived.Test.YtiafiebalibkdaaSDfQy
import Derived.Test.YtiafiebalibkdaaSDfOAllx28
namespace Go.Proofs.Ytiafiebalibkdaa.OAll
open Go.RowKit Go.Proofs.YtiafiebalibkdaaW.PrintWords Go.Proofs.YtiafiebalibkdaaW.PrintLast Go.Proofs.YtiafiebalibkdaaW.PrintMore
set_option linter.unusedVariables false
set_option linter.unusedSimpArgs false
set_option linter.unusedSectionVars false
theorem Dearer_ev (W : List (List Int)) (hsm : smallB W = true) {s : Int} (hs : rentR W = some s) : Ev (fun k => share_Dearer.f k W) (dearT W W.length, 0) := by
  unfold share_Dearer.f
  refine Ev.bind (wished_ev W hsm) ?_
  rw [rentP_some hs]
  simp only [if_true]
  exact Ev.bind (dearer_ev (rent_wish hs)) (Ev.pure _)
def fitB (W : List (List Int)) (n : Nat) (x : List Int) (D : Int) (k l : Nat) : Bool := decide (rd x (l : Int) - rd x (k : Int) ≤ wN (dearT W n) k l * D)
def rowF (W : List (List Int)) (n : Nat) (x : List Int) (D : Int) (k l : Nat) : Bool := (List.range' l (n - l)).all (fitB W n x D k)
def allF (W : List (List Int)) (n : Nat) (x : List Int) (D : Int) (k : Nat) : Bool := (List.range' k (n - k)).all fun k => rowF W n x D k 0
section
variable {W : List (List Int)} {s : Int} (hs : rentR W = some s) {x : List Int} {D : Int} (hp : partsE x D (W.length : Int) = true)
include hs hp
theorem allF_ef : allF W W.length x D 0 = true ↔ EF W x D W.length (bestA (wN W) W.length).1 := by
  have hW := rent_wish hs
  have hD := (partsE_of hp).1
  rw [ef_table hW (by omega)]
  unfold allF rowF fitB
  simp only [Nat.sub_zero, ← List.range_eq_range', List.all_eq_true, List.mem_range, decide_eq_true_eq]
  exact ⟨fun h y z hy hz => h y hy z hz, fun h y hy z hz => h y z hy hz⟩
theorem fit_w {k l : Nat} (hk : k < W.length) (hl : l < W.length) : Aside0 (wrap64 (rd x (l : Int) - rd x (k : Int)) = rd x (l : Int) - rd x (k : Int)) ∧ Aside0 (wrap64 (wN (dearT W W.length) k l * D) = wN (dearT W W.length) k l * D) := by
  have hW := rent_wish hs
  obtain ⟨p1, p2, p3, p4⟩ := partsE_of hp
  have b := hW.db hk hl
  have h1 : -5000 * D ≤ rd x (l : Int) ∧ rd x (l : Int) ≤ 5000 * D := by
    have hz' : l < x.length := by omega
    rw [rd_get hz']; exact p4 _ (List.getElem_mem hz')
  have h2 : -5000 * D ≤ rd x (k : Int) ∧ rd x (k : Int) ≤ 5000 * D := by
    have hz' : k < x.length := by omega
    rw [rd_get hz']; exact p4 _ (List.getElem_mem hz')
  have m1 := Int.mul_le_mul_of_nonneg_right b.1 (show 0 ≤ D by omega)
  have m2 := Int.mul_le_mul_of_nonneg_right b.2 (show 0 ≤ D by omega)
  exact ⟨⟨w64 (by omega) (by omega)⟩, ⟨w64 (by omega) (by omega)⟩⟩
theorem differs_l5 {E : List S56} (i : Nat) (hi : i < W.length) (post : ∀ b : Bool, (b && allF W W.length x D (i + 1)) = ((E.length : Int) == 0) → Ev (fun k => trishawlaw08_ShareDiffers.l4 k (W.length : Int) (dearT W W.length) E b ((i + 1 : Nat) : Int) x D) true) :
    ∀ (c y : Nat) (b : Bool), W.length - y = c → y ≤ W.length → (b && (rowF W W.length x D i y && allF W W.length x D (i + 1))) = ((E.length : Int) == 0) → Ev (fun k => trishawlaw08_ShareDiffers.l5 k (W.length : Int) (dearT W W.length) E b (i : Int) (y : Int) x D) true := by
  have hW := rent_wish hs
  have h5 := hW.five
  have hd := hW.dear
  obtain ⟨p1, p2, p3, p4⟩ := partsE_of hp
  intro c
  induction c with
  | zero =>
    intro y b hc hy h
    refine Ev.succ ?_
    have k1 : ¬ (y : Int) < (W.length : Int) := by omega
    have w1 : Aside0 (wrap64 ((i : Int) + 1) = ((i + 1 : Nat) : Int)) := ⟨w64s i (by omega)⟩
    simp only [trishawlaw08_ShareDiffers.l5, if_neg k1, w1.out]
    refine post b ?_
    rw [rowF, fl_end (by omega)] at h
    simpa using h
  | succ c ih =>
    intro y b hc hy h
    refine Ev.succ ?_
    have hyn : y < W.length := by omega
    have hri := hd.1.row i hi
    have hdl := hd.1.len
    have k1 : (y : Int) < (W.length : Int) := by omega
    have k2 : (0 : Int) ≤ (y : Int) := by omega
    have k3 : (y : Int) < (x.length : Int) := by omega
    have k4 : (0 : Int) ≤ (i : Int) := by omega
    have k5 : (i : Int) < (x.length : Int) := by omega
    have k6 : (i : Int) < ((dearT W W.length).length : Int) := by omega
    have k7 : (y : Int) < ((rd_L1 (dearT W W.length) (i : Int)).length : Int) := by omega
    have w1 : Aside0 (wrap64 ((y : Int) + 1) = ((y + 1 : Nat) : Int)) := ⟨w64s y (by omega)⟩
    obtain ⟨a1, a2⟩ := fit_w hs hp hi hyn
    have e1 : rd (rd_L1 (dearT W W.length) (i : Int)) (y : Int) = wN (dearT W W.length) i y := rfl
    rw [rowF, fl_succ hyn, List.all_cons] at h
    cases b
    · simp only [trishawlaw08_ShareDiffers.l5, if_pos k1, Bool.false_eq_true, if_false, w1.out]
      exact ih (y + 1) false (by omega) (by omega) (by simpa using h)
    · simp only [trishawlaw08_ShareDiffers.l5, if_pos k1, if_true, if_pos k2, if_pos k3, if_pos k4, if_pos k5, if_pos k6, if_pos k7, e1, a1.out, a2.out, w1.out]
      refine ih (y + 1) _ (by omega) (by omega) ?_
      rw [← h, Bool.true_and]
      show (fitB W W.length x D i y && (rowF W W.length x D i (y + 1) && _)) = _
      rw [← Bool.and_assoc]
      rfl
theorem differs_l4 {E : List S56} : ∀ (c i : Nat) (b : Bool), W.length - i = c → i ≤ W.length → (b && allF W W.length x D i) = ((E.length : Int) == 0) → Ev (fun k => trishawlaw08_ShareDiffers.l4 k (W.length : Int) (dearT W W.length) E b (i : Int) x D) true := by
  intro c
  induction c with
  | zero =>
    intro i b hc hi h
    refine Ev.succ ?_
    have k1 : ¬ (i : Int) < (W.length : Int) := by omega
    rw [allF, fl_end (by omega)] at h
    have h' : (b == ((E.length : Int) == 0)) = true := by rw [← h]; simp
    simp only [trishawlaw08_ShareDiffers.l4, if_neg k1, if_pos h']
    exact alive_ev'
  | succ c ih =>
    intro i b hc hi h
    refine Ev.succ ?_
    have k1 : (i : Int) < (W.length : Int) := by omega
    simp only [trishawlaw08_ShareDiffers.l4, if_pos k1]
    rw [allF, fl_succ (by omega), List.all_cons] at h
    exact differs_l5 hs hp i (by omega) (fun b' hb' => ih (i + 1) b' (by omega) (by omega) hb') W.length 0 b (by omega) (by omega) h
end
section
variable {W : List (List Int)} {s : Int} (hs : rentR W = some s) (hsm : smallB W = true) {x : List Int} {D : Int}
include hs hsm
theorem differs_fin : Ev (fun k => (share_Envy.f k W (cs (bestA (wN W) W.length).1) x D).bind fun bt727 => (if bt727.2 = 0 then ((trishawref08_IsRents.f k W x D).bind fun t733 => (if t733 = true then (trishawlaw08_ShareDiffers.l4 k (W.length : Int) (dearT W W.length) bt727.1 true 0 x D) else (none))) else (if bt727.2 = 2 then ((trishawref08_IsRents.f k W x D).bind fun t731 => (if t731 = true then (none) else ((trishawlaw08_alive.f k).bind fun t732 => (some t732)))) else (none)))) true := by
  have hW := rent_wish hs
  have hm := hW.best
  refine Ev.bind (envy_ev W hsm _ x D) ?_
  have eB : envR W (cs (bestA (wN W) W.length).1) x D = if isRents W x D = true then (envN W (cs (bestA (wN W) W.length).1) x D W.length, 0) else ([], 2) := by
    unfold envR; rw [isAsg_cs hm, Bool.and_true]
  rw [eB]
  cases hR : isRents W x D
  · simp only [Bool.false_eq_true, if_false, show ¬ (2 : Int) = 0 by decide, if_true]
    refine Ev.bind (isRents_ev W x D) ?_
    simp only [hR, Bool.false_eq_true, if_false]
    exact alive_ev'
  · simp only [if_true]
    refine Ev.bind (isRents_ev W x D) ?_
    simp only [hR, if_true]
    have hp : partsE x D (W.length : Int) = true := by
      simp only [isRents, hs, Bool.and_eq_true] at hR; exact hR.1
    refine differs_l4 hs hp W.length 0 true (by omega) (by omega) ?_
    rw [Bool.true_and, Bool.eq_iff_iff, allF_ef hs hp, ← env_nil hm, beq_iff_eq]
    constructor
    · intro h; rw [h]; rfl
    · intro h; exact List.eq_nil_of_length_eq_zero (by omega)
theorem differs_l3 {H : List Int} {k l : Nat} (hk : k < W.length) (hl : l < W.length) (post : Ev (fun f => trishawlaw08_ShareDiffers.l2 f W (W.length : Int) (dearT W W.length) (cs (bestA (wN W) W.length).1) H (k : Int) ((l + 1 : Nat) : Int) x D) true) :
    ∀ (c y : Nat), W.length - y = c → y ≤ W.length → Ev (fun f => trishawlaw08_ShareDiffers.l3 f W (W.length : Int) (dearT W W.length) (cs (bestA (wN W) W.length).1) H (k : Int) (l : Int) (y : Int) x D) true := by
  have hW := rent_wish hs
  have h5 := hW.five
  have hd := hW.dear
  have hdl := hd.1.len
  have hrk := hd.1.row k hk
  intro c
  induction c with
  | zero =>
    intro y hc hy
    refine Ev.succ ?_
    have k1 : ¬ (y : Int) < (W.length : Int) := by omega
    have w1 : Aside0 (wrap64 ((l : Int) + 1) = ((l + 1 : Nat) : Int)) := ⟨w64s l (by omega)⟩
    simp only [trishawlaw08_ShareDiffers.l3, if_neg k1, w1.out]
    exact post
  | succ c ih =>
    intro y hc hy
    refine Ev.succ ?_
    have hyn : y < W.length := by omega
    have hry := hd.1.row y hyn
    have k1 : (y : Int) < (W.length : Int) := by omega
    have k2 : (0 : Int) ≤ (k : Int) := by omega
    have k3 : (k : Int) < ((dearT W W.length).length : Int) := by omega
    have k4 : (0 : Int) ≤ (l : Int) := by omega
    have k5 : (l : Int) < ((rd_L1 (dearT W W.length) (k : Int)).length : Int) := by omega
    have k6 : (0 : Int) ≤ (y : Int) := by omega
    have k7 : (y : Int) < ((rd_L1 (dearT W W.length) (k : Int)).length : Int) := by omega
    have k8 : (y : Int) < ((dearT W W.length).length : Int) := by omega
    have k9 : (l : Int) < ((rd_L1 (dearT W W.length) (y : Int)).length : Int) := by omega
    have e1 : rd (rd_L1 (dearT W W.length) (k : Int)) (l : Int) = wN (dearT W W.length) k l := rfl
    have e2 : rd (rd_L1 (dearT W W.length) (k : Int)) (y : Int) = wN (dearT W W.length) k y := rfl
    have e3 : rd (rd_L1 (dearT W W.length) (y : Int)) (l : Int) = wN (dearT W W.length) y l := rfl
    have b1 := hW.db hk hyn
    have b2 := hW.db hyn hl
    have tri := hd.2.tri hk hl hyn
    have w0 : Aside0 (wrap64 (wN (dearT W W.length) k y + wN (dearT W W.length) y l) = wN (dearT W W.length) k y + wN (dearT W W.length) y l) := ⟨w64 (by omega) (by omega)⟩
    have w1 : Aside0 (wrap64 ((y : Int) + 1) = ((y + 1 : Nat) : Int)) := ⟨w64s y (by omega)⟩
    have hng : ¬ wN (dearT W W.length) k l > wN (dearT W W.length) k y + wN (dearT W W.length) y l := by omega
    simp only [trishawlaw08_ShareDiffers.l3, if_pos k1, if_pos k2, if_pos k3, if_pos k4, if_pos k5, if_pos k6, if_pos k7, if_pos k8, if_pos k9, e1, e2, e3, w0.out, w1.out, if_neg hng]
    exact ih (y + 1) (by omega) (by omega)
theorem differs_l2 {H : List Int} (hl : H.length = W.length) (hh : ∀ y : Nat, y < W.length → rd H (y : Int) = (hold (bestA (wN W) W.length).1 y : Int)) {k : Nat} (hk : k < W.length)
    (post : Ev (fun f => trishawlaw08_ShareDiffers.l1 f W (W.length : Int) (dearT W W.length) (cs (bestA (wN W) W.length).1) H ((k + 1 : Nat) : Int) x D) true) :
    ∀ (c y : Nat), W.length - y = c → y ≤ W.length → Ev (fun f => trishawlaw08_ShareDiffers.l2 f W (W.length : Int) (dearT W W.length) (cs (bestA (wN W) W.length).1) H (k : Int) (y : Int) x D) true := by
  have hW := rent_wish hs
  have h5 := hW.five
  have hd := hW.dear
  have hdl := hd.1.len
  have hrk := hd.1.row k hk
  intro c
  induction c with
  | zero =>
    intro y hc hy
    refine Ev.succ ?_
    have k1 : ¬ (y : Int) < (W.length : Int) := by omega
    have w1 : Aside0 (wrap64 ((k : Int) + 1) = ((k + 1 : Nat) : Int)) := ⟨w64s k (by omega)⟩
    simp only [trishawlaw08_ShareDiffers.l2, if_neg k1, w1.out]
    exact post
  | succ c ih =>
    intro y hc hy
    refine Ev.succ ?_
    have hyn : y < W.length := by omega
    have hho := hh y hyn
    have hhl : hold (bestA (wN W) W.length).1 y < W.length := hold_lt hW.best hyn
    have hrh := hW.row _ hhl
    have k1 : (y : Int) < (W.length : Int) := by omega
    have k2 : (0 : Int) ≤ (k : Int) := by omega
    have k3 : (k : Int) < ((dearT W W.length).length : Int) := by omega
    have k4 : (0 : Int) ≤ (y : Int) := by omega
    have k5 : (y : Int) < ((rd_L1 (dearT W W.length) (k : Int)).length : Int) := by omega
    have k6 : (y : Int) < (H.length : Int) := by omega
    have k7 : (0 : Int) ≤ (hold (bestA (wN W) W.length).1 y : Int) := by omega
    have k8 : (hold (bestA (wN W) W.length).1 y : Int) < (W.length : Int) := by omega
    have k9 : (y : Int) < ((rd_L1 W (hold (bestA (wN W) W.length).1 y : Int)).length : Int) := by omega
    have k10 : (k : Int) < ((rd_L1 W (hold (bestA (wN W) W.length).1 y : Int)).length : Int) := by omega
    have e1 : rd (rd_L1 (dearT W W.length) (k : Int)) (y : Int) = wN (dearT W W.length) k y := rfl
    have a1 := hW.ent _ y hhl hyn
    have a2 := hW.ent _ k hhl hk
    have w0 : Aside0 (wrap64 (rd (rd_L1 W (hold (bestA (wN W) W.length).1 y : Int)) (y : Int) - rd (rd_L1 W (hold (bestA (wN W) W.length).1 y : Int)) (k : Int)) = stT W W.length k y) := by
      rw [w64 (by omega) (by omega)]; exact ⟨rfl⟩
    have hle := hd.2.tab.le k y hk hyn
    have hng : ¬ wN (dearT W W.length) k y > stT W W.length k y := by omega
    simp only [trishawlaw08_ShareDiffers.l2, if_pos k1, if_pos k2, if_pos k3, if_pos k4, if_pos k5, if_pos k6, hho, if_pos k7, if_pos k8, if_pos k9, if_pos k10, e1, w0.out, if_neg hng]
    exact differs_l3 hs hsm hk hyn (ih (y + 1) (by omega) (by omega)) W.length 0 (by omega) (by omega)
theorem differs_l1 {H : List Int} (hl : H.length = W.length) (hh : ∀ y : Nat, y < W.length → rd H (y : Int) = (hold (bestA (wN W) W.length).1 y : Int)) :
    ∀ (c k : Nat), W.length - k = c → k ≤ W.length → Ev (fun f => trishawlaw08_ShareDiffers.l1 f W (W.length : Int) (dearT W W.length) (cs (bestA (wN W) W.length).1) H (k : Int) x D) true := by
  intro c
  induction c with
  | zero =>
    intro k hc hk
    refine Ev.succ ?_
    have k1 : ¬ (k : Int) < (W.length : Int) := by omega
    simp only [trishawlaw08_ShareDiffers.l1, if_neg k1]
    exact differs_fin hs hsm
  | succ c ih =>
    intro k hc hk
    refine Ev.succ ?_
    have k1 : (k : Int) < (W.length : Int) := by omega
    simp only [trishawlaw08_ShareDiffers.l1, if_pos k1]
    exact differs_l2 hs hsm hl hh (show k < W.length by omega) (ih (k + 1) (by omega) (by omega)) W.length 0 (by omega) (by omega)
end
theorem ShareDiffers_ev (W : List (List Int)) (x : List Int) (D : Int) : Ev (fun k => trishawlaw08_ShareDiffers.f k W x D) true := by
  have yes : Ev (fun k => trishawlaw08_ShareDiffers.j0 k W true x D) true := by
    refine Ev.succ ?_
    simp only [trishawlaw08_ShareDiffers.j0, if_true]
    exact alive_ev'
  unfold trishawlaw08_ShareDiffers.f
  refine Ev.bind (rrent_ev W) ?_
  refine Ev.bind (small_ev W) ?_
  cases hsm : smallB W
  · simp only [Bool.false_eq_true, if_false]; exact yes
  simp only [if_true]
  cases hs : rentR W with
  | none => rw [rentB_none hs]; simp only [Bool.false_eq_true, if_false]; exact yes
  | some s =>
    rw [rentB_some hs]
    simp only [if_true]
    cases h30 : decide ((x.length : Int) > 30)
    · have hW := rent_wish hs
      have h0 := hW.pos
      have h5 := hW.five
      have hm := hW.best
      have hd := hW.dear
      have hdl := hd.1.len
      refine Ev.succ ?_
      simp only [trishawlaw08_ShareDiffers.j0, Bool.false_eq_true, if_false]
      refine Ev.bind (Dearer_ev W hsm hs) ?_
      refine Ev.bind (Assign_ev W hsm hs) ?_
      simp only [if_true, hdl]
      refine Ev.bind (isAsg_ev W.length (by omega) _ (by rw [cs_len, perm_len hm]; omega)) ?_
      rw [isAsg_cs hm]
      refine Ev.succ ?_
      have c1 : (0 : Int) ≤ (W.length : Int) := by omega
      have c2 : W.length ≤ 35184372088832 := by omega
      simp only [trishawlaw08_ShareDiffers.j1, Bool.not_true, Bool.false_eq_true, if_false, if_pos c1, Int.toNat_natCast, if_pos c2]
      have hml := perm_len hm
      have hn : (bestA (wN W) W.length).1.Nodup := hm.nodup_iff.mpr List.nodup_range
      have go : ∀ (c i : Nat) (H : List Int), W.length - i = c → i ≤ W.length → H.length = W.length → (∀ j, (hj : j < i) → (hj' : j < (bestA (wN W) W.length).1.length) → rd H ((bestA (wN W) W.length).1[j] : Int) = (j : Int)) →
          Ev (fun k => trishawlaw08_ShareDiffers.l0 k W (W.length : Int) (dearT W W.length) (cs (bestA (wN W) W.length).1) H (i : Int) x D) true := by
        intro c
        induction c with
        | zero =>
          intro i H hc hi hl h
          refine Ev.succ ?_
          have k1 : ¬ (i : Int) < (W.length : Int) := by omega
          simp only [trishawlaw08_ShareDiffers.l0, if_neg k1]
          refine differs_l1 hs hsm hl (fun y hy => ?_) W.length 0 (by omega) (by omega)
          have hym : y ∈ (bestA (wN W) W.length).1 := hm.mem_iff.mpr (by simpa using hy)
          have h1 := hold_lt hm hy
          have h2 : (bestA (wN W) W.length).1.idxOf y < (bestA (wN W) W.length).1.length := List.idxOf_lt_length_of_mem hym
          have h3 := h (hold (bestA (wN W) W.length).1 y) (by omega) h2
          have h4 : (bestA (wN W) W.length).1[(bestA (wN W) W.length).1.idxOf y] = y := List.getElem_idxOf h2
          have h5' : (bestA (wN W) W.length).1[hold (bestA (wN W) W.length).1 y]'h2 = y := h4
          rw [h5'] at h3
          exact h3
        | succ c ih =>
          intro i H hc hi hl h
          refine Ev.succ ?_
          have hin : i < W.length := by omega
          have him : i < (bestA (wN W) W.length).1.length := by omega
          have hmi : (bestA (wN W) W.length).1[i] < W.length := by have := hm.mem_iff.mp (List.getElem_mem him); simpa using this
          have e0 : rd (cs (bestA (wN W) W.length).1) (i : Int) = ((bestA (wN W) W.length).1[i] : Int) := cs_get _ him
          have hri := hd.1.row i hin
          have e1 : rd (rd_L1 (dearT W W.length) (i : Int)) (i : Int) = 0 := hd.2.tab.diag hW.posT Wish.step0 hin
          have k1 : (i : Int) < (W.length : Int) := by omega
          have k2 : (0 : Int) ≤ (i : Int) := by omega
          have k3 : (i : Int) < ((cs (bestA (wN W) W.length).1).length : Int) := by rw [cs_len]; omega
          have k4 : (0 : Int) ≤ ((bestA (wN W) W.length).1[i] : Int) := by omega
          have k5 : ((bestA (wN W) W.length).1[i] : Int) < (H.length : Int) := by omega
          have k6 : (i : Int) < ((dearT W W.length).length : Int) := by omega
          have k7 : ((rd_L1 (dearT W W.length) (i : Int)).length : Int) = (W.length : Int) := by omega
          have k8 : (i : Int) < ((rd_L1 (dearT W W.length) (i : Int)).length : Int) := by omega
          have w1 : Aside0 (wrap64 ((i : Int) + 1) = ((i + 1 : Nat) : Int)) := ⟨w64s i (by omega)⟩
          simp only [trishawlaw08_ShareDiffers.l0, if_pos k1, if_pos k2, if_pos k3, e0, if_pos k4, if_pos k5, if_pos k6, if_pos k7, if_pos k8, e1, if_true, w1.out, Int.toNat_natCast]
          refine ih (i + 1) _ (by omega) (by omega) (by rw [List.length_set]; exact hl) (fun j hj hj' => ?_)
          rw [rd_put _ _ _ _ (by omega)]
          by_cases e : j = i
          · subst e; rw [if_pos rfl]
          · rw [if_neg (fun e' => e (by
              have h1 := hold_get hn hj'
              have h2 := hold_get hn him
              rw [e'] at h1
              omega))]
            exact h j (by omega) hj'
      exact go W.length 0 _ (by omega) (by omega) (by simp) (fun j hj => absurd hj (Nat.not_lt_zero _))
    · exact yes
end Go.Proofs.Ytiafiebalibkdaa.OAll
