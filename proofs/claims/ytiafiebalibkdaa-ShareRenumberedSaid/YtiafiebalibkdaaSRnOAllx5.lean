/- A part of the proof of 'shareRenumbered_holds', for every input, without a condition. -/
import Derived.Test.YtiafiebalibkdaaSRnOAllx0
import Derived.Test.YtiafiebalibkdaaSRnOAllx3
namespace Go.Proofs.Ytiafiebalibkdaa.OAll
open Go.RowKit Go.Proofs.YtiafiebalibkdaaW.PrintWords Go.Proofs.YtiafiebalibkdaaW.PrintLast Go.Proofs.YtiafiebalibkdaaW.PrintMore
attribute [local go_sem] max2_int min2_int max_two min_two max_three min_three max_four min_four
set_option linter.unusedVariables false
set_option linter.unusedSimpArgs false
def kindP (x : S78) : Int := if x.f0.f0 > 0 then (if x.f0.f1 = 0 then 0 else 1) else if x.f0.f1 > 0 then 2 else 3
def aheadP (x y : S78) : Bool := decide (wrap64 (x.f0.f0 * y.f0.f1) > wrap64 (y.f0.f0 * x.f0.f1))
def pcmp (x y : S78) : Int := if kindP x = kindP y then (if aheadP x y then -1 else if aheadP y x then 1 else 0) else wrap64 (kindP x - kindP y)
theorem kindP_f (x : S78) : share_point_kind.f 5 x.f0.f0 x.f0.f1 = some (kindP x) := by
 unfold share_point_kind.f kindP
 by_cases h : x.f0.f0 > 0
 ·by_cases h0 : x.f0.f1 = 0
  ·simp [share_point_kind.j0, h, h0]
  ·simp [share_point_kind.j0, h, h0]
 ·by_cases h0 : x.f0.f1 > 0
  ·simp [share_point_kind.j0, h, h0]
  ·simp [share_point_kind.j0, h, h0]
theorem aheadP_f (x y : S78) : share_point_ahead.f x.f0.f0 x.f0.f1 y.f0.f0 y.f0.f1 = some (aheadP x y) := rfl
set_option maxRecDepth 100000 in
set_option maxHeartbeats 1000000 in
theorem share_order_cmp.calls (B1 B2 : Nat) (x y : S78) (w : World) (h1 : w.cell? ⟨B1, 0, none⟩ = some (.func (.func 68) #[] #[])) (h2 : w.cell? ⟨B2, 0, none⟩ = some (.func (.func 69) #[] #[])) :
  Calls Try.prog 73 #[.agg #[.int .i64 x.f0.f0, .int .i64 x.f0.f1, .int .i64 x.f1], .agg #[.int .i64 y.f0.f0, .int .i64 y.f0.f1, .int .i64 y.f1], .pointer (some ⟨B1, 0, none⟩), .pointer (some ⟨B2, 0, none⟩)] w fun e w' => e = .returned (.int .i64 (pcmp x y)) ∧ Below w.heap.size w w' := by
 have hu76 := Try.underlying76
 obtain ⟨w1, hw1⟩ : ∃ w1, w1 = (w.alloc (.cells #[.int .i64 x.f0.f0, .int .i64 x.f0.f1, .int .i64 x.f1] 78)).alloc (.cells #[.int .i64 y.f0.f0, .int .i64 y.f0.f1, .int .i64 y.f1] 78) := ⟨_, rfl⟩
 have hb : Below w.heap.size w w1 := by rw [hw1]; exact below_alloc (below_alloc (Below.refl _ _) _) _
 have bx : w1.heap[w.heap.size]? = some (.cells #[.int .i64 x.f0.f0, .int .i64 x.f0.f1, .int .i64 x.f1] 78 (0, 0)) := by rw [hw1]; exact blk_alloc (blk_new w _) _
 have by_ : w1.heap[w.heap.size + 1]? = some (.cells #[.int .i64 y.f0.f0, .int .i64 y.f0.f1, .int .i64 y.f1] 78 (0, 0)) := by rw [hw1]; have := blk_new (w.alloc (.cells #[.int .i64 x.f0.f0, .int .i64 x.f0.f1, .int .i64 x.f1] 78)) (.cells #[.int .i64 y.f0.f0, .int .i64 y.f0.f1, .int .i64 y.f1] 78); rwa [World.size_alloc] at this
 have HB := Aside0.mk hb
 have HX := Aside0.mk bx
 have HY := Aside0.mk by_
 have HW := Aside0.mk hw1
 have g1 := pw_cell_below hb h1
 have g2 := pw_cell_below hb h2
 have HG2 := Aside0.mk g2
 have x0 : w1.cell? ⟨w.heap.size, 0, none⟩ = some (.int .i64 x.f0.f0) := (blk_cell bx 0).trans rfl
 have x1 : w1.cell? ⟨w.heap.size, 1, none⟩ = some (.int .i64 x.f0.f1) := (blk_cell bx 1).trans rfl
 have y0 : w1.cell? ⟨w.heap.size + 1, 0, none⟩ = some (.int .i64 y.f0.f0) := (blk_cell by_ 0).trans rfl
 have y1 : w1.cell? ⟨w.heap.size + 1, 1, none⟩ = some (.int .i64 y.f0.f1) := (blk_cell by_ 1).trans rfl
 have kx := Aside0.mk (kindP_f x)
 have ky := Aside0.mk (kindP_f y)
 clear hb bx by_ hw1 h1 h2 g2
 go_enter Try.func73, Try.ntmps73
 go_wp2_with fail
 rw [← HW.out]
 go_region_held3 (fun w' => w'.cell? ⟨B1, 0, none⟩ = some (.func (.func 68) #[] #[]) ∧ w'.cell? ⟨w.heap.size, 0, none⟩ = some (.int .i64 x.f0.f0) ∧ w'.cell? ⟨w.heap.size, 1, none⟩ = some (.int .i64 x.f0.f1) ∧ w'.cell? ⟨w.heap.size + 1, 0, none⟩ = some (.int .i64 y.f0.f0) ∧ w'.cell? ⟨w.heap.size + 1, 1, none⟩ = some (.int .i64 y.f0.f1)) (first | exact ⟨g1, x0, x1, y0, y1⟩ | exact s1 | exact s2 | go_keep)
  (first | (go_at_call 68; refine (share_point_kind.calls 5 x.f0.f0 x.f0.f1 _ _ kx.out).mono ?_; rintro e w2 ⟨rfl, hb2⟩; clear kx; have HB2 := Aside0.mk (below_step (below_drew (Below.refl w1.heap.size w1)) hb2); have s1 := And.intro (pw_cell_below HB2.out g1) (And.intro (pw_cell_below HB2.out x0) (And.intro (pw_cell_below HB2.out x1) (And.intro (pw_cell_below HB2.out y0) (pw_cell_below HB2.out y1)))); clear hb2) | (go_at_call 68; refine (share_point_kind.calls 5 y.f0.f0 y.f0.f1 _ _ ky.out).mono ?_; rintro e w3 ⟨rfl, hb3⟩; clear ky; have HB3 := Aside0.mk (below_step HB2.out hb3); have s2 := And.intro (pw_cell_below HB3.out g1) (And.intro (pw_cell_below HB3.out x0) (And.intro (pw_cell_below HB3.out x1) (And.intro (pw_cell_below HB3.out y0) (pw_cell_below HB3.out y1)))); clear hb3))
 have q2 := pw_cell_below HB3.out HG2.out
 obtain ⟨z1, z2, z3, z4, z5⟩ := s2
 have HBW := Aside0.mk (below_step HB.out HB3.out)
 clear s1 g1 x0 x1 y0 y1 z1
 by_cases hk : kindP x = kindP y
 ·have k1 : (kindP x == kindP y) = true := beq_iff_eq.mpr hk
  have k2 : (kindP x != kindP y) = false := bne_eq_false_iff_eq.mpr hk
  have HKK := Aside0.mk hk
  clear hk
  go_wp2_with fail
  refine (share_point_ahead.calls x.f0.f0 x.f0.f1 y.f0.f0 y.f0.f1 _ _ (aheadP_f x y)).mono ?_
  rintro e w4 ⟨rfl, hb4⟩
  have HB4 := Aside0.mk (below_step HBW.out hb4)
  have q2' := pw_cell_below hb4 q2
  have z2' := pw_cell_below hb4 z2
  have z3' := pw_cell_below hb4 z3
  have z4' := pw_cell_below hb4 z4
  have z5' := pw_cell_below hb4 z5
  clear hb4 q2 z2 z3 z4 z5
  cases ha : aheadP x y
  ·have HA := Aside0.mk ha
   go_wp2_with fail
   refine (share_point_ahead.calls y.f0.f0 y.f0.f1 x.f0.f0 x.f0.f1 _ _ (aheadP_f y x)).mono ?_
   rintro e w5 ⟨rfl, hb5⟩
   have HB5 := Aside0.mk (below_step HB4.out hb5)
   clear hb5
   cases ha2 : aheadP y x
   ·go_wp2
    go_ret
    exact ⟨by rw [pcmp, if_pos HKK.out, HA.out, ha2]; rfl, HB5.out⟩
   ·go_wp2
    go_ret
    exact ⟨by rw [pcmp, if_pos HKK.out, HA.out, ha2]; rfl, HB5.out⟩
  ·go_wp2
   go_ret
   exact ⟨by rw [pcmp, if_pos HKK.out, ha]; rfl, HB4.out⟩
 ·have k1 : (kindP x == kindP y) = false := beq_eq_false_iff_ne.mpr hk
  have k2 : (kindP x != kindP y) = true := bne_iff_ne.mpr hk
  have HKK := Aside0.mk hk
  clear hk
  go_wp2
  go_ret
  exact ⟨by rw [pcmp, if_neg HKK.out]; rfl, HBW.out⟩
def ltP (x y : S78) : Bool := decide (pcmp x y < 0)
def insR (x : S78) : List S78 → List S78 → List S78
 | [], B => x :: B
 | p :: A, B => if ltP x p then insR x A (p :: B) else A.reverse ++ p :: x :: B
def isort : List S78 → List S78 → List S78
 | acc, [] => acc
 | acc, x :: t => isort (insR x acc.reverse []) t
theorem insR_len (x : S78) : ∀ A B, (insR x A B).length = A.length + B.length + 1
 | [], B => by simp [insR]
 | p :: A, B => by
  rw [insR]
  split
  ·rw [insR_len x A]; simp; omega
  ·simp; omega
theorem isort_len : ∀ (t acc : List S78), (isort acc t).length = acc.length + t.length
 | [], acc => rfl
 | x :: t, acc => by rw [isort, isort_len t, insR_len]; simp; omega
def fl (d : List S78) : List Value := d.flatMap fun x => [.int .i64 x.f0.f0, .int .i64 x.f0.f1, .int .i64 x.f1]
theorem fl_app (a b : List S78) : fl (a ++ b) = fl a ++ fl b := by simp [fl]
theorem fl_cons (x : S78) (a : List S78) : fl (x :: a) = .int .i64 x.f0.f0 :: .int .i64 x.f0.f1 :: .int .i64 x.f1 :: fl a := rfl
theorem fl_len (d : List S78) : (fl d).length = d.length * 3 := by
 induction d with
 | nil => rfl
 | cons x t ih => rw [fl_cons]; simp [ih]; omega
def RoS (w : World) (g : Nat) (rest : List Value) (d : List S78) : Prop := w.heap[g]? = some (.cells (fl d ++ rest).toArray 78 (0, 0))
theorem RoS.cell {w : World} {g : Nat} {rest : List Value} {A B : List S78} {x : S78} (h : RoS w g rest (A ++ x :: B)) :
  w.cell? ⟨g, A.length * 3, none⟩ = some (.int .i64 x.f0.f0) ∧ w.cell? ⟨g, A.length * 3 + 1, none⟩ = some (.int .i64 x.f0.f1) ∧ w.cell? ⟨g, A.length * 3 + 2, none⟩ = some (.int .i64 x.f1) := by
 rw [RoS, fl_app, fl_cons, List.append_assoc] at h
 have hl := fl_len A
 refine ⟨?_, ?_, ?_⟩
 ·rw [blk_cell h]; simp [List.getElem?_append_right, hl]
 ·rw [blk_cell h]; simp [List.getElem?_append_right, hl]
 ·rw [blk_cell h]; simp [List.getElem?_append_right, hl]
theorem RoS.frozen {w : World} {g : Nat} {rest : List Value} {d : List S78} (h : RoS w g rest d) (j : Nat) : w.frozen? ⟨g, j, none⟩ = false := blk_frozen h j
theorem swap_list (FA R : List Value) (p0 p1 p2 x0 x1 x2 : Value) : (((((((FA ++ p0 :: p1 :: p2 :: x0 :: x1 :: x2 :: R).set (FA.length + 3) p0).set (FA.length + 4) p1).set (FA.length + 5) p2).set FA.length x0).set (FA.length + 1) x1).set (FA.length + 2) x2) = FA ++ x0 :: x1 :: x2 :: p0 :: p1 :: p2 :: R := by
 have e : ∀ k (v : Value) (L : List Value), (FA ++ L).set (FA.length + k) v = FA ++ L.set k v := fun k v L => by
  rw [List.set_append_right _ _ (by omega), Nat.add_sub_cancel_left]
 have e0 : ∀ (v : Value) (L : List Value), (FA ++ L).set FA.length v = FA ++ L.set 0 v := fun v L => e 0 v L
 rw [e, e, e, e0, e, e]
 rfl
theorem RoS.swap {w : World} {g : Nat} {rest : List Value} {A B : List S78} {p x : S78} {a b c d e f : Nat} (h : RoS w g rest (A ++ p :: x :: B)) (ha : a = A.length * 3) (hb : b = A.length * 3 + 1) (hc : c = A.length * 3 + 2) (hd : d = A.length * 3 + 3) (he : e = A.length * 3 + 4) (hf : f = A.length * 3 + 5) :
  RoS ((((((w.setCell ⟨g, d, none⟩ (.int .i64 p.f0.f0)).setCell ⟨g, e, none⟩ (.int .i64 p.f0.f1)).setCell ⟨g, f, none⟩ (.int .i64 p.f1)).setCell ⟨g, a, none⟩ (.int .i64 x.f0.f0)).setCell ⟨g, b, none⟩ (.int .i64 x.f0.f1)).setCell ⟨g, c, none⟩ (.int .i64 x.f1)) g rest (A ++ x :: p :: B) := by
 subst ha hb hc hd he hf
 have hl := fl_len A
 unfold RoS at h ⊢
 rw [fl_app, fl_cons, fl_cons, List.append_assoc] at h ⊢
 rw [blk_set (blk_set (blk_set (blk_set (blk_set (blk_set h _ _) _ _) _ _) _ _) _ _) _ _]
 simp only [List.setIfInBounds_toArray, List.cons_append]
 rw [← hl]
 have := swap_list (fl A) (fl B ++ rest) (.int .i64 p.f0.f0) (.int .i64 p.f0.f1) (.int .i64 p.f1) (.int .i64 x.f0.f0) (.int .i64 x.f0.f1) (.int .i64 x.f1)
 rw [this]
theorem below_drew' {B : Nat} {w w1 : World} (h : Below B w w1) : Below B w w1.drew := pw_below_drewN h 1
theorem below_drewN' {B : Nat} {w w1 : World} (h : Below B w w1) (n : Nat) : Below B w (w1.drewN n) := pw_below_drewN h n
theorem RoS.drewN {w : World} {g : Nat} {rest : List Value} {d : List S78} (h : RoS w g rest d) (n : Nat) : RoS (w.drewN n) g rest d := h
set_option maxRecDepth 100000 in
set_option maxHeartbeats 2000000 in
theorem insertion.calls (B1 B2 g cap : Nat) (d : List S78) (rest : List Value) (w : World) (hn : d.length ≤ 1000) (hr : RoS w g rest d) (h1 : w.cell? ⟨B1, 0, none⟩ = some (.func (.func 68) #[] #[])) (h2 : w.cell? ⟨B2, 0, none⟩ = some (.func (.func 69) #[] #[])) (hB1 : B1 ≠ g) (hB2 : B2 ≠ g) :
  Calls Try.prog 82 #[.slice (some ⟨g, 0, none⟩) d.length cap, .int .i64 0, .int .i64 (d.length : Int), .func (.func 73) #[] #[.pointer (some ⟨B1, 0, none⟩), .pointer (some ⟨B2, 0, none⟩)]] w fun e w' => e = .returned (.tuple #[]) ∧ RoS w' g rest (isort [] d) ∧ Below g w w' ∧ Kept w w' (fun k_ => k_ = g) := by
 obtain ⟨n, hnn⟩ : ∃ n, n = d.length := ⟨_, rfl⟩
 rw [← hnn] at hn ⊢
 have HN := Aside0.mk hnn
 have HR := Aside0.mk hr
 have HC1 := Aside0.mk h1
 have HC2 := Aside0.mk h2
 clear hr h1 h2 hnn
 cases hd : d with
 | nil =>
  have n0 : n = 0 := by rw [HN.out, hd]; rfl
  subst n0
  have HD := Aside0.mk hd
  clear hd
  go_enter Try.func82, Try.ntmps82
  go_wp2
  go_loop [8] (fun v8 => v8 = .int .i64 1) (fun v8 => 0)
  case atStart => rfl
  case round =>
   subst hrel
   go_wp2
   go_end0
   exact ⟨rfl, by rw [isort]; have := HR.out; rwa [HD.out] at this, Below.refl _ _, Kept.refl _ _⟩
 | cons x0 t =>
  have HD := Aside0.mk hd
  have hpos : 1 ≤ n := by rw [HN.out, hd]; simp
  clear hd
  go_enter Try.func82, Try.ntmps82
  go_wp2_with fail
  go_loopg [8] n (fun gq v8 w' => ∃ (i : Nat) (P T : List S78), v8 = .int .i64 (i : Int) ∧ 1 ≤ i ∧ i ≤ n ∧ n - i ≤ gq ∧ Aside0 (P.length = i) ∧ Aside0 (i + T.length = n) ∧ Aside0 (isort P T = isort [] (x0 :: t)) ∧ Aside0 (RoS w' g rest (P ++ T)) ∧ Aside0 (Below g w w') ∧ Aside0 (Kept w w' (fun k_ => k_ = g)))
  case atStart => exact ⟨1, [x0], t, by go_num, Nat.le_refl _, hpos, by omega, ⟨rfl⟩, ⟨by rw [HN.out, HD.out]; simp; omega⟩, ⟨rfl⟩, ⟨by have := HR.out; rwa [HD.out] at this⟩, ⟨Below.refl _ _⟩, ⟨Kept.refl _ _⟩⟩
  case round =>
   obtain ⟨i, P, T, rfl, hi1, hin, hgk, HP, HT, HI, HS, HB, HK⟩ := hrel
   by_cases hlt : i < n
   ·have c1 : (i : Int) < (n : Int) := by omega
    have c1b : decide ((i : Int) < (n : Int)) = true := decide_eq_true c1
    cases T with
    | nil => exfalso; have := HT.out; simp at this; omega
    | cons x T' =>
     clear c1
     go_wp2_with fail
     clear c1b
     go_loopg [9] i (fun gq v9 w' => ∃ (j : Nat) (A B : List S78), v9 = .int .i64 (j : Int) ∧ j ≤ i ∧ j ≤ gq ∧ Aside0 (A.length = j) ∧ Aside0 (j + B.length = i) ∧ Aside0 (insR x A.reverse B = insR x P.reverse []) ∧ Aside0 (RoS w' g rest (A ++ x :: (B ++ T'))) ∧ Aside0 (Below g w w') ∧ Aside0 (Kept w w' (fun k_ => k_ = g)))
     case atStart => exact ⟨i, P, [], rfl, Nat.le_refl _, Nat.le_refl _, HP, ⟨by simp⟩, ⟨rfl⟩, HS, HB, HK⟩
     case round =>
      clear HS HB HK
      obtain ⟨j, A, B, rfl, hji, hgk2, HA, HBL, HX, HS, HB, HK⟩ := hrel
      have leave : insR x A.reverse B = A ++ x :: B → i + 1 ≤ n ∧ n - (i + 1) ≤ n - (i + 1) ∧ (A ++ x :: B).length = i + 1 ∧ i + 1 + T'.length = n ∧ isort (A ++ x :: B) T' = isort [] (x0 :: t) := fun e => by
       refine ⟨by omega, Nat.le_refl _, ?_, ?_, ?_⟩
       ·have := HA.out; have := HBL.out; simp; omega
       ·have := HT.out; simp at this; omega
       ·rw [← e, HX.out, ← HI.out, isort]
      have LV := Aside0.mk leave
      clear leave
      by_cases hj0 : 0 < j
      ·obtain ⟨jp, rfl⟩ : ∃ jp, j = jp + 1 := ⟨j - 1, by omega⟩
       obtain ⟨A', p, hA'⟩ : ∃ A' p, A = A' ++ [p] := by
        have hne : A ≠ [] := fun h => by have := HA.out; rw [h] at this; simp at this
        exact ⟨A.dropLast, A.getLast hne, (List.dropLast_concat_getLast hne).symm⟩
       subst hA'
       have hjp : A'.length = jp := by have := HA.out; simp at this; omega
       have hS1 : RoS wr g rest (A' ++ p :: x :: (B ++ T')) := by have := HS.out; simpa using this
       have hS2 : RoS wr g rest ((A' ++ [p]) ++ x :: (B ++ T')) := HS.out
       obtain ⟨p0, p1, p2⟩ := hS1.cell
       obtain ⟨q0, q1, q2⟩ := hS2.cell
       rw [hjp] at p0 p1 p2
       rw [List.length_append, hjp] at q0 q1 q2
       simp only [List.length_singleton] at q0 q1 q2
       have HS1 := Aside0.mk hS1
       have HJP := Aside0.mk hjp
       have z0 : decide ((0 : Int) < (jp : Int) + 1) = true := decide_eq_true (by omega)
       have z1 : (0 : Int) < (jp : Int) + 1 := by omega
       have z2 : (jp : Int) + 1 < (n : Int) := by omega
       have z3 : (jp : Int) < (n : Int) := by omega
       have z4 : (0 : Int) ≤ (jp : Int) + 1 := by omega
       have z5 : ((jp : Int) + 1).toNat = jp + 1 := by omega
       have z6 : IntKind.i64.wrap (jp : Int) = (jp : Int) := by rw [IntKind.wrap_i64]; omega
       have g1 : wr.cell? ⟨B1, 0, none⟩ = _ := cell_kept HC1.out HK.out hB1
       have g2 : wr.cell? ⟨B2, 0, none⟩ = _ := cell_kept HC2.out HK.out hB2
       clear hS1 hS2 hjp
       have hB1 : B1 ≠ g := hB1
       cases hl : ltP x p
       ·have HL := Aside0.mk hl
        have hc : decide (pcmp x p < 0) = false := hl
        have e0 : insR x (A' ++ [p]).reverse B = (A' ++ [p]) ++ x :: B := by
         rw [List.reverse_append, List.reverse_singleton, List.singleton_append, insR, if_neg (by rw [hl]; simp)]; simp
        obtain ⟨l1, l2, l3, l4, l5⟩ := LV.out e0
        have L3 := Aside0.mk l3
        have L4 := Aside0.mk l4
        have L5 := Aside0.mk l5
        clear hl e0 l2 l3 l4 l5
        go_wp2_with fail
        go_region_held3 (fun w' => w'.cell? ⟨g, jp * 3, none⟩ = some (.int .i64 p.f0.f0) ∧ w'.cell? ⟨g, jp * 3 + 1, none⟩ = some (.int .i64 p.f0.f1) ∧ w'.cell? ⟨g, jp * 3 + 2, none⟩ = some (.int .i64 p.f1) ∧ w'.cell? ⟨g, (jp + 1) * 3, none⟩ = some (.int .i64 x.f0.f0) ∧ w'.cell? ⟨g, (jp + 1) * 3 + 1, none⟩ = some (.int .i64 x.f0.f1) ∧ w'.cell? ⟨g, (jp + 1) * 3 + 2, none⟩ = some (.int .i64 x.f1)) (first | exact ⟨p0, p1, p2, q0, q1, q2⟩ | exact s1 | go_keep)
         (first | (go_at_call 73; refine (share_order_cmp.calls B1 B2 x p wr.drew g1 g2).mono ?_; rintro e w2 ⟨rfl, hb2⟩; have HB2 := Aside0.mk (below_step (below_drew (Below.refl wr.heap.size wr)) hb2); have s1 := And.intro (pw_cell_below HB2.out p0) (And.intro (pw_cell_below HB2.out p1) (And.intro (pw_cell_below HB2.out p2) (And.intro (pw_cell_below HB2.out q0) (And.intro (pw_cell_below HB2.out q1) (pw_cell_below HB2.out q2))))); clear hb2))
        have HBB := Aside0.mk (HB.out.trans (HB2.out.mono (Nat.le_of_lt (blk_lt HS1.out))))
        have HKK := Aside0.mk (HK.out.below HB2.out)
        have hs2 : RoS w2 g rest (A' ++ p :: x :: (B ++ T')) := blk_below HS1.out HB2.out
        have HS2 := Aside0.mk hs2
        clear p0 p1 p2 q0 q1 q2 g1 g2 hs2 s1
        go_wp2
        go_roundg (n - (i + 1))
        case measure => omega
        case rel => exact ⟨i + 1, _, T', by go_num, by omega, l1, Nat.le_refl _, L3, L4, L5, ⟨by have := HS2.out; simpa using this⟩, HBB, HKK⟩
       ·have HL := Aside0.mk hl
        have hc : decide (pcmp x p < 0) = true := hl
        clear hl
        go_wp2_with fail
        go_region_held3 (fun w' => w'.cell? ⟨g, jp * 3, none⟩ = some (.int .i64 p.f0.f0) ∧ w'.cell? ⟨g, jp * 3 + 1, none⟩ = some (.int .i64 p.f0.f1) ∧ w'.cell? ⟨g, jp * 3 + 2, none⟩ = some (.int .i64 p.f1) ∧ w'.cell? ⟨g, (jp + 1) * 3, none⟩ = some (.int .i64 x.f0.f0) ∧ w'.cell? ⟨g, (jp + 1) * 3 + 1, none⟩ = some (.int .i64 x.f0.f1) ∧ w'.cell? ⟨g, (jp + 1) * 3 + 2, none⟩ = some (.int .i64 x.f1)) (first | exact ⟨p0, p1, p2, q0, q1, q2⟩ | exact s1 | go_keep)
         (first | (go_at_call 73; refine (share_order_cmp.calls B1 B2 x p wr.drew g1 g2).mono ?_; rintro e w2 ⟨rfl, hb2⟩; have HB2 := Aside0.mk (below_step (below_drew (Below.refl wr.heap.size wr)) hb2); have s1 := And.intro (pw_cell_below HB2.out p0) (And.intro (pw_cell_below HB2.out p1) (And.intro (pw_cell_below HB2.out p2) (And.intro (pw_cell_below HB2.out q0) (And.intro (pw_cell_below HB2.out q1) (pw_cell_below HB2.out q2))))); clear hb2))
        have hs2 : RoS w2 g rest (A' ++ p :: x :: (B ++ T')) := blk_below HS1.out HB2.out
        have HS2 := Aside0.mk hs2
        have HBB := Aside0.mk (HB.out.trans (HB2.out.mono (Nat.le_of_lt (blk_lt HS1.out))))
        have HKK := Aside0.mk (HK.out.below HB2.out)
        have f0 : w2.frozen? ⟨g, jp * 3, none⟩ = false := RoS.frozen hs2 _
        have f1 : w2.frozen? ⟨g, jp * 3 + 1, none⟩ = false := RoS.frozen hs2 _
        have f2 : w2.frozen? ⟨g, jp * 3 + 2, none⟩ = false := RoS.frozen hs2 _
        have f3 : w2.frozen? ⟨g, (jp + 1) * 3, none⟩ = false := RoS.frozen hs2 _
        have f4 : w2.frozen? ⟨g, (jp + 1) * 3 + 1, none⟩ = false := RoS.frozen hs2 _
        have f5 : w2.frozen? ⟨g, (jp + 1) * 3 + 2, none⟩ = false := RoS.frozen hs2 _
        obtain ⟨a0, a1, a2, b0, b1, b2⟩ := s1
        clear p0 p1 p2 q0 q1 q2 g1 g2 hs2
        go_wp2_with fail
        go_region
        go_wp2
        go_roundg jp
        case measure => omega
        case rel =>
         refine ⟨jp, A', p :: B, by first | rfl | go_num, by omega, Nat.le_refl _, HJP, ⟨by have := HBL.out; simp; omega⟩, ⟨?_⟩, ⟨?_⟩, ⟨?_⟩, ⟨?_⟩⟩
         ·rw [← HX.out, List.reverse_append, List.reverse_singleton, List.singleton_append, insR, if_pos HL.out]
         ·refine blk_drew (RoS.swap HS2.out ?_ ?_ ?_ ?_ ?_ ?_) <;> (rw [HJP.out]) <;> omega
         ·exact below_drew' ((((((HBB.out.setCell (p := ⟨g, _, none⟩) (Nat.le_refl _) _).setCell (p := ⟨g, _, none⟩) (Nat.le_refl _) _).setCell (p := ⟨g, _, none⟩) (Nat.le_refl _) _).setCell (p := ⟨g, _, none⟩) (Nat.le_refl _) _).setCell (p := ⟨g, _, none⟩) (Nat.le_refl _) _).setCell (p := ⟨g, _, none⟩) (Nat.le_refl _) _)
         ·exact ((((((HKK.out.setCell (p := ⟨g, _, none⟩) (.inl rfl) _).setCell (p := ⟨g, _, none⟩) (.inl rfl) _).setCell (p := ⟨g, _, none⟩) (.inl rfl) _).setCell (p := ⟨g, _, none⟩) (.inl rfl) _).setCell (p := ⟨g, _, none⟩) (.inl rfl) _).setCell (p := ⟨g, _, none⟩) (.inl rfl) _).drew
      ·obtain rfl : j = 0 := by omega
       have hA0 : A = [] := List.eq_nil_of_length_eq_zero HA.out
       subst hA0
       have z0 : decide ((0 : Int) < (0 : Int)) = false := by decide
       obtain ⟨l1, l2, l3, l4, l5⟩ := LV.out rfl
       have L3 := Aside0.mk l3
       have L4 := Aside0.mk l4
       have L5 := Aside0.mk l5
       clear l2 l3 l4 l5
       go_wp2_with fail
       go_quiet (fail)
       go_wp2
       go_roundg (n - (i + 1))
       case measure => omega
       case rel => exact ⟨i + 1, _, T', by go_num, by omega, l1, Nat.le_refl _, L3, L4, L5, ⟨by have := RoS.drewN HS.out nq; simpa using this⟩, ⟨below_drewN' HB.out _⟩, ⟨HK.out.drewN _⟩⟩
   ·obtain rfl : i = n := by omega
    have c1b : decide ((i : Int) < (i : Int)) = false := decide_eq_false (by omega)
    have hT0 : T = [] := List.eq_nil_of_length_eq_zero (by have := HT.out; omega)
    subst hT0
    go_wp2
    go_end0
    exact ⟨rfl, by have := HS.out; have e := HI.out; rw [isort] at e; rw [← e]; simpa using this, HB.out, HK.out⟩
theorem stable.calls (B1 B2 g cap : Nat) (d : List S78) (rest : List Value) (w : World) (hn : d.length ≤ 19) (hr : RoS w g rest d) (h1 : w.cell? ⟨B1, 0, none⟩ = some (.func (.func 68) #[] #[])) (h2 : w.cell? ⟨B2, 0, none⟩ = some (.func (.func 69) #[] #[])) (hB1 : B1 ≠ g) (hB2 : B2 ≠ g) :
  Calls Try.prog 80 #[.slice (some ⟨g, 0, none⟩) d.length cap, .int .i64 (d.length : Int), .func (.func 73) #[] #[.pointer (some ⟨B1, 0, none⟩), .pointer (some ⟨B2, 0, none⟩)]] w fun e w' => e = .returned (.tuple #[]) ∧ RoS w' g rest (isort [] d) ∧ Below g w w' ∧ Kept w w' (fun k_ => k_ = g) := by
 have HI := Aside0.mk (insertion.calls B1 B2 g cap d rest w (by omega) hr h1 h2 hB1 hB2)
 have c1 : decide ((20 : Int) ≤ (d.length : Int)) = false := decide_eq_false (by omega)
 have c2 : decide ((20 : Int) < (d.length : Int)) = false := decide_eq_false (by omega)
 clear hr h1 h2
 go_enter Try.func80, Try.ntmps80
 go_wp2_with fail
 go_loopg [7, 8] 0 (fun gq v7 v8 w' => v7 = .int .i64 0 ∧ v8 = .int .i64 20 ∧ w' = w)
 case atStart => exact ⟨rfl, rfl, rfl⟩
 case round =>
  obtain ⟨rfl, rfl, rfl⟩ := hrel
  go_wp2_with fail
  refine HI.out.mono ?_
  rintro e w1 ⟨rfl, p1, p2, p3⟩
  have P := Aside0.mk (And.intro p1 (And.intro p2 p3))
  clear p1 p2 p3 HI
  go_wp2_with fail
  go_loopg [6] 0 (fun gq v6 w' => v6 = .int .i64 20 ∧ w' = w1)
  case atStart => exact ⟨rfl, rfl⟩
  case round =>
   obtain ⟨rfl, rfl⟩ := hrel
   go_wp2
   go_end0
   exact ⟨rfl, P.out⟩
theorem sortStable.calls (B1 B2 g cap : Nat) (d : List S78) (rest : List Value) (w : World) (hn : d.length ≤ 19) (hr : RoS w g rest d) (h1 : w.cell? ⟨B1, 0, none⟩ = some (.func (.func 68) #[] #[])) (h2 : w.cell? ⟨B2, 0, none⟩ = some (.func (.func 69) #[] #[])) (hB1 : B1 ≠ g) (hB2 : B2 ≠ g) :
  Calls Try.prog 72 #[.slice (some ⟨g, 0, none⟩) d.length cap, .func (.func 73) #[] #[.pointer (some ⟨B1, 0, none⟩), .pointer (some ⟨B2, 0, none⟩)]] w fun e w' => e = .returned (.tuple #[]) ∧ RoS w' g rest (isort [] d) ∧ Below g w w' ∧ Kept w w' (fun k_ => k_ = g) := by
 have HI := Aside0.mk (stable.calls B1 B2 g cap d rest w hn hr h1 h2 hB1 hB2)
 clear hr h1 h2
 go_enter Try.func72, Try.ntmps72
 go_wp2_with fail
 refine HI.out.mono ?_
 rintro e w1 ⟨rfl, p1, p2, p3⟩
 have P := Aside0.mk (And.intro p1 (And.intro p2 p3))
 clear p1 p2 p3 HI
 go_wp2
 go_end0
 exact ⟨rfl, P.out⟩
def ordIn : Nat → List S76 → List S78
 | _, [] => []
 | i, p :: t => ⟨p, (i : Int)⟩ :: ordIn (i + 1) t
theorem ordIn_len : ∀ (l : List S76) (i : Nat), (ordIn i l).length = l.length
 | [], _ => rfl
 | p :: t, i => by rw [ordIn, List.length_cons, ordIn_len t, List.length_cons]
theorem ordIn_app : ∀ (a : List S76) (i : Nat) (b : List S76), ordIn i (a ++ b) = ordIn i a ++ ordIn (i + a.length) b
 | [], i, b => by simp [ordIn]
 | p :: t, i, b => by
  rw [List.cons_append, ordIn, ordIn_app t, ordIn, List.cons_append, List.length_cons]
  congr 3; omega
def share_order.f (k : Nat) (l0 : List S76) : Option (List S78) := if 1 ≤ l0.length ∧ l0.length ≤ 19 then some (isort [] (ordIn 0 l0)) else none
theorem share_order.mono : ∀ a0 k, LeO (share_order.f k a0) (share_order.f (k + 1) a0) := fun a0 k => LeO.refl _
theorem row_open {w : World} {base : Nat} {ok : Nat → Prop} {v : Value} {d : List S78} (h : Kd.R k78 78 w base ok v d) (hd : 1 ≤ d.length) :
  ∃ g cap rest, v = .slice (some ⟨g, 0, none⟩) d.length cap ∧ base ≤ g ∧ RoS w g rest d ∧ d.length ≤ cap ∧ cap ≤ maxLen ∧ (fl d ++ rest).length = cap * 3 := by
 obtain ⟨_, inner, ⟨h1, h2⟩, hr⟩ := h
 rcases h2 with ⟨_, h0⟩ | ⟨g, cap, cur, rfl, hg, hh, hc, hm, hs, ht⟩
 ·omega
 ·have hin : inner = fl d := by
   apply List.ext_getElem
   ·rw [hr.1, fl_len]; rfl
   ·intro q hq1 hq2
    have hq : q / 3 < d.length := by rw [fl_len] at hq2; omega
    have hp := hr.2 (q / 3) d[q / 3] (List.getElem?_eq_getElem hq)
    have ho := k78_openM hp
    have e1 : ((inner.drop (q / 3 * 3)).take 3)[q % 3]? = inner[q]? := by
     rw [List.getElem?_take_of_lt (Nat.mod_lt _ (by decide)), List.getElem?_drop]; congr 1; omega
    have e2 : (fl d)[q]? = [Value.int .i64 d[q / 3].f0.f0, .int .i64 d[q / 3].f0.f1, .int .i64 d[q / 3].f1][q % 3]? := by
     have hsp : d = d.take (q / 3) ++ d[q / 3] :: d.drop (q / 3 + 1) := by rw [← List.drop_eq_getElem_cons hq, List.take_append_drop]
     conv => lhs; rw [hsp]
     rw [fl_app, fl_cons, List.getElem?_append_right (by rw [fl_len, List.length_take]; omega), fl_len, List.length_take, Nat.min_eq_left (by omega)]
     have : q - q / 3 * 3 = q % 3 := by omega
     rw [this]
     have hlt : q % 3 < 3 := Nat.mod_lt _ (by decide)
     rcases (show q % 3 = 0 ∨ q % 3 = 1 ∨ q % 3 = 2 by omega) with h | h | h <;> rw [h] <;> rfl
    have e3 : ((inner.drop (q / 3 * 3)).take 3)[q % 3]? = [Value.int .i64 d[q / 3].f0.f0, .int .i64 d[q / 3].f0.f1, .int .i64 d[q / 3].f1][q % 3]? := by
     have : (inner.drop (q / 3 * k78.sz)).take k78.sz = (inner.drop (q / 3 * 3)).take 3 := rfl
     rw [← this, ho]
    have : inner[q]? = (fl d)[q]? := by rw [← e1, e3, ← e2]
    rw [List.getElem?_eq_getElem hq1, List.getElem?_eq_getElem hq2] at this
    exact Option.some.inj this
  have e : cur.toList = fl d ++ cur.toList.drop (d.length * 3) := by
   have := List.take_append_drop (d.length * 3) cur.toList
   rw [← this]
   have ht' : cur.toList.take (d.length * 3) = inner := ht
   rw [ht', hin]; simp [fl_len]
  refine ⟨g, cap, cur.toList.drop (d.length * 3), rfl, hg, ?_, hc, hm, ?_⟩
  ·rw [RoS, ← e]; exact hh
  ·rw [← e, Array.length_toList]; exact hs
theorem drop_len {α : Type} {a b : List α} {n : Nat} (h : a.length = n) : (a ++ b).drop n = b := by subst h; simp
theorem row_shut {w : World} {base g cap : Nat} {rest : List Value} {d : List S78} (h : RoS w g rest d) (hg : base ≤ g) (hc : d.length ≤ cap) (hm : cap ≤ maxLen) (hl : (fl d ++ rest).length = cap * 3) :
  Kd.R k78 78 w base (fun _ => True) (.slice (some ⟨g, 0, none⟩) d.length cap) d := by
 refine ⟨fun _ _ => trivial, fl d, ⟨fl_len d, .inr ⟨g, cap, _, rfl, hg, h, hc, hm, (by show (fl d ++ rest).toArray.size = cap * 3; rw [List.size_toArray]; exact hl), ?_⟩⟩, ⟨fl_len d, fun j p hp => ?_⟩⟩
 ·show (fl d ++ rest).take (d.length * 3) = fl d
  rw [List.take_append_of_le_length (by rw [fl_len]; exact Nat.le_refl _), List.take_of_length_le (by rw [fl_len]; exact Nat.le_refl _)]
 ·have hj := (List.getElem?_eq_some_iff.mp hp).1
  have hsp : d = d.take j ++ p :: d.drop (j + 1) := by
   have e := (List.getElem?_eq_some_iff.mp hp).2
   rw [← e, ← List.drop_eq_getElem_cons hj, List.take_append_drop]
  have e : ((fl d).drop (j * 3)).take 3 = [Value.int .i64 p.f0.f0, .int .i64 p.f0.f1, .int .i64 p.f1] := by
   conv => lhs; rw [hsp]
   rw [fl_app, fl_cons, drop_len (by rw [fl_len, List.length_take]; omega)]
   rfl
  show k78.M w base _ p (((fl d).drop (j * 3)).take 3)
  rw [e]
  exact k78_mkM w base _ p
set_option maxRecDepth 100000 in
set_option maxHeartbeats 1000000 in
theorem share_order.calls (k : Nat) (A0 : Option Addr) (c0 : Nat) (l0 : List S76) (r : List S78) (w : World) (hr0 : Kd.C k76 w A0 l0.length l0) (hc0 : l0.length ≤ c0) (h : share_order.f k l0 = some r) :
  Calls Try.prog 47 #[.slice A0 l0.length c0] w fun e w' => ∃ v0_ : Value, e = .returned v0_ ∧ Kd.R k78 78 w' w.heap.size (fun _ => True) v0_ r ∧ Below w.heap.size w w' := by
 unfold share_order.f at h
 by_cases hl : 1 ≤ l0.length ∧ l0.length ≤ 19
 ·rw [if_pos hl] at h
  obtain rfl := Option.some.inj h
  obtain ⟨hl1, hl2⟩ := hl
  have hmf : ∀ (fn : Fn) (first cap : Array Value) (w : World), (Instr.makeFunc fn first cap).run Try.prog w = .ok (.func fn first cap) w := fun _ _ _ _ => rfl
  have hu76 := Try.underlying76
  have hu78 := Try.underlying78
  have HR := Aside0.mk hr0
  clear h hr0
  go_enter Try.func47, Try.ntmps47
  go_wp2_with fail
  go_loopg [3, 10] l0.length (fun gq v3 v10 w' => ∃ (i : Nat), v10 = .int .i64 (i : Int) ∧ i ≤ l0.length ∧ l0.length - i ≤ gq ∧ Aside0 (Kd.R k78 78 w' w.heap.size (fun _ => True) v3 (ordIn 0 (l0.take i))) ∧ Aside0 (Below w.heap.size w w'))
  case atStart => exact ⟨0, rfl, Nat.zero_le _, by omega, ⟨Kd.R_nil _ _ _ _ _⟩, ⟨Below.refl _ _⟩⟩
  case round =>
   obtain ⟨i, rfl, hi, hgk, HO, HB⟩ := hrel
   by_cases hlt : i < l0.length
   ·have c1 : (i : Int) < (l0.length : Int) := by omega
    have c1b : decide ((i : Int) < (l0.length : Int)) = true := decide_eq_true c1
    have c0' : (0 : Int) ≤ (i : Int) := by omega
    obtain ⟨ad, e1, hx0, hx1⟩ := at_T76 (Kd.C_below HR.out HB.out) (i : Int) c0' c1
    obtain ⟨p, hp⟩ : ∃ p, p = rd_T76 l0 (i : Int) := ⟨_, rfl⟩
    rw [← hp, Int.toNat_natCast] at hx0 hx1
    subst e1
    have HP := Aside0.mk hp
    have c1c := eq_true c1
    have c0c := eq_true c0'
    clear c1 c0' hp
    have HOa := Aside0.mk (Kd.R_alloc HO.out (.cells #[.int .i64 p.f0, .int .i64 p.f1] 76))
    have HBa := Aside0.mk (below_alloc HB.out (.cells #[.int .i64 p.f0, .int .i64 p.f1] 76))
    go_wp2_with ((with_reducible refine gate_builtin (b := .append) (xs := #[.tmp 15, .tmp 19]) rfl ?_); at_builtin; refine Kd.R_append k78 (w0 := w) w.heap.size rfl (.tmp 15) (.tmp 19) 73 78 (.agg #[.int .i64 0, .int .i64 0, .int .i64 0]) 24 rfl Try.underlying73 info78 rfl (by decide) (by omega) u3 (ordIn 0 (l0.take i)) (⟨p, (i : Int)⟩ : S78) [.int .i64 p.f0, .int .i64 p.f1, .int .i64 (i : Int)] (fun _ => True) (fun _ => False) rfl (by rw [World.size_alloc]; rfl) ?aP (fun _ hk => hk.elim) ?aF ?aO ?aB ?aS ?aL ?_; (case aP => exact k78_mkM _ _ _ _); (case aB => exact HBa.out); (case aF => exact (fun _ _ => trivial)); (case aO => exact HOa.out); (case aS => exact below_size HBa.out); (case aL => rw [ordIn_len, List.length_take]; omega); intro v5 w5 ho hb hg hat; have HO5 := Aside0.mk ho; have HB5 := Aside0.mk hb; clear ho hb hg hat)
    go_roundg (l0.length - (i + 1))
    case measure => omega
    case rel =>
     refine ⟨i + 1, by go_num, by omega, Nat.le_refl _, ⟨?_⟩, HB5⟩
     have hge : l0[i]? = some p := by rw [HP.out]; simp [rd_T76, hlt]
     have e : l0.take (i + 1) = l0.take i ++ [p] := by rw [List.take_add_one, hge]; rfl
     rw [e, ordIn_app, List.length_take, Nat.min_eq_left hi, Nat.zero_add]
     exact HO5.out
   ·obtain rfl : i = l0.length := by omega
    have c1b : decide ((l0.length : Int) < (l0.length : Int)) = false := decide_eq_false (by omega)
    have hO := HO.out
    rw [List.take_of_length_le (Nat.le_refl _)] at hO
    obtain ⟨g, cap, rest, rfl, hg, hS, hc, hm, hcl⟩ := row_open hO (by rw [ordIn_len]; exact hl1)
    have HS := Aside0.mk hS
    obtain ⟨d, hd⟩ : ∃ d, d = ordIn 0 l0 := ⟨_, rfl⟩
    rw [← hd] at HS hc hcl
    have hdl : d.length = l0.length := by rw [hd, ordIn_len]
    have HD := Aside0.mk hd
    have HDL := Aside0.mk hdl
    have hglt := blk_lt hS
    rw [← hd]
    clear hS hO HO hd hdl
    have hn1 := blk_new wr (.cells #[.func (.func 68) #[] #[]] 103)
    have hn2 := blk_new (wr.alloc (.cells #[.func (.func 68) #[] #[]] 103)) (.cells #[.func (.func 69) #[] #[]] 104)
    simp only [World.size_alloc] at hn2
    have HS2 : Aside0 (RoS ((wr.alloc (.cells #[.func (.func 68) #[] #[]] 103)).alloc (.cells #[.func (.func 69) #[] #[]] 104)) g rest d) := ⟨blk_alloc (blk_alloc HS.out _) _⟩
    have b1 : ((wr.alloc (.cells #[.func (.func 68) #[] #[]] 103)).alloc (.cells #[.func (.func 69) #[] #[]] 104)).cell? ⟨wr.heap.size, 0, none⟩ = some (.func (.func 68) #[] #[]) := (blk_cell (blk_alloc hn1 _) 0).trans rfl
    have b2 : ((wr.alloc (.cells #[.func (.func 68) #[] #[]] 103)).alloc (.cells #[.func (.func 69) #[] #[]] 104)).cell? ⟨wr.heap.size + 1, 0, none⟩ = some (.func (.func 69) #[] #[]) := (blk_cell hn2 0).trans rfl
    have HC := Aside0.mk (sortStable.calls wr.heap.size (wr.heap.size + 1) g cap d rest _ (by rw [HDL.out]; exact hl2) HS2.out b1 b2 (by omega) (by omega))
    clear hn1 hn2 b1 b2
    go_wp2_with fail
    refine HC.out.mono ?_
    rintro e w5 ⟨rfl, q1, q2, q3⟩
    have hlen : (isort [] d).length = d.length := by rw [isort_len]; simp
    have HBr := below_alloc (below_alloc HB.out (.cells #[.func (.func 68) #[] #[]] 103)) (.cells #[.func (.func 69) #[] #[]] 104)
    have HB5 := Aside0.mk (HBr.trans (q2.mono hg))
    have hrow := row_shut (base := w.heap.size) q1 hg (by rw [hlen]; exact hc) hm (by rw [List.length_append, fl_len, hlen, ← fl_len d, ← List.length_append]; exact hcl)
    rw [hlen] at hrow
    have HROW := Aside0.mk hrow
    clear q1 q2 q3 HBr hrow HC
    go_wp2
    go_ret
    exact ⟨_, rfl, by rw [← HD.out]; exact HROW.out, HB5.out⟩
 ·rw [if_neg hl] at h; cases h
def ratio_divisor.f : Nat → Int → Int → Option (Int)
 | 0, _, _ => none
 | k + 1, a0, a1 => if a1 = 0 then (some (mx a0 (wrap64 (-a0)))) else ((ratio_divisor.f k a1 (Int.tmod a0 a1)).bind fun t120 => (some t120))
theorem ratio_divisor.mono_l : ∀ k, (∀ y0 y1, LeO (ratio_divisor.f k y0 y1) (ratio_divisor.f (k + 1) y0 y1))
 | 0 => fun _ _ r h => by simp [ratio_divisor.f] at h
 | k + 1 => by
  have ih0 := ratio_divisor.mono_l k
  ·intro y0 y1
   unfold ratio_divisor.f
   repeat' first
   | (with_reducible exact ih0 _ _)
   | (with_reducible exact LeO.refl _)
   | (with_reducible exact LeO.none _)
   | (with_reducible refine LeO.ite ?_ ?_)
   | (with_reducible refine LeO.bind ?_ (fun _ => ?_))
   | exact ih0 _ _
   | exact LeO.none _
   | refine LeO.ite ?_ ?_
   | refine LeO.bind ?_ (fun _ => ?_)
theorem ratio_divisor.mono : ∀ a0 a1 k, LeO (ratio_divisor.f k a0 a1) (ratio_divisor.f (k + 1) a0 a1) := by
 intro a0 a1 k
 have ih0 := ratio_divisor.mono_l k
 exact ih0 a0 a1
set_option maxHeartbeats 8000000 in
set_option maxRecDepth 100000 in
theorem ratio_divisor.calls (k : Nat) : ∀ (a0 : Int) (a1 : Int) (r : Int) (w : World) (h : ratio_divisor.f k a0 a1 = some r),
  Calls Try.prog 74 #[.int .i64 a0, .int .i64 a1] w fun e w' => e = .returned (.int .i64 r) ∧ Below w.heap.size w w' := by
 induction k using Nat.strongRecOn with
 | _ k ih =>
 intro a0 a1 r w h; cases k with
 | zero => exact absurd h (by simp [ratio_divisor.f])
 | succ k =>
 simp only [ratio_divisor.f] at h; have HB := Aside0.mk (Below.refl w.heap.size w); have H : (if a1 = 0 then (some (mx a0 (wrap64 (-a0)))) else ((ratio_divisor.f k a1 (Int.tmod a0 a1)).bind fun t120 => (some t120))) = some r := h; clear h; by_cases c3 : a1 = 0; (focus (rw [if_pos c3] at H; have c3b0 : (a1 == 0) = true := beq_iff_eq.mpr c3; have c3b1 : (a1 != 0) = false := bne_eq_false_iff_eq.mpr c3; clear c3; obtain ⟨ji4, hji4⟩ : ∃ j_ : Int, (mx a0 (wrap64 (-a0))) = j_ := ⟨_, rfl⟩; (replace H : (some ji4) = some r := by first | (rw [hji4] at H; exact H) | (simp only [hji4] at H ⊢; exact H)); have hji4_ : (if a0 < (wrap64 (-a0)) then (wrap64 (-a0)) else a0) = ji4 := hji4; obtain rfl := Option.some.inj H; (go_enter Try.func74, Try.ntmps74); (go_wp2); (go_ret); exact ⟨by first | rfl | (simp [errW_none, errW_some] <;> rfl) | (simp only [← hji4]; first | rfl | (simp [errW_none, errW_some] <;> rfl)) | (simp [*, errW_none, errW_some] <;> rfl), by repeat (first | (with_reducible first | exact HB.out | apply lal | apply ldn | apply ldr) | exact HB.out)⟩)); (focus (rw [if_neg c3] at H; have c3b0 : (a1 == 0) = false := beq_eq_false_iff_ne.mpr c3; have c3b1 : (a1 != 0) = true := bne_iff_ne.mpr c3; replace H := Option.bind_eq_some_iff.mp H; obtain ⟨t120, A50, H⟩ := H; replace H : (some t120) = some r := H; have A5 := Aside0.mk A50; clear A50; obtain rfl := Option.some.inj H; (go_enter Try.func74, Try.ntmps74); (go_wp2_with (first | ((with_reducible refine gate_callee (f := 74) rfl ?_); refine goesL_ (some 15) rfl rfl Try.func74 (by kernel_rfl) rfl #[.int .i64 a1, .int .i64 (Int.tmod a0 a1)] rfl (by (try simp only [List.map_toArray, List.map_cons, List.map_nil]); first | done | rfl | (simp only [List.length_drop, List.length_take]; rfl)) ?_; (with_reducible refine (ih k (by omega) a1 (Int.tmod a0 a1) t120 _ A5.out).mono ?_); rintro e w6 ⟨rfl, hb⟩; refine ⟨_, rfl, ?_⟩; have n0_ := Aside0.mk (below_step (by repeat (first | (with_reducible first | exact HB.out | apply lal | apply ldn | apply ldr) | exact HB.out)) hb); clear HB; have HB := n0_; clear n0_; (try clear hb); (try clear hb2); (try clear hk); (try clear hi)))); (go_ret); exact ⟨by first | rfl | (simp [errW_none, errW_some] <;> rfl) | (simp [*, errW_none, errW_some] <;> rfl), by repeat (first | (with_reducible first | exact HB.out | apply lal | apply ldn | apply ldr) | exact HB.out)⟩))
mutual
def ratio_Parts.l0 : Nat → List Int → Int → Int → List Int → Int → Int → Option (List Int × Int)
 | 0, _, _, _, _, _, _ => none
 | k + 1, x0, x1, x5, x12, x13, x14 => if x14 < x13 then (if 0 ≤ x14 then (if x14 < (x12.length : Int) then ((ratio_divisor.f k x5 (rd x12 x14)).bind fun t123 => (ratio_Parts.l0 k x0 x1 t123 x12 x13 (wrap64 (x14 + 1)))) else (none)) else (none)) else (if 0 ≤ (x0.length : Int) then (if ((x0.length : Int) : Int).toNat ≤ 35184372088832 then (ratio_Parts.l1 k x1 (mx x5 (wrap64 (-x5))) (List.replicate ((x0.length : Int) : Int).toNat 0) x0 (x0.length : Int) 0) else (none)) else (none))
def ratio_Parts.l1 : Nat → Int → Int → List Int → List Int → Int → Int → Option (List Int × Int)
 | 0, _, _, _, _, _, _ => none
 | k + 1, x1, x5, x8, x29, x30, x31 => if x31 < x30 then (if 0 ≤ x31 then (if x31 < (x29.length : Int) then (if x5 = 0 then (none) else (if x31 < (x8.length : Int) then (ratio_Parts.l1 k x1 x5 (x8.set (x31 : Int).toNat (wrap64 (Int.tdiv (rd x29 x31) x5))) x29 x30 (wrap64 (x31 + 1))) else (none))) else (none)) else (none)) else (if x5 = 0 then (none) else (some (x8, wrap64 (Int.tdiv x1 x5))))
end
def ratio_Parts.f (k : Nat) (l0 : List Int) (a1 : Int) : Option (List Int × Int) := ratio_Parts.l0 k l0 a1 a1 l0 (l0.length : Int) 0
theorem ratio_Parts.mono_l : ∀ k, (∀ y0 y1 y2 y3 y4 y5, LeO (ratio_Parts.l0 k y0 y1 y2 y3 y4 y5) (ratio_Parts.l0 (k + 1) y0 y1 y2 y3 y4 y5)) ∧ (∀ y0 y1 y2 y3 y4 y5, LeO (ratio_Parts.l1 k y0 y1 y2 y3 y4 y5) (ratio_Parts.l1 (k + 1) y0 y1 y2 y3 y4 y5))
 | 0 => ⟨fun _ _ _ _ _ _ r h => by simp [ratio_Parts.l0] at h, fun _ _ _ _ _ _ r h => by simp [ratio_Parts.l1] at h⟩
 | k + 1 => by
  obtain ⟨ih0, ih1⟩ := ratio_Parts.mono_l k
  refine ⟨?_, ?_⟩
  ·intro y0 y1 y2 y3 y4 y5
   unfold ratio_Parts.l0
   repeat' first
   | (with_reducible exact ih0 _ _ _ _ _ _)
   | (with_reducible exact ih1 _ _ _ _ _ _)
   | (with_reducible exact ratio_divisor.mono _ _ _)
   | (with_reducible exact LeO.refl _)
   | (with_reducible exact LeO.none _)
   | (with_reducible refine LeO.ite ?_ ?_)
   | (with_reducible refine LeO.bind ?_ (fun _ => ?_))
   | exact ih0 _ _ _ _ _ _
   | exact ih1 _ _ _ _ _ _
   | exact ratio_divisor.mono _ _ _
   | exact LeO.none _
   | refine LeO.ite ?_ ?_
   | refine LeO.bind ?_ (fun _ => ?_)
  ·intro y0 y1 y2 y3 y4 y5
   unfold ratio_Parts.l1
   repeat' first
   | (with_reducible exact ih0 _ _ _ _ _ _)
   | (with_reducible exact ih1 _ _ _ _ _ _)
   | (with_reducible exact ratio_divisor.mono _ _ _)
   | (with_reducible exact LeO.refl _)
   | (with_reducible exact LeO.none _)
   | (with_reducible refine LeO.ite ?_ ?_)
   | (with_reducible refine LeO.bind ?_ (fun _ => ?_))
   | exact ih0 _ _ _ _ _ _
   | exact ih1 _ _ _ _ _ _
   | exact ratio_divisor.mono _ _ _
   | exact LeO.none _
   | refine LeO.ite ?_ ?_
   | refine LeO.bind ?_ (fun _ => ?_)
theorem ratio_Parts.mono : ∀ a0 a1 k, LeO (ratio_Parts.f k a0 a1) (ratio_Parts.f (k + 1) a0 a1) := by
 intro a0 a1 k
 obtain ⟨ih0, ih1⟩ := ratio_Parts.mono_l k
 unfold ratio_Parts.f
 repeat' first
   | (with_reducible exact ih0 _ _ _ _ _ _)
   | (with_reducible exact ih1 _ _ _ _ _ _)
   | (with_reducible exact ratio_divisor.mono _ _ _)
   | (with_reducible exact LeO.refl _)
   | (with_reducible exact LeO.none _)
   | (with_reducible refine LeO.ite ?_ ?_)
   | (with_reducible refine LeO.bind ?_ (fun _ => ?_))
   | exact ih0 _ _ _ _ _ _
   | exact ih1 _ _ _ _ _ _
   | exact ratio_divisor.mono _ _ _
   | exact LeO.none _
   | refine LeO.ite ?_ ?_
   | refine LeO.bind ?_ (fun _ => ?_)
set_option maxHeartbeats 8000000 in
set_option maxRecDepth 100000 in
theorem ratio_Parts.calls (k : Nat) (A0 : Option Addr) (c0 : Nat) (l0 : List Int) (a1 : Int) (r1 : List Int) (r2 : Int) (w : World) (hr0 : Kd.C (Kd.int .i64) w A0 l0.length l0) (hc0 : l0.length ≤ c0) (h : ratio_Parts.f k l0 a1 = some (r1, r2)) :
  Calls Try.prog 48 #[.slice A0 l0.length c0, .int .i64 a1] w fun e w' => ∃ v0_ : Value, e = .returned (.agg #[v0_, .int .i64 r2]) ∧ Kd.R (Kd.int .i64) 3 w' w.heap.size (fun _ => True) v0_ r1 ∧ Below w.heap.size w w' := by
 have hu26 := Try.underlying26; have HR0 := Aside0.mk hr0; have HC0 := Aside0.mk hc0; clear hr0 hc0; have HB := Aside0.mk (Below.refl w.heap.size w); have H : (ratio_Parts.l0 k l0 a1 a1 l0 (l0.length : Int) 0) = some (r1, r2) := h; clear h; have H' := Aside0.mk H; clear H; (go_enter Try.func48, Try.ntmps48); (go_wp2_with (first | ((with_reducible refine gate_dst (N := 4) rfl ?_); refine box_event ?hg (N := 4) ?hd (cs := #[.slice none 0 0, .int .i64 0]) (t := 26) ?hr ?_; (case hd => rfl); (case hg => rfl); (case hr => first | (go_simp; done) | (go_simp; rfl)); intro gb121 hg w3 hbox hb; have n0_ := Aside0.mk (below_step (by repeat (first | (with_reducible first | exact HB.out | apply lal | apply ldn | apply ldr) | exact HB.out)) hb); have n1_ := Aside0.mk (hbox); have n2_ := Aside0.mk ((by rw [hg]; exact (below_size (by repeat (first | (with_reducible first | exact HB.out | apply lal | apply ldn | apply ldr) | exact HB.out))) : w.heap.size ≤ gb121)); clear HB; have HB := n0_; have BK121 := n1_; have GE121 := n2_; clear n0_ n1_ n2_; clear hb hbox hg))); (go_loopg [5, 14] k (fun kq v5 v14 w' => ∃ (x5_1 : Int) (x14_1 : Int), v5 = .int .i64 x5_1 ∧ v14 = .int .i64 x14_1 ∧ Aside0 (ratio_Parts.l0 kq l0 a1 x5_1 l0 (l0.length : Int) x14_1 = some (r1, r2)) ∧ Aside0 (kq ≤ k) ∧ Aside0 (w'.heap[gb121]? = some (.cells #[(.slice none 0 0), .int .i64 0] 26 (0, 0))) ∧ Aside0 (Below w.heap.size w w')))
 case atStart => exact ⟨(a1), (0), (by first | rfl | (simp; done) | (simp [*]; done)), (by first | rfl | (simp; done) | (simp [*]; done)), H', ⟨Nat.le_refl _⟩, ⟨by (with_reducible repeat (first | apply kdn | apply kdr | apply kal)); exact BK121.out⟩, ⟨by repeat (first | (with_reducible first | exact HB.out | apply lal | apply ldn | apply ldr | refine below_set ?_ GE121.out) | exact HB.out)⟩⟩
 case round =>
  clear H'; (try clear p2); obtain ⟨x5_1, x14_1, rfl, rfl, HA, HK1, BK121, HB⟩ := hrel; cases gk with
  | zero => exact absurd HA.out (by simp [ratio_Parts.l0])
  | succ k1 =>
   have H := HA.out; clear HA; simp only [ratio_Parts.l0] at H; by_cases c4 : x14_1 < (l0.length : Int)
   ·rw [if_pos c4] at H; have c4b0 : decide (x14_1 < (l0.length : Int)) = true := decide_eq_true c4; clear c4; by_cases c5 : 0 ≤ x14_1
    ·rw [if_pos c5] at H; have c5b0 : decide (0 ≤ x14_1) = true := decide_eq_true c5; clear c5; by_cases c6 : x14_1 < (l0.length : Int)
     ·rw [if_pos c6] at H; have c6b0 : decide (x14_1 < (l0.length : Int)) = true := decide_eq_true c6; clear c6; replace H := Option.bind_eq_some_iff.mp H; obtain ⟨t123, A70, H⟩ := H; replace H : (ratio_Parts.l0 k1 l0 a1 t123 l0 (l0.length : Int) (wrap64 (x14_1 + 1))) = some (r1, r2) := H; have A7 := Aside0.mk A70; clear A70; have H' := Aside0.mk H; clear H; have p122 : 0 ≤ (x14_1 : Int) := of_decide_eq_true (by first | (with_reducible assumption) | assumption); have q122 : x14_1 < (l0.length : Int) := of_decide_eq_true (by first | (with_reducible assumption) | assumption); obtain ⟨ad122, e122, hx122_0⟩ := Kd.at_int HR0.out x14_1 p122 q122; cases e122; replace hx122_0 := (HB.out.cell (World.block_lt_of_cell? w _ hx122_0)).trans hx122_0; replace p122 := eq_true p122; replace q122 := eq_true q122; (go_wp2_with (first | ((with_reducible refine gate_callee (f := 74) rfl ?_); refine goesL_ (some 20) rfl rfl Try.func74 (by kernel_rfl) rfl #[.int .i64 x5_1, .int .i64 (rd l0 x14_1)] rfl (by (try simp only [List.map_toArray, List.map_cons, List.map_nil]); first | done | rfl | (simp only [List.length_drop, List.length_take]; rfl)) ?_; (with_reducible refine (ratio_divisor.calls k1 x5_1 (rd l0 x14_1) t123 _ A7.out).mono ?_); rintro e w8 ⟨rfl, hb⟩; refine ⟨_, rfl, ?_⟩; have n0_ := Aside0.mk (blk_below (g := gb121) (o := .cells #[.slice none 0 0, .int .i64 0] 26 (0, 0)) (by (with_reducible repeat (first | apply kdn | apply kdr | apply kal)); exact BK121.out) hb); have n1_ := Aside0.mk (below_step (by repeat (first | (with_reducible first | exact HB.out | apply lal | apply ldn | apply ldr) | exact HB.out)) hb); clear BK121; clear HB; have BK121 := n0_; have HB := n1_; clear n0_ n1_; (try clear hb); (try clear hb2); (try clear hk); (try clear hi)))); (go_roundg k1)
      case measure => have := HK1.out; omega
      case rel => exact ⟨(t123), (wrap64 (x14_1 + 1)), (by first | rfl | (simp; done) | (simp [*]; done)), (by first | rfl | (simp; done) | (simp [*]; done)), H', ⟨by have := HK1.out; omega⟩, ⟨by (with_reducible repeat (first | apply kdn | apply kdr | apply kal)); exact BK121.out⟩, ⟨by repeat (first | (with_reducible first | exact HB.out | apply lal | apply ldn | apply ldr | refine below_set ?_ GE121.out) | exact HB.out)⟩⟩
     (focus (rw [if_neg c6] at H; exact absurd H (by simp)))
    (focus (rw [if_neg c5] at H; exact absurd H (by simp)))
   ·rw [if_neg c4] at H; have c4b0 : decide (x14_1 < (l0.length : Int)) = false := decide_eq_false c4; clear c4; obtain ⟨ji9, hji9⟩ : ∃ j_ : Int, (mx x5_1 (wrap64 (-x5_1))) = j_ := ⟨_, rfl⟩; (replace H : (if 0 ≤ (l0.length : Int) then (if ((l0.length : Int) : Int).toNat ≤ 35184372088832 then (ratio_Parts.l1 k1 a1 ji9 (List.replicate ((l0.length : Int) : Int).toNat 0) l0 (l0.length : Int) 0) else (none)) else (none)) = some (r1, r2) := by first | (rw [hji9] at H; exact H) | (simp only [hji9] at H ⊢; exact H)); have hji9_ : (if x5_1 < (wrap64 (-x5_1)) then (wrap64 (-x5_1)) else x5_1) = ji9 := hji9; by_cases c10 : 0 ≤ (l0.length : Int)
    ·rw [if_pos c10] at H; have c10b0 := eq_true c10; have c10b1 : decide (0 ≤ (l0.length : Int)) = true := decide_eq_true c10; clear c10; by_cases c11 : ((l0.length : Int) : Int).toNat ≤ 35184372088832
     ·rw [if_pos c11] at H; have c11b0 := eq_true c11; have c11b1 : decide (((l0.length : Int) : Int).toNat ≤ 35184372088832) = true := decide_eq_true c11; clear c11; obtain ⟨y124, hy124⟩ : ∃ y_ : List Int, y_ = (List.replicate ((l0.length : Int) : Int).toNat 0) := ⟨_, rfl⟩; (replace H : (ratio_Parts.l1 k1 a1 ji9 y124 l0 (l0.length : Int) 0) = some (r1, r2) := by first | (rw [hy124]; with_reducible exact H) | (have H2_ := (Option.bind_some _ _).symm.trans H; rw [hy124]; with_reducible exact H2_) | (have H2_ := (Option.bind_some _ _).symm.trans H; with_reducible exact H2_) | with_reducible exact H | (rw [hy124]; exact H) | exact H); have Ny124 := Aside0.mk hy124; clear hy124; have H' := Aside0.mk H; clear H; (go_wp2_with (first | ((with_reducible refine gate_dst (N := 28) rfl ?_); refine Kd.R_make (Kd.int .i64) _ 3 rfl (N := 28) rfl 22 _ _ rfl (l0.length : Int) rfl rfl Try.underlying22 (.int .i64 0) 8 info3 rfl (by decide) (by omega) 0 (ok := fun _ => True) (okp := fun _ => True) rfl (fun _ hk => hk) trivial (of_decide_eq_true (by first | (with_reducible assumption) | assumption)) (Nat.le_trans (Nat.mul_le_mul_right _ (of_decide_eq_true (by first | (with_reducible assumption) | assumption) : (l0.length : Int).toNat ≤ 35184372088832)) (by omega)) (Below.refl _ _) (Nat.le_refl _) ?_; intro v125 w12 ho13 hb hg_ hnew_; clear hg_ hnew_; (first | rw [← Ny124.out] at ho13 | (simp only [Int.reduceToNat] at ho13; rw [← Ny124.out] at ho13)); have n0_ := Aside0.mk (Kd.R_lower ho13 (below_size (by repeat (first | (with_reducible first | exact HB.out | apply lal | apply ldn | apply ldr) | exact HB.out)))); have n1_ := Aside0.mk (blk_below (g := gb121) (o := .cells #[.slice none 0 0, .int .i64 0] 26 (0, 0)) (by (with_reducible repeat (first | apply kdn | apply kdr | apply kal)); exact BK121.out) hb); have n2_ := Aside0.mk (below_step (by repeat (first | (with_reducible first | exact HB.out | apply lal | apply ldn | apply ldr) | exact HB.out)) hb); clear BK121; clear HB; have HO126 := n0_; have BK121 := n1_; have HB := n2_; clear n0_ n1_ n2_; clear hb ho13))); (go_loopg [31] k1 (fun kq v31 w' => ∃ (x8_2 : List Int) (x31_2 : Int), v31 = .int .i64 x31_2 ∧ Aside0 (ratio_Parts.l1 kq a1 ji9 x8_2 l0 (l0.length : Int) x31_2 = some (r1, r2)) ∧ Aside0 (kq ≤ k1) ∧ Aside0 (Kd.R (Kd.int .i64) 3 w' w.heap.size (fun _ => True) v125 x8_2) ∧ Aside0 (w'.heap[gb121]? = some (.cells #[(.slice none 0 0), .int .i64 0] 26 (0, 0))) ∧ Aside0 (Below w.heap.size w w')))
      case atStart => exact ⟨(y124), (0), (by first | rfl | (simp; done) | (simp [*]; done)), H', ⟨Nat.le_refl _⟩, ⟨by (with_reducible repeat (first | apply Kd.R_alloc | apply Kd.R_drewN | apply Kd.R_drew)); exact HO126.out⟩, ⟨by (with_reducible repeat (first | apply kdn | apply kdr | apply kal)); exact BK121.out⟩, ⟨by repeat (first | (with_reducible first | exact HB.out | apply lal | apply ldn | apply ldr | refine below_set ?_ GE121.out) | exact HB.out)⟩⟩
      case round =>
       clear H'; (try clear c1); (try clear p1); (try clear q1); (try clear hx1); (try clear p2); (try clear c4); (try clear c4b0); (try clear c5); (try clear c5b0); (try clear c6); (try clear c6b0); (try clear p6); (try clear c7); (try clear c10); (try clear c10b0); (try clear c10b1); (try clear c11); (try clear c11b0); (try clear c11b1); (try clear p12); (try clear q12); (try clear hx12); (try clear hx122_0); (try clear p122); (try clear p2); (try clear q122); obtain ⟨x8_2, x31_2, rfl, HA, HK2, HO_8, BK121, HB⟩ := hrel; cases gk with
       | zero => exact absurd HA.out (by simp [ratio_Parts.l1])
       | succ k2 =>
        have H := HA.out; clear HA; simp only [ratio_Parts.l1] at H; by_cases c14 : x31_2 < (l0.length : Int)
        ·rw [if_pos c14] at H; have c14b0 : decide (x31_2 < (l0.length : Int)) = true := decide_eq_true c14; clear c14; by_cases c15 : 0 ≤ x31_2
         ·rw [if_pos c15] at H; have c15b0 : decide (0 ≤ x31_2) = true := decide_eq_true c15; clear c15; by_cases c16 : x31_2 < (l0.length : Int)
          ·rw [if_pos c16] at H; have c16b0 : decide (x31_2 < (l0.length : Int)) = true := decide_eq_true c16; clear c16; by_cases c17 : ji9 = 0; (focus (rw [if_pos c17] at H; exact absurd H (by simp)))
           ·rw [if_neg c17] at H; have c17b0 : (ji9 == 0) = false := beq_eq_false_iff_ne.mpr c17; have c17b1 : (ji9 != 0) = true := bne_iff_ne.mpr c17; by_cases c18 : x31_2 < (x8_2.length : Int)
            ·rw [if_pos c18] at H; have c18b0 : decide (x31_2 < (x8_2.length : Int)) = true := decide_eq_true c18; clear c18; obtain ⟨y128, hy128⟩ : ∃ y_ : List Int, y_ = (x8_2.set (x31_2 : Int).toNat (wrap64 (Int.tdiv (rd l0 x31_2) ji9))) := ⟨_, rfl⟩; (replace H : (ratio_Parts.l1 k2 a1 ji9 y128 l0 (l0.length : Int) (wrap64 (x31_2 + 1))) = some (r1, r2) := by first | (rw [hy128]; with_reducible exact H) | (have H2_ := (Option.bind_some _ _).symm.trans H; rw [hy128]; with_reducible exact H2_) | (have H2_ := (Option.bind_some _ _).symm.trans H; with_reducible exact H2_) | with_reducible exact H | (rw [hy128]; exact H) | exact H); have Ny128 := Aside0.mk hy128; clear hy128; have H' := Aside0.mk H; clear H; have p127 : 0 ≤ (x31_2 : Int) := of_decide_eq_true (by first | (with_reducible assumption) | assumption); have q127 : x31_2 < (l0.length : Int) := of_decide_eq_true (by first | (with_reducible assumption) | assumption); obtain ⟨ad127, e127, hx127_0⟩ := Kd.at_int HR0.out x31_2 p127 q127; cases e127; replace hx127_0 := (HB.out.cell (World.block_lt_of_cell? w _ hx127_0)).trans hx127_0; replace p127 := eq_true p127; replace q127 := eq_true q127; have p19 : 0 ≤ (x31_2 : Int) := of_decide_eq_true (by first | (with_reducible assumption) | assumption); have q19 : (x31_2 : Int) < ((x8_2.length : Int) : Int) := of_decide_eq_true (by first | (with_reducible assumption) | assumption); obtain ⟨go19, co19, eo19, gb19, gl19, cl19, HG19⟩ := Kd.R_form HO_8.out (by omega); (first | cases eo19 | (injection eo19 with ea_ en_ ec_; (first | subst ea_ | (injection ea_ with ea_; subst ea_)); subst ec_; clear en_)); have GB19 := Aside0.mk gb19; have GG19 := Aside0.mk HG19; clear gb19 gl19 HG19; obtain ⟨hx19_0, hf19_0⟩ := Kd.R_celln 0 HO_8.out (x31_2 : Int) p19 q19; replace p19 := eq_true p19; replace q19 := eq_true q19; have HP20 := Kd.R_putg HO_8.out (x31_2 : Int) (wrap64 (Int.tdiv (rd l0 x31_2) ji9)); (go_wp2_with (first | ((with_reducible refine gate_store (t := 3) (p := 41) rfl ?_); refine store_event (t := 3) (p := 41) (v := ?vo_w21) (w1 := (wr.setCell ⟨go19, (x31_2 : Int).toNat, none⟩ (.int .i64 (wrap64 (Int.tdiv (rd l0 x31_2) ji9))))) ?hg ?ho ?hn ?hr ?_; (case ho => rfl); (case hg => rfl); (case hn => rfl); (case hr => first | (go_simp; done) | (go_simp; rfl)); intro w21 hw; have hg : wr.grownBy w21 (some go19) := (by rw [hw]; exact HP20.2); have hp_ : Kd.R (Kd.int .i64) 3 w21 w.heap.size (fun _ => True) (.slice (some ⟨go19, 0, none⟩) x8_2.length co19) y128 := (by rw [hw, Ny128.out]; exact HP20.1); clear HP20; have n0_ := Aside0.mk (hp_); have n1_ := Aside0.mk (blk_grown (g := gb121) (o := .cells #[.slice none 0 0, .int .i64 0] 26 (0, 0)) (by (with_reducible repeat (first | apply kdn | apply kdr | apply kal)); exact BK121.out) hg (Kd.R_ne HO_8.out BK121.out (by decide))); have n2_ := Aside0.mk ((by rw [hw]; exact below_set (HB.out) GB19.out : Below w.heap.size w w21)); clear HO_8; clear BK121; clear HB; have HO_8 := n0_; have BK121 := n1_; have HB := n2_; clear n0_ n1_ n2_; clear hg hw hp_))); (go_roundg k2)
             case measure => have := HK1.out; have := HK2.out; omega
             case rel => exact ⟨(y128), (wrap64 (x31_2 + 1)), (by first | rfl | (simp; done) | (simp [*]; done)), H', ⟨by have := HK1.out; have := HK2.out; omega⟩, ⟨by (with_reducible repeat (first | apply Kd.R_alloc | apply Kd.R_drewN | apply Kd.R_drew)); exact HO_8.out⟩, ⟨by (with_reducible repeat (first | apply kdn | apply kdr | apply kal)); exact BK121.out⟩, ⟨by repeat (first | (with_reducible first | exact HB.out | apply lal | apply ldn | apply ldr | refine below_set ?_ GE121.out) | exact HB.out)⟩⟩
            (focus (rw [if_neg c18] at H; exact absurd H (by simp)))
          (focus (rw [if_neg c16] at H; exact absurd H (by simp)))
         (focus (rw [if_neg c15] at H; exact absurd H (by simp)))
        (focus (rw [if_neg c14] at H; have c14b0 : decide (x31_2 < (l0.length : Int)) = false := decide_eq_false c14; clear c14; by_cases c22 : ji9 = 0; (focus (rw [if_pos c22] at H; exact absurd H (by simp))); (focus (rw [if_neg c22] at H; have c22b0 : (ji9 == 0) = false := beq_eq_false_iff_ne.mpr c22; have c22b1 : (ji9 != 0) = true := bne_iff_ne.mpr c22; simp only [Option.some.injEq, Prod.mk.injEq] at H; obtain ⟨rfl, rfl⟩ := H; obtain ⟨Ao23, co23, eo23⟩ := Kd.R_slice HO_8.out; subst eo23; have hcz24_0 : wr.cell? ⟨gb121, 0, none⟩ = some (.slice none 0 0) := (blk_cell BK121.out 0).trans rfl; have hcz24_1 : wr.cell? ⟨gb121, 1, none⟩ = some (.int .i64 0) := (blk_cell BK121.out 1).trans rfl; have hfz24_0 := blk_frozen BK121.out 0; have hfz24_1 := blk_frozen BK121.out 1; (go_wp2); refine bodyPost_ret (results_cell_row rfl _ _ gb121 26 #[.slice Ao23 x8_2.length co23, .int .i64 (wrap64 (Int.tdiv a1 ji9))] (0, 0) _ rfl (by (with_reducible repeat (first | apply kdn | apply kdr | apply kal)); refine blk_put (cs := #[.slice Ao23 x8_2.length co23, .int .i64 0]) ?_ 1 _ rfl; (with_reducible repeat (first | apply kdn | apply kdr | apply kal)); refine blk_put (cs := #[.slice none 0 0, .int .i64 0]) ?_ 0 _ rfl; (with_reducible repeat (first | apply kdn | apply kdr | apply kal)); exact BK121.out) Try.underlying26 rfl (by kernel_rfl)) rfl ?_; exact ⟨_, by first | rfl | (simp [errW_none, errW_some] <;> rfl) | (simp only [← hji9]; first | rfl | (simp [errW_none, errW_some] <;> rfl)) | (simp [*, errW_none, errW_some] <;> rfl), by (with_reducible repeat (first | apply Kd.R_alloc | apply Kd.R_drewN | apply Kd.R_drew)); exact Kd.R_mono (Kd.R_far (p := ⟨gb121, 1, none⟩) (Kd.R_far (p := ⟨gb121, 0, none⟩) (Kd.R_types HO_8.out BK121.out (by decide)) (fun _ hk => hk.2) (.slice Ao23 x8_2.length co23)) (fun _ hk => hk.2) (.int .i64 (wrap64 (Int.tdiv a1 ji9)))) (fun _ hk => trivial), by repeat (first | (with_reducible first | exact HB.out | apply lal | apply ldn | apply ldr | refine below_set ?_ GE121.out) | exact HB.out)⟩))))
     (focus (rw [if_neg c11] at H; exact absurd H (by simp)))
    (focus (rw [if_neg c10] at H; exact absurd H (by simp)))
end Go.Proofs.Ytiafiebalibkdaa.OAll
