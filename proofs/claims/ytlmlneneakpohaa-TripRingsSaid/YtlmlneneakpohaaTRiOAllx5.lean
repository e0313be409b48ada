/- A part of the proof of 'tripRings_holds', for every input, without a condition. -/
import Derived.Test.YtlmlneneakpohaaTRiOAllx0
import Derived.Test.YtlmlneneakpohaaTRiOAllx2
import Derived.Test.YtlmlneneakpohaaTRiOAllx4
namespace Go.Proofs.Ytlmlneneakpohaa.OAll
open Go.RowKit Go.Proofs.YtlmlneneakpohaaW.PrintWords Go.Proofs.YtlmlneneakpohaaW.PrintLast Go.Proofs.YtlmlneneakpohaaW.PrintMore
attribute [local go_sem] max2_int min2_int max_two min_two max_three min_three max_four min_four
set_option linter.unusedVariables false
set_option linter.unusedSimpArgs false
def rideH (e : Bool) (p : S36) : Int := if e then p.f1 else p.f0
def fN (e : Bool) : Nat := if e then 63 else 67
theorem height.calls (e : Bool) (p : S36) (w : World) : Calls Try.prog (fN e) #[.agg #[.int .i64 p.f0, .int .i64 p.f1]] w fun ee w' => ee = .returned (.int .i64 (rideH e p)) ∧ Below w.heap.size w w' := by
 have hu36 := Try.underlying36
 have hlo : Below w.heap.size w (w.alloc (.cells #[.int .i64 p.f0, .int .i64 p.f1] 36)) := below_alloc (Below.refl _ _) _
 have bx : (w.alloc (.cells #[.int .i64 p.f0, .int .i64 p.f1] 36)).heap[w.heap.size]? = some (.cells #[.int .i64 p.f0, .int .i64 p.f1] 36 (0, 0)) := blk_new w _
 have HB := Aside0.mk hlo
 have x0 : (w.alloc (.cells #[.int .i64 p.f0, .int .i64 p.f1] 36)).cell? ⟨w.heap.size, 0, none⟩ = some (.int .i64 p.f0) := (blk_cell bx 0).trans rfl
 have x1 : (w.alloc (.cells #[.int .i64 p.f0, .int .i64 p.f1] 36)).cell? ⟨w.heap.size, 1, none⟩ = some (.int .i64 p.f1) := (blk_cell bx 1).trans rfl
 clear hlo bx
 cases e
 ·show Calls Try.prog 67 _ w _
  go_enter Try.func67, Try.ntmps67
  go_wp2
  go_ret
  exact ⟨rfl, HB.out⟩
 ·show Calls Try.prog 63 _ w _
  go_enter Try.func63, Try.ntmps63
  go_wp2
  go_ret
  exact ⟨rfl, HB.out⟩
def InR (l : List S36) (i : Int) : Prop := 0 ≤ i ∧ i < (l.length : Int)
def hAt (e : Bool) (l : List S36) (i : Int) : Int := rideH e (rd_T36 l i)
def cmpI (e : Bool) (l : List S36) (i k : Int) : Int := wrap64 (hAt e l i - hAt e l k)
set_option maxRecDepth 100000 in
set_option maxHeartbeats 1000000 in
theorem sorted_cmp.calls (e : Bool) (B1 B2 : Nat) (A0 : Option Addr) (c0 : Nat) (l : List S36) (i k : Int) (w : World) (hi : InR l i) (hk : InR l k) (hr0 : Kd.C k36 w A0 l.length l)
  (h1 : w.cell? ⟨B1, 0, none⟩ = some (.func (.func (fN e)) #[] #[])) (h2 : w.cell? ⟨B2, 0, none⟩ = some (.slice A0 l.length c0)) :
  Calls Try.prog 75 #[.int .i64 i, .int .i64 k, .pointer (some ⟨B1, 0, none⟩), .pointer (some ⟨B2, 0, none⟩)] w fun ee w' => ee = .returned (.int .i64 (cmpI e l i k)) ∧ Below w.heap.size w w' := by
 have hu36 := Try.underlying36
 obtain ⟨ad, e1, x0, x1⟩ := at_T36 hr0 i hi.1 hi.2
 obtain ⟨ad2, e2, y0, y1⟩ := at_T36 hr0 k hk.1 hk.2
 subst e1
 obtain rfl : ad = ad2 := Option.some.inj e2
 obtain ⟨i1, i2⟩ := hi
 obtain ⟨k1, k2⟩ := hk
 have i1b := eq_true i1
 have i2b := eq_true i2
 have k1b := eq_true k1
 have k2b := eq_true k2
 obtain ⟨p, hp⟩ : ∃ p, p = rd_T36 l i := ⟨_, rfl⟩
 obtain ⟨q, hq⟩ : ∃ q, q = rd_T36 l k := ⟨_, rfl⟩
 rw [← hp] at x0 x1
 rw [← hq] at y0 y1
 have EE := Aside0.mk (show cmpI e l i k = IntKind.i64.wrap (rideH e p - rideH e q) by rw [i64_w, cmpI, hAt, hAt, hp, hq])
 have HB := Aside0.mk (Below.refl w.heap.size w)
 clear hp hq i1 i2 k1 k2 hr0
 cases e
 ·have g1 : w.cell? ⟨B1, 0, none⟩ = some (.func (.func 67) #[] #[]) := h1
  clear h1
  go_enter Try.func75, Try.ntmps75
  go_wp2_with fail
  go_region_held3 (fun w' => w'.cell? ⟨B1, 0, none⟩ = some (.func (.func 67) #[] #[]) ∧ w'.cell? ⟨B2, 0, none⟩ = some (.slice (some ad) l.length c0) ∧ w'.cell? (ad.add (i.toNat * 2)) = some (.int .i64 p.f0) ∧ w'.cell? ⟨(ad.add (i.toNat * 2)).block, (ad.add (i.toNat * 2)).off + 1, none⟩ = some (.int .i64 p.f1) ∧ w'.cell? (ad.add (k.toNat * 2)) = some (.int .i64 q.f0) ∧ w'.cell? ⟨(ad.add (k.toNat * 2)).block, (ad.add (k.toNat * 2)).off + 1, none⟩ = some (.int .i64 q.f1)) (first | exact ⟨g1, h2, x0, x1, y0, y1⟩ | exact s1 | exact s2 | go_keep)
   (first | (go_at_call 67; refine (height.calls false p _).mono ?_; rintro e w2 ⟨rfl, hb2⟩; have HB2 := Aside0.mk (below_step (below_drew HB.out) hb2); have s1 := And.intro (pw_cell_below HB2.out g1) (And.intro (pw_cell_below HB2.out h2) (And.intro (pw_cell_below HB2.out x0) (And.intro (pw_cell_below HB2.out x1) (And.intro (pw_cell_below HB2.out y0) (pw_cell_below HB2.out y1))))); clear hb2 HB) | (go_at_call 67; refine (height.calls false q _).mono ?_; rintro e w3 ⟨rfl, hb3⟩; have HB3 := Aside0.mk (below_step HB2.out hb3); have s2 := And.intro (pw_cell_below HB3.out g1) (And.intro (pw_cell_below HB3.out h2) (And.intro (pw_cell_below HB3.out x0) (And.intro (pw_cell_below HB3.out x1) (And.intro (pw_cell_below HB3.out y0) (pw_cell_below HB3.out y1))))); clear hb3))
  go_wp2
  go_ret
  exact ⟨by rw [EE.out]; rfl, HB3.out⟩
 ·have g1 : w.cell? ⟨B1, 0, none⟩ = some (.func (.func 63) #[] #[]) := h1
  clear h1
  go_enter Try.func75, Try.ntmps75
  go_wp2_with fail
  go_region_held3 (fun w' => w'.cell? ⟨B1, 0, none⟩ = some (.func (.func 63) #[] #[]) ∧ w'.cell? ⟨B2, 0, none⟩ = some (.slice (some ad) l.length c0) ∧ w'.cell? (ad.add (i.toNat * 2)) = some (.int .i64 p.f0) ∧ w'.cell? ⟨(ad.add (i.toNat * 2)).block, (ad.add (i.toNat * 2)).off + 1, none⟩ = some (.int .i64 p.f1) ∧ w'.cell? (ad.add (k.toNat * 2)) = some (.int .i64 q.f0) ∧ w'.cell? ⟨(ad.add (k.toNat * 2)).block, (ad.add (k.toNat * 2)).off + 1, none⟩ = some (.int .i64 q.f1)) (first | exact ⟨g1, h2, x0, x1, y0, y1⟩ | exact s1 | exact s2 | go_keep)
   (first | (go_at_call 63; refine (height.calls true p _).mono ?_; rintro e w2 ⟨rfl, hb2⟩; have HB2 := Aside0.mk (below_step (below_drew HB.out) hb2); have s1 := And.intro (pw_cell_below HB2.out g1) (And.intro (pw_cell_below HB2.out h2) (And.intro (pw_cell_below HB2.out x0) (And.intro (pw_cell_below HB2.out x1) (And.intro (pw_cell_below HB2.out y0) (pw_cell_below HB2.out y1))))); clear hb2 HB) | (go_at_call 63; refine (height.calls true q _).mono ?_; rintro e w3 ⟨rfl, hb3⟩; have HB3 := Aside0.mk (below_step HB2.out hb3); have s2 := And.intro (pw_cell_below HB3.out g1) (And.intro (pw_cell_below HB3.out h2) (And.intro (pw_cell_below HB3.out x0) (And.intro (pw_cell_below HB3.out x1) (And.intro (pw_cell_below HB3.out y0) (pw_cell_below HB3.out y1))))); clear hb3))
  go_wp2
  go_ret
  exact ⟨by rw [EE.out]; rfl, HB3.out⟩
def insI (lt : Int → Int → Bool) (x : Int) : List Int → List Int → List Int
 | [], B => x :: B
 | p :: A, B => if lt x p then insI lt x A (p :: B) else A.reverse ++ p :: x :: B
def isortI (lt : Int → Int → Bool) : List Int → List Int → List Int
 | acc, [] => acc
 | acc, x :: t => isortI lt (insI lt x acc.reverse []) t
theorem insI_len (lt : Int → Int → Bool) (x : Int) : ∀ A B, (insI lt x A B).length = A.length + B.length + 1
 | [], B => by simp [insI]
 | p :: A, B => by
  rw [insI]
  split
  ·rw [insI_len lt x A]; simp; omega
  ·simp; omega
theorem isortI_len (lt : Int → Int → Bool) : ∀ (t acc : List Int), (isortI lt acc t).length = acc.length + t.length
 | [], acc => rfl
 | x :: t, acc => by rw [isortI, isortI_len lt t, insI_len]; simp; omega
def RoI (w : World) (g : Nat) (rest : List Value) (d : List Int) : Prop := w.heap[g]? = some (.cells (d.map (Value.int .i64) ++ rest).toArray 3 (0, 0))
theorem RoI.cell {w : World} {g : Nat} {rest : List Value} {A B : List Int} {x : Int} (h : RoI w g rest (A ++ x :: B)) : w.cell? ⟨g, A.length, none⟩ = some (.int .i64 x) := by
 rw [RoI, List.map_append, List.map_cons, List.append_assoc] at h
 rw [blk_cell h]; simp [List.getElem?_append_right]
theorem RoI.frozen {w : World} {g : Nat} {rest : List Value} {d : List Int} (h : RoI w g rest d) (j : Nat) : w.frozen? ⟨g, j, none⟩ = false := blk_frozen h j
theorem swapI_list (FA R : List Value) (p x : Value) : ((FA ++ p :: x :: R).set (FA.length + 1) p).set FA.length x = FA ++ x :: p :: R := by
 have e : ∀ k (v : Value) (L : List Value), (FA ++ L).set (FA.length + k) v = FA ++ L.set k v := fun k v L => by
  rw [List.set_append_right _ _ (by omega), Nat.add_sub_cancel_left]
 have e0 : ∀ (v : Value) (L : List Value), (FA ++ L).set FA.length v = FA ++ L.set 0 v := fun v L => e 0 v L
 rw [e, e0]
 rfl
theorem RoI.swap {w : World} {g : Nat} {rest : List Value} {A B : List Int} {p x : Int} {a b : Nat} (h : RoI w g rest (A ++ p :: x :: B)) (ha : a = A.length) (hb : b = A.length + 1) :
  RoI ((w.setCell ⟨g, b, none⟩ (.int .i64 p)).setCell ⟨g, a, none⟩ (.int .i64 x)) g rest (A ++ x :: p :: B) := by
 subst ha hb
 unfold RoI at h ⊢
 rw [List.map_append, List.map_cons, List.map_cons, List.append_assoc] at h ⊢
 rw [blk_set (blk_set h _ _) _ _]
 simp only [List.setIfInBounds_toArray, List.cons_append]
 have := swapI_list (A.map (Value.int .i64)) (B.map (Value.int .i64) ++ rest) (.int .i64 p) (.int .i64 x)
 rw [List.length_map] at this
 rw [this]
theorem below_drew' {B : Nat} {w w1 : World} (h : Below B w w1) : Below B w w1.drew := pw_below_drewN h 1
theorem below_drewN' {B : Nat} {w w1 : World} (h : Below B w w1) (n : Nat) : Below B w (w1.drewN n) := pw_below_drewN h n
theorem RoI.drewN {w : World} {g : Nat} {rest : List Value} {d : List Int} (h : RoI w g rest d) (n : Nat) : RoI (w.drewN n) g rest d := h
def ltC (e : Bool) (l : List S36) (x y : Int) : Bool := decide (cmpI e l x y < 0)
set_option maxRecDepth 100000 in
set_option maxHeartbeats 2000000 in
theorem insertion.calls (e : Bool) (B1 B2 : Nat) (A0 : Option Addr) (c0 : Nat) (l : List S36) (g cap : Nat) (d : List Int) (rest : List Value) (w : World) (hn : d.length ≤ 1000) (hd : ∀ y ∈ d, InR l y) (hr : RoI w g rest d) (hr0 : Kd.C k36 w A0 l.length l) (hg0 : ∀ W, RoI W g rest d → True)
  (hw : ∀ W, Kept w W (fun k_ => k_ = g) → Kd.C k36 W A0 l.length l)
  (h1 : w.cell? ⟨B1, 0, none⟩ = some (.func (.func (fN e)) #[] #[])) (h2 : w.cell? ⟨B2, 0, none⟩ = some (.slice A0 l.length c0)) (hB1 : B1 ≠ g) (hB2 : B2 ≠ g) :
  Calls Try.prog 80 #[.slice (some ⟨g, 0, none⟩) d.length cap, .int .i64 0, .int .i64 (d.length : Int), .func (.func 75) #[] #[.pointer (some ⟨B1, 0, none⟩), .pointer (some ⟨B2, 0, none⟩)]] w fun ee w' => ee = .returned (.tuple #[]) ∧ RoI w' g rest (isortI (ltC e l) [] d) ∧ Below g w w' ∧ Kept w w' (fun k_ => k_ = g) := by
 obtain ⟨n, hnn⟩ : ∃ n, n = d.length := ⟨_, rfl⟩
 rw [← hnn] at hn ⊢
 have HN := Aside0.mk hnn
 have HR := Aside0.mk hr
 have HC1 := Aside0.mk h1
 have HC2 := Aside0.mk h2
 have HW := Aside0.mk hw
 have HDI := Aside0.mk hd
 clear hr h1 h2 hnn hg0 hr0 hw hd
 cases hd : d with
 | nil =>
  have n0 : n = 0 := by rw [HN.out, hd]; rfl
  subst n0
  have HD := Aside0.mk hd
  clear hd
  go_enter Try.func80, Try.ntmps80
  go_wp2
  go_loop [8] (fun v8 => v8 = .int .i64 1) (fun v8 => 0)
  case atStart => rfl
  case round =>
   subst hrel
   go_wp2
   go_end0
   exact ⟨rfl, by rw [isortI]; have := HR.out; rwa [HD.out] at this, Below.refl _ _, Kept.refl _ _⟩
 | cons x0 t =>
  have HD := Aside0.mk hd
  have hpos : 1 ≤ n := by rw [HN.out, hd]; simp
  have HD2 : Aside0 (∀ y ∈ x0 :: t, InR l y) := ⟨by rw [← hd]; exact HDI.out⟩
  clear hd HDI
  go_enter Try.func80, Try.ntmps80
  go_wp2_with fail
  go_loopg [8] n (fun gq v8 w' => ∃ (i : Nat) (P T : List Int), v8 = .int .i64 (i : Int) ∧ 1 ≤ i ∧ i ≤ n ∧ n - i ≤ gq ∧ Aside0 (P.length = i) ∧ Aside0 (i + T.length = n) ∧ Aside0 (isortI (ltC e l) P T = isortI (ltC e l) [] (x0 :: t)) ∧ Aside0 (∀ y ∈ P ++ T, InR l y) ∧ Aside0 (RoI w' g rest (P ++ T)) ∧ Aside0 (Below g w w') ∧ Aside0 (Kept w w' (fun k_ => k_ = g)))
  case atStart => exact ⟨1, [x0], t, by go_num, Nat.le_refl _, hpos, by omega, ⟨rfl⟩, ⟨by rw [HN.out, HD.out]; simp; omega⟩, ⟨rfl⟩, HD2, ⟨by have := HR.out; rwa [HD.out] at this⟩, ⟨Below.refl _ _⟩, ⟨Kept.refl _ _⟩⟩
  case round =>
   obtain ⟨i, P, T, rfl, hi1, hin, hgk, HP, HT, HI, HIN, HS, HB, HK⟩ := hrel
   by_cases hlt : i < n
   ·have c1 : (i : Int) < (n : Int) := by omega
    have c1b : decide ((i : Int) < (n : Int)) = true := decide_eq_true c1
    cases T with
    | nil => exfalso; have := HT.out; simp at this; omega
    | cons x T' =>
     clear c1
     go_wp2_with fail
     clear c1b
     go_loopg [9] i (fun gq v9 w' => ∃ (j : Nat) (A B : List Int), v9 = .int .i64 (j : Int) ∧ j ≤ i ∧ j ≤ gq ∧ Aside0 (A.length = j) ∧ Aside0 (j + B.length = i) ∧ Aside0 (insI (ltC e l) x A.reverse B = insI (ltC e l) x P.reverse []) ∧ Aside0 (∀ y ∈ A ++ x :: (B ++ T'), InR l y) ∧ Aside0 (RoI w' g rest (A ++ x :: (B ++ T'))) ∧ Aside0 (Below g w w') ∧ Aside0 (Kept w w' (fun k_ => k_ = g)))
     case atStart => exact ⟨i, P, [], rfl, Nat.le_refl _, Nat.le_refl _, HP, ⟨by simp⟩, ⟨rfl⟩, HIN, HS, HB, HK⟩
     case round =>
      clear HS HB HK HIN
      obtain ⟨j, A, B, rfl, hji, hgk2, HA, HBL, HX, HIN, HS, HB, HK⟩ := hrel
      have leave : insI (ltC e l) x A.reverse B = A ++ x :: B → i + 1 ≤ n ∧ n - (i + 1) ≤ n - (i + 1) ∧ (A ++ x :: B).length = i + 1 ∧ i + 1 + T'.length = n ∧ isortI (ltC e l) (A ++ x :: B) T' = isortI (ltC e l) [] (x0 :: t) := fun e => by
       refine ⟨by omega, Nat.le_refl _, ?_, ?_, ?_⟩
       ·have := HA.out; have := HBL.out; simp; omega
       ·have := HT.out; simp at this; omega
       ·rw [← e, HX.out, ← HI.out, isortI]
      have LV := Aside0.mk leave
      clear leave
      by_cases hj0 : 0 < j
      ·obtain ⟨jp, rfl⟩ : ∃ jp, j = jp + 1 := ⟨j - 1, by omega⟩
       obtain ⟨A', p, hA'⟩ : ∃ A' p, A = A' ++ [p] := by
        have hne : A ≠ [] := fun h => by have := HA.out; rw [h] at this; simp at this
        exact ⟨A.dropLast, A.getLast hne, (List.dropLast_concat_getLast hne).symm⟩
       subst hA'
       have hjp : A'.length = jp := by have := HA.out; simp at this; omega
       have hS1 : RoI wr g rest (A' ++ p :: x :: (B ++ T')) := by have := HS.out; simpa using this
       have hS2 : RoI wr g rest ((A' ++ [p]) ++ x :: (B ++ T')) := HS.out
       have p0 := hS1.cell
       have q0 := hS2.cell
       rw [hjp] at p0
       rw [List.length_append, hjp] at q0
       simp only [List.length_singleton] at q0
       have HS1 := Aside0.mk hS1
       have HJP := Aside0.mk hjp
       have z0 : decide ((0 : Int) < (jp : Int) + 1) = true := decide_eq_true (by omega)
       have z1 : (0 : Int) < (jp : Int) + 1 := by omega
       have z2 : (jp : Int) + 1 < (n : Int) := by omega
       have z3 : (jp : Int) < (n : Int) := by omega
       have z4 : (0 : Int) ≤ (jp : Int) + 1 := by omega
       have z5 : ((jp : Int) + 1).toNat = jp + 1 := by omega
       have z6 : IntKind.i64.wrap (jp : Int) = (jp : Int) := by rw [IntKind.wrap_i64]; omega
       have g1 : wr.cell? ⟨B1, 0, none⟩ = _ := cell_kept HC1.out HK.out hB1
       have g2 : wr.cell? ⟨B2, 0, none⟩ = _ := cell_kept HC2.out HK.out hB2
       have ix : InR l x := HIN.out x (by simp)
       have ip : InR l p := HIN.out p (by simp)
       have HCC := Aside0.mk (sorted_cmp.calls e B1 B2 A0 c0 l x p wr.drew ix ip (Kd.C_drew (HW.out wr HK.out)) g1 g2)
       clear hS1 hS2 hjp ix ip
       have hB1 : B1 ≠ g := hB1
       cases hl : ltC e l x p
       ·have HL := Aside0.mk hl
        have hc : decide (cmpI e l x p < 0) = false := hl
        have e0 : insI (ltC e l) x (A' ++ [p]).reverse B = (A' ++ [p]) ++ x :: B := by
         rw [List.reverse_append, List.reverse_singleton, List.singleton_append, insI, if_neg (by rw [hl]; simp)]; simp
        obtain ⟨l1, l2, l3, l4, l5⟩ := LV.out e0
        have L3 := Aside0.mk l3
        have L4 := Aside0.mk l4
        have L5 := Aside0.mk l5
        clear hl e0 l2 l3 l4 l5
        go_wp2_with fail
        go_region_held3 (fun w' => w'.cell? ⟨g, jp, none⟩ = some (.int .i64 p) ∧ w'.cell? ⟨g, jp + 1, none⟩ = some (.int .i64 x)) (first | exact ⟨p0, q0⟩ | exact s1 | go_keep)
         (first | (go_at_call 75; refine HCC.out.mono ?_; rintro e w2 ⟨rfl, hb2⟩; have HB2 := Aside0.mk (below_step (below_drew (Below.refl wr.heap.size wr)) hb2); have s1 := And.intro (pw_cell_below HB2.out p0) (pw_cell_below HB2.out q0); clear hb2))
        have HBB := Aside0.mk (HB.out.trans (HB2.out.mono (Nat.le_of_lt (blk_lt HS1.out))))
        have HKK := Aside0.mk (HK.out.below HB2.out)
        have hs2 : RoI w2 g rest (A' ++ p :: x :: (B ++ T')) := blk_below HS1.out HB2.out
        have HS2 := Aside0.mk hs2
        clear p0 q0 g1 g2 hs2 s1
        go_wp2
        go_roundg (n - (i + 1))
        case measure => omega
        case rel => exact ⟨i + 1, _, T', by go_num, by omega, l1, Nat.le_refl _, L3, L4, L5, ⟨by have := HIN.out; simpa using this⟩, ⟨by have := HS2.out; simpa using this⟩, HBB, HKK⟩
       ·have HL := Aside0.mk hl
        have hc : decide (cmpI e l x p < 0) = true := hl
        clear hl
        go_wp2_with fail
        go_region_held3 (fun w' => w'.cell? ⟨g, jp, none⟩ = some (.int .i64 p) ∧ w'.cell? ⟨g, jp + 1, none⟩ = some (.int .i64 x)) (first | exact ⟨p0, q0⟩ | exact s1 | go_keep)
         (first | (go_at_call 75; refine HCC.out.mono ?_; rintro e w2 ⟨rfl, hb2⟩; have HB2 := Aside0.mk (below_step (below_drew (Below.refl wr.heap.size wr)) hb2); have s1 := And.intro (pw_cell_below HB2.out p0) (pw_cell_below HB2.out q0); clear hb2))
        have hs2 : RoI w2 g rest (A' ++ p :: x :: (B ++ T')) := blk_below HS1.out HB2.out
        have HS2 := Aside0.mk hs2
        have HBB := Aside0.mk (HB.out.trans (HB2.out.mono (Nat.le_of_lt (blk_lt HS1.out))))
        have HKK := Aside0.mk (HK.out.below HB2.out)
        have f0 : w2.frozen? ⟨g, jp, none⟩ = false := RoI.frozen hs2 _
        have f3 : w2.frozen? ⟨g, jp + 1, none⟩ = false := RoI.frozen hs2 _
        obtain ⟨a0, b0⟩ := s1
        clear p0 q0 g1 g2 hs2
        go_wp2_with fail
        go_region
        go_wp2
        go_roundg jp
        case measure => omega
        case rel =>
         refine ⟨jp, A', p :: B, by first | rfl | go_num, by omega, Nat.le_refl _, HJP, ⟨by have := HBL.out; simp; omega⟩, ⟨?_⟩, ⟨?_⟩, ⟨?_⟩, ⟨?_⟩, ⟨?_⟩⟩
         ·rw [← HX.out, List.reverse_append, List.reverse_singleton, List.singleton_append, insI, if_pos HL.out]
         ·intro y hy; refine HIN.out y ?_; simp at hy ⊢; rcases hy with h | h | h | h <;> simp [h]
         ·refine blk_drew (RoI.swap HS2.out ?_ ?_) <;> (rw [HJP.out])
         ·exact below_drew' ((HBB.out.setCell (p := ⟨g, _, none⟩) (Nat.le_refl _) _).setCell (p := ⟨g, _, none⟩) (Nat.le_refl _) _)
         ·exact ((HKK.out.setCell (p := ⟨g, _, none⟩) (.inl rfl) _).setCell (p := ⟨g, _, none⟩) (.inl rfl) _).drew
      ·obtain rfl : j = 0 := by omega
       have hA0 : A = [] := List.eq_nil_of_length_eq_zero HA.out
       subst hA0
       have z0 : decide ((0 : Int) < (0 : Int)) = false := by decide
       obtain ⟨l1, l2, l3, l4, l5⟩ := LV.out rfl
       have L3 := Aside0.mk l3
       have L4 := Aside0.mk l4
       have L5 := Aside0.mk l5
       clear l2 l3 l4 l5
       go_wp2_with fail
       go_quiet (fail)
       go_wp2
       go_roundg (n - (i + 1))
       case measure => omega
       case rel => exact ⟨i + 1, _, T', by go_num, by omega, l1, Nat.le_refl _, L3, L4, L5, ⟨by have := HIN.out; simpa using this⟩, ⟨by have := RoI.drewN HS.out nq; simpa using this⟩, ⟨below_drewN' HB.out _⟩, ⟨HK.out.drewN _⟩⟩
   ·obtain rfl : i = n := by omega
    have c1b : decide ((i : Int) < (i : Int)) = false := decide_eq_false (by omega)
    have hT0 : T = [] := List.eq_nil_of_length_eq_zero (by have := HT.out; omega)
    subst hT0
    go_wp2
    go_end0
    exact ⟨rfl, by have := HS.out; have e := HI.out; rw [isortI] at e; rw [← e]; simpa using this, HB.out, HK.out⟩
theorem stable.calls (e : Bool) (B1 B2 : Nat) (A0 : Option Addr) (c0 : Nat) (l : List S36) (g cap : Nat) (d : List Int) (rest : List Value) (w : World) (hn : d.length ≤ 19) (hd : ∀ y ∈ d, InR l y) (hr : RoI w g rest d) (hr0 : Kd.C k36 w A0 l.length l)
  (hw : ∀ W, Kept w W (fun k_ => k_ = g) → Kd.C k36 W A0 l.length l)
  (h1 : w.cell? ⟨B1, 0, none⟩ = some (.func (.func (fN e)) #[] #[])) (h2 : w.cell? ⟨B2, 0, none⟩ = some (.slice A0 l.length c0)) (hB1 : B1 ≠ g) (hB2 : B2 ≠ g) :
  Calls Try.prog 78 #[.slice (some ⟨g, 0, none⟩) d.length cap, .int .i64 (d.length : Int), .func (.func 75) #[] #[.pointer (some ⟨B1, 0, none⟩), .pointer (some ⟨B2, 0, none⟩)]] w fun ee w' => ee = .returned (.tuple #[]) ∧ RoI w' g rest (isortI (ltC e l) [] d) ∧ Below g w w' ∧ Kept w w' (fun k_ => k_ = g) := by
 have HI := Aside0.mk (insertion.calls e B1 B2 A0 c0 l g cap d rest w (by omega) hd hr hr0 (fun _ _ => trivial) hw h1 h2 hB1 hB2)
 have c1 : decide ((20 : Int) ≤ (d.length : Int)) = false := decide_eq_false (by omega)
 have c2 : decide ((20 : Int) < (d.length : Int)) = false := decide_eq_false (by omega)
 clear hr h1 h2 hw hr0 hd
 go_enter Try.func78, Try.ntmps78
 go_wp2_with fail
 go_loopg [7, 8] 0 (fun gq v7 v8 w' => v7 = .int .i64 0 ∧ v8 = .int .i64 20 ∧ w' = w)
 case atStart => exact ⟨rfl, rfl, rfl⟩
 case round =>
  obtain ⟨rfl, rfl, rfl⟩ := hrel
  go_wp2_with fail
  refine HI.out.mono ?_
  rintro e w1 ⟨rfl, p1, p2, p3⟩
  have P := Aside0.mk (And.intro p1 (And.intro p2 p3))
  clear p1 p2 p3 HI
  go_wp2_with fail
  go_loopg [6] 0 (fun gq v6 w' => v6 = .int .i64 20 ∧ w' = w1)
  case atStart => exact ⟨rfl, rfl⟩
  case round =>
   obtain ⟨rfl, rfl⟩ := hrel
   go_wp2
   go_end0
   exact ⟨rfl, P.out⟩
theorem sortStable.calls (e : Bool) (B1 B2 : Nat) (A0 : Option Addr) (c0 : Nat) (l : List S36) (g cap : Nat) (d : List Int) (rest : List Value) (w : World) (hn : d.length ≤ 19) (hd : ∀ y ∈ d, InR l y) (hr : RoI w g rest d) (hr0 : Kd.C k36 w A0 l.length l)
  (hw : ∀ W, Kept w W (fun k_ => k_ = g) → Kd.C k36 W A0 l.length l)
  (h1 : w.cell? ⟨B1, 0, none⟩ = some (.func (.func (fN e)) #[] #[])) (h2 : w.cell? ⟨B2, 0, none⟩ = some (.slice A0 l.length c0)) (hB1 : B1 ≠ g) (hB2 : B2 ≠ g) :
  Calls Try.prog 74 #[.slice (some ⟨g, 0, none⟩) d.length cap, .func (.func 75) #[] #[.pointer (some ⟨B1, 0, none⟩), .pointer (some ⟨B2, 0, none⟩)]] w fun ee w' => ee = .returned (.tuple #[]) ∧ RoI w' g rest (isortI (ltC e l) [] d) ∧ Below g w w' ∧ Kept w w' (fun k_ => k_ = g) := by
 have HI := Aside0.mk (stable.calls e B1 B2 A0 c0 l g cap d rest w hn hd hr hr0 hw h1 h2 hB1 hB2)
 clear hr h1 h2 hw hr0 hd
 go_enter Try.func74, Try.ntmps74
 go_wp2_with fail
 refine HI.out.mono ?_
 rintro e w1 ⟨rfl, p1, p2, p3⟩
 have P := Aside0.mk (And.intro p1 (And.intro p2 p3))
 clear p1 p2 p3 HI
 go_wp2
 go_end0
 exact ⟨rfl, P.out⟩
def upTo (n : Nat) : List Int := (List.range n).map fun i : Nat => (i : Int)
theorem upTo_len (n : Nat) : (upTo n).length = n := by simp [upTo]
theorem upTo_succ (n : Nat) : upTo (n + 1) = upTo n ++ [(n : Int)] := by simp [upTo, List.range_succ]
theorem upTo_in (l : List S36) : ∀ y ∈ upTo l.length, InR l y := by
 intro y hy
 simp only [upTo, List.mem_map, List.mem_range] at hy
 obtain ⟨a, ha, rfl⟩ := hy
 exact ⟨by omega, by omega⟩
theorem rowI_open {w : World} {base : Nat} {ok : Nat → Prop} {v : Value} {d : List Int} (h : Kd.R (Kd.int .i64) 3 w base ok v d) (hd : 1 ≤ d.length) :
  ∃ g cap rest, v = .slice (some ⟨g, 0, none⟩) d.length cap ∧ base ≤ g ∧ RoI w g rest d ∧ d.length ≤ cap ∧ cap ≤ maxLen ∧ (d.map (Value.int .i64) ++ rest).length = cap * 1 := by
 obtain ⟨_, inner, ⟨h1, h2⟩, hr⟩ := h
 rcases h2 with ⟨_, h0⟩ | ⟨g, cap, cur, rfl, hg, hh, hc, hm, hs, ht⟩
 ·omega
 ·have hin : inner = d.map (Value.int .i64) := by
   apply List.ext_getElem
   ·rw [hr.1, List.length_map]; show d.length * 1 = _; omega
   ·intro q hq1 hq2
    have hq : q < d.length := by simpa using hq2
    have hp := hr.2 q d[q] (List.getElem?_eq_getElem hq)
    have hp' : (inner.drop (q * 1)).take 1 = [Value.int .i64 d[q]] := hp
    rw [Nat.mul_one, List.drop_eq_getElem_cons hq1] at hp'
    simp only [List.take_succ_cons, List.take_zero, List.cons.injEq, and_true] at hp'
    rw [hp']; simp
  have e : cur.toList = d.map (Value.int .i64) ++ cur.toList.drop (d.length * 1) := by
   have := List.take_append_drop (d.length * 1) cur.toList
   rw [← this]
   have ht' : cur.toList.take (d.length * 1) = inner := ht
   rw [ht', hin]; simp
  refine ⟨g, cap, cur.toList.drop (d.length * 1), rfl, hg, ?_, hc, hm, ?_⟩
  ·rw [RoI, ← e]; exact hh
  ·rw [← e, Array.length_toList]; exact hs
theorem rowI_shut {w : World} {base g cap : Nat} {rest : List Value} {d : List Int} (h : RoI w g rest d) (hg : base ≤ g) (hc : d.length ≤ cap) (hm : cap ≤ maxLen) (hl : (d.map (Value.int .i64) ++ rest).length = cap * 1) :
  Kd.R (Kd.int .i64) 3 w base (fun _ => True) (.slice (some ⟨g, 0, none⟩) d.length cap) d := by
 refine ⟨fun _ _ => trivial, d.map (Value.int .i64), ⟨by rw [List.length_map]; show _ = d.length * 1; omega, .inr ⟨g, cap, _, rfl, hg, h, hc, hm, (by rw [List.size_toArray]; exact hl), ?_⟩⟩, ⟨by rw [List.length_map]; show _ = d.length * 1; omega, fun j p hp => ?_⟩⟩
 ·show (d.map (Value.int .i64) ++ rest).take (d.length * 1) = _
  rw [List.take_append_of_le_length (by rw [List.length_map]; omega), List.take_of_length_le (by rw [List.length_map]; omega)]
 ·have hj := (List.getElem?_eq_some_iff.mp hp).1
  have e := (List.getElem?_eq_some_iff.mp hp).2
  show ((d.map (Value.int .i64)).drop (j * 1)).take 1 = [Value.int .i64 p]
  rw [Nat.mul_one, List.drop_eq_getElem_cons (by rw [List.length_map]; exact hj)]
  simp [e]
def sortI (e : Bool) (l : List S36) : List Int := isortI (ltC e l) [] (upTo l.length)
theorem sortI_len (e : Bool) (l : List S36) : (sortI e l).length = l.length := by rw [sortI, isortI_len, upTo_len]; simp
def trip_sorted.f (k : Nat) (l0 : List S36) (a1 : Int) : Option (List Int) := if 1 ≤ l0.length ∧ l0.length ≤ 19 then some (sortI (a1 == 777000063) l0) else none
theorem trip_sorted.mono : ∀ a0 a1 k, LeO (trip_sorted.f k a0 a1) (trip_sorted.f (k + 1) a0 a1) := fun a0 a1 k => LeO.refl _
set_option maxRecDepth 100000 in
set_option maxHeartbeats 1000000 in
theorem trip_sorted.callsB (e : Bool) (A0 : Option Addr) (c0 : Nat) (l0 : List S36) (w : World) (hr0 : Kd.C k36 w A0 l0.length l0) (hc0 : l0.length ≤ c0) (hl1 : 1 ≤ l0.length) (hl2 : l0.length ≤ 19) :
  Calls Try.prog 62 #[.slice A0 l0.length c0, .func (.func (fN e)) #[] #[]] w fun ee w' => ∃ v0_ : Value, ee = .returned v0_ ∧ Kd.R (Kd.int .i64) 3 w' w.heap.size (fun _ => True) v0_ (sortI e l0) ∧ Below w.heap.size w w' := by
 have hmf : ∀ (fn : Fn) (first cap : Array Value) (w : World), (Instr.makeFunc fn first cap).run Try.prog w = .ok (.func fn first cap) w := fun _ _ _ _ => rfl
 have HR := Aside0.mk hr0
 have n1 := blk_new w (.cells #[.slice A0 l0.length c0] 22)
 have n2 := blk_new (w.alloc (.cells #[.slice A0 l0.length c0] 22)) (.cells #[.func (.func (fN e)) #[] #[]] 82)
 simp only [World.size_alloc] at n2
 have HLO : Aside0 (Below w.heap.size w ((w.alloc (.cells #[.slice A0 l0.length c0] 22)).alloc (.cells #[.func (.func (fN e)) #[] #[]] 82))) := ⟨below_alloc (below_alloc (Below.refl _ _) _) _⟩
 obtain ⟨b0, hb0⟩ : ∃ b0, b0 = (w.alloc (.cells #[.slice A0 l0.length c0] 22)).alloc (.cells #[.func (.func (fN e)) #[] #[]] 82) := ⟨_, rfl⟩
 have x1 : b0.cell? ⟨w.heap.size, 0, none⟩ = some (.slice A0 l0.length c0) := by rw [hb0]; exact (blk_cell (blk_alloc n1 _) 0).trans rfl
 have x2 : b0.cell? ⟨w.heap.size + 1, 0, none⟩ = some (.func (.func (fN e)) #[] #[]) := by rw [hb0]; exact (blk_cell n2 0).trans rfl
 have HX1 := Aside0.mk x1
 have HX2 := Aside0.mk x2
 have hsz : b0.heap.size = w.heap.size + 2 := by rw [hb0]; simp
 have HSZ := Aside0.mk hsz
 have HB0 := Aside0.mk hb0
 have y1 := x1
 rw [hb0] at y1
 clear hr0 n1 n2 x1 x2 hsz hb0
 go_enter Try.func62, Try.ntmps62
 go_wp2_with fail
 rw [← HB0.out]
 go_loopg [5, 6, 9] l0.length (fun gq v5 v6 v9 w' => ∃ (i : Nat), v9 = .int .i64 (i : Int) ∧ i ≤ l0.length ∧ l0.length - i ≤ gq ∧ Aside0 (Kd.R (Kd.int .i64) 3 w' (w.heap.size + 2) (fun _ => True) v5 (upTo i)) ∧ Aside0 (Below (w.heap.size + 2) b0 w'))
 case atStart => exact ⟨0, rfl, Nat.zero_le _, by omega, ⟨Kd.R_nil _ _ _ _ _⟩, ⟨Below.refl _ _⟩⟩
 case round =>
  obtain ⟨i, rfl, hi, hgk, HO, HB⟩ := hrel
  by_cases hlt : i < l0.length
  ·have c1b : decide ((i : Int) < (l0.length : Int)) = true := decide_eq_true (by omega)
   go_wp2_with ((with_reducible refine gate_builtin (b := .append) (xs := #[.tmp 12, .tmp 14]) rfl ?_); at_builtin; refine Kd.R_append (Kd.int .i64) (w0 := b0) (w.heap.size + 2) rfl (.tmp 12) (.tmp 14) 27 3 (.int .i64 0) 8 rfl Try.underlying27 info3 rfl (by decide) (by omega) _ (upTo i) (i : Int) [.int .i64 (i : Int)] (fun _ => True) (fun _ => False) rfl rfl ?aP (fun _ hk => hk.elim) ?aF ?aO ?aB ?aS ?aL ?_; (case aP => exact rfl); (case aB => exact HB.out); (case aF => exact (fun _ _ => trivial)); (case aO => exact HO.out); (case aS => have := HB.out.size; rw [HSZ.out] at this; exact this); (case aL => rw [upTo_len]; omega); intro v7 w7 ho hb hg hat; have HO7 := Aside0.mk ho; have HB7 := Aside0.mk hb; clear ho hb hg hat)
   go_roundg (l0.length - (i + 1))
   case measure => omega
   case rel => exact ⟨i + 1, by go_num, by omega, Nat.le_refl _, by rw [upTo_succ]; exact HO7, HB7⟩
  ·obtain rfl : i = l0.length := by omega
   have c1b : decide ((l0.length : Int) < (l0.length : Int)) = false := decide_eq_false (by omega)
   obtain ⟨g, cap, rest, hv, hg, hS, hc, hm, hcl⟩ := rowI_open HO.out (by rw [upTo_len]; exact hl1)
   rw [upTo_len] at hv
   subst hv
   have HS := Aside0.mk hS
   have hlw : w.heap.size + 2 ≤ wr.heap.size := by have := HB.out.size; rw [HSZ.out] at this; exact this
   have z1 : wr.cell? ⟨w.heap.size, 0, none⟩ = some (.slice A0 l0.length c0) := (HB.out.cell (by show w.heap.size < w.heap.size + 2; omega)).trans HX1.out
   have z2 : wr.cell? ⟨w.heap.size + 1, 0, none⟩ = some (.func (.func (fN e)) #[] #[]) := (HB.out.cell (by show w.heap.size + 1 < w.heap.size + 2; omega)).trans HX2.out
   have HB00 : Aside0 (Below w.heap.size w b0) := ⟨by rw [HB0.out]; exact HLO.out⟩
   have HBw : Aside0 (Below w.heap.size w wr) := ⟨HB00.out.trans (HB.out.mono (by omega))⟩
   have HC := Aside0.mk (sortStable.calls e (w.heap.size + 1) w.heap.size A0 c0 l0 g cap (upTo l0.length) rest wr (by rw [upTo_len]; exact hl2) (upTo_in l0) hS (Kd.C_below HR.out HBw.out) (Kd.C_kept_came k36_heap HR.out HBw.out (fun k_ hk => by subst hk; omega)) z2 z1 (by omega) (by omega))
   rw [upTo_len] at HC hc
   clear hS HO z1 z2
   go_wp2_with fail
   refine HC.out.mono ?_
   rintro e5 w5 ⟨rfl, q1, q2, q3⟩
   have hrow := rowI_shut (base := w.heap.size) (cap := cap) q1 (by omega) (by rw [isortI_len, upTo_len]; simpa using hc) hm (by rw [List.length_append, List.length_map, isortI_len, upTo_len]; rw [List.length_append, List.length_map, upTo_len] at hcl; simpa using hcl)
   rw [isortI_len, upTo_len] at hrow
   simp only [List.length_nil, Nat.zero_add] at hrow
   have HROW := Aside0.mk hrow
   have HB5 := Aside0.mk (HBw.out.trans (q2.mono (by omega)))
   clear q1 q2 q3 hrow HC
   go_wp2
   go_ret
   exact ⟨_, rfl, HROW.out, HB5.out⟩
theorem trip_sorted.calls63 (k : Nat) (A0 : Option Addr) (c0 : Nat) (l0 : List S36) (r : List Int) (w : World) (hr0 : Kd.C k36 w A0 l0.length l0) (hc0 : l0.length ≤ c0) (h : trip_sorted.f k l0 777000063 = some r) :
  Calls Try.prog 62 #[.slice A0 l0.length c0, .func (.func 63) #[] #[]] w fun e w' => ∃ v0_ : Value, e = .returned v0_ ∧ Kd.R (Kd.int .i64) 3 w' w.heap.size (fun _ => True) v0_ r ∧ Below w.heap.size w w' := by
 unfold trip_sorted.f at h
 by_cases hl : 1 ≤ l0.length ∧ l0.length ≤ 19
 ·rw [if_pos hl] at h
  obtain rfl := Option.some.inj h
  exact trip_sorted.callsB true A0 c0 l0 w hr0 hc0 hl.1 hl.2
 ·rw [if_neg hl] at h; cases h
theorem trip_sorted.calls67 (k : Nat) (A0 : Option Addr) (c0 : Nat) (l0 : List S36) (r : List Int) (w : World) (hr0 : Kd.C k36 w A0 l0.length l0) (hc0 : l0.length ≤ c0) (h : trip_sorted.f k l0 777000067 = some r) :
  Calls Try.prog 62 #[.slice A0 l0.length c0, .func (.func 67) #[] #[]] w fun e w' => ∃ v0_ : Value, e = .returned v0_ ∧ Kd.R (Kd.int .i64) 3 w' w.heap.size (fun _ => True) v0_ r ∧ Below w.heap.size w w' := by
 unfold trip_sorted.f at h
 by_cases hl : 1 ≤ l0.length ∧ l0.length ≤ 19
 ·rw [if_pos hl] at h
  obtain rfl := Option.some.inj h
  exact trip_sorted.callsB false A0 c0 l0 w hr0 hc0 hl.1 hl.2
 ·rw [if_neg hl] at h; cases h
def trip_matching.l0 : Nat → List Int → List Int → List Int → Int → Int → Option (List Int)
 | 0, _, _, _, _, _ => none
 | k + 1, x3, x4, x13, x14, x15 => if x15 < x14 then (if 0 ≤ x15 then (if x15 < (x13.length : Int) then (if x15 < (x4.length : Int) then (if 0 ≤ (rd x13 x15) then (if (rd x13 x15) < (x3.length : Int) then (trip_matching.l0 k (x3.set ((rd x13 x15) : Int).toNat (rd x4 x15)) x4 x13 x14 (wrap64 (x15 + 1))) else (none)) else (none)) else (none)) else (none)) else (none)) else (some x3)
def trip_matching.f (k : Nat) (l0 : List (S36)) : Option (List Int) := if 0 ≤ (l0.length : Int) then (if ((l0.length : Int) : Int).toNat ≤ 35184372088832 then ((trip_sorted.f k l0 777000067).bind fun t133 => ((trip_sorted.f k l0 777000063).bind fun t136 => (trip_matching.l0 k (List.replicate ((l0.length : Int) : Int).toNat 0) t133 t136 (t136.length : Int) 0))) else (none)) else (none)
theorem trip_matching.mono_l : ∀ k, (∀ y0 y1 y2 y3 y4, LeO (trip_matching.l0 k y0 y1 y2 y3 y4) (trip_matching.l0 (k + 1) y0 y1 y2 y3 y4))
 | 0 => fun _ _ _ _ _ r h => by simp [trip_matching.l0] at h
 | k + 1 => by
  have ih0 := trip_matching.mono_l k
  ·intro y0 y1 y2 y3 y4
   unfold trip_matching.l0
   repeat' first
   | (with_reducible exact ih0 _ _ _ _ _)
   | (with_reducible exact trip_sorted.mono _ _ _)
   | (with_reducible exact LeO.refl _)
   | (with_reducible exact LeO.none _)
   | (with_reducible refine LeO.ite ?_ ?_)
   | (with_reducible refine LeO.bind ?_ (fun _ => ?_))
   | exact ih0 _ _ _ _ _
   | exact trip_sorted.mono _ _ _
   | exact LeO.none _
   | refine LeO.ite ?_ ?_
   | refine LeO.bind ?_ (fun _ => ?_)
theorem trip_matching.mono : ∀ a0 k, LeO (trip_matching.f k a0) (trip_matching.f (k + 1) a0) := by
 intro a0 k
 have ih0 := trip_matching.mono_l k
 unfold trip_matching.f
 repeat' first
   | (with_reducible exact ih0 _ _ _ _ _)
   | (with_reducible exact trip_sorted.mono _ _ _)
   | (with_reducible exact LeO.refl _)
   | (with_reducible exact LeO.none _)
   | (with_reducible refine LeO.ite ?_ ?_)
   | (with_reducible refine LeO.bind ?_ (fun _ => ?_))
   | exact ih0 _ _ _ _ _
   | exact trip_sorted.mono _ _ _
   | exact LeO.none _
   | refine LeO.ite ?_ ?_
   | refine LeO.bind ?_ (fun _ => ?_)
set_option maxHeartbeats 8000000 in
set_option maxRecDepth 100000 in
theorem trip_matching.calls (k : Nat) (A0 : Option Addr) (c0 : Nat) (l0 : List (S36)) (r : List Int) (w : World) (hr0 : Kd.C k36 w A0 l0.length l0) (hc0 : l0.length ≤ c0) (h : trip_matching.f k l0 = some r) :
  Calls Try.prog 53 #[.slice A0 l0.length c0] w fun e w' => ∃ v0_ : Value, e = .returned (v0_) ∧ Kd.R (Kd.int .i64) 3 w' w.heap.size (fun _ => True) v0_ r ∧ Below w.heap.size w w' := by
 have HR0 := Aside0.mk hr0
 have HC0 := Aside0.mk hc0
 clear hr0 hc0
 have HB := Aside0.mk (Below.refl w.heap.size w)
 have H : (if 0 ≤ (l0.length : Int) then (if ((l0.length : Int) : Int).toNat ≤ 35184372088832 then ((trip_sorted.f k l0 777000067).bind fun t133 => ((trip_sorted.f k l0 777000063).bind fun t136 => (trip_matching.l0 k (List.replicate ((l0.length : Int) : Int).toNat 0) t133 t136 (t136.length : Int) 0))) else (none)) else (none)) = some r := h
 clear h
 by_cases c2 : 0 ≤ (l0.length : Int)
 ·rw [if_pos c2] at H
  have c2b0 := eq_true c2
  have c2b1 : decide (0 ≤ (l0.length : Int)) = true := decide_eq_true c2
  clear c2
  by_cases c3 : ((l0.length : Int) : Int).toNat ≤ 35184372088832
  ·rw [if_pos c3] at H
   have c3b0 := eq_true c3
   have c3b1 : decide (((l0.length : Int) : Int).toNat ≤ 35184372088832) = true := decide_eq_true c3
   clear c3
   obtain ⟨y130, hy130⟩ : ∃ y_ : List Int, y_ = (List.replicate ((l0.length : Int) : Int).toNat 0) := ⟨_, rfl⟩
   replace H : ((trip_sorted.f k l0 777000067).bind fun t133 => ((trip_sorted.f k l0 777000063).bind fun t136 => (trip_matching.l0 k y130 t133 t136 (t136.length : Int) 0))) = some r := by first | (rw [hy130]; with_reducible exact H) | (have H2_ := (Option.bind_some _ _).symm.trans H; rw [hy130]; with_reducible exact H2_) | (have H2_ := (Option.bind_some _ _).symm.trans H; with_reducible exact H2_) | with_reducible exact H | (rw [hy130]; exact H) | exact H
   have Ny130 := Aside0.mk hy130
   clear hy130
   replace H := Option.bind_eq_some_iff.mp H
   obtain ⟨t133, A40, H⟩ := H
   replace H : ((trip_sorted.f k l0 777000063).bind fun t136 => (trip_matching.l0 k y130 t133 t136 (t136.length : Int) 0)) = some r := H
   have A4 := Aside0.mk A40
   clear A40
   replace H := Option.bind_eq_some_iff.mp H
   obtain ⟨t136, A50, H⟩ := H
   replace H : (trip_matching.l0 k y130 t133 t136 (t136.length : Int) 0) = some r := H
   have A5 := Aside0.mk A50
   clear A50
   have H' := Aside0.mk H
   clear H
   go_enter Try.func53, Try.ntmps53
   go_wp2_with (first | ((with_reducible refine gate_dst (N := 9) rfl ?_); refine Kd.R_make (Kd.int .i64) _ 3 rfl (N := 9) rfl 27 _ _ rfl (l0.length : Int) rfl rfl Try.underlying27 (.int .i64 0) 8 info3 rfl (by decide) (by omega) 0 (ok := fun _ => True) (okp := fun _ => True) rfl (fun _ hk => hk) trivial (of_decide_eq_true (by first | (with_reducible assumption) | assumption)) (Nat.le_trans (Nat.mul_le_mul_right _ (of_decide_eq_true (by first | (with_reducible assumption) | assumption) : (l0.length : Int).toNat ≤ 35184372088832)) (by omega)) (Below.refl _ _) (Nat.le_refl _) ?_; intro v131 w6 ho7 hb hg_ hnew_; clear hg_ hnew_; (first | rw [← Ny130.out] at ho7 | (simp only [Int.reduceToNat] at ho7; rw [← Ny130.out] at ho7)); have n0_ := Aside0.mk (Kd.R_lower ho7 (below_size (by repeat (first | (with_reducible first | exact HB.out | apply lal | apply ldn | apply ldr) | exact HB.out)))); have n1_ := Aside0.mk (below_step (by repeat (first | (with_reducible first | exact HB.out | apply lal | apply ldn | apply ldr) | exact HB.out)) hb); clear HB; have HO132 := n0_; have HB := n1_; clear n0_ n1_; clear hb ho7) | ((with_reducible refine gate_callee (f := 62) rfl ?_); refine goesL_ (some 11) rfl rfl Try.func62 (by kernel_rfl) rfl #[.slice A0 l0.length c0, .func (.func 67) #[] #[]] rfl (by (try simp only [List.map_toArray, List.map_cons, List.map_nil]); first | done | rfl | (simp only [List.length_drop, List.length_take]; rfl)) ?_; (with_reducible refine (trip_sorted.calls67 k _ _ l0 t133 _ ?side1 ?side2 A4.out).mono ?_); (case side1 => repeat (first | exact (Kd.C_below HR0.out HB.out) | (with_reducible refine Kd.C_alloc ?_ _) | (with_reducible refine Kd.C_drewN ?_ _) | (with_reducible refine Kd.C_drew ?_))); (case side2 => exact HC0.out); rintro e w8 ⟨v134, rfl, ho0, hb⟩; refine ⟨_, rfl, ?_⟩; have n0_ := Aside0.mk (Kd.R_elder' (by (with_reducible repeat (first | apply Kd.R_alloc | apply Kd.R_drewN | apply Kd.R_drew)); exact HO132.out) (Kd.R_base ho0) hb); have n1_ := Aside0.mk (Kd.R_lower (Kd.R_new' ho0 (Kd.R_lt (by (with_reducible repeat (first | apply Kd.R_alloc | apply Kd.R_drewN | apply Kd.R_drew)); exact HO132.out))) (below_size (by repeat (first | (with_reducible first | exact HB.out | apply lal | apply ldn | apply ldr) | exact HB.out)))); have n2_ := Aside0.mk (below_step (by repeat (first | (with_reducible first | exact HB.out | apply lal | apply ldn | apply ldr) | exact HB.out)) hb); clear HO132; clear HB; have HO132 := n0_; have HO135 := n1_; have HB := n2_; clear n0_ n1_ n2_; (try clear hb); (try clear hb2); (try clear hk); (try clear hi); (try clear ho0)) | ((with_reducible refine gate_callee (f := 62) rfl ?_); refine goesL_ (some 13) rfl rfl Try.func62 (by kernel_rfl) rfl #[.slice A0 l0.length c0, .func (.func 63) #[] #[]] rfl (by (try simp only [List.map_toArray, List.map_cons, List.map_nil]); first | done | rfl | (simp only [List.length_drop, List.length_take]; rfl)) ?_; (with_reducible refine (trip_sorted.calls63 k _ _ l0 t136 _ ?side1 ?side2 A5.out).mono ?_); (case side1 => repeat (first | exact (Kd.C_below HR0.out HB.out) | (with_reducible refine Kd.C_alloc ?_ _) | (with_reducible refine Kd.C_drewN ?_ _) | (with_reducible refine Kd.C_drew ?_))); (case side2 => exact HC0.out); rintro e w9 ⟨v137, rfl, ho0, hb⟩; refine ⟨_, rfl, ?_⟩; have n0_ := Aside0.mk (Kd.R_elder' (by (with_reducible repeat (first | apply Kd.R_alloc | apply Kd.R_drewN | apply Kd.R_drew)); exact HO132.out) (Kd.R_base ho0) hb); have n1_ := Aside0.mk (Kd.R_elder' (by (with_reducible repeat (first | apply Kd.R_alloc | apply Kd.R_drewN | apply Kd.R_drew)); exact HO135.out) (Kd.R_base ho0) hb); have n2_ := Aside0.mk (Kd.R_lower (Kd.R_new' (Kd.R_new' ho0 (Kd.R_lt (by (with_reducible repeat (first | apply Kd.R_alloc | apply Kd.R_drewN | apply Kd.R_drew)); exact HO132.out))) (Kd.R_lt (by (with_reducible repeat (first | apply Kd.R_alloc | apply Kd.R_drewN | apply Kd.R_drew)); exact HO135.out))) (below_size (by repeat (first | (with_reducible first | exact HB.out | apply lal | apply ldn | apply ldr) | exact HB.out)))); have n3_ := Aside0.mk (below_step (by repeat (first | (with_reducible first | exact HB.out | apply lal | apply ldn | apply ldr) | exact HB.out)) hb); clear HO132; clear HO135; clear HB; have HO132 := n0_; have HO135 := n1_; have HO138 := n2_; have HB := n3_; clear n0_ n1_ n2_ n3_; (try clear hb); (try clear hb2); (try clear hk); (try clear hi); (try clear ho0); obtain ⟨Ao10, co10, eo10⟩ := Kd.R_slice HO138.out; subst eo10))
   go_loopg [15] k (fun kq v15 w' => ∃ (x3_1 : List Int) (x15_1 : Int), v15 = .int .i64 x15_1 ∧ Aside0 (trip_matching.l0 kq x3_1 t133 t136 (t136.length : Int) x15_1 = some r) ∧ Aside0 (kq ≤ k) ∧ Aside0 (Kd.R (Kd.int .i64) 3 w' w.heap.size (fun k_ => some k_ ≠ (v134 : Value).ownBlock ∧ some k_ ≠ ((.slice Ao10 t136.length co10) : Value).ownBlock) v131 x3_1) ∧ Aside0 (Kd.R (Kd.int .i64) 3 w' w.heap.size (fun k_ => some k_ ≠ (v131 : Value).ownBlock ∧ some k_ ≠ ((.slice Ao10 t136.length co10) : Value).ownBlock) v134 t133) ∧ Aside0 (Kd.R (Kd.int .i64) 3 w' w.heap.size (fun k_ => some k_ ≠ (v131 : Value).ownBlock ∧ some k_ ≠ (v134 : Value).ownBlock) (.slice Ao10 t136.length co10) t136) ∧ Aside0 (Below w.heap.size w w'))
   case atStart => exact ⟨(y130), (0), (by first | rfl | (simp; done) | (simp [*]; done)), H', ⟨Nat.le_refl _⟩, ⟨by (with_reducible repeat (first | apply Kd.R_alloc | apply Kd.R_drewN | apply Kd.R_drew)); exact Kd.R_mono HO132.out (fun _ hk => ⟨hk.1.2, hk.2⟩)⟩, ⟨by (with_reducible repeat (first | apply Kd.R_alloc | apply Kd.R_drewN | apply Kd.R_drew)); exact Kd.R_mono HO135.out (fun _ hk => ⟨hk.1.2, hk.2⟩)⟩, ⟨by (with_reducible repeat (first | apply Kd.R_alloc | apply Kd.R_drewN | apply Kd.R_drew)); exact Kd.R_mono HO138.out (fun _ hk => ⟨hk.1.2, hk.2⟩)⟩, ⟨by repeat (first | (with_reducible first | exact HB.out | apply lal | apply ldn | apply ldr) | exact HB.out)⟩⟩
   case round =>
    clear H'
    try clear c2
    try clear c2b0
    try clear c2b1
    try clear p2
    try clear c3
    try clear c3b0
    try clear c3b1
    try clear c5
    try clear c6
    obtain ⟨x3_1, x15_1, rfl, HA, HK1, HO_3, HO_4, HO_13, HB⟩ := hrel
    cases gk with
    | zero => exact absurd HA.out (by simp [trip_matching.l0])
    | succ k1 =>
     have H := HA.out
     clear HA
     simp only [trip_matching.l0] at H
     by_cases c11 : x15_1 < (t136.length : Int)
     ·rw [if_pos c11] at H
      have c11b0 : decide (x15_1 < (t136.length : Int)) = true := decide_eq_true c11
      clear c11
      by_cases c12 : 0 ≤ x15_1
      ·rw [if_pos c12] at H
       have c12b0 : decide (0 ≤ x15_1) = true := decide_eq_true c12
       clear c12
       by_cases c13 : x15_1 < (t136.length : Int)
       ·rw [if_pos c13] at H
        have c13b0 : decide (x15_1 < (t136.length : Int)) = true := decide_eq_true c13
        clear c13
        by_cases c14 : x15_1 < (t133.length : Int)
        ·rw [if_pos c14] at H
         have c14b0 : decide (x15_1 < (t133.length : Int)) = true := decide_eq_true c14
         clear c14
         by_cases c15 : 0 ≤ (rd t136 x15_1)
         ·rw [if_pos c15] at H
          have c15b0 : decide (0 ≤ (rd t136 x15_1)) = true := decide_eq_true c15
          clear c15
          by_cases c16 : (rd t136 x15_1) < (x3_1.length : Int)
          ·rw [if_pos c16] at H
           have c16b0 : decide ((rd t136 x15_1) < (x3_1.length : Int)) = true := decide_eq_true c16
           clear c16
           obtain ⟨y141, hy141⟩ : ∃ y_ : List Int, y_ = (x3_1.set ((rd t136 x15_1) : Int).toNat (rd t133 x15_1)) := ⟨_, rfl⟩
           replace H : (trip_matching.l0 k1 y141 t133 t136 (t136.length : Int) (wrap64 (x15_1 + 1))) = some r := by first | (rw [hy141]; with_reducible exact H) | (have H2_ := (Option.bind_some _ _).symm.trans H; rw [hy141]; with_reducible exact H2_) | (have H2_ := (Option.bind_some _ _).symm.trans H; with_reducible exact H2_) | with_reducible exact H | (rw [hy141]; exact H) | exact H
           have Ny141 := Aside0.mk hy141
           clear hy141
           have H' := Aside0.mk H
           clear H
           have p139 : 0 ≤ (x15_1 : Int) := of_decide_eq_true (by first | (with_reducible assumption) | assumption)
           have q139 : x15_1 < (t136.length : Int) := of_decide_eq_true (by first | (with_reducible assumption) | assumption)
           obtain ⟨ad139, e139, hx139_0⟩ := Kd.at_int (Kd.R_reads' HO_13.out).2.2 x15_1 p139 q139
           cases e139
           replace p139 := eq_true p139
           replace q139 := eq_true q139
           obtain ⟨Ao18, co18, eo18⟩ := Kd.R_slice HO_4.out
           subst eo18
           have p140 : 0 ≤ (x15_1 : Int) := of_decide_eq_true (by first | (with_reducible assumption) | assumption)
           have q140 : x15_1 < (t133.length : Int) := of_decide_eq_true (by first | (with_reducible assumption) | assumption)
           obtain ⟨ad140, e140, hx140_0⟩ := Kd.at_int (Kd.R_reads' HO_4.out).2.2 x15_1 p140 q140
           cases e140
           replace p140 := eq_true p140
           replace q140 := eq_true q140
           have p17 : 0 ≤ ((rd t136 x15_1) : Int) := of_decide_eq_true (by first | (with_reducible assumption) | assumption)
           have q17 : ((rd t136 x15_1) : Int) < ((x3_1.length : Int) : Int) := of_decide_eq_true (by first | (with_reducible assumption) | assumption)
           obtain ⟨go17, co17, eo17, gb17, gl17, cl17, HG17⟩ := Kd.R_form HO_3.out (by omega)
           (first | cases eo17 | (injection eo17 with ea_ en_ ec_; (first | subst ea_ | (injection ea_ with ea_; subst ea_)); subst ec_; clear en_))
           have GB17 := Aside0.mk gb17
           have GG17 := Aside0.mk HG17
           clear gb17 gl17 HG17
           obtain ⟨hx17_0, hf17_0⟩ := Kd.R_celln 0 HO_3.out ((rd t136 x15_1) : Int) p17 q17
           replace p17 := eq_true p17
           replace q17 := eq_true q17
           have HP19 := Kd.R_putg HO_3.out ((rd t136 x15_1) : Int) (rd t133 x15_1)
           go_wp2_with (first | ((with_reducible refine gate_store (t := 3) (p := 26) rfl ?_); refine store_event (t := 3) (p := 26) (v := ?vo_w20) (w1 := (wr.setCell ⟨go17, ((rd t136 x15_1) : Int).toNat, none⟩ (.int .i64 (rd t133 x15_1)))) ?hg ?ho ?hn ?hr ?_; (case ho => rfl); (case hg => rfl); (case hn => rfl); (case hr => first | (go_simp; done) | (go_simp; rfl)); intro w20 hw; have hg : wr.grownBy w20 (some go17) := (by rw [hw]; exact HP19.2); have hp_ : Kd.R (Kd.int .i64) 3 w20 w.heap.size (fun k_ => some k_ ≠ (.slice (some ad140) t133.length co18 : Value).ownBlock ∧ some k_ ≠ (.slice (some ad139) t136.length co10 : Value).ownBlock) (.slice (some ⟨go17, 0, none⟩) x3_1.length co17) y141 := (by rw [hw, Ny141.out]; exact HP19.1); clear HP19; have n0_ := Aside0.mk (hp_); have n1_ := Aside0.mk (Kd.R_after (v := (.slice (some ⟨go17, 0, none⟩) x3_1.length co17)) (v1 := (.slice (some ⟨go17, 0, none⟩) x3_1.length co17)) (ok := (fun k_ => some k_ ≠ (.slice (some ad139) t136.length co10 : Value).ownBlock)) (by (with_reducible repeat (first | apply Kd.R_alloc | apply Kd.R_drewN | apply Kd.R_drew)); exact Kd.R_mono HO_4.out (fun _ hk => ⟨hk.2, hk.1⟩)) hg (.inl rfl)); have n2_ := Aside0.mk (Kd.R_after (v := (.slice (some ⟨go17, 0, none⟩) x3_1.length co17)) (v1 := (.slice (some ⟨go17, 0, none⟩) x3_1.length co17)) (ok := (fun k_ => some k_ ≠ (.slice (some ad140) t133.length co18 : Value).ownBlock)) (by (with_reducible repeat (first | apply Kd.R_alloc | apply Kd.R_drewN | apply Kd.R_drew)); exact Kd.R_mono HO_13.out (fun _ hk => ⟨hk.2, hk.1⟩)) hg (.inl rfl)); have n3_ := Aside0.mk ((by rw [hw]; exact below_set (HB.out) GB17.out : Below w.heap.size w w20)); clear HO_3; clear HO_4; clear HO_13; clear HB; have HO_3 := n0_; have HO_4 := n1_; have HO_13 := n2_; have HB := n3_; clear n0_ n1_ n2_ n3_; clear hg hw hp_))
           go_roundg k1
           case measure => have := HK1.out; omega
           case rel => exact ⟨(y141), (wrap64 (x15_1 + 1)), (by first | rfl | (simp; done) | (simp [*]; done)), H', ⟨by have := HK1.out; omega⟩, ⟨by (with_reducible repeat (first | apply Kd.R_alloc | apply Kd.R_drewN | apply Kd.R_drew)); exact HO_3.out⟩, ⟨by (with_reducible repeat (first | apply Kd.R_alloc | apply Kd.R_drewN | apply Kd.R_drew)); exact Kd.R_mono HO_4.out (fun _ hk => ⟨hk.2, hk.1⟩)⟩, ⟨by (with_reducible repeat (first | apply Kd.R_alloc | apply Kd.R_drewN | apply Kd.R_drew)); exact Kd.R_mono HO_13.out (fun _ hk => ⟨hk.2, hk.1⟩)⟩, ⟨by repeat (first | (with_reducible first | exact HB.out | apply lal | apply ldn | apply ldr) | exact HB.out)⟩⟩
          ·rw [if_neg c16] at H
           exact absurd H (by simp)
         ·rw [if_neg c15] at H
          exact absurd H (by simp)
        ·rw [if_neg c14] at H
         exact absurd H (by simp)
       ·rw [if_neg c13] at H
        exact absurd H (by simp)
      ·rw [if_neg c12] at H
       exact absurd H (by simp)
     ·rw [if_neg c11] at H
      have c11b0 : decide (x15_1 < (t136.length : Int)) = false := decide_eq_false c11
      clear c11
      obtain rfl := Option.some.inj H
      go_wp2
      go_ret
      exact ⟨_, by first | rfl | (simp [errW_none, errW_some] <;> rfl) | (simp [*, errW_none, errW_some] <;> rfl), by (with_reducible repeat (first | apply Kd.R_alloc | apply Kd.R_drewN | apply Kd.R_drew)); exact Kd.R_mono HO_3.out (fun _ hk => trivial), by repeat (first | (with_reducible first | exact HB.out | apply lal | apply ldn | apply ldr) | exact HB.out)⟩
  ·rw [if_neg c3] at H
   exact absurd H (by simp)
 ·rw [if_neg c2] at H
  exact absurd H (by simp)
def trip_Matching.l0 : Nat → List Int → Int → List Int → Int → Int → Int → Int → List (S36) → Option (List Int × Int × Int)
 | 0, _, _, _, _, _, _, _, _ => none
 | k + 1, x9, x10, x24, x25, x26, x150000, x150001, x150002 => if x26 < x25 then (if 0 ≤ x26 then (if x26 < (x24.length : Int) then ((trip_day_empty.f x150000 x150001 x150002 x26 (rd x24 x26)).bind fun t154 => (trip_Matching.l0 k x9 (wrap64 (x10 + t154)) x24 x25 (wrap64 (x26 + 1)) x150000 x150001 x150002)) else (none)) else (none)) else (some (x9, x10, 0))
def trip_Matching.f (k : Nat) (l0 : List (S36)) (a1_0 : Int) (a1_1 : Int) : Option (List Int × Int × Int) := (trip_read.f l0 a1_0 a1_1).bind fun bt143 => (if bt143.2.2.2 = 0 then ((trip_matching.f k l0).bind fun t150 => (trip_Matching.l0 k t150 0 t150 (t150.length : Int) 0 bt143.1 bt143.2.1 bt143.2.2.1)) else (some (([] : List Int), 0, bt143.2.2.2)))
theorem trip_Matching.mono_l : ∀ k, (∀ y0 y1 y2 y3 y4 y5 y6 y7, LeO (trip_Matching.l0 k y0 y1 y2 y3 y4 y5 y6 y7) (trip_Matching.l0 (k + 1) y0 y1 y2 y3 y4 y5 y6 y7))
 | 0 => fun _ _ _ _ _ _ _ _ r h => by simp [trip_Matching.l0] at h
 | k + 1 => by
  have ih0 := trip_Matching.mono_l k
  ·intro y0 y1 y2 y3 y4 y5 y6 y7
   unfold trip_Matching.l0
   repeat' first
   | (with_reducible exact ih0 _ _ _ _ _ _ _ _)
   | (with_reducible exact trip_matching.mono _ _)
   | (with_reducible exact LeO.refl _)
   | (with_reducible exact LeO.none _)
   | (with_reducible refine LeO.ite ?_ ?_)
   | (with_reducible refine LeO.bind ?_ (fun _ => ?_))
   | exact ih0 _ _ _ _ _ _ _ _
   | exact trip_matching.mono _ _
   | exact LeO.none _
   | refine LeO.ite ?_ ?_
   | refine LeO.bind ?_ (fun _ => ?_)
theorem trip_Matching.mono : ∀ a0 a1 a2 k, LeO (trip_Matching.f k a0 a1 a2) (trip_Matching.f (k + 1) a0 a1 a2) := by
 intro a0 a1 a2 k
 have ih0 := trip_Matching.mono_l k
 unfold trip_Matching.f
 repeat' first
   | (with_reducible exact ih0 _ _ _ _ _ _ _ _)
   | (with_reducible exact trip_matching.mono _ _)
   | (with_reducible exact LeO.refl _)
   | (with_reducible exact LeO.none _)
   | (with_reducible refine LeO.ite ?_ ?_)
   | (with_reducible refine LeO.bind ?_ (fun _ => ?_))
   | exact ih0 _ _ _ _ _ _ _ _
   | exact trip_matching.mono _ _
   | exact LeO.none _
   | refine LeO.ite ?_ ?_
   | refine LeO.bind ?_ (fun _ => ?_)
set_option maxHeartbeats 8000000 in
set_option maxRecDepth 100000 in
theorem trip_Matching.calls (k : Nat) (A0 : Option Addr) (c0 : Nat) (l0 : List (S36)) (a1_0 : Int) (a1_1 : Int) (r1 : List Int) (r2 : Int) (r3 : Int) (w : World) (hr0 : Kd.C k36 w A0 l0.length l0) (hc0 : l0.length ≤ c0) (h : trip_Matching.f k l0 a1_0 a1_1 = some (r1, r2, r3)) :
  Calls Try.prog 30 #[.slice A0 l0.length c0, .agg #[.int .i64 a1_0, .int .i64 a1_1]] w fun e w' => ∃ v0_ : Value, e = .returned (.tuple #[v0_, .int .i64 r2, .int .i64 r3]) ∧ Kd.R (Kd.int .i64) 3 w' w.heap.size (fun _ => True) v0_ r1 ∧ Below w.heap.size w w' := by
 have hu24 := Try.underlying24
 have hu59 := Try.underlying59
 have HR0 := Aside0.mk hr0
 have HC0 := Aside0.mk hc0
 clear hr0 hc0
 have HB := Aside0.mk (Below.refl w.heap.size w)
 have H : ((trip_read.f l0 a1_0 a1_1).bind fun bt143 => (if bt143.2.2.2 = 0 then ((trip_matching.f k l0).bind fun t150 => (trip_Matching.l0 k t150 0 t150 (t150.length : Int) 0 bt143.1 bt143.2.1 bt143.2.2.1)) else (some (([] : List Int), 0, bt143.2.2.2)))) = some (r1, r2, r3) := h
 clear h
 replace H := Option.bind_eq_some_iff.mp H
 obtain ⟨⟨t143, t144, t145, t148⟩, A30, H⟩ := H
 replace H : (if t148 = 0 then ((trip_matching.f k l0).bind fun t150 => (trip_Matching.l0 k t150 0 t150 (t150.length : Int) 0 t143 t144 t145)) else (some (([] : List Int), 0, t148))) = some (r1, r2, r3) := H
 have A3 := Aside0.mk A30
 clear A30
 by_cases c4 : t148 = 0
 ·rw [if_pos c4] at H
  have c4b0 : (t148 == 0) = true := beq_iff_eq.mpr c4
  have c4b1 : (t148 != 0) = false := bne_eq_false_iff_eq.mpr c4
  clear c4
  replace H := Option.bind_eq_some_iff.mp H
  obtain ⟨t150, A50, H⟩ := H
  replace H : (trip_Matching.l0 k t150 0 t150 (t150.length : Int) 0 t143 t144 t145) = some (r1, r2, r3) := H
  have A5 := Aside0.mk A50
  clear A50
  have H' := Aside0.mk H
  clear H
  go_enter Try.func30, Try.ntmps30
  go_wp2_with (first | ((with_reducible refine gate_dst (N := 3) rfl ?_); refine box_event ?hg (N := 3) ?hd (cs := #[.int .i64 a1_0, .int .i64 a1_1]) (t := 24) ?hr ?_; (case hd => rfl); (case hg => rfl); (case hr => first | (go_simp; done) | (go_simp; rfl)); intro gb142 hg w6 hbox hb; have n0_ := Aside0.mk (below_step (by repeat (first | (with_reducible first | exact HB.out | apply lal | apply ldn | apply ldr) | exact HB.out)) hb); have n1_ := Aside0.mk (hbox); have n2_ := Aside0.mk ((by rw [hg]; exact (below_size (by repeat (first | (with_reducible first | exact HB.out | apply lal | apply ldn | apply ldr) | exact HB.out))) : w.heap.size ≤ gb142)); have n3_ := Aside0.mk ((by rw [hg]; exact (below_size (by repeat (first | (with_reducible first | exact HB.out | apply lal | apply ldn | apply ldr) | exact HB.out))) : w.heap.size ≤ gb142)); clear HB; have HB := n0_; have BK142 := n1_; have GW142 := n2_; have GE142 := n3_; clear n0_ n1_ n2_ n3_; clear hb hbox hg; have hcz7_0 : w6.cell? ⟨gb142, 0, none⟩ = some (.int .i64 a1_0) := (blk_cell BK142.out 0).trans rfl; have hcz7_1 : w6.cell? ⟨gb142, 1, none⟩ = some (.int .i64 a1_1) := (blk_cell BK142.out 1).trans rfl; have hfz7_0 := blk_frozen BK142.out 0; have hfz7_1 := blk_frozen BK142.out 1) | ((with_reducible refine gate_callee (f := 40) rfl ?_); refine goesL_ (some 16) rfl rfl Try.func40 (by kernel_rfl) rfl #[.slice A0 l0.length c0, .agg #[.int .i64 a1_0, .int .i64 a1_1]] rfl (by (try simp only [List.map_toArray, List.map_cons, List.map_nil]); first | done | rfl | (simp only [List.length_drop, List.length_take]; rfl)) ?_; (with_reducible refine (trip_read.calls (fun k_ => k_ < w.heap.size) _ _ l0 a1_0 a1_1 t143 t144 t145 t148 _ ?side1 A3.out).mono ?_); (case side1 => exact Kd.V_mk HC0.out (Kd.F_below (Kd.C_F k36_heap HR0.out) (by repeat (first | (with_reducible first | exact HB.out | apply lal | apply ldn | apply ldr | refine below_set ?_ GE142.out) | exact HB.out)))); rintro e w8 ⟨v146, rfl, ho0, hb⟩; refine ⟨_, rfl, ?_⟩; have n0_ := Aside0.mk (Kd.V_lower (Kd.V_mono (ok' := fun k_ => k_ ≠ gb142) ho0 (fun k_ hk_ => Or.elim hk_ (fun hs_ => fun e_ => Nat.not_le.2 hs_ (by rw [e_]; exact GW142.out)) (fun hn_ => (Kd.freshB (g := gb142) (o := .cells #[.int .i64 a1_0, .int .i64 a1_1] 24 (0, 0)) (by (with_reducible repeat (first | apply kdn | apply kdr | apply kal)); exact BK142.out) k_ hn_)))) (below_size (by repeat (first | (with_reducible first | exact HB.out | apply lal | apply ldn | apply ldr | refine below_set ?_ GE142.out) | exact HB.out)))); have n1_ := Aside0.mk (blk_below (g := gb142) (o := .cells #[.int .i64 a1_0, .int .i64 a1_1] 24 (0, 0)) (by (with_reducible repeat (first | apply kdn | apply kdr | apply kal)); exact BK142.out) hb); have n2_ := Aside0.mk (below_step (by repeat (first | (with_reducible first | exact HB.out | apply lal | apply ldn | apply ldr | refine below_set ?_ GE142.out) | exact HB.out)) hb); clear BK142; clear HB; have HO147 := n0_; have BK142 := n1_; have HB := n2_; clear n0_ n1_ n2_; (try clear hb); (try clear hb2); (try clear hk); (try clear hi); (try clear ho0)) | ((with_reducible refine gate_dst (N := 7) rfl ?_); refine box_event ?hg (N := 7) ?hd (cs := #[.int .i64 0, .int .i64 0, .slice none 0 0]) (t := 59) ?hr ?_; (case hd => rfl); (case hg => rfl); (case hr => first | (go_simp; done) | (go_simp; rfl)); intro gb149 hg w9 hbox hb; have n0_ := Aside0.mk (Kd.V_below (Kd.V_elderB (by (with_reducible repeat (first | apply Kd.V_alloc | apply Kd.V_drewN | apply Kd.V_drew)); exact HO147.out) gb149 (Nat.le_of_eq hg.symm)) hb); have n1_ := Aside0.mk (blk_below (g := gb142) (o := .cells #[.int .i64 a1_0, .int .i64 a1_1] 24 (0, 0)) (by (with_reducible repeat (first | apply kdn | apply kdr | apply kal)); exact BK142.out) hb); have n2_ := Aside0.mk (below_step (by repeat (first | (with_reducible first | exact HB.out | apply lal | apply ldn | apply ldr | refine below_set ?_ GE142.out) | exact HB.out)) hb); have n3_ := Aside0.mk (hbox); have n4_ := Aside0.mk ((by rw [hg]; exact (below_size (by repeat (first | (with_reducible first | exact HB.out | apply lal | apply ldn | apply ldr | refine below_set ?_ GE142.out) | exact HB.out))) : w.heap.size ≤ gb149)); have n5_ := Aside0.mk ((by rw [hg]; exact (below_size (by repeat (first | (with_reducible first | exact HB.out | apply lal | apply ldn | apply ldr | refine below_set ?_ GE142.out) | exact HB.out))) : w.heap.size ≤ gb149)); have n6_ := Aside0.mk ((by rw [hg]; exact Nat.ne_of_lt (blk_lt (g := gb142) (o := .cells #[.int .i64 a1_0, .int .i64 a1_1] 24 (0, 0)) (by (with_reducible repeat (first | apply kdn | apply kdr | apply kal)); exact BK142.out)) : gb142 ≠ gb149)); have n7_ := Aside0.mk ((by rw [hg]; exact Nat.ne_of_gt (blk_lt (g := gb142) (o := .cells #[.int .i64 a1_0, .int .i64 a1_1] 24 (0, 0)) (by (with_reducible repeat (first | apply kdn | apply kdr | apply kal)); exact BK142.out)) : gb149 ≠ gb142)); clear HO147; clear BK142; clear HB; have HO147 := n0_; have BK142 := n1_; have HB := n2_; have BK149 := n3_; have GW149 := n4_; have GE149 := n5_; have NB142_149 := n6_; have NB149_142 := n7_; clear n0_ n1_ n2_ n3_ n4_ n5_ n6_ n7_; clear hb hbox hg; have hnb10 := NB149_142.out; have hnc10 := NB142_149.out; have hcz11_0 : w9.cell? ⟨gb149, 0, none⟩ = some (.int .i64 0) := (blk_cell BK149.out 0).trans rfl; have hcz11_1 : w9.cell? ⟨gb149, 1, none⟩ = some (.int .i64 0) := (blk_cell BK149.out 1).trans rfl; have hcz11_2 : w9.cell? ⟨gb149, 2, none⟩ = some (.slice none 0 0) := (blk_cell BK149.out 2).trans rfl; have hfz11_0 := blk_frozen BK149.out 0; have hfz11_1 := blk_frozen BK149.out 1; have hfz11_2 := blk_frozen BK149.out 2; obtain ⟨Ao12, co12, eo12⟩ := Kd.V_slice HO147.out; subst eo12) | ((with_reducible refine gate_callee (f := 53) rfl ?_); refine goesL_ (some 23) rfl rfl Try.func53 (by kernel_rfl) rfl #[.slice A0 l0.length c0] rfl (by (try simp only [List.map_toArray, List.map_cons, List.map_nil]); first | done | rfl | (simp only [List.length_drop, List.length_take]; rfl)) ?_; (with_reducible refine (trip_matching.calls k _ _ l0 t150 _ ?side1 ?side2 A5.out).mono ?_); (case side1 => exact Kd.C_below HR0.out (by repeat (first | (with_reducible first | exact HB.out | apply lal | apply ldn | apply ldr | refine below_set ?_ GE142.out | refine below_set ?_ GE149.out) | exact HB.out))); (case side2 => exact HC0.out); rintro e w13 ⟨v151, rfl, ho0, hb⟩; refine ⟨_, rfl, ?_⟩; have n0_ := Aside0.mk (Kd.V_elder' (by (with_reducible repeat (first | apply Kd.V_alloc | apply Kd.V_drewN | apply Kd.V_drew)); exact (Kd.V_mono (Kd.V_far (p := ⟨gb149, 2, none⟩) (Kd.V_far (p := ⟨gb149, 1, none⟩) (Kd.V_far (p := ⟨gb149, 0, none⟩) (Kd.V_mono HO147.out (fun k_ hk => (⟨hk, hk.2⟩ : _ ∧ k_ ≠ gb149))) (fun _ hk => hk.2) (.int .i64 t143)) (fun _ hk => hk.2) (.int .i64 t144)) (fun _ hk => hk.2) (.slice Ao12 t145.length co12)) (fun _ h_ => h_.1))) (Kd.R_base ho0) hb); have n1_ := Aside0.mk (Kd.R_lower ho0 (below_size (by repeat (first | (with_reducible first | exact HB.out | apply lal | apply ldn | apply ldr | refine below_set ?_ GE142.out | refine below_set ?_ GE149.out) | exact HB.out)))); have n2_ := Aside0.mk (blk_below (g := gb142) (o := .cells #[.int .i64 a1_0, .int .i64 a1_1] 24 (0, 0)) (by (with_reducible repeat (first | apply kdn | apply kdr | apply kal)); refine blk_far ?_ NB142_149.out _; (with_reducible repeat (first | apply kdn | apply kdr | apply kal)); refine blk_far ?_ NB142_149.out _; (with_reducible repeat (first | apply kdn | apply kdr | apply kal)); refine blk_far ?_ NB142_149.out _; (with_reducible repeat (first | apply kdn | apply kdr | apply kal)); exact BK142.out) hb); have n3_ := Aside0.mk (blk_below (g := gb149) (o := .cells #[.int .i64 t143, .int .i64 t144, .slice Ao12 t145.length co12] 59 (0, 0)) (by (with_reducible repeat (first | apply kdn | apply kdr | apply kal)); refine blk_put (cs := #[.int .i64 t143, .int .i64 t144, .slice none 0 0]) ?_ 2 _ rfl; (with_reducible repeat (first | apply kdn | apply kdr | apply kal)); refine blk_put (cs := #[.int .i64 t143, .int .i64 0, .slice none 0 0]) ?_ 1 _ rfl; (with_reducible repeat (first | apply kdn | apply kdr | apply kal)); refine blk_put (cs := #[.int .i64 0, .int .i64 0, .slice none 0 0]) ?_ 0 _ rfl; (with_reducible repeat (first | apply kdn | apply kdr | apply kal)); exact BK149.out) hb); have n4_ := Aside0.mk (below_step (by repeat (first | (with_reducible first | exact HB.out | apply lal | apply ldn | apply ldr | refine below_set ?_ GE142.out | refine below_set ?_ GE149.out) | exact HB.out)) hb); clear HO147; clear BK142; clear BK149; clear HB; have HO147 := n0_; have HO152 := n1_; have BK142 := n2_; have BK149 := n3_; have HB := n4_; clear n0_ n1_ n2_ n3_ n4_; (try clear hb); (try clear hb2); (try clear hk); (try clear hi); (try clear ho0); obtain ⟨Ao14, co14, eo14⟩ := Kd.R_slice HO152.out; subst eo14))
  go_loopg [10, 26] k (fun kq v10 v26 w' => ∃ (x10_1 : Int) (x26_1 : Int), v10 = .int .i64 x10_1 ∧ v26 = .int .i64 x26_1 ∧ Aside0 (trip_Matching.l0 kq t150 x10_1 t150 (t150.length : Int) x26_1 t143 t144 t145 = some (r1, r2, r3)) ∧ Aside0 (kq ≤ k) ∧ Aside0 (Kd.R (Kd.int .i64) 3 w' w.heap.size (fun _ => True) (.slice Ao14 t150.length co14) t150) ∧ Aside0 (Kd.R (Kd.int .i64) 3 w' w.heap.size (fun _ => True) (.slice Ao14 t150.length co14) t150) ∧ Aside0 (Kd.V k36 36 w' w.heap.size (fun k_ => some k_ ≠ ((.slice Ao14 t150.length co14) : Value).ownBlock ∧ some k_ ≠ ((.slice Ao14 t150.length co14) : Value).ownBlock ∧ k_ ≠ gb142 ∧ k_ ≠ gb149) (.slice Ao12 t145.length co12) t145) ∧ Aside0 (w'.heap[gb142]? = some (.cells #[.int .i64 a1_0, .int .i64 a1_1] 24 (0, 0))) ∧ Aside0 (w'.heap[gb149]? = some (.cells #[.int .i64 t143, .int .i64 t144, (.slice Ao12 t145.length co12)] 59 (0, 0))) ∧ Aside0 (Below w.heap.size w w'))
  case atStart => exact ⟨(0), (0), (by first | rfl | (simp; done) | (simp [*]; done)), (by first | rfl | (simp; done) | (simp [*]; done)), H', ⟨Nat.le_refl _⟩, ⟨by (with_reducible repeat (first | apply Kd.R_alloc | apply Kd.R_drewN | apply Kd.R_drew)); exact HO152.out⟩, ⟨by (with_reducible repeat (first | apply Kd.R_alloc | apply Kd.R_drewN | apply Kd.R_drew)); exact HO152.out⟩, ⟨by (with_reducible repeat (first | apply Kd.V_alloc | apply Kd.V_drewN | apply Kd.V_drew)); exact Kd.V_mono HO147.out (fun _ hk => ⟨hk.2, ⟨hk.2, ⟨hk.1.1, hk.1.2⟩⟩⟩)⟩, ⟨by (with_reducible repeat (first | apply kdn | apply kdr | apply kal)); exact BK142.out⟩, ⟨by (with_reducible repeat (first | apply kdn | apply kdr | apply kal)); exact BK149.out⟩, ⟨by repeat (first | (with_reducible first | exact HB.out | apply lal | apply ldn | apply ldr | refine below_set ?_ GE142.out | refine below_set ?_ GE149.out) | exact HB.out)⟩⟩
  case round =>
   clear H'
   try clear c1
   try clear p2
   try clear c3
   try clear c4
   try clear c4b0
   try clear c4b1
   try clear c5
   try clear c10
   try clear hcz11_0
   try clear hcz11_1
   try clear hcz11_2
   try clear hcz7_0
   try clear hcz7_1
   try clear hfz11_0
   try clear hfz11_1
   try clear hfz11_2
   try clear hfz7_0
   try clear hfz7_1
   obtain ⟨x10_1, x26_1, rfl, rfl, HA, HK1, HO_9, HO_24, HO_150002, BK142, BK149, HB⟩ := hrel
   cases gk with
   | zero => exact absurd HA.out (by simp [trip_Matching.l0])
   | succ k1 =>
    have H := HA.out
    clear HA
    simp only [trip_Matching.l0] at H
    by_cases c15 : x26_1 < (t150.length : Int)
    ·rw [if_pos c15] at H
     have c15b0 : decide (x26_1 < (t150.length : Int)) = true := decide_eq_true c15
     clear c15
     by_cases c16 : 0 ≤ x26_1
     ·rw [if_pos c16] at H
      have c16b0 : decide (0 ≤ x26_1) = true := decide_eq_true c16
      clear c16
      by_cases c17 : x26_1 < (t150.length : Int)
      ·rw [if_pos c17] at H
       have c17b0 : decide (x26_1 < (t150.length : Int)) = true := decide_eq_true c17
       clear c17
       replace H := Option.bind_eq_some_iff.mp H
       obtain ⟨t154, A180, H⟩ := H
       replace H : (trip_Matching.l0 k1 t150 (wrap64 (x10_1 + t154)) t150 (t150.length : Int) (wrap64 (x26_1 + 1)) t143 t144 t145) = some (r1, r2, r3) := H
       have A18 := Aside0.mk A180
       clear A180
       have H' := Aside0.mk H
       clear H
       have p153 : 0 ≤ (x26_1 : Int) := of_decide_eq_true (by first | (with_reducible assumption) | assumption)
       have q153 : x26_1 < (t150.length : Int) := of_decide_eq_true (by first | (with_reducible assumption) | assumption)
       obtain ⟨ad153, e153, hx153_0⟩ := Kd.at_int (Kd.R_reads' HO_24.out).2.2 x26_1 p153 q153
       cases e153
       replace p153 := eq_true p153
       replace q153 := eq_true q153
       have hnb19 := NB149_142.out
       have hnc19 := NB142_149.out
       have hcz20_0 : wr.cell? ⟨gb149, 0, none⟩ = some (.int .i64 t143) := (blk_cell BK149.out 0).trans rfl
       have hcz20_1 : wr.cell? ⟨gb149, 1, none⟩ = some (.int .i64 t144) := (blk_cell BK149.out 1).trans rfl
       have hcz20_2 : wr.cell? ⟨gb149, 2, none⟩ = some (.slice Ao12 t145.length co12) := (blk_cell BK149.out 2).trans rfl
       have hfz20_0 := blk_frozen BK149.out 0
       have hfz20_1 := blk_frozen BK149.out 1
       have hfz20_2 := blk_frozen BK149.out 2
       go_wp2_with (first | ((with_reducible refine gate_callee (f := 42) rfl ?_); refine goesL_ (some 35) rfl rfl Try.func42 (by kernel_rfl) rfl #[.agg #[.int .i64 t143, .int .i64 t144, .slice Ao12 t145.length co12], .int .i64 x26_1, .int .i64 (rd t150 x26_1)] rfl (by (try simp only [List.map_toArray, List.map_cons, List.map_nil]); first | done | rfl | (simp only [List.length_drop, List.length_take]; rfl)) ?_; (with_reducible refine (trip_day_empty.calls t143 t144 _ _ t145 x26_1 (rd t150 x26_1) t154 _ ?side1 ?side2 A18.out).mono ?_); (case side1 => repeat (first | exact (Kd.V_reads' HO_150002.out).2.2 | (with_reducible refine Kd.C_alloc ?_ _) | (with_reducible refine Kd.C_drewN ?_ _) | (with_reducible refine Kd.C_drew ?_))); (case side2 => exact (Kd.V_reads' HO_150002.out).2.1); rintro e w21 ⟨rfl, hb⟩; refine ⟨_, rfl, ?_⟩; have n0_ := Aside0.mk (Kd.R_below (by (with_reducible repeat (first | apply Kd.R_alloc | apply Kd.R_drewN | apply Kd.R_drew)); exact HO_9.out) hb); have n1_ := Aside0.mk (Kd.R_below (by (with_reducible repeat (first | apply Kd.R_alloc | apply Kd.R_drewN | apply Kd.R_drew)); exact HO_24.out) hb); have n2_ := Aside0.mk (Kd.V_below (by (with_reducible repeat (first | apply Kd.V_alloc | apply Kd.V_drewN | apply Kd.V_drew)); exact HO_150002.out) hb); have n3_ := Aside0.mk (blk_below (g := gb142) (o := .cells #[.int .i64 a1_0, .int .i64 a1_1] 24 (0, 0)) (by (with_reducible repeat (first | apply kdn | apply kdr | apply kal)); exact BK142.out) hb); have n4_ := Aside0.mk (blk_below (g := gb149) (o := .cells #[.int .i64 t143, .int .i64 t144, .slice Ao12 t145.length co12] 59 (0, 0)) (by (with_reducible repeat (first | apply kdn | apply kdr | apply kal)); exact BK149.out) hb); have n5_ := Aside0.mk (below_step (by repeat (first | (with_reducible first | exact HB.out | apply lal | apply ldn | apply ldr | refine below_set ?_ GE142.out | refine below_set ?_ GE149.out) | exact HB.out)) hb); clear HO_9; clear HO_24; clear HO_150002; clear BK142; clear BK149; clear HB; have HO_9 := n0_; have HO_24 := n1_; have HO_150002 := n2_; have BK142 := n3_; have BK149 := n4_; have HB := n5_; clear n0_ n1_ n2_ n3_ n4_ n5_; (try clear hb); (try clear hb2); (try clear hk); (try clear hi)))
       go_roundg k1
       case measure => have := HK1.out; omega
       case rel => exact ⟨(wrap64 (x10_1 + t154)), (wrap64 (x26_1 + 1)), (by first | rfl | (simp; done) | (simp [*]; done)), (by first | rfl | (simp; done) | (simp [*]; done)), H', ⟨by have := HK1.out; omega⟩, ⟨by (with_reducible repeat (first | apply Kd.R_alloc | apply Kd.R_drewN | apply Kd.R_drew)); exact HO_9.out⟩, ⟨by (with_reducible repeat (first | apply Kd.R_alloc | apply Kd.R_drewN | apply Kd.R_drew)); exact HO_24.out⟩, ⟨by (with_reducible repeat (first | apply Kd.V_alloc | apply Kd.V_drewN | apply Kd.V_drew)); exact HO_150002.out⟩, ⟨by (with_reducible repeat (first | apply kdn | apply kdr | apply kal)); exact BK142.out⟩, ⟨by (with_reducible repeat (first | apply kdn | apply kdr | apply kal)); exact BK149.out⟩, ⟨by repeat (first | (with_reducible first | exact HB.out | apply lal | apply ldn | apply ldr | refine below_set ?_ GE142.out | refine below_set ?_ GE149.out) | exact HB.out)⟩⟩
      ·rw [if_neg c17] at H
       exact absurd H (by simp)
     ·rw [if_neg c16] at H
      exact absurd H (by simp)
    ·rw [if_neg c15] at H
     have c15b0 : decide (x26_1 < (t150.length : Int)) = false := decide_eq_false c15
     clear c15
     simp only [Option.some.injEq, Prod.mk.injEq] at H
     obtain ⟨rfl, rfl, rfl⟩ := H
     go_wp2
     go_ret3
     exact ⟨_, by first | rfl | (simp [errW_none, errW_some] <;> rfl) | (simp [*, errW_none, errW_some] <;> rfl), by (with_reducible repeat (first | apply Kd.R_alloc | apply Kd.R_drewN | apply Kd.R_drew)); exact HO_9.out, by repeat (first | (with_reducible first | exact HB.out | apply lal | apply ldn | apply ldr | refine below_set ?_ GE142.out | refine below_set ?_ GE149.out) | exact HB.out)⟩
 ·rw [if_neg c4] at H
  have c4b0 : (t148 == 0) = false := beq_eq_false_iff_ne.mpr c4
  have c4b1 : (t148 != 0) = true := bne_iff_ne.mpr c4
  simp only [Option.some.injEq, Prod.mk.injEq] at H
  obtain ⟨rfl, rfl, rfl⟩ := H
  go_enter Try.func30, Try.ntmps30
  go_wp2_with (first | ((with_reducible refine gate_dst (N := 3) rfl ?_); refine box_event ?hg (N := 3) ?hd (cs := #[.int .i64 a1_0, .int .i64 a1_1]) (t := 24) ?hr ?_; (case hd => rfl); (case hg => rfl); (case hr => first | (go_simp; done) | (go_simp; rfl)); intro gb142 hg w22 hbox hb; have n0_ := Aside0.mk (below_step (by repeat (first | (with_reducible first | exact HB.out | apply lal | apply ldn | apply ldr) | exact HB.out)) hb); have n1_ := Aside0.mk (hbox); have n2_ := Aside0.mk ((by rw [hg]; exact (below_size (by repeat (first | (with_reducible first | exact HB.out | apply lal | apply ldn | apply ldr) | exact HB.out))) : w.heap.size ≤ gb142)); have n3_ := Aside0.mk ((by rw [hg]; exact (below_size (by repeat (first | (with_reducible first | exact HB.out | apply lal | apply ldn | apply ldr) | exact HB.out))) : w.heap.size ≤ gb142)); clear HB; have HB := n0_; have BK142 := n1_; have GW142 := n2_; have GE142 := n3_; clear n0_ n1_ n2_ n3_; clear hb hbox hg; have hcz23_0 : w22.cell? ⟨gb142, 0, none⟩ = some (.int .i64 a1_0) := (blk_cell BK142.out 0).trans rfl; have hcz23_1 : w22.cell? ⟨gb142, 1, none⟩ = some (.int .i64 a1_1) := (blk_cell BK142.out 1).trans rfl; have hfz23_0 := blk_frozen BK142.out 0; have hfz23_1 := blk_frozen BK142.out 1) | ((with_reducible refine gate_callee (f := 40) rfl ?_); refine goesL_ (some 16) rfl rfl Try.func40 (by kernel_rfl) rfl #[.slice A0 l0.length c0, .agg #[.int .i64 a1_0, .int .i64 a1_1]] rfl (by (try simp only [List.map_toArray, List.map_cons, List.map_nil]); first | done | rfl | (simp only [List.length_drop, List.length_take]; rfl)) ?_; (with_reducible refine (trip_read.calls (fun k_ => k_ < w.heap.size) _ _ l0 a1_0 a1_1 t143 t144 t145 t148 _ ?side1 A3.out).mono ?_); (case side1 => exact Kd.V_mk HC0.out (Kd.F_below (Kd.C_F k36_heap HR0.out) (by repeat (first | (with_reducible first | exact HB.out | apply lal | apply ldn | apply ldr | refine below_set ?_ GE142.out) | exact HB.out)))); rintro e w24 ⟨v146, rfl, ho0, hb⟩; refine ⟨_, rfl, ?_⟩; have n0_ := Aside0.mk (Kd.V_lower (Kd.V_mono (ok' := fun k_ => k_ ≠ gb142) ho0 (fun k_ hk_ => Or.elim hk_ (fun hs_ => fun e_ => Nat.not_le.2 hs_ (by rw [e_]; exact GW142.out)) (fun hn_ => (Kd.freshB (g := gb142) (o := .cells #[.int .i64 a1_0, .int .i64 a1_1] 24 (0, 0)) (by (with_reducible repeat (first | apply kdn | apply kdr | apply kal)); exact BK142.out) k_ hn_)))) (below_size (by repeat (first | (with_reducible first | exact HB.out | apply lal | apply ldn | apply ldr | refine below_set ?_ GE142.out) | exact HB.out)))); have n1_ := Aside0.mk (blk_below (g := gb142) (o := .cells #[.int .i64 a1_0, .int .i64 a1_1] 24 (0, 0)) (by (with_reducible repeat (first | apply kdn | apply kdr | apply kal)); exact BK142.out) hb); have n2_ := Aside0.mk (below_step (by repeat (first | (with_reducible first | exact HB.out | apply lal | apply ldn | apply ldr | refine below_set ?_ GE142.out) | exact HB.out)) hb); clear BK142; clear HB; have HO147 := n0_; have BK142 := n1_; have HB := n2_; clear n0_ n1_ n2_; (try clear hb); (try clear hb2); (try clear hk); (try clear hi); (try clear ho0)) | ((with_reducible refine gate_dst (N := 7) rfl ?_); refine box_event ?hg (N := 7) ?hd (cs := #[.int .i64 0, .int .i64 0, .slice none 0 0]) (t := 59) ?hr ?_; (case hd => rfl); (case hg => rfl); (case hr => first | (go_simp; done) | (go_simp; rfl)); intro gb149 hg w25 hbox hb; have n0_ := Aside0.mk (Kd.V_below (Kd.V_elderB (by (with_reducible repeat (first | apply Kd.V_alloc | apply Kd.V_drewN | apply Kd.V_drew)); exact HO147.out) gb149 (Nat.le_of_eq hg.symm)) hb); have n1_ := Aside0.mk (blk_below (g := gb142) (o := .cells #[.int .i64 a1_0, .int .i64 a1_1] 24 (0, 0)) (by (with_reducible repeat (first | apply kdn | apply kdr | apply kal)); exact BK142.out) hb); have n2_ := Aside0.mk (below_step (by repeat (first | (with_reducible first | exact HB.out | apply lal | apply ldn | apply ldr | refine below_set ?_ GE142.out) | exact HB.out)) hb); have n3_ := Aside0.mk (hbox); have n4_ := Aside0.mk ((by rw [hg]; exact (below_size (by repeat (first | (with_reducible first | exact HB.out | apply lal | apply ldn | apply ldr | refine below_set ?_ GE142.out) | exact HB.out))) : w.heap.size ≤ gb149)); have n5_ := Aside0.mk ((by rw [hg]; exact (below_size (by repeat (first | (with_reducible first | exact HB.out | apply lal | apply ldn | apply ldr | refine below_set ?_ GE142.out) | exact HB.out))) : w.heap.size ≤ gb149)); have n6_ := Aside0.mk ((by rw [hg]; exact Nat.ne_of_lt (blk_lt (g := gb142) (o := .cells #[.int .i64 a1_0, .int .i64 a1_1] 24 (0, 0)) (by (with_reducible repeat (first | apply kdn | apply kdr | apply kal)); exact BK142.out)) : gb142 ≠ gb149)); have n7_ := Aside0.mk ((by rw [hg]; exact Nat.ne_of_gt (blk_lt (g := gb142) (o := .cells #[.int .i64 a1_0, .int .i64 a1_1] 24 (0, 0)) (by (with_reducible repeat (first | apply kdn | apply kdr | apply kal)); exact BK142.out)) : gb149 ≠ gb142)); clear HO147; clear BK142; clear HB; have HO147 := n0_; have BK142 := n1_; have HB := n2_; have BK149 := n3_; have GW149 := n4_; have GE149 := n5_; have NB142_149 := n6_; have NB149_142 := n7_; clear n0_ n1_ n2_ n3_ n4_ n5_ n6_ n7_; clear hb hbox hg; have hnb26 := NB149_142.out; have hnc26 := NB142_149.out; have hcz27_0 : w25.cell? ⟨gb149, 0, none⟩ = some (.int .i64 0) := (blk_cell BK149.out 0).trans rfl; have hcz27_1 : w25.cell? ⟨gb149, 1, none⟩ = some (.int .i64 0) := (blk_cell BK149.out 1).trans rfl; have hcz27_2 : w25.cell? ⟨gb149, 2, none⟩ = some (.slice none 0 0) := (blk_cell BK149.out 2).trans rfl; have hfz27_0 := blk_frozen BK149.out 0; have hfz27_1 := blk_frozen BK149.out 1; have hfz27_2 := blk_frozen BK149.out 2; obtain ⟨Ao28, co28, eo28⟩ := Kd.V_slice HO147.out; subst eo28))
  go_ret3
  exact ⟨_, by first | rfl | (simp [errW_none, errW_some] <;> rfl) | (simp [*, errW_none, errW_some] <;> rfl), by first | exact Kd.R_nil _ _ _ _ _ | exact Kd.N_nil _ _ _ _ _ | exact Kd.V_nil _ _ _ _ _ | exact Kd.Q_nil _ _ _ _ _ | exact Kd.S_nil _ _ _ _ _, by repeat (first | (with_reducible first | exact HB.out | apply lal | apply ldn | apply ldr | refine below_set ?_ GE142.out | refine below_set ?_ GE149.out) | exact HB.out)⟩
end Go.Proofs.Ytlmlneneakpohaa.OAll
