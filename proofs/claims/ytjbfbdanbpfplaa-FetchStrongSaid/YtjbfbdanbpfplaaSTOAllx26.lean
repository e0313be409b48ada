/- A part of the proof of 'fetchStrong_holds', for every input, without a condition. -/
import Derived.Test.YtjbfbdanbpfplaaSTOAllx0
import Derived.Test.YtjbfbdanbpfplaaSTOAllx1
import Derived.Test.YtjbfbdanbpfplaaSTOAllx7
import Derived.Test.YtjbfbdanbpfplaaSTOAllx9
import Derived.Test.YtjbfbdanbpfplaaSTOAllx21
import Derived.Test.YtjbfbdanbpfplaaSTOAllx22
import Derived.Test.YtjbfbdanbpfplaaSTOAllx23
namespace Go.Proofs.Ytjbfbdanbpfplaa.OAll
open Go.RowKit Go.Proofs.YtjbfbdanbpfplaaW.PrintWords Go.Proofs.YtjbfbdanbpfplaaW.PrintLast Go.Proofs.YtjbfbdanbpfplaaW.PrintMore
attribute [local go_sem] max2_int min2_int max_two min_two max_three min_three max_four min_four
set_option linter.unusedVariables false
set_option linter.unusedSimpArgs false
attribute [local go_sem high] eqA34
mutual
def trishawlaw09_FetchStrong.j0 : Nat → Int → List (S34) → List Int → Bool → Option (Bool)
 | 0, _, _, _, _ => none
 | k + 1, x0, x1, x2, x43 => if x43 = true then (none) else ((fetch_Both.f k x0 x1 x2).bind fun bt701 => ((trishawref09_Both.f k x0 x1 x2).bind fun bt705 => (if (bt701.1.length : Int) = (bt705.1.length : Int) then (trishawlaw09_FetchStrong.j1 k x0 x1 bt701.1 bt705.1 (bt701.2 != bt705.2)) else (none))))
def trishawlaw09_FetchStrong.j1 : Nat → Int → List (S34) → List (S34) → List (S34) → Bool → Option (Bool)
 | 0, _, _, _, _, _ => none
 | k + 1, x0, x1, x11, x12, x67 => if x67 = true then (none) else (trishawlaw09_FetchStrong.l0 k x0 x1 x11 x12 0)
def trishawlaw09_FetchStrong.l0 : Nat → Int → List (S34) → List (S34) → List (S34) → Int → Option (Bool)
 | 0, _, _, _, _, _ => none
 | k + 1, x0, x1, x11, x12, x13 => if x13 < (x11.length : Int) then (if 0 ≤ x13 then (if x13 < (x12.length : Int) then (if (!(((rd_T34 x11 x13).f0) == ((rd_T34 x12 x13).f0)) || (!(((rd_T34 x11 x13).f1) == ((rd_T34 x12 x13).f1)))) = true then (none) else (trishawlaw09_FetchStrong.l0 k x0 x1 x11 x12 (wrap64 (x13 + 1)))) else (none)) else (none)) else ((trishawref09_Parts.f k x0 x1).bind fun bt711 => (trishawlaw09_FetchStrong.l1 k x0 x1 bt711.2 bt711.1 0))
def trishawlaw09_FetchStrong.l1 : Nat → Int → List (S34) → Int → List (List Int) → Int → Option (Bool)
 | 0, _, _, _, _, _ => none
 | k + 1, x0, x1, x10, x14, x15 => if x15 < 2 then ((fetch_Parts.f k x0 x1).bind fun bt716 => (if (bt716.1.length : Int) = (x14.length : Int) then (trishawlaw09_FetchStrong.j4 k x0 x1 x10 x14 x15 bt716.1 (bt716.2 != x10)) else (none))) else ((trishawlaw09_alive.f k).bind fun t715 => (some t715))
def trishawlaw09_FetchStrong.j4 : Nat → Int → List (S34) → Int → List (List Int) → Int → List (List Int) → Bool → Option (Bool)
 | 0, _, _, _, _, _, _, _ => none
 | k + 1, x0, x1, x10, x14, x15, x16, x108 => if x108 = true then (none) else (trishawlaw09_FetchStrong.l2 k x0 x1 x10 x14 x15 x16 0)
def trishawlaw09_FetchStrong.l2 : Nat → Int → List (S34) → Int → List (List Int) → Int → List (List Int) → Int → Option (Bool)
 | 0, _, _, _, _, _, _, _ => none
 | k + 1, x0, x1, x10, x14, x15, x16, x18 => if x18 < (x16.length : Int) then (if 0 ≤ x18 then (if x18 < (x14.length : Int) then ((trishawlaw09_same.f k (rd_L1 x16 x18) (rd_L1 x14 x18)).bind fun t722 => (if t722 = true then (if 0 < ((rd_L1 x16 x18).length : Int) then (trishawlaw09_FetchStrong.l2 k x0 x1 x10 x14 x15 (x16.set (x18 : Int).toNat ((rd_L1 x16 x18).set (0 : Int).toNat (-1))) (wrap64 (x18 + 1))) else (none)) else (none))) else (none)) else (none)) else (trishawlaw09_FetchStrong.l1 k x0 x1 x10 x14 (wrap64 (x15 + 1)))
end
def trishawlaw09_FetchStrong.f (k : Nat) (a0 : Int) (l1 : List (S34)) (l2 : List Int) : Option (Bool) := (trishawlaw09_few.f l1 l2).bind fun t695 => (if t695 = true then ((fetch_Strong.f k a0 l1).bind fun bt697 => ((trishawref09_Strong.f k a0 l1).bind fun bt699 => (if (bt697.1 != bt699.1) = true then (none) else (trishawlaw09_FetchStrong.j0 k a0 l1 l2 (bt697.2 != bt699.2))))) else ((trishawlaw09_alive.f k).bind fun t696 => (some t696)))
set_option maxHeartbeats 8000000 in
set_option maxRecDepth 100000 in
theorem trishawlaw09_FetchStrong.calls (k : Nat) (a0 : Int) (A1 : Option Addr) (c1 : Nat) (l1 : List (S34)) (A2 : Option Addr) (c2 : Nat) (l2 : List Int) (r : Bool) (w : World) (hr1 : Kd.C k34 w A1 l1.length l1) (hc1 : l1.length ≤ c1) (hr2 : Kd.C (Kd.int .i64) w A2 l2.length l2) (hc2 : l2.length ≤ c2) (h : trishawlaw09_FetchStrong.f k a0 l1 l2 = some r) :
  Calls Try.prog 13 #[.int .i64 a0, .slice A1 l1.length c1, .slice A2 l2.length c2] w fun e w' => e = .returned (.bool r) ∧ Below w.heap.size w w' := by
 have hu34 := Try.underlying34
 have HR1 := Aside0.mk hr1
 have HC1 := Aside0.mk hc1
 clear hr1 hc1
 have HR2 := Aside0.mk hr2
 have HC2 := Aside0.mk hc2
 clear hr2 hc2
 have HB := Aside0.mk (Below.refl w.heap.size w)
 have H : ((trishawlaw09_few.f l1 l2).bind fun t695 => (if t695 = true then ((fetch_Strong.f k a0 l1).bind fun bt697 => ((trishawref09_Strong.f k a0 l1).bind fun bt699 => (if (bt697.1 != bt699.1) = true then (none) else (trishawlaw09_FetchStrong.j0 k a0 l1 l2 (bt697.2 != bt699.2))))) else ((trishawlaw09_alive.f k).bind fun t696 => (some t696)))) = some r := h
 clear h
 replace H := Option.bind_eq_some_iff.mp H
 obtain ⟨t695, A40, H⟩ := H
 replace H : (if t695 = true then ((fetch_Strong.f k a0 l1).bind fun bt697 => ((trishawref09_Strong.f k a0 l1).bind fun bt699 => (if (bt697.1 != bt699.1) = true then (none) else (trishawlaw09_FetchStrong.j0 k a0 l1 l2 (bt697.2 != bt699.2))))) else ((trishawlaw09_alive.f k).bind fun t696 => (some t696))) = some r := H
 have A4 := Aside0.mk A40
 clear A40
 by_cases c5 : t695 = true
 ·subst c5
  have H1 : ((fetch_Strong.f k a0 l1).bind fun bt697 => ((trishawref09_Strong.f k a0 l1).bind fun bt699 => (if (bt697.1 != bt699.1) = true then (none) else (trishawlaw09_FetchStrong.j0 k a0 l1 l2 (bt697.2 != bt699.2))))) = some r := by rw [if_pos rfl] at H; exact H
  clear H
  have H := H1
  clear H1
  replace H := Option.bind_eq_some_iff.mp H
  obtain ⟨⟨t697, t698⟩, A60, H⟩ := H
  replace H : ((trishawref09_Strong.f k a0 l1).bind fun bt699 => (if (t697 != bt699.1) = true then (none) else (trishawlaw09_FetchStrong.j0 k a0 l1 l2 (t698 != bt699.2)))) = some r := H
  have A6 := Aside0.mk A60
  clear A60
  replace H := Option.bind_eq_some_iff.mp H
  obtain ⟨⟨t699, t700⟩, A70, H⟩ := H
  replace H : (if (t697 != t699) = true then (none) else (trishawlaw09_FetchStrong.j0 k a0 l1 l2 (t698 != t700))) = some r := H
  have A7 := Aside0.mk A70
  clear A70
  have HC8 := Aside0.mk H
  clear H
  go_enter Try.func13, Try.ntmps13
  go_upto_region 5 with (first | (go_at_call 16; (with_reducible refine (trishawlaw09_few.calls _ _ l1 _ _ l2 true _ ?side1 ?side2 ?side3 ?side4 A4.out).mono ?_); (case side1 => repeat (first | exact HR1.out | (with_reducible refine Kd.C_alloc ?_ _) | (with_reducible refine Kd.C_drewN ?_ _) | (with_reducible refine Kd.C_drew ?_))); (case side2 => exact HC1.out); (case side3 => repeat (first | exact HR2.out | (with_reducible refine Kd.C_alloc ?_ _) | (with_reducible refine Kd.C_drewN ?_ _) | (with_reducible refine Kd.C_drew ?_))); (case side4 => exact HC2.out); rintro e w' ⟨rfl, ⟨nd, rfl⟩⟩; (try first | exact ⟨rfl, _, World.drewN_drewN _ _ _⟩ | exact ⟨rfl, _, Eq.trans (World.drewN_drewN _ _ _) (congrArg (World.drewN _) (Nat.add_assoc _ _ _))⟩)) | (go_at_call 36; (with_reducible refine (fetch_Strong.calls k a0 _ _ l1 t697 t698 _ ?side1 ?side2 A6.out).mono ?_); (case side1 => repeat (first | exact HR1.out | (with_reducible refine Kd.C_alloc ?_ _) | (with_reducible refine Kd.C_drewN ?_ _) | (with_reducible refine Kd.C_drew ?_))); (case side2 => exact HC1.out); rintro e w9 ⟨rfl, hb⟩; have n0_ := Aside0.mk (below_step (by repeat (first | (with_reducible first | exact HB.out | apply below_alloc | apply pw_below_drewN | apply below_drew1) | exact HB.out)) hb); clear HB; have HB := n0_; clear n0_; (try clear hb); (try clear hb2); (try clear hk); (try clear hi)) | (go_at_call 37; (with_reducible refine (trishawref09_Strong.calls k a0 _ _ l1 t699 t700 _ ?side1 ?side2 A7.out).mono ?_); (case side1 => repeat (first | exact (Kd.C_below HR1.out HB.out) | (with_reducible refine Kd.C_alloc ?_ _) | (with_reducible refine Kd.C_drewN ?_ _) | (with_reducible refine Kd.C_drew ?_))); (case side2 => exact HC1.out); rintro e w' ⟨rfl, ⟨nd, rfl⟩⟩; (try first | exact ⟨rfl, _, World.drewN_drewN _ _ _⟩ | exact ⟨rfl, _, Eq.trans (World.drewN_drewN _ _ _) (congrArg (World.drewN _) (Nat.add_assoc _ _ _))⟩)))
  repeat (go_quiet (first | (go_at_call 16; (with_reducible refine (trishawlaw09_few.calls _ _ l1 _ _ l2 true _ ?side1 ?side2 ?side3 ?side4 A4.out).mono ?_); (case side1 => repeat (first | exact HR1.out | (with_reducible refine Kd.C_alloc ?_ _) | (with_reducible refine Kd.C_drewN ?_ _) | (with_reducible refine Kd.C_drew ?_))); (case side2 => exact HC1.out); (case side3 => repeat (first | exact HR2.out | (with_reducible refine Kd.C_alloc ?_ _) | (with_reducible refine Kd.C_drewN ?_ _) | (with_reducible refine Kd.C_drew ?_))); (case side4 => exact HC2.out); rintro e w' ⟨rfl, ⟨nd, rfl⟩⟩; (try first | exact ⟨rfl, _, World.drewN_drewN _ _ _⟩ | exact ⟨rfl, _, Eq.trans (World.drewN_drewN _ _ _) (congrArg (World.drewN _) (Nat.add_assoc _ _ _))⟩)) | (go_at_call 36; (with_reducible refine (fetch_Strong.calls k a0 _ _ l1 t697 t698 _ ?side1 ?side2 A6.out).mono ?_); (case side1 => repeat (first | exact HR1.out | (with_reducible refine Kd.C_alloc ?_ _) | (with_reducible refine Kd.C_drewN ?_ _) | (with_reducible refine Kd.C_drew ?_))); (case side2 => exact HC1.out); rintro e w9 ⟨rfl, hb⟩; have n0_ := Aside0.mk (below_step (by repeat (first | (with_reducible first | exact HB.out | apply below_alloc | apply pw_below_drewN | apply below_drew1) | exact HB.out)) hb); clear HB; have HB := n0_; clear n0_; (try clear hb); (try clear hb2); (try clear hk); (try clear hi)) | (go_at_call 37; (with_reducible refine (trishawref09_Strong.calls k a0 _ _ l1 t699 t700 _ ?side1 ?side2 A7.out).mono ?_); (case side1 => repeat (first | exact (Kd.C_below HR1.out HB.out) | (with_reducible refine Kd.C_alloc ?_ _) | (with_reducible refine Kd.C_drewN ?_ _) | (with_reducible refine Kd.C_drew ?_))); (case side2 => exact HC1.out); rintro e w' ⟨rfl, ⟨nd, rfl⟩⟩; (try first | exact ⟨rfl, _, World.drewN_drewN _ _ _⟩ | exact ⟨rfl, _, Eq.trans (World.drewN_drewN _ _ _) (congrArg (World.drewN _) (Nat.add_assoc _ _ _))⟩))); go_upto_region 5 with (first | (go_at_call 16; (with_reducible refine (trishawlaw09_few.calls _ _ l1 _ _ l2 true _ ?side1 ?side2 ?side3 ?side4 A4.out).mono ?_); (case side1 => repeat (first | exact HR1.out | (with_reducible refine Kd.C_alloc ?_ _) | (with_reducible refine Kd.C_drewN ?_ _) | (with_reducible refine Kd.C_drew ?_))); (case side2 => exact HC1.out); (case side3 => repeat (first | exact HR2.out | (with_reducible refine Kd.C_alloc ?_ _) | (with_reducible refine Kd.C_drewN ?_ _) | (with_reducible refine Kd.C_drew ?_))); (case side4 => exact HC2.out); rintro e w' ⟨rfl, ⟨nd, rfl⟩⟩; (try first | exact ⟨rfl, _, World.drewN_drewN _ _ _⟩ | exact ⟨rfl, _, Eq.trans (World.drewN_drewN _ _ _) (congrArg (World.drewN _) (Nat.add_assoc _ _ _))⟩)) | (go_at_call 36; (with_reducible refine (fetch_Strong.calls k a0 _ _ l1 t697 t698 _ ?side1 ?side2 A6.out).mono ?_); (case side1 => repeat (first | exact HR1.out | (with_reducible refine Kd.C_alloc ?_ _) | (with_reducible refine Kd.C_drewN ?_ _) | (with_reducible refine Kd.C_drew ?_))); (case side2 => exact HC1.out); rintro e w9 ⟨rfl, hb⟩; have n0_ := Aside0.mk (below_step (by repeat (first | (with_reducible first | exact HB.out | apply below_alloc | apply pw_below_drewN | apply below_drew1) | exact HB.out)) hb); clear HB; have HB := n0_; clear n0_; (try clear hb); (try clear hb2); (try clear hk); (try clear hi)) | (go_at_call 37; (with_reducible refine (trishawref09_Strong.calls k a0 _ _ l1 t699 t700 _ ?side1 ?side2 A7.out).mono ?_); (case side1 => repeat (first | exact (Kd.C_below HR1.out HB.out) | (with_reducible refine Kd.C_alloc ?_ _) | (with_reducible refine Kd.C_drewN ?_ _) | (with_reducible refine Kd.C_drew ?_))); (case side2 => exact HC1.out); rintro e w' ⟨rfl, ⟨nd, rfl⟩⟩; (try first | exact ⟨rfl, _, World.drewN_drewN _ _ _⟩ | exact ⟨rfl, _, Eq.trans (World.drewN_drewN _ _ _) (congrArg (World.drewN _) (Nat.add_assoc _ _ _))⟩))))
  (try simp only [Act.put, List.setIfInBounds_toArray, List.set_cons_zero, List.set_cons_succ])
  go_cut [43] (fun v43 wc => ∃ (kq : Nat) (x43_7 : Bool), v43 = .bool x43_7 ∧ Aside0 (trishawlaw09_FetchStrong.j0 kq a0 l1 l2 x43_7 = some r) ∧ Aside0 (kq ≤ k) ∧ Aside0 (Below w.heap.size w wc))
  case first =>
   have H := HC8.out
   clear HC8
   by_cases c10 : (t697 != t699) = true
   ·rw [if_pos c10] at H
    exact absurd H (by simp)
   ·rw [if_neg c10] at H
    have c10b0 : (t697 != t699) = false := by simpa using c10
    (try (have c10b1 : decide (t697 = t699) = true := by simpa using c10))
    (try (have c10b2 : (t697 == t699) = true := by simpa using c10))
    clear c10
    (first | rw [c10b0] | (simp only [i64_w, i32_w]; rw [c10b0]) | skip)
    have H' := Aside0.mk H
    clear H
    go_wp2
    repeat (go_quiet (fail); try go_wp2)
    go_meet
    case rel => exact ⟨_, ((t698 != t700)), (by first | rfl | (simp; done) | (simp [*]; done)), H', ⟨by first | omega | exact Nat.le_refl _⟩, ⟨by repeat (first | (with_reducible first | exact HB.out | apply below_alloc | apply pw_below_drewN | apply below_drew1) | exact HB.out)⟩⟩
  case rest =>
   clear HC8
   try clear c1
   try clear c2
   try clear p2
   try clear c5
   try clear c10
   try clear c10b0
   try clear c10b1
   try clear c10b2
   obtain ⟨kq, x43_7, rfl, HA, HJ7, HB⟩ := hcut
   cases kq with
   | zero => exact absurd HA.out (by simp [trishawlaw09_FetchStrong.j0])
   | succ kj7 =>
    have H := HA.out
    clear HA
    simp only [trishawlaw09_FetchStrong.j0] at H
    by_cases c11 : x43_7 = true
    ·subst c11
     have H1 : (none) = some r := by rw [if_pos rfl] at H; exact H
     clear H
     have H := H1
     clear H1
     exact absurd H (by simp)
    ·replace c11 := Bool.eq_false_iff.mpr c11
     subst c11
     have H1 : ((fetch_Both.f kj7 a0 l1 l2).bind fun bt701 => ((trishawref09_Both.f kj7 a0 l1 l2).bind fun bt705 => (if (bt701.1.length : Int) = (bt705.1.length : Int) then (trishawlaw09_FetchStrong.j1 kj7 a0 l1 bt701.1 bt705.1 (bt701.2 != bt705.2)) else (none)))) = some r := by rw [if_neg (show ¬ (false = true) by decide)] at H; exact H
     clear H
     have H := H1
     clear H1
     replace H := Option.bind_eq_some_iff.mp H
     obtain ⟨⟨t701, t702⟩, A120, H⟩ := H
     replace H : ((trishawref09_Both.f kj7 a0 l1 l2).bind fun bt705 => (if (t701.length : Int) = (bt705.1.length : Int) then (trishawlaw09_FetchStrong.j1 kj7 a0 l1 t701 bt705.1 (t702 != bt705.2)) else (none))) = some r := H
     have A12 := Aside0.mk A120
     clear A120
     replace H := Option.bind_eq_some_iff.mp H
     obtain ⟨⟨t705, t706⟩, A130, H⟩ := H
     replace H : (if (t701.length : Int) = (t705.length : Int) then (trishawlaw09_FetchStrong.j1 kj7 a0 l1 t701 t705 (t702 != t706)) else (none)) = some r := H
     have A13 := Aside0.mk A130
     clear A130
     have HC14 := Aside0.mk H
     clear H
     go_upto_region 9 with (first | (go_at_call 38; (with_reducible refine (fetch_Both.calls kj7 a0 _ _ l1 _ _ l2 t701 t702 _ ?side1 ?side2 ?side3 ?side4 A12.out).mono ?_); (case side1 => repeat (first | exact (Kd.C_below HR1.out HB.out) | (with_reducible refine Kd.C_alloc ?_ _) | (with_reducible refine Kd.C_drewN ?_ _) | (with_reducible refine Kd.C_drew ?_))); (case side2 => exact HC1.out); (case side3 => repeat (first | exact (Kd.C_below HR2.out HB.out) | (with_reducible refine Kd.C_alloc ?_ _) | (with_reducible refine Kd.C_drewN ?_ _) | (with_reducible refine Kd.C_drew ?_))); (case side4 => exact HC2.out); rintro e w15 ⟨v703, rfl, ho0, hb⟩; have n0_ := Aside0.mk (Kd.R_lower ho0 (below_size (by repeat (first | (with_reducible first | exact HB.out | apply below_alloc | apply pw_below_drewN | apply below_drew1) | exact HB.out)))); have n1_ := Aside0.mk (below_step (by repeat (first | (with_reducible first | exact HB.out | apply below_alloc | apply pw_below_drewN | apply below_drew1) | exact HB.out)) hb); clear HB; have HO704 := n0_; have HB := n1_; clear n0_ n1_; (try clear hb); (try clear hb2); (try clear hk); (try clear hi); (try clear ho0)) | (go_at_call 39; (with_reducible refine (trishawref09_Both.calls kj7 a0 _ _ l1 _ _ l2 t705 t706 _ ?side1 ?side2 ?side3 ?side4 A13.out).mono ?_); (case side1 => repeat (first | exact (Kd.C_below HR1.out HB.out) | (with_reducible refine Kd.C_alloc ?_ _) | (with_reducible refine Kd.C_drewN ?_ _) | (with_reducible refine Kd.C_drew ?_))); (case side2 => exact HC1.out); (case side3 => repeat (first | exact (Kd.C_below HR2.out HB.out) | (with_reducible refine Kd.C_alloc ?_ _) | (with_reducible refine Kd.C_drewN ?_ _) | (with_reducible refine Kd.C_drew ?_))); (case side4 => exact HC2.out); rintro e w16 ⟨v707, rfl, ho0, hb⟩; have n0_ := Aside0.mk (Kd.R_elder' (by (with_reducible repeat (first | apply Kd.R_alloc | apply Kd.R_drewN | apply Kd.R_drew)); exact HO704.out) (Kd.R_base ho0) hb); have n1_ := Aside0.mk (Kd.R_lower (Kd.R_new' ho0 (Kd.R_lt (by (with_reducible repeat (first | apply Kd.R_alloc | apply Kd.R_drewN | apply Kd.R_drew)); exact HO704.out))) (below_size (by repeat (first | (with_reducible first | exact HB.out | apply below_alloc | apply pw_below_drewN | apply below_drew1) | exact HB.out)))); have n2_ := Aside0.mk (below_step (by repeat (first | (with_reducible first | exact HB.out | apply below_alloc | apply pw_below_drewN | apply below_drew1) | exact HB.out)) hb); clear HO704; clear HB; have HO704 := n0_; have HO708 := n1_; have HB := n2_; clear n0_ n1_ n2_; (try clear hb); (try clear hb2); (try clear hk); (try clear hi); (try clear ho0)))
     repeat (go_quiet (first | (go_at_call 38; (with_reducible refine (fetch_Both.calls kj7 a0 _ _ l1 _ _ l2 t701 t702 _ ?side1 ?side2 ?side3 ?side4 A12.out).mono ?_); (case side1 => repeat (first | exact (Kd.C_below HR1.out HB.out) | (with_reducible refine Kd.C_alloc ?_ _) | (with_reducible refine Kd.C_drewN ?_ _) | (with_reducible refine Kd.C_drew ?_))); (case side2 => exact HC1.out); (case side3 => repeat (first | exact (Kd.C_below HR2.out HB.out) | (with_reducible refine Kd.C_alloc ?_ _) | (with_reducible refine Kd.C_drewN ?_ _) | (with_reducible refine Kd.C_drew ?_))); (case side4 => exact HC2.out); rintro e w15 ⟨v703, rfl, ho0, hb⟩; have n0_ := Aside0.mk (Kd.R_lower ho0 (below_size (by repeat (first | (with_reducible first | exact HB.out | apply below_alloc | apply pw_below_drewN | apply below_drew1) | exact HB.out)))); have n1_ := Aside0.mk (below_step (by repeat (first | (with_reducible first | exact HB.out | apply below_alloc | apply pw_below_drewN | apply below_drew1) | exact HB.out)) hb); clear HB; have HO704 := n0_; have HB := n1_; clear n0_ n1_; (try clear hb); (try clear hb2); (try clear hk); (try clear hi); (try clear ho0)) | (go_at_call 39; (with_reducible refine (trishawref09_Both.calls kj7 a0 _ _ l1 _ _ l2 t705 t706 _ ?side1 ?side2 ?side3 ?side4 A13.out).mono ?_); (case side1 => repeat (first | exact (Kd.C_below HR1.out HB.out) | (with_reducible refine Kd.C_alloc ?_ _) | (with_reducible refine Kd.C_drewN ?_ _) | (with_reducible refine Kd.C_drew ?_))); (case side2 => exact HC1.out); (case side3 => repeat (first | exact (Kd.C_below HR2.out HB.out) | (with_reducible refine Kd.C_alloc ?_ _) | (with_reducible refine Kd.C_drewN ?_ _) | (with_reducible refine Kd.C_drew ?_))); (case side4 => exact HC2.out); rintro e w16 ⟨v707, rfl, ho0, hb⟩; have n0_ := Aside0.mk (Kd.R_elder' (by (with_reducible repeat (first | apply Kd.R_alloc | apply Kd.R_drewN | apply Kd.R_drew)); exact HO704.out) (Kd.R_base ho0) hb); have n1_ := Aside0.mk (Kd.R_lower (Kd.R_new' ho0 (Kd.R_lt (by (with_reducible repeat (first | apply Kd.R_alloc | apply Kd.R_drewN | apply Kd.R_drew)); exact HO704.out))) (below_size (by repeat (first | (with_reducible first | exact HB.out | apply below_alloc | apply pw_below_drewN | apply below_drew1) | exact HB.out)))); have n2_ := Aside0.mk (below_step (by repeat (first | (with_reducible first | exact HB.out | apply below_alloc | apply pw_below_drewN | apply below_drew1) | exact HB.out)) hb); clear HO704; clear HB; have HO704 := n0_; have HO708 := n1_; have HB := n2_; clear n0_ n1_ n2_; (try clear hb); (try clear hb2); (try clear hk); (try clear hi); (try clear ho0))); go_upto_region 9 with (first | (go_at_call 38; (with_reducible refine (fetch_Both.calls kj7 a0 _ _ l1 _ _ l2 t701 t702 _ ?side1 ?side2 ?side3 ?side4 A12.out).mono ?_); (case side1 => repeat (first | exact (Kd.C_below HR1.out HB.out) | (with_reducible refine Kd.C_alloc ?_ _) | (with_reducible refine Kd.C_drewN ?_ _) | (with_reducible refine Kd.C_drew ?_))); (case side2 => exact HC1.out); (case side3 => repeat (first | exact (Kd.C_below HR2.out HB.out) | (with_reducible refine Kd.C_alloc ?_ _) | (with_reducible refine Kd.C_drewN ?_ _) | (with_reducible refine Kd.C_drew ?_))); (case side4 => exact HC2.out); rintro e w15 ⟨v703, rfl, ho0, hb⟩; have n0_ := Aside0.mk (Kd.R_lower ho0 (below_size (by repeat (first | (with_reducible first | exact HB.out | apply below_alloc | apply pw_below_drewN | apply below_drew1) | exact HB.out)))); have n1_ := Aside0.mk (below_step (by repeat (first | (with_reducible first | exact HB.out | apply below_alloc | apply pw_below_drewN | apply below_drew1) | exact HB.out)) hb); clear HB; have HO704 := n0_; have HB := n1_; clear n0_ n1_; (try clear hb); (try clear hb2); (try clear hk); (try clear hi); (try clear ho0)) | (go_at_call 39; (with_reducible refine (trishawref09_Both.calls kj7 a0 _ _ l1 _ _ l2 t705 t706 _ ?side1 ?side2 ?side3 ?side4 A13.out).mono ?_); (case side1 => repeat (first | exact (Kd.C_below HR1.out HB.out) | (with_reducible refine Kd.C_alloc ?_ _) | (with_reducible refine Kd.C_drewN ?_ _) | (with_reducible refine Kd.C_drew ?_))); (case side2 => exact HC1.out); (case side3 => repeat (first | exact (Kd.C_below HR2.out HB.out) | (with_reducible refine Kd.C_alloc ?_ _) | (with_reducible refine Kd.C_drewN ?_ _) | (with_reducible refine Kd.C_drew ?_))); (case side4 => exact HC2.out); rintro e w16 ⟨v707, rfl, ho0, hb⟩; have n0_ := Aside0.mk (Kd.R_elder' (by (with_reducible repeat (first | apply Kd.R_alloc | apply Kd.R_drewN | apply Kd.R_drew)); exact HO704.out) (Kd.R_base ho0) hb); have n1_ := Aside0.mk (Kd.R_lower (Kd.R_new' ho0 (Kd.R_lt (by (with_reducible repeat (first | apply Kd.R_alloc | apply Kd.R_drewN | apply Kd.R_drew)); exact HO704.out))) (below_size (by repeat (first | (with_reducible first | exact HB.out | apply below_alloc | apply pw_below_drewN | apply below_drew1) | exact HB.out)))); have n2_ := Aside0.mk (below_step (by repeat (first | (with_reducible first | exact HB.out | apply below_alloc | apply pw_below_drewN | apply below_drew1) | exact HB.out)) hb); clear HO704; clear HB; have HO704 := n0_; have HO708 := n1_; have HB := n2_; clear n0_ n1_ n2_; (try clear hb); (try clear hb2); (try clear hk); (try clear hi); (try clear ho0))))
     (try simp only [Act.put, List.setIfInBounds_toArray, List.set_cons_zero, List.set_cons_succ])
     go_cut [67] (fun v67 wc => ∃ (kq : Nat) (x67_13 : Bool), v67 = .bool x67_13 ∧ Aside0 (trishawlaw09_FetchStrong.j1 kq a0 l1 t701 t705 x67_13 = some r) ∧ Aside0 (kq ≤ kj7) ∧ Aside0 (Kd.R k34 34 wc w.heap.size (fun k_ => some k_ ≠ (v707 : Value).ownBlock) v703 t701) ∧ Aside0 (Kd.R k34 34 wc w.heap.size (fun k_ => some k_ ≠ (v703 : Value).ownBlock) v707 t705) ∧ Aside0 (Below w.heap.size w wc))
     case first =>
      have H := HC14.out
      clear HC14
      by_cases c17 : (t701.length : Int) = (t705.length : Int)
      ·rw [if_pos c17] at H
       have c17b0 : ((t701.length : Int) == (t705.length : Int)) = true := beq_iff_eq.mpr c17
       have c17b1 : ((t701.length : Int) != (t705.length : Int)) = false := bne_eq_false_iff_eq.mpr c17
       have c17b2 : (t701.length == t705.length) = true := by first | simpa using c17 | (simp at c17 ⊢; omega)
       clear c17
       (first | rw [c17b0] | (simp only [i64_w, i32_w]; rw [c17b0]) | skip)
       have H' := Aside0.mk H
       clear H
       obtain ⟨Ao18, co18, eo18⟩ := Kd.R_slice HO704.out
       subst eo18
       obtain ⟨Ao19, co19, eo19⟩ := Kd.R_slice HO708.out
       subst eo19
       go_wp2
       repeat (go_quiet (fail); try go_wp2)
       go_meet
       case rel => exact ⟨_, ((t702 != t706)), (by first | rfl | (simp; done) | (simp [*]; done)), H', ⟨by have := HJ7.out; first | omega | exact Nat.le_refl _⟩, ⟨by (with_reducible repeat (first | apply Kd.R_alloc | apply Kd.R_drewN | apply Kd.R_drew)); exact Kd.R_mono HO704.out (fun _ hk => hk.2)⟩, ⟨by (with_reducible repeat (first | apply Kd.R_alloc | apply Kd.R_drewN | apply Kd.R_drew)); exact Kd.R_mono HO708.out (fun _ hk => hk.2)⟩, ⟨by repeat (first | (with_reducible first | exact HB.out | apply below_alloc | apply pw_below_drewN | apply below_drew1) | exact HB.out)⟩⟩
      ·rw [if_neg c17] at H
       exact absurd H (by simp)
     case rest =>
      clear HC14
      try clear c1
      try clear c2
      try clear p2
      try clear c5
      try clear c10
      try clear c10b0
      try clear c10b1
      try clear c10b2
      try clear c11
      try clear c13
      try clear c17
      try clear c17b0
      try clear c17b1
      try clear c17b2
      try clear p2
      obtain ⟨kq, x67_13, rfl, HA, HJ13, HO_11, HO_12, HB⟩ := hcut
      cases kq with
      | zero => exact absurd HA.out (by simp [trishawlaw09_FetchStrong.j1])
      | succ kj13 =>
       have H := HA.out
       clear HA
       simp only [trishawlaw09_FetchStrong.j1] at H
       by_cases c20 : x67_13 = true
       ·subst c20
        have H1 : (none) = some r := by rw [if_pos rfl] at H; exact H
        clear H
        have H := H1
        clear H1
        exact absurd H (by simp)
       ·replace c20 := Bool.eq_false_iff.mpr c20
        subst c20
        have H1 : (trishawlaw09_FetchStrong.l0 kj13 a0 l1 t701 t705 0) = some r := by rw [if_neg (show ¬ (false = true) by decide)] at H; exact H
        clear H
        have H := H1
        clear H1
        have H' := Aside0.mk H
        clear H
        go_wp2
        repeat (go_quiet (fail); try go_wp2)
        go_loopg [13] kj13 (fun kq v13 w' => ∃ (x13_3 : Int), v13 = .int .i64 x13_3 ∧ Aside0 (trishawlaw09_FetchStrong.l0 kq a0 l1 t701 t705 x13_3 = some r) ∧ Aside0 (kq ≤ kj13) ∧ Aside0 (Kd.R k34 34 w' w.heap.size (fun k_ => some k_ ≠ (v707 : Value).ownBlock) v703 t701) ∧ Aside0 (Kd.R k34 34 w' w.heap.size (fun k_ => some k_ ≠ (v703 : Value).ownBlock) v707 t705) ∧ Aside0 (Below w.heap.size w w'))
        case atStart => exact ⟨(0), (by first | rfl | (simp; done) | (simp [*]; done)), H', ⟨Nat.le_refl _⟩, ⟨by (with_reducible repeat (first | apply Kd.R_alloc | apply Kd.R_drewN | apply Kd.R_drew)); exact HO_11.out⟩, ⟨by (with_reducible repeat (first | apply Kd.R_alloc | apply Kd.R_drewN | apply Kd.R_drew)); exact HO_12.out⟩, ⟨by repeat (first | (with_reducible first | exact HB.out | apply below_alloc | apply pw_below_drewN | apply below_drew1) | exact HB.out)⟩⟩
        case round =>
         clear H'
         try clear c1
         try clear c2
         try clear p2
         try clear c5
         try clear c10
         try clear c10b0
         try clear c10b1
         try clear c10b2
         try clear c11
         try clear c13
         try clear c17
         try clear c17b0
         try clear c17b1
         try clear c17b2
         try clear c20
         try clear p2
         obtain ⟨x13_3, rfl, HA, HK3, HO_11, HO_12, HB⟩ := hrel
         cases gk with
         | zero => exact absurd HA.out (by simp [trishawlaw09_FetchStrong.l0])
         | succ k3 =>
          have H := HA.out
          clear HA
          simp only [trishawlaw09_FetchStrong.l0] at H
          by_cases c21 : x13_3 < (t701.length : Int)
          ·rw [if_pos c21] at H
           have c21b0 : decide (x13_3 < (t701.length : Int)) = true := decide_eq_true c21
           clear c21
           by_cases c22 : 0 ≤ x13_3
           ·rw [if_pos c22] at H
            have c22b0 : decide (0 ≤ x13_3) = true := decide_eq_true c22
            clear c22
            by_cases c23 : x13_3 < (t705.length : Int)
            ·rw [if_pos c23] at H
             have c23b0 : decide (x13_3 < (t705.length : Int)) = true := decide_eq_true c23
             clear c23
             by_cases c24 : (!(((rd_T34 t701 x13_3).f0) == ((rd_T34 t705 x13_3).f0)) || (!(((rd_T34 t701 x13_3).f1) == ((rd_T34 t705 x13_3).f1)))) = true
             ·rw [if_pos c24] at H
              exact absurd H (by simp)
             ·rw [if_neg c24] at H
              have c24b0 : (!(((rd_T34 t701 x13_3).f0) == ((rd_T34 t705 x13_3).f0)) || (!(((rd_T34 t701 x13_3).f1) == ((rd_T34 t705 x13_3).f1)))) = false := by simpa using c24
              clear c24
              have H' := Aside0.mk H
              clear H
              obtain ⟨Ao25, co25, eo25⟩ := Kd.R_slice HO_11.out
              subst eo25
              have p709 : 0 ≤ (x13_3 : Int) := of_decide_eq_true (by first | (with_reducible assumption) | assumption)
              have q709 : x13_3 < (t701.length : Int) := of_decide_eq_true (by first | (with_reducible assumption) | assumption)
              obtain ⟨ad709, e709, hx709_0, hx709_1⟩ := at_T34 (Kd.R_reads' HO_11.out).2.2 x13_3 p709 q709
              cases e709
              replace p709 := eq_true p709
              replace q709 := eq_true q709
              obtain ⟨Ao26, co26, eo26⟩ := Kd.R_slice HO_12.out
              subst eo26
              have p710 : 0 ≤ (x13_3 : Int) := of_decide_eq_true (by first | (with_reducible assumption) | assumption)
              have q710 : x13_3 < (t705.length : Int) := of_decide_eq_true (by first | (with_reducible assumption) | assumption)
              obtain ⟨ad710, e710, hx710_0, hx710_1⟩ := at_T34 (Kd.R_reads' HO_12.out).2.2 x13_3 p710 q710
              cases e710
              replace p710 := eq_true p710
              replace q710 := eq_true q710
              go_wp2
              repeat (go_quiet (fail); try go_wp2)
              go_roundg k3
              case measure => have := HJ7.out; have := HJ13.out; have := HK3.out; omega
              case rel => exact ⟨(wrap64 (x13_3 + 1)), (by first | rfl | (simp; done) | (simp [*]; done)), H', ⟨by have := HJ7.out; have := HJ13.out; have := HK3.out; omega⟩, ⟨by (with_reducible repeat (first | apply Kd.R_alloc | apply Kd.R_drewN | apply Kd.R_drew)); exact HO_11.out⟩, ⟨by (with_reducible repeat (first | apply Kd.R_alloc | apply Kd.R_drewN | apply Kd.R_drew)); exact HO_12.out⟩, ⟨by repeat (first | (with_reducible first | exact HB.out | apply below_alloc | apply pw_below_drewN | apply below_drew1) | exact HB.out)⟩⟩
            ·rw [if_neg c23] at H
             exact absurd H (by simp)
           ·rw [if_neg c22] at H
            exact absurd H (by simp)
          ·rw [if_neg c21] at H
           have c21b0 : decide (x13_3 < (t701.length : Int)) = false := decide_eq_false c21
           clear c21
           replace H := Option.bind_eq_some_iff.mp H
           obtain ⟨⟨t711, t712⟩, A270, H⟩ := H
           replace H : (trishawlaw09_FetchStrong.l1 k3 a0 l1 t712 t711 0) = some r := H
           have A27 := Aside0.mk A270
           clear A270
           have H' := Aside0.mk H
           clear H
           obtain ⟨Ao28, co28, eo28⟩ := Kd.R_slice HO_11.out
           subst eo28
           go_wp2_with (first | (go_at_call 40; (with_reducible refine (trishawref09_Parts.calls k3 a0 _ _ l1 t711 t712 _ ?side1 ?side2 A27.out).mono ?_); (case side1 => repeat (first | exact (Kd.C_below HR1.out HB.out) | (with_reducible refine Kd.C_alloc ?_ _) | (with_reducible refine Kd.C_drewN ?_ _) | (with_reducible refine Kd.C_drew ?_))); (case side2 => exact HC1.out); rintro e w29 ⟨v713, rfl, ho0, hb⟩; have n0_ := Aside0.mk (Kd.R_below (by (with_reducible repeat (first | apply Kd.R_alloc | apply Kd.R_drewN | apply Kd.R_drew)); exact HO_11.out) hb); have n1_ := Aside0.mk (Kd.R_below (by (with_reducible repeat (first | apply Kd.R_alloc | apply Kd.R_drewN | apply Kd.R_drew)); exact HO_12.out) hb); have n2_ := Aside0.mk (Kd.S_lower ho0 (below_size (by repeat (first | (with_reducible first | exact HB.out | apply below_alloc | apply pw_below_drewN | apply below_drew1) | exact HB.out)))); have n3_ := Aside0.mk (below_step (by repeat (first | (with_reducible first | exact HB.out | apply below_alloc | apply pw_below_drewN | apply below_drew1) | exact HB.out)) hb); clear HO_11; clear HO_12; clear HB; have HO_11 := n0_; have HO_12 := n1_; have HO714 := n2_; have HB := n3_; clear n0_ n1_ n2_ n3_; (try clear hb); (try clear hb2); (try clear hk); (try clear hi); (try clear ho0)))
           repeat (go_quiet (first | (go_at_call 40; (with_reducible refine (trishawref09_Parts.calls k3 a0 _ _ l1 t711 t712 _ ?side1 ?side2 A27.out).mono ?_); (case side1 => repeat (first | exact (Kd.C_below HR1.out HB.out) | (with_reducible refine Kd.C_alloc ?_ _) | (with_reducible refine Kd.C_drewN ?_ _) | (with_reducible refine Kd.C_drew ?_))); (case side2 => exact HC1.out); rintro e w29 ⟨v713, rfl, ho0, hb⟩; have n0_ := Aside0.mk (Kd.R_below (by (with_reducible repeat (first | apply Kd.R_alloc | apply Kd.R_drewN | apply Kd.R_drew)); exact HO_11.out) hb); have n1_ := Aside0.mk (Kd.R_below (by (with_reducible repeat (first | apply Kd.R_alloc | apply Kd.R_drewN | apply Kd.R_drew)); exact HO_12.out) hb); have n2_ := Aside0.mk (Kd.S_lower ho0 (below_size (by repeat (first | (with_reducible first | exact HB.out | apply below_alloc | apply pw_below_drewN | apply below_drew1) | exact HB.out)))); have n3_ := Aside0.mk (below_step (by repeat (first | (with_reducible first | exact HB.out | apply below_alloc | apply pw_below_drewN | apply below_drew1) | exact HB.out)) hb); clear HO_11; clear HO_12; clear HB; have HO_11 := n0_; have HO_12 := n1_; have HO714 := n2_; have HB := n3_; clear n0_ n1_ n2_ n3_; (try clear hb); (try clear hb2); (try clear hk); (try clear hi); (try clear ho0))); try go_wp2_with (first | (go_at_call 40; (with_reducible refine (trishawref09_Parts.calls k3 a0 _ _ l1 t711 t712 _ ?side1 ?side2 A27.out).mono ?_); (case side1 => repeat (first | exact (Kd.C_below HR1.out HB.out) | (with_reducible refine Kd.C_alloc ?_ _) | (with_reducible refine Kd.C_drewN ?_ _) | (with_reducible refine Kd.C_drew ?_))); (case side2 => exact HC1.out); rintro e w29 ⟨v713, rfl, ho0, hb⟩; have n0_ := Aside0.mk (Kd.R_below (by (with_reducible repeat (first | apply Kd.R_alloc | apply Kd.R_drewN | apply Kd.R_drew)); exact HO_11.out) hb); have n1_ := Aside0.mk (Kd.R_below (by (with_reducible repeat (first | apply Kd.R_alloc | apply Kd.R_drewN | apply Kd.R_drew)); exact HO_12.out) hb); have n2_ := Aside0.mk (Kd.S_lower ho0 (below_size (by repeat (first | (with_reducible first | exact HB.out | apply below_alloc | apply pw_below_drewN | apply below_drew1) | exact HB.out)))); have n3_ := Aside0.mk (below_step (by repeat (first | (with_reducible first | exact HB.out | apply below_alloc | apply pw_below_drewN | apply below_drew1) | exact HB.out)) hb); clear HO_11; clear HO_12; clear HB; have HO_11 := n0_; have HO_12 := n1_; have HO714 := n2_; have HB := n3_; clear n0_ n1_ n2_ n3_; (try clear hb); (try clear hb2); (try clear hk); (try clear hi); (try clear ho0))))
           go_loopg [15] k3 (fun kq v15 w' => ∃ (x14_4 : List (List Int)) (x15_4 : Int), v15 = .int .i64 x15_4 ∧ Aside0 (trishawlaw09_FetchStrong.l1 kq a0 l1 t712 x14_4 x15_4 = some r) ∧ Aside0 (kq ≤ k3) ∧ Aside0 (Kd.S (Kd.slice 3 (Kd.int .i64)) 23 w' w.heap.size (fun _ => True) v713 x14_4) ∧ Aside0 (Below w.heap.size w w'))
           case atStart => exact ⟨(t711), (0), (by first | rfl | (simp; done) | (simp [*]; done)), H', ⟨Nat.le_refl _⟩, ⟨by (with_reducible repeat (first | apply Kd.S_alloc | apply Kd.S_drewN | apply Kd.S_drew)); exact HO714.out⟩, ⟨by repeat (first | (with_reducible first | exact HB.out | apply below_alloc | apply pw_below_drewN | apply below_drew1) | exact HB.out)⟩⟩
           case round =>
            clear H'
            try clear c1
            try clear c2
            try clear p2
            try clear c5
            try clear p6
            try clear p7
            try clear q7
            try clear hx7
            try clear c10
            try clear c10b0
            try clear c10b1
            try clear c10b2
            try clear c11
            try clear c13
            try clear c17
            try clear c17b0
            try clear c17b1
            try clear c17b2
            try clear c20
            try clear c21
            try clear c21b0
            try clear c22
            try clear c22b0
            try clear c23
            try clear c23b0
            try clear c24
            try clear c24b0
            try clear hx709_0
            try clear hx709_1
            try clear hx710_0
            try clear hx710_1
            try clear p2
            try clear p709
            try clear p710
            try clear q709
            try clear q710
            obtain ⟨x14_4, x15_4, rfl, HA, HK4, HO_14, HB⟩ := hrel
            cases gk with
            | zero => exact absurd HA.out (by simp [trishawlaw09_FetchStrong.l1])
            | succ k4 =>
             have H := HA.out
             clear HA
             simp only [trishawlaw09_FetchStrong.l1] at H
             by_cases c30 : x15_4 < 2
             ·rw [if_pos c30] at H
              have c30b0 : decide (x15_4 < 2) = true := decide_eq_true c30
              clear c30
              replace H := Option.bind_eq_some_iff.mp H
              obtain ⟨⟨t716, t717⟩, A310, H⟩ := H
              replace H : (if (t716.length : Int) = (x14_4.length : Int) then (trishawlaw09_FetchStrong.j4 k4 a0 l1 t712 x14_4 x15_4 t716 (t717 != t712)) else (none)) = some r := H
              have A31 := Aside0.mk A310
              clear A310
              have HC32 := Aside0.mk H
              clear H
              go_upto_region 21 with (first | (go_at_call 41; (with_reducible refine (fetch_Parts.calls k4 a0 _ _ l1 t716 t717 _ ?side1 ?side2 A31.out).mono ?_); (case side1 => repeat (first | exact (Kd.C_below HR1.out HB.out) | (with_reducible refine Kd.C_alloc ?_ _) | (with_reducible refine Kd.C_drewN ?_ _) | (with_reducible refine Kd.C_drew ?_))); (case side2 => exact HC1.out); rintro e w33 ⟨v718, rfl, ho0, hb⟩; have n0_ := Aside0.mk (Kd.S_elder' (Kd.S_bound (by (with_reducible repeat (first | apply Kd.S_alloc | apply Kd.S_drewN | apply Kd.S_drew)); exact HO_14.out)) (Kd.S_base ho0) hb); have n1_ := Aside0.mk (Kd.S_lower (Kd.S_new' (Kd.S_bound ho0) (Kd.S_lt (by (with_reducible repeat (first | apply Kd.S_alloc | apply Kd.S_drewN | apply Kd.S_drew)); exact HO_14.out))) (below_size (by repeat (first | (with_reducible first | exact HB.out | apply below_alloc | apply pw_below_drewN | apply below_drew1) | exact HB.out)))); have n2_ := Aside0.mk (below_step (by repeat (first | (with_reducible first | exact HB.out | apply below_alloc | apply pw_below_drewN | apply below_drew1) | exact HB.out)) hb); clear HO_14; clear HB; have HO_14 := n0_; have HO719 := n1_; have HB := n2_; clear n0_ n1_ n2_; (try clear hb); (try clear hb2); (try clear hk); (try clear hi); (try clear ho0)))
              repeat (go_quiet (first | (go_at_call 41; (with_reducible refine (fetch_Parts.calls k4 a0 _ _ l1 t716 t717 _ ?side1 ?side2 A31.out).mono ?_); (case side1 => repeat (first | exact (Kd.C_below HR1.out HB.out) | (with_reducible refine Kd.C_alloc ?_ _) | (with_reducible refine Kd.C_drewN ?_ _) | (with_reducible refine Kd.C_drew ?_))); (case side2 => exact HC1.out); rintro e w33 ⟨v718, rfl, ho0, hb⟩; have n0_ := Aside0.mk (Kd.S_elder' (Kd.S_bound (by (with_reducible repeat (first | apply Kd.S_alloc | apply Kd.S_drewN | apply Kd.S_drew)); exact HO_14.out)) (Kd.S_base ho0) hb); have n1_ := Aside0.mk (Kd.S_lower (Kd.S_new' (Kd.S_bound ho0) (Kd.S_lt (by (with_reducible repeat (first | apply Kd.S_alloc | apply Kd.S_drewN | apply Kd.S_drew)); exact HO_14.out))) (below_size (by repeat (first | (with_reducible first | exact HB.out | apply below_alloc | apply pw_below_drewN | apply below_drew1) | exact HB.out)))); have n2_ := Aside0.mk (below_step (by repeat (first | (with_reducible first | exact HB.out | apply below_alloc | apply pw_below_drewN | apply below_drew1) | exact HB.out)) hb); clear HO_14; clear HB; have HO_14 := n0_; have HO719 := n1_; have HB := n2_; clear n0_ n1_ n2_; (try clear hb); (try clear hb2); (try clear hk); (try clear hi); (try clear ho0))); go_upto_region 21 with (first | (go_at_call 41; (with_reducible refine (fetch_Parts.calls k4 a0 _ _ l1 t716 t717 _ ?side1 ?side2 A31.out).mono ?_); (case side1 => repeat (first | exact (Kd.C_below HR1.out HB.out) | (with_reducible refine Kd.C_alloc ?_ _) | (with_reducible refine Kd.C_drewN ?_ _) | (with_reducible refine Kd.C_drew ?_))); (case side2 => exact HC1.out); rintro e w33 ⟨v718, rfl, ho0, hb⟩; have n0_ := Aside0.mk (Kd.S_elder' (Kd.S_bound (by (with_reducible repeat (first | apply Kd.S_alloc | apply Kd.S_drewN | apply Kd.S_drew)); exact HO_14.out)) (Kd.S_base ho0) hb); have n1_ := Aside0.mk (Kd.S_lower (Kd.S_new' (Kd.S_bound ho0) (Kd.S_lt (by (with_reducible repeat (first | apply Kd.S_alloc | apply Kd.S_drewN | apply Kd.S_drew)); exact HO_14.out))) (below_size (by repeat (first | (with_reducible first | exact HB.out | apply below_alloc | apply pw_below_drewN | apply below_drew1) | exact HB.out)))); have n2_ := Aside0.mk (below_step (by repeat (first | (with_reducible first | exact HB.out | apply below_alloc | apply pw_below_drewN | apply below_drew1) | exact HB.out)) hb); clear HO_14; clear HB; have HO_14 := n0_; have HO719 := n1_; have HB := n2_; clear n0_ n1_ n2_; (try clear hb); (try clear hb2); (try clear hk); (try clear hi); (try clear ho0))))
              (try simp only [Act.put, List.setIfInBounds_toArray, List.set_cons_zero, List.set_cons_succ])
              go_cut [108] (fun v108 wc => ∃ (kq : Nat) (x108_31 : Bool) (B_ : Nat), v108 = .bool x108_31 ∧ Aside0 (trishawlaw09_FetchStrong.j4 kq a0 l1 t712 x14_4 x15_4 t716 x108_31 = some r) ∧ Aside0 (kq ≤ k4) ∧ Aside0 (Kd.S (Kd.slice 3 (Kd.int .i64)) 23 wc w.heap.size (fun k_ => some k_ ≠ (v718 : Value).ownBlock ∧ k_ < B_) v713 x14_4) ∧ Aside0 (Kd.S (Kd.slice 3 (Kd.int .i64)) 23 wc w.heap.size (fun k_ => some k_ ≠ (v713 : Value).ownBlock ∧ B_ ≤ k_) v718 t716) ∧ Aside0 (Below w.heap.size w wc))
              case first =>
               have H := HC32.out
               clear HC32
               by_cases c34 : (t716.length : Int) = (x14_4.length : Int)
               ·rw [if_pos c34] at H
                have c34b0 : ((t716.length : Int) == (x14_4.length : Int)) = true := beq_iff_eq.mpr c34
                have c34b1 : ((t716.length : Int) != (x14_4.length : Int)) = false := bne_eq_false_iff_eq.mpr c34
                have c34b2 : (t716.length == x14_4.length) = true := by first | simpa using c34 | (simp at c34 ⊢; omega)
                clear c34
                (first | rw [c34b0] | (simp only [i64_w, i32_w]; rw [c34b0]) | skip)
                have H' := Aside0.mk H
                clear H
                obtain ⟨Ao35, co35, eo35⟩ := Kd.S_slice HO719.out
                subst eo35
                obtain ⟨Ao36, co36, eo36⟩ := Kd.S_slice HO_14.out
                subst eo36
                go_wp2
                repeat (go_quiet (fail); try go_wp2)
                go_meet
                case rel => exact ⟨_, ((t717 != t712)), wr.heap.size, (by first | rfl | (simp; done) | (simp [*]; done)), H', ⟨by have := HJ7.out; have := HJ13.out; have := HK3.out; have := HK4.out; first | omega | exact Nat.le_refl _⟩, ⟨by (with_reducible repeat (first | apply Kd.S_alloc | apply Kd.S_drewN | apply Kd.S_drew)); exact Kd.S_mono HO_14.out (fun _ hk => ⟨hk.2, hk.1.2.2.1⟩)⟩, ⟨by (with_reducible repeat (first | apply Kd.S_alloc | apply Kd.S_drewN | apply Kd.S_drew)); exact Kd.S_mono HO719.out (fun _ hk => ⟨hk.2, hk.1.2.1⟩)⟩, ⟨by repeat (first | (with_reducible first | exact HB.out | apply below_alloc | apply pw_below_drewN | apply below_drew1) | exact HB.out)⟩⟩
               ·rw [if_neg c34] at H
                exact absurd H (by simp)
              case rest =>
               clear HC32
               try clear c1
               try clear c2
               try clear p2
               try clear c3
               try clear c5
               try clear p6
               try clear p7
               try clear q7
               try clear hx7
               try clear c10
               try clear c10b0
               try clear c10b1
               try clear c10b2
               try clear c11
               try clear c13
               try clear c17
               try clear c17b0
               try clear c17b1
               try clear c17b2
               try clear c20
               try clear c21
               try clear c21b0
               try clear c22
               try clear c22b0
               try clear c23
               try clear c23b0
               try clear c24
               try clear c24b0
               try clear c30
               try clear c30b0
               try clear c34
               try clear c34b0
               try clear c34b1
               try clear c34b2
               try clear hx709_0
               try clear hx709_1
               try clear hx710_0
               try clear hx710_1
               try clear p2
               try clear p6
               try clear p7
               try clear p709
               try clear p710
               try clear q7
               try clear q709
               try clear q710
               obtain ⟨kq, x108_31, B_, rfl, HA, HJ31, HO_14, HO_16, HB⟩ := hcut
               cases kq with
               | zero => exact absurd HA.out (by simp [trishawlaw09_FetchStrong.j4])
               | succ kj31 =>
                have H := HA.out
                clear HA
                simp only [trishawlaw09_FetchStrong.j4] at H
                by_cases c37 : x108_31 = true
                ·subst c37
                 have H1 : (none) = some r := by rw [if_pos rfl] at H; exact H
                 clear H
                 have H := H1
                 clear H1
                 exact absurd H (by simp)
                ·replace c37 := Bool.eq_false_iff.mpr c37
                 subst c37
                 have H1 : (trishawlaw09_FetchStrong.l2 kj31 a0 l1 t712 x14_4 x15_4 t716 0) = some r := by rw [if_neg (show ¬ (false = true) by decide)] at H; exact H
                 clear H
                 have H := H1
                 clear H1
                 have H' := Aside0.mk H
                 clear H
                 go_wp2
                 repeat (go_quiet (fail); try go_wp2)
                 go_loopg [18] kj31 (fun kq v18 w' => ∃ (x16_6 : List (List Int)) (x18_6 : Int), v18 = .int .i64 x18_6 ∧ Aside0 (trishawlaw09_FetchStrong.l2 kq a0 l1 t712 x14_4 x15_4 x16_6 x18_6 = some r) ∧ Aside0 (kq ≤ kj31) ∧ Aside0 (Kd.S (Kd.slice 3 (Kd.int .i64)) 23 w' w.heap.size (fun k_ => some k_ ≠ (v718 : Value).ownBlock ∧ k_ < B_) v713 x14_4) ∧ Aside0 (Kd.S (Kd.slice 3 (Kd.int .i64)) 23 w' w.heap.size (fun k_ => some k_ ≠ (v713 : Value).ownBlock ∧ B_ ≤ k_) v718 x16_6) ∧ Aside0 (Below w.heap.size w w'))
                 case atStart => exact ⟨(t716), (0), (by first | rfl | (simp; done) | (simp [*]; done)), H', ⟨Nat.le_refl _⟩, ⟨by (with_reducible repeat (first | apply Kd.S_alloc | apply Kd.S_drewN | apply Kd.S_drew)); exact HO_14.out⟩, ⟨by (with_reducible repeat (first | apply Kd.S_alloc | apply Kd.S_drewN | apply Kd.S_drew)); exact HO_16.out⟩, ⟨by repeat (first | (with_reducible first | exact HB.out | apply below_alloc | apply pw_below_drewN | apply below_drew1) | exact HB.out)⟩⟩
                 case round =>
                  clear H'
                  try clear c1
                  try clear c2
                  try clear p2
                  try clear c3
                  try clear c5
                  try clear p6
                  try clear p7
                  try clear q7
                  try clear hx7
                  try clear c10
                  try clear c10b0
                  try clear c10b1
                  try clear c10b2
                  try clear c11
                  try clear c13
                  try clear c17
                  try clear c17b0
                  try clear c17b1
                  try clear c17b2
                  try clear c20
                  try clear c21
                  try clear c21b0
                  try clear c22
                  try clear c22b0
                  try clear c23
                  try clear c23b0
                  try clear c24
                  try clear c24b0
                  try clear c30
                  try clear c30b0
                  try clear c34
                  try clear c34b0
                  try clear c34b1
                  try clear c34b2
                  try clear c37
                  try clear hx709_0
                  try clear hx709_1
                  try clear hx710_0
                  try clear hx710_1
                  try clear p2
                  try clear p6
                  try clear p7
                  try clear p709
                  try clear p710
                  try clear q7
                  try clear q709
                  try clear q710
                  obtain ⟨x16_6, x18_6, rfl, HA, HK6, HO_14, HO_16, HB⟩ := hrel
                  cases gk with
                  | zero => exact absurd HA.out (by simp [trishawlaw09_FetchStrong.l2])
                  | succ k6 =>
                   have H := HA.out
                   clear HA
                   simp only [trishawlaw09_FetchStrong.l2] at H
                   by_cases c38 : x18_6 < (x16_6.length : Int)
                   ·rw [if_pos c38] at H
                    have c38b0 : decide (x18_6 < (x16_6.length : Int)) = true := decide_eq_true c38
                    clear c38
                    by_cases c39 : 0 ≤ x18_6
                    ·rw [if_pos c39] at H
                     have c39b0 : decide (0 ≤ x18_6) = true := decide_eq_true c39
                     clear c39
                     by_cases c40 : x18_6 < (x14_4.length : Int)
                     ·rw [if_pos c40] at H
                      have c40b0 : decide (x18_6 < (x14_4.length : Int)) = true := decide_eq_true c40
                      clear c40
                      replace H := Option.bind_eq_some_iff.mp H
                      obtain ⟨t722, A410, H⟩ := H
                      replace H : (if t722 = true then (if 0 < ((rd_L1 x16_6 x18_6).length : Int) then (trishawlaw09_FetchStrong.l2 k6 a0 l1 t712 x14_4 x15_4 (x16_6.set (x18_6 : Int).toNat ((rd_L1 x16_6 x18_6).set (0 : Int).toNat (-1))) (wrap64 (x18_6 + 1))) else (none)) else (none)) = some r := H
                      have A41 := Aside0.mk A410
                      clear A410
                      by_cases c42 : t722 = true
                      ·subst c42
                       have H1 : (if 0 < ((rd_L1 x16_6 x18_6).length : Int) then (trishawlaw09_FetchStrong.l2 k6 a0 l1 t712 x14_4 x15_4 (x16_6.set (x18_6 : Int).toNat ((rd_L1 x16_6 x18_6).set (0 : Int).toNat (-1))) (wrap64 (x18_6 + 1))) else (none)) = some r := by rw [if_pos rfl] at H; exact H
                       clear H
                       have H := H1
                       clear H1
                       by_cases c43 : 0 < ((rd_L1 x16_6 x18_6).length : Int)
                       ·rw [if_pos c43] at H
                        have c43b0 : decide (0 < ((rd_L1 x16_6 x18_6).length : Int)) = true := decide_eq_true c43
                        have c43b1 : decide (0 < (rd_L1 x16_6 x18_6).length) = true := decide_eq_true (by omega)
                        clear c43
                        obtain ⟨y724, hy724⟩ : ∃ y_ : List Int, y_ = ((rd_L1 x16_6 x18_6).set (0 : Int).toNat (-1)) := ⟨_, rfl⟩
                        replace H : (trishawlaw09_FetchStrong.l2 k6 a0 l1 t712 x14_4 x15_4 (x16_6.set (x18_6 : Int).toNat y724) (wrap64 (x18_6 + 1))) = some r := by first | (rw [hy724]; with_reducible exact H) | (have H2_ := (Option.bind_some _ _).symm.trans H; rw [hy724]; with_reducible exact H2_) | (have H2_ := (Option.bind_some _ _).symm.trans H; with_reducible exact H2_) | with_reducible exact H | (rw [hy724]; exact H) | exact H
                        have Ny724 := Aside0.mk hy724
                        clear hy724
                        obtain ⟨y726, hy726⟩ : ∃ y_ : List (List Int), y_ = (x16_6.set (x18_6 : Int).toNat y724) := ⟨_, rfl⟩
                        replace H : (trishawlaw09_FetchStrong.l2 k6 a0 l1 t712 x14_4 x15_4 y726 (wrap64 (x18_6 + 1))) = some r := by first | (rw [hy726]; with_reducible exact H) | (have H2_ := (Option.bind_some _ _).symm.trans H; rw [hy726]; with_reducible exact H2_) | (have H2_ := (Option.bind_some _ _).symm.trans H; with_reducible exact H2_) | with_reducible exact H | (rw [hy726]; exact H) | exact H
                        have Ny726 := Aside0.mk hy726
                        clear hy726
                        have H' := Aside0.mk H
                        clear H
                        obtain ⟨Ao45, co45, eo45⟩ := Kd.S_slice HO_16.out
                        subst eo45
                        have p720 : 0 ≤ (x18_6 : Int) := of_decide_eq_true (by first | (with_reducible assumption) | assumption)
                        have q720 : x18_6 < (x16_6.length : Int) := of_decide_eq_true (by first | (with_reducible assumption) | assumption)
                        obtain ⟨ad720, A720_0, c720_0, e720, hx720_0, hl720_0, hi720_0⟩ := at_L1 (Kd.S_reads' HO_16.out).2.2 x18_6 p720 q720
                        cases e720
                        obtain ⟨ce720, hce720, hMe720, hcc720⟩ := Kd.S_get HO_16.out [] x18_6 p720 (by first | exact q720 | exact of_decide_eq_true (by first | (with_reducible assumption) | assumption) | (have e_ := (Kd.S_reads' HO_16.out).1; omega))
                        obtain ⟨ve720_0, rfl, ge720_0⟩ := hMe720
                        have hv720_0 := hcc720 0 _ rfl
                        rw [Nat.add_zero, show ((Kd.slice 3 (Kd.int .i64))).sz = 1 from rfl, Nat.mul_one] at hv720_0
                        replace hv720_0 := Option.some.inj (hv720_0.symm.trans hx720_0)
                        rw [hv720_0] at ge720_0
                        have HL720_0 := Aside0.mk (show Kd.R (Kd.int .i64) 3 _ _ _ _ (rd_L1 x16_6 x18_6) from ge720_0)
                        clear hv720_0 ge720_0
                        have HX720_0 := Aside0.mk hx720_0
                        clear hcc720 hce720
                        have HR720_0 := Aside0.mk hi720_0
                        have HC720_0 := Aside0.mk hl720_0
                        clear hi720_0 hl720_0
                        replace p720 := eq_true p720
                        replace q720 := eq_true q720
                        obtain ⟨Ao46, co46, eo46⟩ := Kd.S_slice HO_14.out
                        subst eo46
                        have p721 : 0 ≤ (x18_6 : Int) := of_decide_eq_true (by first | (with_reducible assumption) | assumption)
                        have q721 : x18_6 < (x14_4.length : Int) := of_decide_eq_true (by first | (with_reducible assumption) | assumption)
                        obtain ⟨ad721, A721_0, c721_0, e721, hx721_0, hl721_0, hi721_0⟩ := at_L1 (Kd.S_reads' HO_14.out).2.2 x18_6 p721 q721
                        cases e721
                        obtain ⟨ce721, hce721, hMe721, hcc721⟩ := Kd.S_get HO_14.out [] x18_6 p721 (by first | exact q721 | exact of_decide_eq_true (by first | (with_reducible assumption) | assumption) | (have e_ := (Kd.S_reads' HO_14.out).1; omega))
                        obtain ⟨ve721_0, rfl, ge721_0⟩ := hMe721
                        have hv721_0 := hcc721 0 _ rfl
                        rw [Nat.add_zero, show ((Kd.slice 3 (Kd.int .i64))).sz = 1 from rfl, Nat.mul_one] at hv721_0
                        replace hv721_0 := Option.some.inj (hv721_0.symm.trans hx721_0)
                        rw [hv721_0] at ge721_0
                        have HL721_0 := Aside0.mk (show Kd.R (Kd.int .i64) 3 _ _ _ _ (rd_L1 x14_4 x18_6) from ge721_0)
                        clear hv721_0 ge721_0
                        have HX721_0 := Aside0.mk hx721_0
                        clear hcc721 hce721
                        have HR721_0 := Aside0.mk hi721_0
                        have HC721_0 := Aside0.mk hl721_0
                        clear hi721_0 hl721_0
                        replace p721 := eq_true p721
                        replace q721 := eq_true q721
                        go_wp2_with (first | (go_at_call 20; (with_reducible refine (trishawlaw09_same.calls k6 _ _ (rd_L1 x16_6 x18_6) _ _ (rd_L1 x14_4 x18_6) true _ ?side1 ?side2 ?side3 ?side4 A41.out).mono ?_); (case side1 => repeat (first | exact (by repeat (first | (with_reducible exact HR720_0.out) | (with_reducible refine Kd.C_alloc ?_ _) | (with_reducible refine Kd.C_drewN ?_ _) | (with_reducible refine Kd.C_drew ?_) | exact HR720_0.out)) | (with_reducible refine Kd.C_alloc ?_ _) | (with_reducible refine Kd.C_drewN ?_ _) | (with_reducible refine Kd.C_drew ?_))); (case side2 => exact HC720_0.out); (case side3 => repeat (first | exact (by repeat (first | (with_reducible exact HR721_0.out) | (with_reducible refine Kd.C_alloc ?_ _) | (with_reducible refine Kd.C_drewN ?_ _) | (with_reducible refine Kd.C_drew ?_) | exact HR721_0.out)) | (with_reducible refine Kd.C_alloc ?_ _) | (with_reducible refine Kd.C_drewN ?_ _) | (with_reducible refine Kd.C_drew ?_))); (case side4 => exact HC721_0.out); rintro e w' ⟨rfl, ⟨nd, rfl⟩⟩; (try first | exact ⟨rfl, _, World.drewN_drewN _ _ _⟩ | exact ⟨rfl, _, Eq.trans (World.drewN_drewN _ _ _) (congrArg (World.drewN _) (Nat.add_assoc _ _ _))⟩); have p723 : 0 ≤ (x18_6 : Int) := of_decide_eq_true (by first | (with_reducible assumption) | assumption); have q723 : x18_6 < (x16_6.length : Int) := of_decide_eq_true (by first | (with_reducible assumption) | assumption); obtain ⟨ad723, A723_0, c723_0, e723, hx723_0, hl723_0, hi723_0⟩ := at_L1 (Kd.S_reads' HO_16.out).2.2 x18_6 p723 q723; obtain rfl : ad720 = ad723 := (by injection e723); obtain ⟨ce723, hce723, hMe723, hcc723⟩ := Kd.S_get HO_16.out [] x18_6 p723 (by first | exact q723 | exact of_decide_eq_true (by first | (with_reducible assumption) | assumption) | (have e_ := (Kd.S_reads' HO_16.out).1; omega)); obtain ⟨ve723_0, rfl, ge723_0⟩ := hMe723; have hv723_0 := hcc723 0 _ rfl; rw [Nat.add_zero, show ((Kd.slice 3 (Kd.int .i64))).sz = 1 from rfl, Nat.mul_one] at hv723_0; replace hv723_0 := Option.some.inj (hv723_0.symm.trans hx723_0); rw [hv723_0] at ge723_0; have HL723_0 := Aside0.mk (show Kd.R (Kd.int .i64) 3 _ _ _ _ (rd_L1 x16_6 x18_6) from ge723_0); clear hv723_0 ge723_0; have HX723_0 := Aside0.mk hx723_0; clear hcc723 hce723; have HR723_0 := Aside0.mk hi723_0; have HC723_0 := Aside0.mk hl723_0; clear hi723_0 hl723_0; replace p723 := eq_true p723; replace q723 := eq_true q723; have ea_ := Option.some.inj (hx720_0.symm.trans hx723_0); injection ea_ with ea_ en_ ec_; subst ea_; subst ec_; clear en_; have p44 : 0 ≤ (0 : Int) := (by omega); have q44 : (0 : Int) < (((rd_L1 x16_6 x18_6).length : Int) : Int) := of_decide_eq_true (by first | (with_reducible assumption) | assumption); have qi44 : (0 < (rd_L1 x16_6 x18_6).length) = True := eq_true (by omega); obtain ⟨go44, co44, eo44, gb44, gl44, cl44, HG44⟩ := Kd.R_form HL723_0.out (by omega); (first | cases eo44 | (injection eo44 with ea_ en_ ec_; (first | subst ea_ | (injection ea_ with ea_; subst ea_)); subst ec_; clear en_)); have GB44 := Aside0.mk gb44; have GG44 := Aside0.mk HG44; clear gb44 gl44 HG44; obtain ⟨hx44_0, hf44_0⟩ := Kd.R_celln 0 HL723_0.out (0 : Int) p44 q44; (try rw [show ((0 : Int)).toNat = 0 from rfl] at hx44_0); (try simp only [Nat.reduceMul, Nat.zero_mul, Nat.zero_add, Nat.reduceAdd] at hx44_0); (try rw [show ((0 : Int)).toNat = 0 from rfl] at hf44_0); (try simp only [Nat.reduceMul, Nat.zero_mul, Nat.zero_add, Nat.reduceAdd] at hf44_0); replace p44 := eq_true p44; replace q44 := eq_true q44; have hq47 : (x18_6 : Int) < (x16_6.length : Int) := (by have h_ : (x18_6 : Int) < ((x16_6.length : Int) : Int) := of_decide_eq_true (by first | (with_reducible assumption) | assumption); first | exact h_ | (have e_ := (Kd.S_reads' HO_16.out).1; omega) | simpa only [List.length_set, List.length_set] using h_); obtain ⟨oki47, ce47, hcl47, hM47, hcc47, hok47, hbk47⟩ := Kd.S_borrow HO_16.out [] (x18_6 : Int) (of_decide_eq_true (by first | (with_reducible assumption) | assumption)) hq47; obtain ⟨ve47_0, rfl, ge47_0⟩ := hM47; have hv47 := hcc47 0 _ rfl; rw [Nat.add_zero, show ((Kd.slice 3 (Kd.int .i64))).sz = 1 from rfl, Nat.mul_one] at hv47; replace hv47 := Option.some.inj (hv47.symm.trans HX723_0.out); subst hv47; clear hcc47 hcl47; replace ge47_0 := (show Kd.R (Kd.int .i64) 3 _ _ _ _ (rd_L1 x16_6 x18_6) from ge47_0); have HP47 := Kd.R_putg ge47_0 (0 : Int) (-1)) | ((with_reducible refine gate_store (t := 3) (p := 129) rfl ?_); obtain ⟨oki47, ce47, hcl47, hM47, hcc47, hok47, hbk47⟩ := Kd.S_borrow (Kd.S_drewN HO_16.out nq) [] (x18_6 : Int) (of_decide_eq_true (by first | (with_reducible assumption) | assumption)) hq47; obtain ⟨ve47_0, rfl, ge47_0⟩ := hM47; have hv47 := hcc47 0 _ rfl; rw [Nat.add_zero, show ((Kd.slice 3 (Kd.int .i64))).sz = 1 from rfl, Nat.mul_one] at hv47; replace hv47 := Option.some.inj (hv47.symm.trans HX723_0.out); subst hv47; clear hcc47 hcl47; replace ge47_0 := (show Kd.R (Kd.int .i64) 3 _ _ _ _ (rd_L1 x16_6 x18_6) from ge47_0); have HP47 := Kd.R_putg ge47_0 (0 : Int) (-1); refine store_event (t := 3) (p := 129) (v := ?vo_w48) (w1 := ((wr.drewN nq).setCell ⟨go44, 0, none⟩ (.int .i64 (-1)))) ?hg ?ho ?hn ?hr ?_; (case ho => rfl); (case hg => rfl); (case hn => rfl); (case hr => first | (go_simp; done) | (go_simp; rfl)); intro w48 hw; have hg : (wr.drewN nq).grownBy w48 (some go44) := (by rw [hw]; exact HP47.2); have hz_ : Kd.R (Kd.int .i64) 3 w48 w.heap.size oki47 (.slice (some ⟨go44, 0, none⟩) (rd_L1 x16_6 x18_6).length c720_0) y724 := (by rw [hw, Ny724.out]; exact HP47.1); have hp_ : Kd.S (Kd.slice 3 (Kd.int .i64)) 23 w48 w.heap.size (fun k_ => some k_ ≠ (.slice (some ad721) x14_4.length co46 : Value).ownBlock ∧ B_ ≤ k_) (.slice (some ad720) x16_6.length co45) y726 := (by rw [Ny726.out]; exact hbk47 hg (fun k_ e_ => by injection e_ with e_; subst e_; exact ge47_0.1 _ rfl) (Kd.M_row hz_)); have hB_ : B_ ≤ go44 := (hok47 go44 (ge47_0.1 go44 rfl)).1.2; have hm_ := Kd.R_mono hz_ hok47; clear HP47 hbk47; have n0_ := Aside0.mk (Kd.S_grown (by (with_reducible repeat (first | apply Kd.S_alloc | apply Kd.S_drewN | apply Kd.S_drew)); exact HO_14.out) hg (fun k_ hk_ e_ => by injection e_ with e_; have := hk_.2; omega)); have n1_ := Aside0.mk (hp_); have n2_ := Aside0.mk ((by rw [hw]; exact below_set (pw_below_drewN HB.out nq) GB44.out : Below w.heap.size w w48)); have n3_ := Aside0.mk (hm_); have n4_ := Aside0.mk ((Kd.R_reads' hm_).2.1); clear HO_14; clear HO_16; clear HB; clear HL720_0; clear HL721_0; clear HL723_0; have HO_14 := n0_; have HO_16 := n1_; have HB := n2_; have HL727 := n3_; have HC725 := n4_; clear n0_ n1_ n2_ n3_ n4_; clear hg hw hp_ hz_ hm_ hok47))
                        repeat (go_quiet (first | (go_at_call 20; (with_reducible refine (trishawlaw09_same.calls k6 _ _ (rd_L1 x16_6 x18_6) _ _ (rd_L1 x14_4 x18_6) true _ ?side1 ?side2 ?side3 ?side4 A41.out).mono ?_); (case side1 => repeat (first | exact (by repeat (first | (with_reducible exact HR720_0.out) | (with_reducible refine Kd.C_alloc ?_ _) | (with_reducible refine Kd.C_drewN ?_ _) | (with_reducible refine Kd.C_drew ?_) | exact HR720_0.out)) | (with_reducible refine Kd.C_alloc ?_ _) | (with_reducible refine Kd.C_drewN ?_ _) | (with_reducible refine Kd.C_drew ?_))); (case side2 => exact HC720_0.out); (case side3 => repeat (first | exact (by repeat (first | (with_reducible exact HR721_0.out) | (with_reducible refine Kd.C_alloc ?_ _) | (with_reducible refine Kd.C_drewN ?_ _) | (with_reducible refine Kd.C_drew ?_) | exact HR721_0.out)) | (with_reducible refine Kd.C_alloc ?_ _) | (with_reducible refine Kd.C_drewN ?_ _) | (with_reducible refine Kd.C_drew ?_))); (case side4 => exact HC721_0.out); rintro e w' ⟨rfl, ⟨nd, rfl⟩⟩; (try first | exact ⟨rfl, _, World.drewN_drewN _ _ _⟩ | exact ⟨rfl, _, Eq.trans (World.drewN_drewN _ _ _) (congrArg (World.drewN _) (Nat.add_assoc _ _ _))⟩); have p723 : 0 ≤ (x18_6 : Int) := of_decide_eq_true (by first | (with_reducible assumption) | assumption); have q723 : x18_6 < (x16_6.length : Int) := of_decide_eq_true (by first | (with_reducible assumption) | assumption); obtain ⟨ad723, A723_0, c723_0, e723, hx723_0, hl723_0, hi723_0⟩ := at_L1 (Kd.S_reads' HO_16.out).2.2 x18_6 p723 q723; obtain rfl : ad720 = ad723 := (by injection e723); obtain ⟨ce723, hce723, hMe723, hcc723⟩ := Kd.S_get HO_16.out [] x18_6 p723 (by first | exact q723 | exact of_decide_eq_true (by first | (with_reducible assumption) | assumption) | (have e_ := (Kd.S_reads' HO_16.out).1; omega)); obtain ⟨ve723_0, rfl, ge723_0⟩ := hMe723; have hv723_0 := hcc723 0 _ rfl; rw [Nat.add_zero, show ((Kd.slice 3 (Kd.int .i64))).sz = 1 from rfl, Nat.mul_one] at hv723_0; replace hv723_0 := Option.some.inj (hv723_0.symm.trans hx723_0); rw [hv723_0] at ge723_0; have HL723_0 := Aside0.mk (show Kd.R (Kd.int .i64) 3 _ _ _ _ (rd_L1 x16_6 x18_6) from ge723_0); clear hv723_0 ge723_0; have HX723_0 := Aside0.mk hx723_0; clear hcc723 hce723; have HR723_0 := Aside0.mk hi723_0; have HC723_0 := Aside0.mk hl723_0; clear hi723_0 hl723_0; replace p723 := eq_true p723; replace q723 := eq_true q723; have ea_ := Option.some.inj (hx720_0.symm.trans hx723_0); injection ea_ with ea_ en_ ec_; subst ea_; subst ec_; clear en_; have p44 : 0 ≤ (0 : Int) := (by omega); have q44 : (0 : Int) < (((rd_L1 x16_6 x18_6).length : Int) : Int) := of_decide_eq_true (by first | (with_reducible assumption) | assumption); have qi44 : (0 < (rd_L1 x16_6 x18_6).length) = True := eq_true (by omega); obtain ⟨go44, co44, eo44, gb44, gl44, cl44, HG44⟩ := Kd.R_form HL723_0.out (by omega); (first | cases eo44 | (injection eo44 with ea_ en_ ec_; (first | subst ea_ | (injection ea_ with ea_; subst ea_)); subst ec_; clear en_)); have GB44 := Aside0.mk gb44; have GG44 := Aside0.mk HG44; clear gb44 gl44 HG44; obtain ⟨hx44_0, hf44_0⟩ := Kd.R_celln 0 HL723_0.out (0 : Int) p44 q44; (try rw [show ((0 : Int)).toNat = 0 from rfl] at hx44_0); (try simp only [Nat.reduceMul, Nat.zero_mul, Nat.zero_add, Nat.reduceAdd] at hx44_0); (try rw [show ((0 : Int)).toNat = 0 from rfl] at hf44_0); (try simp only [Nat.reduceMul, Nat.zero_mul, Nat.zero_add, Nat.reduceAdd] at hf44_0); replace p44 := eq_true p44; replace q44 := eq_true q44; have hq47 : (x18_6 : Int) < (x16_6.length : Int) := (by have h_ : (x18_6 : Int) < ((x16_6.length : Int) : Int) := of_decide_eq_true (by first | (with_reducible assumption) | assumption); first | exact h_ | (have e_ := (Kd.S_reads' HO_16.out).1; omega) | simpa only [List.length_set, List.length_set] using h_); obtain ⟨oki47, ce47, hcl47, hM47, hcc47, hok47, hbk47⟩ := Kd.S_borrow HO_16.out [] (x18_6 : Int) (of_decide_eq_true (by first | (with_reducible assumption) | assumption)) hq47; obtain ⟨ve47_0, rfl, ge47_0⟩ := hM47; have hv47 := hcc47 0 _ rfl; rw [Nat.add_zero, show ((Kd.slice 3 (Kd.int .i64))).sz = 1 from rfl, Nat.mul_one] at hv47; replace hv47 := Option.some.inj (hv47.symm.trans HX723_0.out); subst hv47; clear hcc47 hcl47; replace ge47_0 := (show Kd.R (Kd.int .i64) 3 _ _ _ _ (rd_L1 x16_6 x18_6) from ge47_0); have HP47 := Kd.R_putg ge47_0 (0 : Int) (-1)) | ((with_reducible refine gate_store (t := 3) (p := 129) rfl ?_); obtain ⟨oki47, ce47, hcl47, hM47, hcc47, hok47, hbk47⟩ := Kd.S_borrow (Kd.S_drewN HO_16.out nq) [] (x18_6 : Int) (of_decide_eq_true (by first | (with_reducible assumption) | assumption)) hq47; obtain ⟨ve47_0, rfl, ge47_0⟩ := hM47; have hv47 := hcc47 0 _ rfl; rw [Nat.add_zero, show ((Kd.slice 3 (Kd.int .i64))).sz = 1 from rfl, Nat.mul_one] at hv47; replace hv47 := Option.some.inj (hv47.symm.trans HX723_0.out); subst hv47; clear hcc47 hcl47; replace ge47_0 := (show Kd.R (Kd.int .i64) 3 _ _ _ _ (rd_L1 x16_6 x18_6) from ge47_0); have HP47 := Kd.R_putg ge47_0 (0 : Int) (-1); refine store_event (t := 3) (p := 129) (v := ?vo_w48) (w1 := ((wr.drewN nq).setCell ⟨go44, 0, none⟩ (.int .i64 (-1)))) ?hg ?ho ?hn ?hr ?_; (case ho => rfl); (case hg => rfl); (case hn => rfl); (case hr => first | (go_simp; done) | (go_simp; rfl)); intro w48 hw; have hg : (wr.drewN nq).grownBy w48 (some go44) := (by rw [hw]; exact HP47.2); have hz_ : Kd.R (Kd.int .i64) 3 w48 w.heap.size oki47 (.slice (some ⟨go44, 0, none⟩) (rd_L1 x16_6 x18_6).length c720_0) y724 := (by rw [hw, Ny724.out]; exact HP47.1); have hp_ : Kd.S (Kd.slice 3 (Kd.int .i64)) 23 w48 w.heap.size (fun k_ => some k_ ≠ (.slice (some ad721) x14_4.length co46 : Value).ownBlock ∧ B_ ≤ k_) (.slice (some ad720) x16_6.length co45) y726 := (by rw [Ny726.out]; exact hbk47 hg (fun k_ e_ => by injection e_ with e_; subst e_; exact ge47_0.1 _ rfl) (Kd.M_row hz_)); have hB_ : B_ ≤ go44 := (hok47 go44 (ge47_0.1 go44 rfl)).1.2; have hm_ := Kd.R_mono hz_ hok47; clear HP47 hbk47; have n0_ := Aside0.mk (Kd.S_grown (by (with_reducible repeat (first | apply Kd.S_alloc | apply Kd.S_drewN | apply Kd.S_drew)); exact HO_14.out) hg (fun k_ hk_ e_ => by injection e_ with e_; have := hk_.2; omega)); have n1_ := Aside0.mk (hp_); have n2_ := Aside0.mk ((by rw [hw]; exact below_set (pw_below_drewN HB.out nq) GB44.out : Below w.heap.size w w48)); have n3_ := Aside0.mk (hm_); have n4_ := Aside0.mk ((Kd.R_reads' hm_).2.1); clear HO_14; clear HO_16; clear HB; clear HL720_0; clear HL721_0; clear HL723_0; have HO_14 := n0_; have HO_16 := n1_; have HB := n2_; have HL727 := n3_; have HC725 := n4_; clear n0_ n1_ n2_ n3_ n4_; clear hg hw hp_ hz_ hm_ hok47)); try go_wp2_with (first | (go_at_call 20; (with_reducible refine (trishawlaw09_same.calls k6 _ _ (rd_L1 x16_6 x18_6) _ _ (rd_L1 x14_4 x18_6) true _ ?side1 ?side2 ?side3 ?side4 A41.out).mono ?_); (case side1 => repeat (first | exact (by repeat (first | (with_reducible exact HR720_0.out) | (with_reducible refine Kd.C_alloc ?_ _) | (with_reducible refine Kd.C_drewN ?_ _) | (with_reducible refine Kd.C_drew ?_) | exact HR720_0.out)) | (with_reducible refine Kd.C_alloc ?_ _) | (with_reducible refine Kd.C_drewN ?_ _) | (with_reducible refine Kd.C_drew ?_))); (case side2 => exact HC720_0.out); (case side3 => repeat (first | exact (by repeat (first | (with_reducible exact HR721_0.out) | (with_reducible refine Kd.C_alloc ?_ _) | (with_reducible refine Kd.C_drewN ?_ _) | (with_reducible refine Kd.C_drew ?_) | exact HR721_0.out)) | (with_reducible refine Kd.C_alloc ?_ _) | (with_reducible refine Kd.C_drewN ?_ _) | (with_reducible refine Kd.C_drew ?_))); (case side4 => exact HC721_0.out); rintro e w' ⟨rfl, ⟨nd, rfl⟩⟩; (try first | exact ⟨rfl, _, World.drewN_drewN _ _ _⟩ | exact ⟨rfl, _, Eq.trans (World.drewN_drewN _ _ _) (congrArg (World.drewN _) (Nat.add_assoc _ _ _))⟩); have p723 : 0 ≤ (x18_6 : Int) := of_decide_eq_true (by first | (with_reducible assumption) | assumption); have q723 : x18_6 < (x16_6.length : Int) := of_decide_eq_true (by first | (with_reducible assumption) | assumption); obtain ⟨ad723, A723_0, c723_0, e723, hx723_0, hl723_0, hi723_0⟩ := at_L1 (Kd.S_reads' HO_16.out).2.2 x18_6 p723 q723; obtain rfl : ad720 = ad723 := (by injection e723); obtain ⟨ce723, hce723, hMe723, hcc723⟩ := Kd.S_get HO_16.out [] x18_6 p723 (by first | exact q723 | exact of_decide_eq_true (by first | (with_reducible assumption) | assumption) | (have e_ := (Kd.S_reads' HO_16.out).1; omega)); obtain ⟨ve723_0, rfl, ge723_0⟩ := hMe723; have hv723_0 := hcc723 0 _ rfl; rw [Nat.add_zero, show ((Kd.slice 3 (Kd.int .i64))).sz = 1 from rfl, Nat.mul_one] at hv723_0; replace hv723_0 := Option.some.inj (hv723_0.symm.trans hx723_0); rw [hv723_0] at ge723_0; have HL723_0 := Aside0.mk (show Kd.R (Kd.int .i64) 3 _ _ _ _ (rd_L1 x16_6 x18_6) from ge723_0); clear hv723_0 ge723_0; have HX723_0 := Aside0.mk hx723_0; clear hcc723 hce723; have HR723_0 := Aside0.mk hi723_0; have HC723_0 := Aside0.mk hl723_0; clear hi723_0 hl723_0; replace p723 := eq_true p723; replace q723 := eq_true q723; have ea_ := Option.some.inj (hx720_0.symm.trans hx723_0); injection ea_ with ea_ en_ ec_; subst ea_; subst ec_; clear en_; have p44 : 0 ≤ (0 : Int) := (by omega); have q44 : (0 : Int) < (((rd_L1 x16_6 x18_6).length : Int) : Int) := of_decide_eq_true (by first | (with_reducible assumption) | assumption); have qi44 : (0 < (rd_L1 x16_6 x18_6).length) = True := eq_true (by omega); obtain ⟨go44, co44, eo44, gb44, gl44, cl44, HG44⟩ := Kd.R_form HL723_0.out (by omega); (first | cases eo44 | (injection eo44 with ea_ en_ ec_; (first | subst ea_ | (injection ea_ with ea_; subst ea_)); subst ec_; clear en_)); have GB44 := Aside0.mk gb44; have GG44 := Aside0.mk HG44; clear gb44 gl44 HG44; obtain ⟨hx44_0, hf44_0⟩ := Kd.R_celln 0 HL723_0.out (0 : Int) p44 q44; (try rw [show ((0 : Int)).toNat = 0 from rfl] at hx44_0); (try simp only [Nat.reduceMul, Nat.zero_mul, Nat.zero_add, Nat.reduceAdd] at hx44_0); (try rw [show ((0 : Int)).toNat = 0 from rfl] at hf44_0); (try simp only [Nat.reduceMul, Nat.zero_mul, Nat.zero_add, Nat.reduceAdd] at hf44_0); replace p44 := eq_true p44; replace q44 := eq_true q44; have hq47 : (x18_6 : Int) < (x16_6.length : Int) := (by have h_ : (x18_6 : Int) < ((x16_6.length : Int) : Int) := of_decide_eq_true (by first | (with_reducible assumption) | assumption); first | exact h_ | (have e_ := (Kd.S_reads' HO_16.out).1; omega) | simpa only [List.length_set, List.length_set] using h_); obtain ⟨oki47, ce47, hcl47, hM47, hcc47, hok47, hbk47⟩ := Kd.S_borrow HO_16.out [] (x18_6 : Int) (of_decide_eq_true (by first | (with_reducible assumption) | assumption)) hq47; obtain ⟨ve47_0, rfl, ge47_0⟩ := hM47; have hv47 := hcc47 0 _ rfl; rw [Nat.add_zero, show ((Kd.slice 3 (Kd.int .i64))).sz = 1 from rfl, Nat.mul_one] at hv47; replace hv47 := Option.some.inj (hv47.symm.trans HX723_0.out); subst hv47; clear hcc47 hcl47; replace ge47_0 := (show Kd.R (Kd.int .i64) 3 _ _ _ _ (rd_L1 x16_6 x18_6) from ge47_0); have HP47 := Kd.R_putg ge47_0 (0 : Int) (-1)) | ((with_reducible refine gate_store (t := 3) (p := 129) rfl ?_); obtain ⟨oki47, ce47, hcl47, hM47, hcc47, hok47, hbk47⟩ := Kd.S_borrow (Kd.S_drewN HO_16.out nq) [] (x18_6 : Int) (of_decide_eq_true (by first | (with_reducible assumption) | assumption)) hq47; obtain ⟨ve47_0, rfl, ge47_0⟩ := hM47; have hv47 := hcc47 0 _ rfl; rw [Nat.add_zero, show ((Kd.slice 3 (Kd.int .i64))).sz = 1 from rfl, Nat.mul_one] at hv47; replace hv47 := Option.some.inj (hv47.symm.trans HX723_0.out); subst hv47; clear hcc47 hcl47; replace ge47_0 := (show Kd.R (Kd.int .i64) 3 _ _ _ _ (rd_L1 x16_6 x18_6) from ge47_0); have HP47 := Kd.R_putg ge47_0 (0 : Int) (-1); refine store_event (t := 3) (p := 129) (v := ?vo_w48) (w1 := ((wr.drewN nq).setCell ⟨go44, 0, none⟩ (.int .i64 (-1)))) ?hg ?ho ?hn ?hr ?_; (case ho => rfl); (case hg => rfl); (case hn => rfl); (case hr => first | (go_simp; done) | (go_simp; rfl)); intro w48 hw; have hg : (wr.drewN nq).grownBy w48 (some go44) := (by rw [hw]; exact HP47.2); have hz_ : Kd.R (Kd.int .i64) 3 w48 w.heap.size oki47 (.slice (some ⟨go44, 0, none⟩) (rd_L1 x16_6 x18_6).length c720_0) y724 := (by rw [hw, Ny724.out]; exact HP47.1); have hp_ : Kd.S (Kd.slice 3 (Kd.int .i64)) 23 w48 w.heap.size (fun k_ => some k_ ≠ (.slice (some ad721) x14_4.length co46 : Value).ownBlock ∧ B_ ≤ k_) (.slice (some ad720) x16_6.length co45) y726 := (by rw [Ny726.out]; exact hbk47 hg (fun k_ e_ => by injection e_ with e_; subst e_; exact ge47_0.1 _ rfl) (Kd.M_row hz_)); have hB_ : B_ ≤ go44 := (hok47 go44 (ge47_0.1 go44 rfl)).1.2; have hm_ := Kd.R_mono hz_ hok47; clear HP47 hbk47; have n0_ := Aside0.mk (Kd.S_grown (by (with_reducible repeat (first | apply Kd.S_alloc | apply Kd.S_drewN | apply Kd.S_drew)); exact HO_14.out) hg (fun k_ hk_ e_ => by injection e_ with e_; have := hk_.2; omega)); have n1_ := Aside0.mk (hp_); have n2_ := Aside0.mk ((by rw [hw]; exact below_set (pw_below_drewN HB.out nq) GB44.out : Below w.heap.size w w48)); have n3_ := Aside0.mk (hm_); have n4_ := Aside0.mk ((Kd.R_reads' hm_).2.1); clear HO_14; clear HO_16; clear HB; clear HL720_0; clear HL721_0; clear HL723_0; have HO_14 := n0_; have HO_16 := n1_; have HB := n2_; have HL727 := n3_; have HC725 := n4_; clear n0_ n1_ n2_ n3_ n4_; clear hg hw hp_ hz_ hm_ hok47)))
                        go_roundg k6
                        case measure => have := HJ7.out; have := HJ13.out; have := HK3.out; have := HK4.out; have := HJ31.out; have := HK6.out; omega
                        case rel => exact ⟨(y726), (wrap64 (x18_6 + 1)), (by first | rfl | (simp; done) | (simp [*]; done)), H', ⟨by have := HJ7.out; have := HJ13.out; have := HK3.out; have := HK4.out; have := HJ31.out; have := HK6.out; omega⟩, ⟨by (with_reducible repeat (first | apply Kd.S_alloc | apply Kd.S_drewN | apply Kd.S_drew)); exact HO_14.out⟩, ⟨by (with_reducible repeat (first | apply Kd.S_alloc | apply Kd.S_drewN | apply Kd.S_drew)); exact HO_16.out⟩, ⟨by repeat (first | (with_reducible first | exact HB.out | apply below_alloc | apply pw_below_drewN | apply below_drew1) | exact HB.out)⟩⟩
                       ·rw [if_neg c43] at H
                        exact absurd H (by simp)
                      ·replace c42 := Bool.eq_false_iff.mpr c42
                       subst c42
                       have H1 : (none) = some r := by rw [if_neg (show ¬ (false = true) by decide)] at H; exact H
                       clear H
                       have H := H1
                       clear H1
                       exact absurd H (by simp)
                     ·rw [if_neg c40] at H
                      exact absurd H (by simp)
                    ·rw [if_neg c39] at H
                     exact absurd H (by simp)
                   ·rw [if_neg c38] at H
                    have c38b0 : decide (x18_6 < (x16_6.length : Int)) = false := decide_eq_false c38
                    clear c38
                    have H' := Aside0.mk H
                    clear H
                    obtain ⟨Ao49, co49, eo49⟩ := Kd.S_slice HO_16.out
                    subst eo49
                    go_wp2
                    repeat (go_quiet (fail); try go_wp2)
                    go_roundg k6
                    case measure => have := HJ7.out; have := HJ13.out; have := HK3.out; have := HK4.out; have := HJ31.out; have := HK6.out; omega
                    case rel => exact ⟨(x14_4), (wrap64 (x15_4 + 1)), (by first | rfl | (simp; done) | (simp [*]; done)), H', ⟨by have := HJ7.out; have := HJ13.out; have := HK3.out; have := HK4.out; have := HJ31.out; have := HK6.out; omega⟩, ⟨by (with_reducible repeat (first | apply Kd.S_alloc | apply Kd.S_drewN | apply Kd.S_drew)); exact Kd.S_mono HO_14.out (fun _ hk => trivial)⟩, ⟨by repeat (first | (with_reducible first | exact HB.out | apply below_alloc | apply pw_below_drewN | apply below_drew1) | exact HB.out)⟩⟩
             ·rw [if_neg c30] at H
              have c30b0 : decide (x15_4 < 2) = false := decide_eq_false c30
              clear c30
              replace H := Option.bind_eq_some_iff.mp H
              obtain ⟨t715, A500, H⟩ := H
              replace H : (some t715) = some r := H
              have A50 := Aside0.mk A500
              clear A500
              obtain rfl := Option.some.inj H
              go_wp2_with (first | (go_at_call 17; (with_reducible refine (trishawlaw09_alive.calls k4  t715 _ A50.out).mono ?_); rintro e w51 ⟨rfl, hb⟩; have n0_ := Aside0.mk (Kd.S_below (by (with_reducible repeat (first | apply Kd.S_alloc | apply Kd.S_drewN | apply Kd.S_drew)); exact HO_14.out) hb); have n1_ := Aside0.mk (below_step (by repeat (first | (with_reducible first | exact HB.out | apply below_alloc | apply pw_below_drewN | apply below_drew1) | exact HB.out)) hb); clear HO_14; clear HB; have HO_14 := n0_; have HB := n1_; clear n0_ n1_; (try clear hb); (try clear hb2); (try clear hk); (try clear hi)))
              repeat (go_quiet (first | (go_at_call 17; (with_reducible refine (trishawlaw09_alive.calls k4  t715 _ A50.out).mono ?_); rintro e w51 ⟨rfl, hb⟩; have n0_ := Aside0.mk (Kd.S_below (by (with_reducible repeat (first | apply Kd.S_alloc | apply Kd.S_drewN | apply Kd.S_drew)); exact HO_14.out) hb); have n1_ := Aside0.mk (below_step (by repeat (first | (with_reducible first | exact HB.out | apply below_alloc | apply pw_below_drewN | apply below_drew1) | exact HB.out)) hb); clear HO_14; clear HB; have HO_14 := n0_; have HB := n1_; clear n0_ n1_; (try clear hb); (try clear hb2); (try clear hk); (try clear hi))); try go_wp2_with (first | (go_at_call 17; (with_reducible refine (trishawlaw09_alive.calls k4  t715 _ A50.out).mono ?_); rintro e w51 ⟨rfl, hb⟩; have n0_ := Aside0.mk (Kd.S_below (by (with_reducible repeat (first | apply Kd.S_alloc | apply Kd.S_drewN | apply Kd.S_drew)); exact HO_14.out) hb); have n1_ := Aside0.mk (below_step (by repeat (first | (with_reducible first | exact HB.out | apply below_alloc | apply pw_below_drewN | apply below_drew1) | exact HB.out)) hb); clear HO_14; clear HB; have HO_14 := n0_; have HB := n1_; clear n0_ n1_; (try clear hb); (try clear hb2); (try clear hk); (try clear hi))))
              go_ret
              exact ⟨by first | rfl | (simp [errW_none, errW_some] <;> rfl) | (simp [*, errW_none, errW_some] <;> rfl), by repeat (first | (with_reducible first | exact HB.out | apply below_alloc | apply pw_below_drewN | apply below_drew1) | exact HB.out)⟩
 ·replace c5 := Bool.eq_false_iff.mpr c5
  subst c5
  have H1 : ((trishawlaw09_alive.f k).bind fun t696 => (some t696)) = some r := by rw [if_neg (show ¬ (false = true) by decide)] at H; exact H
  clear H
  have H := H1
  clear H1
  replace H := Option.bind_eq_some_iff.mp H
  obtain ⟨t696, A520, H⟩ := H
  replace H : (some t696) = some r := H
  have A52 := Aside0.mk A520
  clear A520
  obtain rfl := Option.some.inj H
  go_enter Try.func13, Try.ntmps13
  go_wp2_with (first | (go_at_call 16; (with_reducible refine (trishawlaw09_few.calls _ _ l1 _ _ l2 false _ ?side1 ?side2 ?side3 ?side4 A4.out).mono ?_); (case side1 => repeat (first | exact HR1.out | (with_reducible refine Kd.C_alloc ?_ _) | (with_reducible refine Kd.C_drewN ?_ _) | (with_reducible refine Kd.C_drew ?_))); (case side2 => exact HC1.out); (case side3 => repeat (first | exact HR2.out | (with_reducible refine Kd.C_alloc ?_ _) | (with_reducible refine Kd.C_drewN ?_ _) | (with_reducible refine Kd.C_drew ?_))); (case side4 => exact HC2.out); rintro e w' ⟨rfl, ⟨nd, rfl⟩⟩; (try first | exact ⟨rfl, _, World.drewN_drewN _ _ _⟩ | exact ⟨rfl, _, Eq.trans (World.drewN_drewN _ _ _) (congrArg (World.drewN _) (Nat.add_assoc _ _ _))⟩)) | (go_at_call 17; (with_reducible refine (trishawlaw09_alive.calls k  t696 _ A52.out).mono ?_); rintro e w53 ⟨rfl, hb⟩; have n0_ := Aside0.mk (below_step (by repeat (first | (with_reducible first | exact HB.out | apply below_alloc | apply pw_below_drewN | apply below_drew1) | exact HB.out)) hb); clear HB; have HB := n0_; clear n0_; (try clear hb); (try clear hb2); (try clear hk); (try clear hi)))
  repeat (go_quiet (first | (go_at_call 16; (with_reducible refine (trishawlaw09_few.calls _ _ l1 _ _ l2 false _ ?side1 ?side2 ?side3 ?side4 A4.out).mono ?_); (case side1 => repeat (first | exact HR1.out | (with_reducible refine Kd.C_alloc ?_ _) | (with_reducible refine Kd.C_drewN ?_ _) | (with_reducible refine Kd.C_drew ?_))); (case side2 => exact HC1.out); (case side3 => repeat (first | exact HR2.out | (with_reducible refine Kd.C_alloc ?_ _) | (with_reducible refine Kd.C_drewN ?_ _) | (with_reducible refine Kd.C_drew ?_))); (case side4 => exact HC2.out); rintro e w' ⟨rfl, ⟨nd, rfl⟩⟩; (try first | exact ⟨rfl, _, World.drewN_drewN _ _ _⟩ | exact ⟨rfl, _, Eq.trans (World.drewN_drewN _ _ _) (congrArg (World.drewN _) (Nat.add_assoc _ _ _))⟩)) | (go_at_call 17; (with_reducible refine (trishawlaw09_alive.calls k  t696 _ A52.out).mono ?_); rintro e w53 ⟨rfl, hb⟩; have n0_ := Aside0.mk (below_step (by repeat (first | (with_reducible first | exact HB.out | apply below_alloc | apply pw_below_drewN | apply below_drew1) | exact HB.out)) hb); clear HB; have HB := n0_; clear n0_; (try clear hb); (try clear hb2); (try clear hk); (try clear hi))); try go_wp2_with (first | (go_at_call 16; (with_reducible refine (trishawlaw09_few.calls _ _ l1 _ _ l2 false _ ?side1 ?side2 ?side3 ?side4 A4.out).mono ?_); (case side1 => repeat (first | exact HR1.out | (with_reducible refine Kd.C_alloc ?_ _) | (with_reducible refine Kd.C_drewN ?_ _) | (with_reducible refine Kd.C_drew ?_))); (case side2 => exact HC1.out); (case side3 => repeat (first | exact HR2.out | (with_reducible refine Kd.C_alloc ?_ _) | (with_reducible refine Kd.C_drewN ?_ _) | (with_reducible refine Kd.C_drew ?_))); (case side4 => exact HC2.out); rintro e w' ⟨rfl, ⟨nd, rfl⟩⟩; (try first | exact ⟨rfl, _, World.drewN_drewN _ _ _⟩ | exact ⟨rfl, _, Eq.trans (World.drewN_drewN _ _ _) (congrArg (World.drewN _) (Nat.add_assoc _ _ _))⟩)) | (go_at_call 17; (with_reducible refine (trishawlaw09_alive.calls k  t696 _ A52.out).mono ?_); rintro e w53 ⟨rfl, hb⟩; have n0_ := Aside0.mk (below_step (by repeat (first | (with_reducible first | exact HB.out | apply below_alloc | apply pw_below_drewN | apply below_drew1) | exact HB.out)) hb); clear HB; have HB := n0_; clear n0_; (try clear hb); (try clear hb2); (try clear hk); (try clear hi))))
  go_ret
  exact ⟨by first | rfl | (simp [errW_none, errW_some] <;> rfl) | (simp [*, errW_none, errW_some] <;> rfl), by repeat (first | (with_reducible first | exact HB.out | apply below_alloc | apply pw_below_drewN | apply below_drew1) | exact HB.out)⟩
end Go.Proofs.Ytjbfbdanbpfplaa.OAll
