/- A part of the proof of 'stampRohrbach_holds', for every input, without a condition. -/
import Derived.Test.YthbalcbibmdpnaaSRoRt
import Derived.Test.YthbalcbibmdpnaaSRoRr
import Derived.Test.YthbalcbibmdpnaaSRoOAllx0
import Derived.Test.YthbalcbibmdpnaaSRoOAllx1
import Derived.Test.YthbalcbibmdpnaaSRoOAllx2
import Derived.Test.YthbalcbibmdpnaaSRoOAllx3
import Derived.Test.YthbalcbibmdpnaaSRoRq
import Derived.Test.YthbalcbibmdpnaaSRoRm
namespace Go.Proofs.Ythbalcbibmdpnaa.OAll
open Go.RowKit Go.Proofs.YthbalcbibmdpnaaW.PrintWords Go.Proofs.YthbalcbibmdpnaaW.PrintLast Go.Proofs.YthbalcbibmdpnaaW.PrintMore
attribute [local go_sem] max2_int min2_int max_two min_two max_three min_three max_four min_four
set_option linter.unusedVariables false
set_option linter.unusedSimpArgs false
def trishawlaw04_StampRohrbach.f (k : Nat) (a0 : Int) : Option (Bool) := (stamp_Best.f k (wrap64 (1 + (wrap64 (Int.tmod a0 6)))) 1).bind fun bt274 => ((stamp_Best.f k (wrap64 (1 + (wrap64 (Int.tmod a0 6)))) 2).bind fun bt279 => ((stamp_Range.f k (wrap64 (1 + (wrap64 (Int.tmod a0 6)))) bt279.1).bind fun bt284 => (if bt274.2.2 = 0 then (if bt279.2.2 = 0 then (if bt284.2 = 0 then ((trishawlaw04_same.f k bt274.1 (([1] : List Int))).bind fun t289 => (if t289 = true then (if bt274.2.1 = (wrap64 (1 + (wrap64 (Int.tmod a0 6)))) then (if bt279.2.1 = (wrap64 (Int.tdiv (wrap64 ((wrap64 ((wrap64 ((wrap64 (1 + (wrap64 (Int.tmod a0 6)))) * (wrap64 (1 + (wrap64 (Int.tmod a0 6)))))) + (wrap64 (6 * (wrap64 (1 + (wrap64 (Int.tmod a0 6)))))))) + 1)) 4)) then (if bt284.1 = bt279.2.1 then ((trishawlaw04_alive.f k).bind fun t290 => (some t290)) else (none)) else (none)) else (none)) else (none))) else (none)) else (none)) else (none))))
set_option maxHeartbeats 8000000 in
set_option maxRecDepth 100000 in
theorem trishawlaw04_StampRohrbach.calls (k : Nat) (a0 : Int) (r : Bool) (w : World) (h : trishawlaw04_StampRohrbach.f k a0 = some r) :
  Calls Try.prog 7 #[.int .u8 a0] w fun e w' => e = .returned (.bool r) ∧ Below w.heap.size w w' := by
 have HB := Aside0.mk (Below.refl w.heap.size w)
 have H : ((stamp_Best.f k (wrap64 (1 + (wrap64 (Int.tmod a0 6)))) 1).bind fun bt274 => ((stamp_Best.f k (wrap64 (1 + (wrap64 (Int.tmod a0 6)))) 2).bind fun bt279 => ((stamp_Range.f k (wrap64 (1 + (wrap64 (Int.tmod a0 6)))) bt279.1).bind fun bt284 => (if bt274.2.2 = 0 then (if bt279.2.2 = 0 then (if bt284.2 = 0 then ((trishawlaw04_same.f k bt274.1 (([1] : List Int))).bind fun t289 => (if t289 = true then (if bt274.2.1 = (wrap64 (1 + (wrap64 (Int.tmod a0 6)))) then (if bt279.2.1 = (wrap64 (Int.tdiv (wrap64 ((wrap64 ((wrap64 ((wrap64 (1 + (wrap64 (Int.tmod a0 6)))) * (wrap64 (1 + (wrap64 (Int.tmod a0 6)))))) + (wrap64 (6 * (wrap64 (1 + (wrap64 (Int.tmod a0 6)))))))) + 1)) 4)) then (if bt284.1 = bt279.2.1 then ((trishawlaw04_alive.f k).bind fun t290 => (some t290)) else (none)) else (none)) else (none)) else (none))) else (none)) else (none)) else (none))))) = some r := h
 clear h
 replace H := Option.bind_eq_some_iff.mp H
 obtain ⟨⟨t274, t275, t276⟩, A20, H⟩ := H
 replace H : ((stamp_Best.f k (wrap64 (1 + (wrap64 (Int.tmod a0 6)))) 2).bind fun bt279 => ((stamp_Range.f k (wrap64 (1 + (wrap64 (Int.tmod a0 6)))) bt279.1).bind fun bt284 => (if t276 = 0 then (if bt279.2.2 = 0 then (if bt284.2 = 0 then ((trishawlaw04_same.f k t274 (([1] : List Int))).bind fun t289 => (if t289 = true then (if t275 = (wrap64 (1 + (wrap64 (Int.tmod a0 6)))) then (if bt279.2.1 = (wrap64 (Int.tdiv (wrap64 ((wrap64 ((wrap64 ((wrap64 (1 + (wrap64 (Int.tmod a0 6)))) * (wrap64 (1 + (wrap64 (Int.tmod a0 6)))))) + (wrap64 (6 * (wrap64 (1 + (wrap64 (Int.tmod a0 6)))))))) + 1)) 4)) then (if bt284.1 = bt279.2.1 then ((trishawlaw04_alive.f k).bind fun t290 => (some t290)) else (none)) else (none)) else (none)) else (none))) else (none)) else (none)) else (none)))) = some r := H
 have A2 := Aside0.mk A20
 clear A20
 replace H := Option.bind_eq_some_iff.mp H
 obtain ⟨⟨t279, t280, t281⟩, A30, H⟩ := H
 replace H : ((stamp_Range.f k (wrap64 (1 + (wrap64 (Int.tmod a0 6)))) t279).bind fun bt284 => (if t276 = 0 then (if t281 = 0 then (if bt284.2 = 0 then ((trishawlaw04_same.f k t274 (([1] : List Int))).bind fun t289 => (if t289 = true then (if t275 = (wrap64 (1 + (wrap64 (Int.tmod a0 6)))) then (if t280 = (wrap64 (Int.tdiv (wrap64 ((wrap64 ((wrap64 ((wrap64 (1 + (wrap64 (Int.tmod a0 6)))) * (wrap64 (1 + (wrap64 (Int.tmod a0 6)))))) + (wrap64 (6 * (wrap64 (1 + (wrap64 (Int.tmod a0 6)))))))) + 1)) 4)) then (if bt284.1 = t280 then ((trishawlaw04_alive.f k).bind fun t290 => (some t290)) else (none)) else (none)) else (none)) else (none))) else (none)) else (none)) else (none))) = some r := H
 have A3 := Aside0.mk A30
 clear A30
 replace H := Option.bind_eq_some_iff.mp H
 obtain ⟨⟨t284, t285⟩, A40, H⟩ := H
 replace H : (if t276 = 0 then (if t281 = 0 then (if t285 = 0 then ((trishawlaw04_same.f k t274 (([1] : List Int))).bind fun t289 => (if t289 = true then (if t275 = (wrap64 (1 + (wrap64 (Int.tmod a0 6)))) then (if t280 = (wrap64 (Int.tdiv (wrap64 ((wrap64 ((wrap64 ((wrap64 (1 + (wrap64 (Int.tmod a0 6)))) * (wrap64 (1 + (wrap64 (Int.tmod a0 6)))))) + (wrap64 (6 * (wrap64 (1 + (wrap64 (Int.tmod a0 6)))))))) + 1)) 4)) then (if t284 = t280 then ((trishawlaw04_alive.f k).bind fun t290 => (some t290)) else (none)) else (none)) else (none)) else (none))) else (none)) else (none)) else (none)) = some r := H
 have A4 := Aside0.mk A40
 clear A40
 by_cases c5 : t276 = 0
 ·rw [if_pos c5] at H
  have c5b0 : (t276 == 0) = true := beq_iff_eq.mpr c5
  have c5b1 : (t276 != 0) = false := bne_eq_false_iff_eq.mpr c5
  clear c5
  by_cases c6 : t281 = 0
  ·rw [if_pos c6] at H
   have c6b0 : (t281 == 0) = true := beq_iff_eq.mpr c6
   have c6b1 : (t281 != 0) = false := bne_eq_false_iff_eq.mpr c6
   clear c6
   by_cases c7 : t285 = 0
   ·rw [if_pos c7] at H
    have c7b0 : (t285 == 0) = true := beq_iff_eq.mpr c7
    have c7b1 : (t285 != 0) = false := bne_eq_false_iff_eq.mpr c7
    clear c7
    obtain ⟨y286, hy286⟩ : ∃ y_ : List Int, y_ = (([1] : List Int)) := ⟨_, rfl⟩
    replace H : ((trishawlaw04_same.f k t274 y286).bind fun t289 => (if t289 = true then (if t275 = (wrap64 (1 + (wrap64 (Int.tmod a0 6)))) then (if t280 = (wrap64 (Int.tdiv (wrap64 ((wrap64 ((wrap64 ((wrap64 (1 + (wrap64 (Int.tmod a0 6)))) * (wrap64 (1 + (wrap64 (Int.tmod a0 6)))))) + (wrap64 (6 * (wrap64 (1 + (wrap64 (Int.tmod a0 6)))))))) + 1)) 4)) then (if t284 = t280 then ((trishawlaw04_alive.f k).bind fun t290 => (some t290)) else (none)) else (none)) else (none)) else (none))) = some r := by first | (rw [hy286]; with_reducible exact H) | (have H2_ := (Option.bind_some _ _).symm.trans H; rw [hy286]; with_reducible exact H2_) | (have H2_ := (Option.bind_some _ _).symm.trans H; with_reducible exact H2_) | with_reducible exact H | (rw [hy286]; exact H) | exact H
    have Ny286 := Aside0.mk hy286
    clear hy286
    replace H := Option.bind_eq_some_iff.mp H
    obtain ⟨t289, A80, H⟩ := H
    replace H : (if t289 = true then (if t275 = (wrap64 (1 + (wrap64 (Int.tmod a0 6)))) then (if t280 = (wrap64 (Int.tdiv (wrap64 ((wrap64 ((wrap64 ((wrap64 (1 + (wrap64 (Int.tmod a0 6)))) * (wrap64 (1 + (wrap64 (Int.tmod a0 6)))))) + (wrap64 (6 * (wrap64 (1 + (wrap64 (Int.tmod a0 6)))))))) + 1)) 4)) then (if t284 = t280 then ((trishawlaw04_alive.f k).bind fun t290 => (some t290)) else (none)) else (none)) else (none)) else (none)) = some r := H
    have A8 := Aside0.mk A80
    clear A80
    by_cases c9 : t289 = true
    ·subst c9
     have H1 : (if t275 = (wrap64 (1 + (wrap64 (Int.tmod a0 6)))) then (if t280 = (wrap64 (Int.tdiv (wrap64 ((wrap64 ((wrap64 ((wrap64 (1 + (wrap64 (Int.tmod a0 6)))) * (wrap64 (1 + (wrap64 (Int.tmod a0 6)))))) + (wrap64 (6 * (wrap64 (1 + (wrap64 (Int.tmod a0 6)))))))) + 1)) 4)) then (if t284 = t280 then ((trishawlaw04_alive.f k).bind fun t290 => (some t290)) else (none)) else (none)) else (none)) = some r := by rw [if_pos rfl] at H; exact H
     clear H
     have H := H1
     clear H1
     by_cases c10 : t275 = (wrap64 (1 + (wrap64 (Int.tmod a0 6))))
     ·rw [if_pos c10] at H
      have c10b0 : (t275 == (wrap64 (1 + (wrap64 (Int.tmod a0 6))))) = true := beq_iff_eq.mpr c10
      have c10b1 : (t275 != (wrap64 (1 + (wrap64 (Int.tmod a0 6))))) = false := bne_eq_false_iff_eq.mpr c10
      clear c10
      by_cases c11 : t280 = (wrap64 (Int.tdiv (wrap64 ((wrap64 ((wrap64 ((wrap64 (1 + (wrap64 (Int.tmod a0 6)))) * (wrap64 (1 + (wrap64 (Int.tmod a0 6)))))) + (wrap64 (6 * (wrap64 (1 + (wrap64 (Int.tmod a0 6)))))))) + 1)) 4))
      ·rw [if_pos c11] at H
       have c11b0 : (t280 == (wrap64 (Int.tdiv (wrap64 ((wrap64 ((wrap64 ((wrap64 (1 + (wrap64 (Int.tmod a0 6)))) * (wrap64 (1 + (wrap64 (Int.tmod a0 6)))))) + (wrap64 (6 * (wrap64 (1 + (wrap64 (Int.tmod a0 6)))))))) + 1)) 4))) = true := beq_iff_eq.mpr c11
       have c11b1 : (t280 != (wrap64 (Int.tdiv (wrap64 ((wrap64 ((wrap64 ((wrap64 (1 + (wrap64 (Int.tmod a0 6)))) * (wrap64 (1 + (wrap64 (Int.tmod a0 6)))))) + (wrap64 (6 * (wrap64 (1 + (wrap64 (Int.tmod a0 6)))))))) + 1)) 4))) = false := bne_eq_false_iff_eq.mpr c11
       clear c11
       by_cases c12 : t284 = t280
       ·rw [if_pos c12] at H
        have c12b0 : (t284 == t280) = true := beq_iff_eq.mpr c12
        have c12b1 : (t284 != t280) = false := bne_eq_false_iff_eq.mpr c12
        clear c12
        replace H := Option.bind_eq_some_iff.mp H
        obtain ⟨t290, A130, H⟩ := H
        replace H : (some t290) = some r := H
        have A13 := Aside0.mk A130
        clear A130
        obtain rfl := Option.some.inj H
        go_enter Try.func7, Try.ntmps7
        go_wp2_with (first | ((with_reducible refine gate_callee (f := 20) rfl ?_); refine goesL_ (some 18) rfl rfl Try.func20 (by kernel_rfl) rfl #[.int .i64 (wrap64 (1 + (wrap64 (Int.tmod a0 6)))), .int .i64 1] rfl (by (try simp only [List.map_toArray, List.map_cons, List.map_nil]); first | done | rfl | (simp only [List.length_drop, List.length_take]; rfl)) ?_; (with_reducible refine (stamp_Best.calls k (wrap64 (1 + (wrap64 (Int.tmod a0 6)))) 1 t274 t275 t276 _ A2.out).mono ?_); rintro e w14 ⟨v277, rfl, ho0, hb⟩; refine ⟨_, rfl, ?_⟩; have n0_ := Aside0.mk (Kd.R_lower ho0 (below_size (by repeat (first | (with_reducible first | exact HB.out | apply below_alloc | apply pw_below_drewN | apply below_drew1) | exact HB.out)))); have n1_ := Aside0.mk (below_step (by repeat (first | (with_reducible first | exact HB.out | apply below_alloc | apply pw_below_drewN | apply below_drew1) | exact HB.out)) hb); clear HB; have HO278 := n0_; have HB := n1_; clear n0_ n1_; (try clear hb); (try clear hb2); (try clear hk); (try clear hi); (try clear ho0)) | ((with_reducible refine gate_callee (f := 20) rfl ?_); refine goesL_ (some 24) rfl rfl Try.func20 (by kernel_rfl) rfl #[.int .i64 (wrap64 (1 + (wrap64 (Int.tmod a0 6)))), .int .i64 2] rfl (by (try simp only [List.map_toArray, List.map_cons, List.map_nil]); first | done | rfl | (simp only [List.length_drop, List.length_take]; rfl)) ?_; (with_reducible refine (stamp_Best.calls k (wrap64 (1 + (wrap64 (Int.tmod a0 6)))) 2 t279 t280 t281 _ A3.out).mono ?_); rintro e w15 ⟨v282, rfl, ho0, hb⟩; refine ⟨_, rfl, ?_⟩; have n0_ := Aside0.mk (Kd.R_elder' (by (with_reducible repeat (first | apply Kd.R_alloc | apply Kd.R_drewN | apply Kd.R_drew)); exact HO278.out) (Kd.R_base ho0) hb); have n1_ := Aside0.mk (Kd.R_lower (Kd.R_new' ho0 (Kd.R_lt (by (with_reducible repeat (first | apply Kd.R_alloc | apply Kd.R_drewN | apply Kd.R_drew)); exact HO278.out))) (below_size (by repeat (first | (with_reducible first | exact HB.out | apply below_alloc | apply pw_below_drewN | apply below_drew1) | exact HB.out)))); have n2_ := Aside0.mk (below_step (by repeat (first | (with_reducible first | exact HB.out | apply below_alloc | apply pw_below_drewN | apply below_drew1) | exact HB.out)) hb); clear HO278; clear HB; have HO278 := n0_; have HO283 := n1_; have HB := n2_; clear n0_ n1_ n2_; (try clear hb); (try clear hb2); (try clear hk); (try clear hi); (try clear ho0); obtain ⟨Ao16, co16, eo16⟩ := Kd.R_slice HO283.out; subst eo16) | ((with_reducible refine gate_callee (f := 26) rfl ?_); refine goesL_ (some 31) rfl rfl Try.func26 (by kernel_rfl) rfl #[.int .i64 (wrap64 (1 + (wrap64 (Int.tmod a0 6)))), .slice Ao16 t279.length co16] rfl (by (try simp only [List.map_toArray, List.map_cons, List.map_nil]); first | done | rfl | (simp only [List.length_drop, List.length_take]; rfl)) ?_; (with_reducible refine (stamp_Range.calls k (wrap64 (1 + (wrap64 (Int.tmod a0 6)))) _ _ t279 t284 t285 _ ?side1 ?side2 A4.out).mono ?_); (case side1 => repeat (first | exact (Kd.R_reads' HO283.out).2.2 | (with_reducible refine Kd.C_alloc ?_ _) | (with_reducible refine Kd.C_drewN ?_ _) | (with_reducible refine Kd.C_drew ?_))); (case side2 => exact (Kd.R_reads' HO283.out).2.1); rintro e w17 ⟨rfl, hb⟩; refine ⟨_, rfl, ?_⟩; have n0_ := Aside0.mk (Kd.R_below (by (with_reducible repeat (first | apply Kd.R_alloc | apply Kd.R_drewN | apply Kd.R_drew)); exact HO278.out) hb); have n1_ := Aside0.mk (Kd.R_below (by (with_reducible repeat (first | apply Kd.R_alloc | apply Kd.R_drewN | apply Kd.R_drew)); exact HO283.out) hb); have n2_ := Aside0.mk (below_step (by repeat (first | (with_reducible first | exact HB.out | apply below_alloc | apply pw_below_drewN | apply below_drew1) | exact HB.out)) hb); clear HO278; clear HO283; clear HB; have HO278 := n0_; have HO283 := n1_; have HB := n2_; clear n0_ n1_ n2_; (try clear hb); (try clear hb2); (try clear hk); (try clear hi)) | ((with_reducible refine gate_dst (N := 46) rfl ?_); (try (refine gate_guard (by rfl) ?_; dsimp only)); refine Kd.R_lit (Kd.int .i64) _ 3 ?hg (N := 46) ?hd (xs := ([1] : List Int)) (inner := [.int .i64 1]) (ok := fun _ => True) (okp := fun _ => True) ?hr ?hp (fun _ hk => hk) trivial (Below.refl _ _) (Nat.le_refl _) (by simp) ?_; (case hd => rfl); (case hg => rfl); (case hr => first | (go_simp; done) | (go_simp; rfl)); (case hp => exact (Reps.one (show Kd.M (Kd.int .i64) _ _ _ 1 [.int .i64 1] from rfl) (Reps.none _ _))); intro v287 w18 ho19 hb hg_ hnew_; clear hg_ hnew_; (first | rw [← Ny286.out] at ho19 | (simp only [Int.reduceToNat] at ho19; rw [← Ny286.out] at ho19)); have n0_ := Aside0.mk (Kd.R_elder' (by (with_reducible repeat (first | apply Kd.R_alloc | apply Kd.R_drewN | apply Kd.R_drew)); exact HO278.out) (Kd.R_base ho19) hb); have n1_ := Aside0.mk (Kd.R_elder' (by (with_reducible repeat (first | apply Kd.R_alloc | apply Kd.R_drewN | apply Kd.R_drew)); exact HO283.out) (Kd.R_base ho19) hb); have n2_ := Aside0.mk (Kd.R_lower (Kd.R_new' (Kd.R_new' ho19 (Kd.R_lt (by (with_reducible repeat (first | apply Kd.R_alloc | apply Kd.R_drewN | apply Kd.R_drew)); exact HO278.out))) (Kd.R_lt (by (with_reducible repeat (first | apply Kd.R_alloc | apply Kd.R_drewN | apply Kd.R_drew)); exact HO283.out))) (below_size (by repeat (first | (with_reducible first | exact HB.out | apply below_alloc | apply pw_below_drewN | apply below_drew1) | exact HB.out)))); have n3_ := Aside0.mk (below_step (by repeat (first | (with_reducible first | exact HB.out | apply below_alloc | apply pw_below_drewN | apply below_drew1) | exact HB.out)) hb); clear HO278; clear HO283; clear HB; have HO278 := n0_; have HO283 := n1_; have HO288 := n2_; have HB := n3_; clear n0_ n1_ n2_ n3_; clear hb ho19; obtain ⟨Ao20, co20, eo20⟩ := Kd.R_slice HO278.out; subst eo20; obtain ⟨Ao21, co21, eo21⟩ := Kd.R_slice HO288.out; subst eo21) | (go_at_call 19; (with_reducible refine (trishawlaw04_same.calls k _ _ t274 _ _ y286 true _ ?side1 ?side2 ?side3 ?side4 A8.out).mono ?_); (case side1 => repeat (first | exact (Kd.R_reads' HO278.out).2.2 | (with_reducible refine Kd.C_alloc ?_ _) | (with_reducible refine Kd.C_drewN ?_ _) | (with_reducible refine Kd.C_drew ?_))); (case side2 => exact (Kd.R_reads' HO278.out).2.1); (case side3 => repeat (first | exact (Kd.R_reads' HO288.out).2.2 | (with_reducible refine Kd.C_alloc ?_ _) | (with_reducible refine Kd.C_drewN ?_ _) | (with_reducible refine Kd.C_drew ?_))); (case side4 => exact (Kd.R_reads' HO288.out).2.1); rintro e w' ⟨rfl, ⟨nd, rfl⟩⟩) | (go_at_call 16; (with_reducible refine (trishawlaw04_alive.calls k  t290 _ A13.out).mono ?_); rintro e w22 ⟨rfl, hb⟩; have n0_ := Aside0.mk (Kd.R_below (by (with_reducible repeat (first | apply Kd.R_alloc | apply Kd.R_drewN | apply Kd.R_drew)); exact HO278.out) hb); have n1_ := Aside0.mk (Kd.R_below (by (with_reducible repeat (first | apply Kd.R_alloc | apply Kd.R_drewN | apply Kd.R_drew)); exact HO283.out) hb); have n2_ := Aside0.mk (Kd.R_below (by (with_reducible repeat (first | apply Kd.R_alloc | apply Kd.R_drewN | apply Kd.R_drew)); exact HO288.out) hb); have n3_ := Aside0.mk (below_step (by repeat (first | (with_reducible first | exact HB.out | apply below_alloc | apply pw_below_drewN | apply below_drew1) | exact HB.out)) hb); clear HO278; clear HO283; clear HO288; clear HB; have HO278 := n0_; have HO283 := n1_; have HO288 := n2_; have HB := n3_; clear n0_ n1_ n2_ n3_; (try clear hb); (try clear hb2); (try clear hk); (try clear hi)))
        go_ret
        exact ⟨by first | rfl | (simp [errW_none, errW_some] <;> rfl) | (simp [*, errW_none, errW_some] <;> rfl), by repeat (first | (with_reducible first | exact HB.out | apply below_alloc | apply pw_below_drewN | apply below_drew1) | exact HB.out)⟩
       ·rw [if_neg c12] at H
        exact absurd H (by simp)
      ·rw [if_neg c11] at H
       exact absurd H (by simp)
     ·rw [if_neg c10] at H
      exact absurd H (by simp)
    ·replace c9 := Bool.eq_false_iff.mpr c9
     subst c9
     have H1 : (none) = some r := by rw [if_neg (show ¬ (false = true) by decide)] at H; exact H
     clear H
     have H := H1
     clear H1
     exact absurd H (by simp)
   ·rw [if_neg c7] at H
    exact absurd H (by simp)
  ·rw [if_neg c6] at H
   exact absurd H (by simp)
 ·rw [if_neg c5] at H
  exact absurd H (by simp)
def trishawlaw04_StampRohrbach.Pure : Prop := ∀ (a0 : Int), (Lit.int .u8 a0).wf = true → ∃ k, trishawlaw04_StampRohrbach.f k a0 = some true
theorem trishawlaw04_StampRohrbach.walk (P : trishawlaw04_StampRohrbach.Pure) (a0 : Int) (w : World) (w0 : (Lit.int .u8 a0).wf = true) :
  Calls Try.prog 7 #[.int .u8 a0] w fun e w' => e = .returned (.bool true) ∧ Below w.heap.size w w' := by
 obtain ⟨k, h⟩ := P a0 w0
 refine (trishawlaw04_StampRohrbach.calls k a0 true w h).mono ?_
 rintro e w' ⟨rfl, hd⟩
 exact ⟨rfl, hd⟩
end Go.Proofs.Ythbalcbibmdpnaa.OAll
