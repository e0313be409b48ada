/- A part of the proof of 'topReach_holds', for every input, without a condition. -/
import Derived.Test.YtknecgmmpjggiaaDoorTReQh
namespace Go.Proofs.YtknecgmmpjggiaaDoor.OAll
open Go.RowKit Go.Proofs.YtknecgmmpjggiaaDoorW.PrintWords Go.Proofs.YtknecgmmpjggiaaDoorW.PrintLast Go.Proofs.YtknecgmmpjggiaaDoorW.PrintMore
set_option linter.unusedVariables false
set_option linter.unusedSimpArgs false
set_option maxRecDepth 100000 in
set_option maxHeartbeats 8000000 in
theorem cheapest_never (B n : Nat) (A : Option Addr) (c : Nat) (ways : List S32) (A1 : Option Addr) (c1 : Nat) (ls : List Int) (p : Nat → Bool) (w : World) (hT : Town w B n A c ways) (hC : Kd.C (Kd.int .i64) w A1 ways.length ls) (hc1 : ways.length ≤ c1) (hp : ∀ i, p i = false) (h1 : 1 ≤ n) (hn : n ≤ 7) (ho : OkW n ways) (hz : Zer ls ways.length) (h14 : ways.length ≤ 14) :
    Calls Tryd.prog 32 #[.pointer (some ⟨B, 0, none⟩), .slice A1 ways.length c1, .func (.func 31) #[] #[]] w fun e w' => e = .returned (.tuple #[.int .i64 0, .slice none 0 0, .bool (alF (rchI p ways n) n n 0 == 0)]) ∧ Below w.heap.size w w' := by
  have HT := Aside0.mk hT
  have HC := Aside0.mk hC
  have HC1 := Aside0.mk hc1
  have HOUT : Aside0 (OutV w (.func (.func 31) #[] #[]) ways.length p) := ⟨.never rfl hp⟩
  have HP := Aside0.mk hp
  have HO := Aside0.mk ho
  have HZ := Aside0.mk hz
  have H14 := Aside0.mk h14
  have HN := Aside0.mk (And.intro h1 hn)
  have hll : ls.length = ways.length := hz.1
  have HCL : Aside0 (slices_Clone_int_int.f ls = some ls) := ⟨by unfold slices_Clone_int_int.f; rw [if_pos (by simp; omega)]⟩
  have HLL := Aside0.mk hll
  have HCC : Aside0 (∀ W : World, Kd.C (Kd.int .i64) W A1 ways.length ls → Calls Tryd.prog 47 #[.slice A1 ways.length c1] W fun e w' => ∃ v0_ : Value, e = .returned (v0_) ∧ Kd.R (Kd.int .i64) 3 w' W.heap.size (fun _ => True) v0_ ls ∧ Below W.heap.size W w') := ⟨fun W hW => by
    have := slices_Clone_int_int.calls A1 c1 ls ls W (by rw [hll]; exact hW) (by rw [hll]; exact hc1) HCL.out
    rwa [hll] at this⟩
  obtain ⟨z, hzz⟩ : ∃ z, z = alF (rchI p ways n) n n 0 := ⟨_, rfl⟩
  have HZZ := Aside0.mk hzz
  have HZL : Aside0 (z < 1024) := ⟨by
    rw [hzz]
    by_cases h0 : alF (rchI p ways n) n n 0 = 0
    · rw [h0]; decide
    · obtain ⟨x, _, e⟩ := alF_some n 0 (by omega) h0
      rw [e]
      have := pow128 hn (setF_lt (R := rchI p ways n) (c := x) n 0 0 (by omega) (Nat.two_pow_pos n))
      omega⟩
  rw [← hzz]
  clear hT hC hc1 h1 hn ho hz h14 hll hzz hp
  go_enter Tryd.func32, Tryd.ntmps32
  go_wp2_with (go_at_call 47; refine (HCC.out _ HC.out).mono ?_; rintro e w1 ⟨v1_, rfl, ho1, hb1⟩; obtain ⟨A9, c9, he9⟩ := Kd.R_slice ho1; rw [HLL.out] at he9; subst he9; have HC9 := Aside0.mk (show Kd.C (Kd.int .i64) w1 A9 ways.length ls by have := (Kd.R_reads' ho1).2.2; rwa [HLL.out] at this); have HR1 := Aside0.mk ho1; have HB1 := Aside0.mk hb1; clear ho1 hb1)
  go_loopg [10, 11] 0 (fun kq v10 v11 w' => v10 = .int .i64 0 ∧ v11 = .slice none 0 0 ∧ Aside0 (w' = w1))
  case atStart => exact ⟨rfl, rfl, ⟨rfl⟩⟩
  case round =>
    obtain ⟨rfl, rfl, HW⟩ := hrel
    obtain rfl := HW.out
    by_cases hz0 : z = 0
    · have zb := hz0
      subst hz0
      go_wp2_with (go_at_call 48; refine (alone_calls B n A c ways A9 c9 ls _ p _ (HT.out.below HB1.out) HC9.out (HOUT.out.below HB1.out) HN.out.1 HN.out.2 HO.out HZ.out).mono ?_; rintro e w2 ⟨rfl, hb2⟩; rw [← HZZ.out]; have HB2 := Aside0.mk (below_step HB1.out hb2); clear hb2)
      go_ret3
      exact ⟨rfl, HB2.out⟩
    · have z1 := eq_false hz0
      have z2 := eq_false (show ¬ (z : Int) = 0 by omega)
      have z3 : ((z : Int) == 0) = false := beq_eq_false_iff_ne.2 (by omega)
      have z4 : (z == 0) = false := beq_eq_false_iff_ne.2 hz0
      have HNZ := Aside0.mk hz0
      clear hz0
      go_wp2_with (first | (go_at_call 48; refine (alone_calls B n A c ways A9 c9 ls _ p _ (HT.out.below HB1.out) HC9.out (HOUT.out.below HB1.out) HN.out.1 HN.out.2 HO.out HZ.out).mono ?_; rintro e w2 ⟨rfl, hb2⟩; rw [← HZZ.out]; have HB2 := Aside0.mk (below_step HB1.out hb2); clear hb2) | (go_at_call 42; refine (town_entering B n A c ways z _ (HT.out.below HB2.out) HN.out.2 HO.out HZL.out).mono ?_; rintro e w3 ⟨v3_, rfl, ho3, hb3⟩; obtain ⟨A3, c3, rfl⟩ := Kd.R_slice ho3; have HR3 := Aside0.mk ho3; have HB3 := Aside0.mk (below_step HB2.out hb3); clear ho3 hb3))
      obtain ⟨E, hE⟩ : ∃ E, E = entL ways z ways.length := ⟨_, rfl⟩
      have hEl : E.length ≤ 30 := by have h1 := entL_len ways z ways.length; have h2 := HO.out.1; rw [← hE] at h1; omega
      rw [← hE] at HR3 ⊢
      have HE := Aside0.mk (And.intro hE hEl)
      clear hE hEl
      go_loopg [13, 32] E.length (fun kq v13 v32 w' => ∃ j : Nat, v32 = .int .i64 (j : Int) ∧ v13 = .int .i64 (-1) ∧ Aside0 (j + kq = E.length) ∧ Aside0 (w' = w3))
      case atStart => exact ⟨0, rfl, rfl, ⟨by omega⟩, ⟨rfl⟩⟩
      case round =>
        obtain ⟨j, rfl, rfl, HJ, HW3⟩ := hrel
        obtain rfl := HW3.out
        cases gk with
        | zero =>
          have v2 := eq_false (show ¬ j < E.length by have := HJ.out; omega)
          have v2b := eq_false (show ¬ (j : Int) < (E.length : Int) by have := HJ.out; omega)
          go_wp2
          go_ret3
          exact ⟨by first | rfl | rw [z4], HB3.out⟩
        | succ k1 =>
          have hj : j < E.length := by have := HJ.out; omega
          obtain ⟨i, hi, hx, hp'⟩ := entL_in ways z ways.length (rd E (j : Int)) (by rw [← HE.out.1]; exact rd_of hj)
          have hpt : p i = true := alone_out HN.out.1 HN.out.2 HO.out H14.out (by rw [← HZZ.out]; exact HNZ.out) hi (by rw [← HZZ.out]; exact hp')
          exact absurd (HP.out i) (by rw [hpt]; decide)
set_option maxRecDepth 100000 in
set_option maxHeartbeats 8000000 in
theorem cheapest_maps (B n : Nat) (A : Option Addr) (c : Nat) (ways : List S32) (A1 : Option Addr) (c1 : Nat) (ls : List Int) (p : Nat → Bool) (G M : Nat) (vg vm : Value) (pg pm : Nat → Bool) (w : World) (hT : Town w B n A c ways) (hC : Kd.C (Kd.int .i64) w A1 ways.length ls) (hc1 : ways.length ≤ c1) (hg : w.heap[G]? = some (.cells #[vg] 82 (0, 0))) (hm : w.heap[M]? = some (.cells #[vm] 82 (0, 0))) (lg : Looks w vg ways.length pg) (lm : Looks w vm ways.length pm) (hp : ∀ i, p i = (pg i || pm i)) (h1 : 1 ≤ n) (hn : n ≤ 7) (ho : OkW n ways) (hz : Zer ls ways.length) (h14 : ways.length ≤ 14) :
    Calls Tryd.prog 32 #[.pointer (some ⟨B, 0, none⟩), .slice A1 ways.length c1, .func (.func 35) #[] #[.pointer (some ⟨G, 0, none⟩), .pointer (some ⟨M, 0, none⟩)]] w fun e w' => e = .returned (.tuple #[.int .i64 0, .slice none 0 0, .bool (alF (rchI p ways n) n n 0 == 0)]) ∧ Below w.heap.size w w' := by
  have HT := Aside0.mk hT
  have HC := Aside0.mk hC
  have HC1 := Aside0.mk hc1
  have HOUT : Aside0 (OutV w (.func (.func 35) #[] #[.pointer (some ⟨G, 0, none⟩), .pointer (some ⟨M, 0, none⟩)]) ways.length p) := ⟨.maps G M vg vm pg pm rfl hg hm lg lm hp⟩
  have HG := Aside0.mk (And.intro hg (And.intro hm (And.intro lg (And.intro lm hp))))
  have HO := Aside0.mk ho
  have HZ := Aside0.mk hz
  have H14 := Aside0.mk h14
  have HN := Aside0.mk (And.intro h1 hn)
  have hll : ls.length = ways.length := hz.1
  have HCL : Aside0 (slices_Clone_int_int.f ls = some ls) := ⟨by unfold slices_Clone_int_int.f; rw [if_pos (by simp; omega)]⟩
  have HLL := Aside0.mk hll
  have HCC : Aside0 (∀ W : World, Kd.C (Kd.int .i64) W A1 ways.length ls → Calls Tryd.prog 47 #[.slice A1 ways.length c1] W fun e w' => ∃ v0_ : Value, e = .returned (v0_) ∧ Kd.R (Kd.int .i64) 3 w' W.heap.size (fun _ => True) v0_ ls ∧ Below W.heap.size W w') := ⟨fun W hW => by
    have := slices_Clone_int_int.calls A1 c1 ls ls W (by rw [hll]; exact hW) (by rw [hll]; exact hc1) HCL.out
    rwa [hll] at this⟩
  obtain ⟨z, hzz⟩ : ∃ z, z = alF (rchI p ways n) n n 0 := ⟨_, rfl⟩
  have HZZ := Aside0.mk hzz
  have HZL : Aside0 (z < 1024) := ⟨by
    rw [hzz]
    by_cases h0 : alF (rchI p ways n) n n 0 = 0
    · rw [h0]; decide
    · obtain ⟨x, _, e⟩ := alF_some n 0 (by omega) h0
      rw [e]
      have := pow128 hn (setF_lt (R := rchI p ways n) (c := x) n 0 0 (by omega) (Nat.two_pow_pos n))
      omega⟩
  rw [← hzz]
  clear hT hC hc1 h1 hn ho hz h14 hll hzz hg hm lg lm hp
  go_enter Tryd.func32, Tryd.ntmps32
  go_wp2_with (go_at_call 47; refine (HCC.out _ HC.out).mono ?_; rintro e w1 ⟨v1_, rfl, ho1, hb1⟩; obtain ⟨A9, c9, he9⟩ := Kd.R_slice ho1; rw [HLL.out] at he9; subst he9; have HC9 := Aside0.mk (show Kd.C (Kd.int .i64) w1 A9 ways.length ls by have := (Kd.R_reads' ho1).2.2; rwa [HLL.out] at this); have HR1 := Aside0.mk ho1; have HB1 := Aside0.mk hb1; clear ho1 hb1)
  go_loopg [10, 11] 0 (fun kq v10 v11 w' => v10 = .int .i64 0 ∧ v11 = .slice none 0 0 ∧ Aside0 (w' = w1))
  case atStart => exact ⟨rfl, rfl, ⟨rfl⟩⟩
  case round =>
    obtain ⟨rfl, rfl, HW⟩ := hrel
    obtain rfl := HW.out
    by_cases hz0 : z = 0
    · have zb := hz0
      subst hz0
      go_wp2_with (go_at_call 48; refine (alone_calls B n A c ways A9 c9 ls _ p _ (HT.out.below HB1.out) HC9.out (HOUT.out.below HB1.out) HN.out.1 HN.out.2 HO.out HZ.out).mono ?_; rintro e w2 ⟨rfl, hb2⟩; rw [← HZZ.out]; have HB2 := Aside0.mk (below_step HB1.out hb2); clear hb2)
      go_ret3
      exact ⟨rfl, HB2.out⟩
    · have z1 := eq_false hz0
      have z2 := eq_false (show ¬ (z : Int) = 0 by omega)
      have z3 : ((z : Int) == 0) = false := beq_eq_false_iff_ne.2 (by omega)
      have z4 : (z == 0) = false := beq_eq_false_iff_ne.2 hz0
      have HNZ := Aside0.mk hz0
      clear hz0
      go_wp2_with (first | (go_at_call 48; refine (alone_calls B n A c ways A9 c9 ls _ p _ (HT.out.below HB1.out) HC9.out (HOUT.out.below HB1.out) HN.out.1 HN.out.2 HO.out HZ.out).mono ?_; rintro e w2 ⟨rfl, hb2⟩; rw [← HZZ.out]; have HB2 := Aside0.mk (below_step HB1.out hb2); clear hb2) | (go_at_call 42; refine (town_entering B n A c ways z _ (HT.out.below HB2.out) HN.out.2 HO.out HZL.out).mono ?_; rintro e w3 ⟨v3_, rfl, ho3, hb3⟩; obtain ⟨A3, c3, rfl⟩ := Kd.R_slice ho3; have HR3 := Aside0.mk ho3; have HB3 := Aside0.mk (below_step HB2.out hb3); clear ho3 hb3))
      obtain ⟨E, hE⟩ : ∃ E, E = entL ways z ways.length := ⟨_, rfl⟩
      have hEl : E.length ≤ 30 := by have h1 := entL_len ways z ways.length; have h2 := HO.out.1; rw [← hE] at h1; omega
      rw [← hE] at HR3 ⊢
      have HE := Aside0.mk (And.intro hE hEl)
      clear hE hEl
      go_loopg [13, 32] E.length (fun kq v13 v32 w' => ∃ j : Nat, v32 = .int .i64 (j : Int) ∧ v13 = .int .i64 (-1) ∧ Aside0 (j + kq = E.length) ∧ Aside0 (w' = w3))
      case atStart => exact ⟨0, rfl, rfl, ⟨by omega⟩, ⟨rfl⟩⟩
      case round =>
        obtain ⟨j, rfl, rfl, HJ, HW3⟩ := hrel
        obtain rfl := HW3.out
        cases gk with
        | zero =>
          have v2 := eq_false (show ¬ j < E.length by have := HJ.out; omega)
          have v2b := eq_false (show ¬ (j : Int) < (E.length : Int) by have := HJ.out; omega)
          go_wp2
          go_ret3
          exact ⟨by first | rfl | rw [z4], HB3.out⟩
        | succ k1 =>
          have hj : j < E.length := by have := HJ.out; omega
          obtain ⟨i, hi, hx, hp'⟩ := entL_in ways z ways.length (rd E (j : Int)) (by rw [← HE.out.1]; exact rd_of hj)
          have hpt : p i = true := alone_out HN.out.1 HN.out.2 HO.out H14.out (by rw [← HZZ.out]; exact HNZ.out) hi (by rw [← HZZ.out]; exact hp')
          have v2 := eq_true hj
          have v2b := eq_true (show (j : Int) < (E.length : Int) by omega)
          have p1 := eq_true (show (0 : Int) ≤ (j : Int) by omega)
          obtain ⟨ad, e0, x0⟩ := Kd.at_int (Kd.R_reads' HR3.out).2.2 (j : Int) (by omega) (by omega)
          cases e0
          rw [Int.toNat_natCast, hx] at x0
          have E1 := Aside0.mk (w64s j (by have := HE.out.2; omega))
          have HPT : Aside0 ((pg i || pm i) = true) := ⟨by rw [← HG.out.2.2.2.2 i]; exact hpt⟩
          have HI := Aside0.mk hi
          have HBW : Aside0 (Below w.heap.size w wr) := HB3
          clear hj hx hp' hpt hi
          go_wp2_with (go_at_call 35; refine (gone_calls i ways.length G M vg vm pg pm _ HI.out (blk_below HG.out.1 HBW.out) (blk_below HG.out.2.1 HBW.out) (HG.out.2.2.1.below HBW.out) (HG.out.2.2.2.1.below HBW.out)).mono ?_; rintro e w5 ⟨rfl, rfl⟩; rw [HPT.out])
          go_roundg k1
          case measure => omega
          case rel => exact ⟨j + 1, by first | rw [E1.out] | rw [Int.natCast_succ], rfl, ⟨by have := HJ.out; omega⟩, ⟨rfl⟩⟩
end Go.Proofs.YtknecgmmpjggiaaDoor.OAll
