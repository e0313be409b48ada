/- A part of the proof of 'fetchStrong_holds', for every input, without a condition. -/
import Derived.Test.YtjbfbdanbpfplaaSTOAllx0
import Derived.Test.YtjbfbdanbpfplaaSTOAllx2
import Derived.Test.YtjbfbdanbpfplaaSTOAllx3
import Derived.Test.YtjbfbdanbpfplaaSTOAllx4
namespace Go.Proofs.Ytjbfbdanbpfplaa.OAll
open Go.RowKit Go.Proofs.YtjbfbdanbpfplaaW.PrintWords Go.Proofs.YtjbfbdanbpfplaaW.PrintLast Go.Proofs.YtjbfbdanbpfplaaW.PrintMore
attribute [local go_sem] max2_int min2_int max_two min_two max_three min_three max_four min_four
set_option linter.unusedVariables false
set_option linter.unusedSimpArgs false
def fetch_quarter_ascending.l0 : Nat → List Int → Int → List Int → Int → Int → Int → List (S34) → Option (Int × Bool)
 | 0, _, _, _, _, _, _, _ => none
 | k + 1, x1, x6, x9, x10, x11, x511000, x511001 => if x11 < x10 then (if 0 ≤ x11 then (if x11 < (x9.length : Int) then (if (rd x9 x11) < 0 then (some (0, false)) else (if (rd x9 x11) ≥ (x511001.length : Int) then (some (0, false)) else (if x11 > 0 then (if 0 ≤ (wrap64 (x11 - 1)) then (if (wrap64 (x11 - 1)) < (x1.length : Int) then (if (rd x9 x11) ≤ (rd x1 (wrap64 (x11 - 1))) then (some (0, false)) else (if 0 ≤ (rd x9 x11) then (if (rd x9 x11) ≤ 64 then (fetch_quarter_ascending.l0 k x1 (Go.bits .or .i64 x6 (wrap64 (2 ^ (rd x9 x11).toNat))) x9 x10 (wrap64 (x11 + 1)) x511000 x511001) else (none)) else (none))) else (none)) else (none)) else (if 0 ≤ (rd x9 x11) then (if (rd x9 x11) ≤ 64 then (fetch_quarter_ascending.l0 k x1 (Go.bits .or .i64 x6 (wrap64 (2 ^ (rd x9 x11).toNat))) x9 x10 (wrap64 (x11 + 1)) x511000 x511001) else (none)) else (none))))) else (none)) else (none)) else (some (x6, true))
def fetch_quarter_ascending.f (k : Nat) (a0_0 : Int) (l0_1 : List (S34)) (l1 : List Int) : Option (Int × Bool) := fetch_quarter_ascending.l0 k l1 0 l1 (l1.length : Int) 0 a0_0 l0_1
set_option maxHeartbeats 8000000 in
set_option maxRecDepth 100000 in
theorem fetch_quarter_ascending.calls (k : Nat) (a0_0 : Int) (A0_1 : Option Addr) (c0_1 : Nat) (l0_1 : List (S34)) (A1 : Option Addr) (c1 : Nat) (l1 : List Int) (r1 : Int) (r2 : Bool) (w : World) (hr0_1 : Kd.C k34 w A0_1 l0_1.length l0_1) (hc0_1 : l0_1.length ≤ c0_1) (hr1 : Kd.C (Kd.int .i64) w A1 l1.length l1) (hc1 : l1.length ≤ c1) (h : fetch_quarter_ascending.f k a0_0 l0_1 l1 = some (r1, r2)) :
  Calls Try.prog 58 #[.agg #[.int .i64 a0_0, .slice A0_1 l0_1.length c0_1], .slice A1 l1.length c1] w fun e w' => e = .returned (.tuple #[.int .i64 r1, .bool r2]) ∧ Below w.heap.size w w' := by
 have hu58 := Try.underlying58
 have HR0_1 := Aside0.mk hr0_1
 have HC0_1 := Aside0.mk hc0_1
 clear hr0_1 hc0_1
 have HR1 := Aside0.mk hr1
 have HC1 := Aside0.mk hc1
 clear hr1 hc1
 have HB := Aside0.mk (Below.refl w.heap.size w)
 have H : (fetch_quarter_ascending.l0 k l1 0 l1 (l1.length : Int) 0 a0_0 l0_1) = some (r1, r2) := h
 clear h
 have H' := Aside0.mk H
 clear H
 go_enter Try.func58, Try.ntmps58
 go_wp2_with (first | ((with_reducible refine gate_dst (N := 2) rfl ?_); (try (refine gate_guard (by rfl) ?_; dsimp only)); refine box_event ?hg (N := 2) ?hd (cs := #[.int .i64 a0_0, .slice A0_1 l0_1.length c0_1]) (t := 58) ?hr ?_; (case hd => rfl); (case hg => rfl); (case hr => first | (go_simp; done) | (go_simp; rfl)); intro gb510 hg w3 hbox hb; have n0_ := Aside0.mk (below_step (by repeat (first | (with_reducible first | exact HB.out | apply below_alloc | apply pw_below_drewN | apply below_drew1) | exact HB.out)) hb); have n1_ := Aside0.mk (hbox); have n2_ := Aside0.mk ((by rw [hg]; exact (below_size (by repeat (first | (with_reducible first | exact HB.out | apply below_alloc | apply pw_below_drewN | apply below_drew1) | exact HB.out))) : w.heap.size ≤ gb510)); have n3_ := Aside0.mk ((by rw [hg]; exact (below_size (by repeat (first | (with_reducible first | exact HB.out | apply below_alloc | apply pw_below_drewN | apply below_drew1) | exact HB.out))) : w.heap.size ≤ gb510)); clear HB; have HB := n0_; have BK510 := n1_; have GW510 := n2_; have GE510 := n3_; clear n0_ n1_ n2_ n3_; clear hb hbox hg))
 go_loopg [6, 11] k (fun kq v6 v11 w' => ∃ (x6_1 : Int) (x11_1 : Int), v6 = .int .i64 x6_1 ∧ v11 = .int .i64 x11_1 ∧ Aside0 (fetch_quarter_ascending.l0 kq l1 x6_1 l1 (l1.length : Int) x11_1 a0_0 l0_1 = some (r1, r2)) ∧ Aside0 (kq ≤ k) ∧ Aside0 (w'.heap[gb510]? = some (.cells #[.int .i64 a0_0, (.slice A0_1 l0_1.length c0_1)] 58 (0, 0))) ∧ Aside0 (Below w.heap.size w w'))
 case atStart => exact ⟨(0), (0), (by first | rfl | (simp; done) | (simp [*]; done)), (by first | rfl | (simp; done) | (simp [*]; done)), H', ⟨Nat.le_refl _⟩, ⟨by (with_reducible repeat (first | refine blk_drewN ?_ _ | refine blk_drew ?_ | refine blk_alloc ?_ _)); exact BK510.out⟩, ⟨by repeat (first | (with_reducible first | exact HB.out | apply below_alloc | apply pw_below_drewN | apply below_drew1 | refine below_set ?_ GE510.out) | exact HB.out)⟩⟩
 case round =>
  clear H'
  try clear c1
  try clear p2
  obtain ⟨x6_1, x11_1, rfl, rfl, HA, HK1, BK510, HB⟩ := hrel
  cases gk with
  | zero => exact absurd HA.out (by simp [fetch_quarter_ascending.l0])
  | succ k1 =>
   have H := HA.out
   clear HA
   simp only [fetch_quarter_ascending.l0] at H
   by_cases c4 : x11_1 < (l1.length : Int)
   ·rw [if_pos c4] at H
    have c4b0 : decide (x11_1 < (l1.length : Int)) = true := decide_eq_true c4
    clear c4
    by_cases c5 : 0 ≤ x11_1
    ·rw [if_pos c5] at H
     have c5b0 : decide (0 ≤ x11_1) = true := decide_eq_true c5
     clear c5
     by_cases c6 : x11_1 < (l1.length : Int)
     ·rw [if_pos c6] at H
      have c6b0 : decide (x11_1 < (l1.length : Int)) = true := decide_eq_true c6
      clear c6
      by_cases c7 : (rd l1 x11_1) < 0
      ·rw [if_pos c7] at H
       have c7b0 : decide ((rd l1 x11_1) < 0) = true := decide_eq_true c7
       clear c7
       simp only [Option.some.injEq, Prod.mk.injEq] at H
       obtain ⟨rfl, rfl⟩ := H
       have p511 : 0 ≤ (x11_1 : Int) := of_decide_eq_true (by first | (with_reducible assumption) | assumption)
       have q511 : x11_1 < (l1.length : Int) := of_decide_eq_true (by first | (with_reducible assumption) | assumption)
       obtain ⟨ad511, e511, hx511_0⟩ := Kd.at_int HR1.out x11_1 p511 q511
       cases e511
       replace hx511_0 := (HB.out.cell (World.block_lt_of_cell? w _ hx511_0)).trans hx511_0
       replace p511 := eq_true p511
       replace q511 := eq_true q511
       go_wp2
       go_ret2
       exact ⟨by first | rfl | (simp [errW_none, errW_some] <;> rfl) | (simp [*, errW_none, errW_some] <;> rfl), by repeat (first | (with_reducible first | exact HB.out | apply below_alloc | apply pw_below_drewN | apply below_drew1 | refine below_set ?_ GE510.out) | exact HB.out)⟩
      ·rw [if_neg c7] at H
       have c7b0 : decide ((rd l1 x11_1) < 0) = false := decide_eq_false c7
       clear c7
       by_cases c8 : (rd l1 x11_1) ≥ (l0_1.length : Int)
       ·rw [if_pos c8] at H
        have c8b0 : decide ((l0_1.length : Int) ≤ (rd l1 x11_1)) = true := decide_eq_true c8
        clear c8
        simp only [Option.some.injEq, Prod.mk.injEq] at H
        obtain ⟨rfl, rfl⟩ := H
        have p511 : 0 ≤ (x11_1 : Int) := of_decide_eq_true (by first | (with_reducible assumption) | assumption)
        have q511 : x11_1 < (l1.length : Int) := of_decide_eq_true (by first | (with_reducible assumption) | assumption)
        obtain ⟨ad511, e511, hx511_0⟩ := Kd.at_int HR1.out x11_1 p511 q511
        cases e511
        replace hx511_0 := (HB.out.cell (World.block_lt_of_cell? w _ hx511_0)).trans hx511_0
        replace p511 := eq_true p511
        replace q511 := eq_true q511
        have hcz9_0 : wr.cell? ⟨gb510, 0, none⟩ = some (.int .i64 a0_0) := (blk_cell BK510.out 0).trans rfl
        have hcz9_1 : wr.cell? ⟨gb510, 1, none⟩ = some (.slice A0_1 l0_1.length c0_1) := (blk_cell BK510.out 1).trans rfl
        have hfz9_0 := blk_frozen BK510.out 0
        have hfz9_1 := blk_frozen BK510.out 1
        go_wp2
        go_ret2
        exact ⟨by first | rfl | (simp [errW_none, errW_some] <;> rfl) | (simp [*, errW_none, errW_some] <;> rfl), by repeat (first | (with_reducible first | exact HB.out | apply below_alloc | apply pw_below_drewN | apply below_drew1 | refine below_set ?_ GE510.out) | exact HB.out)⟩
       ·rw [if_neg c8] at H
        have c8b0 : decide ((l0_1.length : Int) ≤ (rd l1 x11_1)) = false := decide_eq_false c8
        clear c8
        by_cases c10 : x11_1 > 0
        ·rw [if_pos c10] at H
         have c10b0 : decide (0 < x11_1) = true := decide_eq_true c10
         clear c10
         obtain ⟨ji11, hji11⟩ : ∃ j_ : Int, (wrap64 (x11_1 - 1)) = j_ := ⟨_, rfl⟩
         replace H : (if 0 ≤ (ji11) then (if (ji11) < (l1.length : Int) then (if (rd l1 x11_1) ≤ (rd l1 (ji11)) then (some (0, false)) else (if 0 ≤ (rd l1 x11_1) then (if (rd l1 x11_1) ≤ 64 then (fetch_quarter_ascending.l0 k1 l1 (Go.bits .or .i64 x6_1 (wrap64 (2 ^ (rd l1 x11_1).toNat))) l1 (l1.length : Int) (wrap64 (x11_1 + 1)) a0_0 l0_1) else (none)) else (none))) else (none)) else (none)) = some (r1, r2) := by first | (rw [hji11] at H; exact H) | (simp only [hji11] at H ⊢; exact H)
         have hji11w : (IntKind.i64.wrap (x11_1 - 1)) = ji11 := (i64_w _).trans hji11
         by_cases c12 : 0 ≤ (ji11)
         ·rw [if_pos c12] at H
          have c12b0 : decide (0 ≤ (ji11)) = true := decide_eq_true c12
          clear c12
          by_cases c13 : (ji11) < (l1.length : Int)
          ·rw [if_pos c13] at H
           have c13b0 : decide ((ji11) < (l1.length : Int)) = true := decide_eq_true c13
           clear c13
           by_cases c14 : (rd l1 x11_1) ≤ (rd l1 (ji11))
           ·rw [if_pos c14] at H
            have c14b0 : decide ((rd l1 x11_1) ≤ (rd l1 (ji11))) = true := decide_eq_true c14
            clear c14
            simp only [Option.some.injEq, Prod.mk.injEq] at H
            obtain ⟨rfl, rfl⟩ := H
            have p511 : 0 ≤ (x11_1 : Int) := of_decide_eq_true (by first | (with_reducible assumption) | assumption)
            have q511 : x11_1 < (l1.length : Int) := of_decide_eq_true (by first | (with_reducible assumption) | assumption)
            obtain ⟨ad511, e511, hx511_0⟩ := Kd.at_int HR1.out x11_1 p511 q511
            cases e511
            replace hx511_0 := (HB.out.cell (World.block_lt_of_cell? w _ hx511_0)).trans hx511_0
            replace p511 := eq_true p511
            replace q511 := eq_true q511
            have hcz15_0 : wr.cell? ⟨gb510, 0, none⟩ = some (.int .i64 a0_0) := (blk_cell BK510.out 0).trans rfl
            have hcz15_1 : wr.cell? ⟨gb510, 1, none⟩ = some (.slice A0_1 l0_1.length c0_1) := (blk_cell BK510.out 1).trans rfl
            have hfz15_0 := blk_frozen BK510.out 0
            have hfz15_1 := blk_frozen BK510.out 1
            have p512 : 0 ≤ ((ji11) : Int) := of_decide_eq_true (by first | (with_reducible assumption) | assumption)
            have q512 : (ji11) < (l1.length : Int) := of_decide_eq_true (by first | (with_reducible assumption) | assumption)
            obtain ⟨ad512, e512, hx512_0⟩ := Kd.at_int HR1.out (ji11) p512 q512
            obtain rfl : ad511 = ad512 := (by injection e512)
            replace hx512_0 := (HB.out.cell (World.block_lt_of_cell? w _ hx512_0)).trans hx512_0
            replace p512 := eq_true p512
            replace q512 := eq_true q512
            go_wp2
            go_ret2
            exact ⟨by first | rfl | (simp [errW_none, errW_some] <;> rfl) | (simp only [← hji11]; first | rfl | (simp [errW_none, errW_some] <;> rfl)) | (simp [*, errW_none, errW_some] <;> rfl), by repeat (first | (with_reducible first | exact HB.out | apply below_alloc | apply pw_below_drewN | apply below_drew1 | refine below_set ?_ GE510.out) | exact HB.out)⟩
           ·rw [if_neg c14] at H
            have c14b0 : decide ((rd l1 x11_1) ≤ (rd l1 (ji11))) = false := decide_eq_false c14
            clear c14
            by_cases c16 : 0 ≤ (rd l1 x11_1)
            ·rw [if_pos c16] at H
             have c16b0 := eq_true c16
             have c16b1 : decide (0 ≤ (rd l1 x11_1)) = true := decide_eq_true c16
             clear c16
             by_cases c17 : (rd l1 x11_1) ≤ 64
             ·rw [if_pos c17] at H
              have c17b0 := eq_true c17
              have c17b1 : decide ((rd l1 x11_1) ≤ 64) = true := decide_eq_true c17
              clear c17
              have H' := Aside0.mk H
              clear H
              have p511 : 0 ≤ (x11_1 : Int) := of_decide_eq_true (by first | (with_reducible assumption) | assumption)
              have q511 : x11_1 < (l1.length : Int) := of_decide_eq_true (by first | (with_reducible assumption) | assumption)
              obtain ⟨ad511, e511, hx511_0⟩ := Kd.at_int HR1.out x11_1 p511 q511
              cases e511
              replace hx511_0 := (HB.out.cell (World.block_lt_of_cell? w _ hx511_0)).trans hx511_0
              replace p511 := eq_true p511
              replace q511 := eq_true q511
              have hcz18_0 : wr.cell? ⟨gb510, 0, none⟩ = some (.int .i64 a0_0) := (blk_cell BK510.out 0).trans rfl
              have hcz18_1 : wr.cell? ⟨gb510, 1, none⟩ = some (.slice A0_1 l0_1.length c0_1) := (blk_cell BK510.out 1).trans rfl
              have hfz18_0 := blk_frozen BK510.out 0
              have hfz18_1 := blk_frozen BK510.out 1
              have p512 : 0 ≤ ((ji11) : Int) := of_decide_eq_true (by first | (with_reducible assumption) | assumption)
              have q512 : (ji11) < (l1.length : Int) := of_decide_eq_true (by first | (with_reducible assumption) | assumption)
              obtain ⟨ad512, e512, hx512_0⟩ := Kd.at_int HR1.out (ji11) p512 q512
              obtain rfl : ad511 = ad512 := (by injection e512)
              replace hx512_0 := (HB.out.cell (World.block_lt_of_cell? w _ hx512_0)).trans hx512_0
              replace p512 := eq_true p512
              replace q512 := eq_true q512
              go_wp2
              go_roundg k1
              case measure => have := HK1.out; omega
              case rel => exact ⟨(Go.bits .or .i64 x6_1 (wrap64 (2 ^ (rd l1 x11_1).toNat))), (wrap64 (x11_1 + 1)), (by first | rfl | (simp; done) | (simp [*]; done)), (by first | rfl | (simp; done) | (simp [*]; done)), H', ⟨by have := HK1.out; omega⟩, ⟨by (with_reducible repeat (first | refine blk_drewN ?_ _ | refine blk_drew ?_ | refine blk_alloc ?_ _)); exact BK510.out⟩, ⟨by repeat (first | (with_reducible first | exact HB.out | apply below_alloc | apply pw_below_drewN | apply below_drew1 | refine below_set ?_ GE510.out) | exact HB.out)⟩⟩
             ·rw [if_neg c17] at H
              exact absurd H (by simp)
            ·rw [if_neg c16] at H
             exact absurd H (by simp)
          ·rw [if_neg c13] at H
           exact absurd H (by simp)
         ·rw [if_neg c12] at H
          exact absurd H (by simp)
        ·rw [if_neg c10] at H
         have c10b0 : decide (0 < x11_1) = false := decide_eq_false c10
         clear c10
         by_cases c19 : 0 ≤ (rd l1 x11_1)
         ·rw [if_pos c19] at H
          have c19b0 := eq_true c19
          have c19b1 : decide (0 ≤ (rd l1 x11_1)) = true := decide_eq_true c19
          clear c19
          by_cases c20 : (rd l1 x11_1) ≤ 64
          ·rw [if_pos c20] at H
           have c20b0 := eq_true c20
           have c20b1 : decide ((rd l1 x11_1) ≤ 64) = true := decide_eq_true c20
           clear c20
           have H' := Aside0.mk H
           clear H
           have p511 : 0 ≤ (x11_1 : Int) := of_decide_eq_true (by first | (with_reducible assumption) | assumption)
           have q511 : x11_1 < (l1.length : Int) := of_decide_eq_true (by first | (with_reducible assumption) | assumption)
           obtain ⟨ad511, e511, hx511_0⟩ := Kd.at_int HR1.out x11_1 p511 q511
           cases e511
           replace hx511_0 := (HB.out.cell (World.block_lt_of_cell? w _ hx511_0)).trans hx511_0
           replace p511 := eq_true p511
           replace q511 := eq_true q511
           have hcz21_0 : wr.cell? ⟨gb510, 0, none⟩ = some (.int .i64 a0_0) := (blk_cell BK510.out 0).trans rfl
           have hcz21_1 : wr.cell? ⟨gb510, 1, none⟩ = some (.slice A0_1 l0_1.length c0_1) := (blk_cell BK510.out 1).trans rfl
           have hfz21_0 := blk_frozen BK510.out 0
           have hfz21_1 := blk_frozen BK510.out 1
           go_wp2
           go_roundg k1
           case measure => have := HK1.out; omega
           case rel => exact ⟨(Go.bits .or .i64 x6_1 (wrap64 (2 ^ (rd l1 x11_1).toNat))), (wrap64 (x11_1 + 1)), (by first | rfl | (simp; done) | (simp [*]; done)), (by first | rfl | (simp; done) | (simp [*]; done)), H', ⟨by have := HK1.out; omega⟩, ⟨by (with_reducible repeat (first | refine blk_drewN ?_ _ | refine blk_drew ?_ | refine blk_alloc ?_ _)); exact BK510.out⟩, ⟨by repeat (first | (with_reducible first | exact HB.out | apply below_alloc | apply pw_below_drewN | apply below_drew1 | refine below_set ?_ GE510.out) | exact HB.out)⟩⟩
          ·rw [if_neg c20] at H
           exact absurd H (by simp)
         ·rw [if_neg c19] at H
          exact absurd H (by simp)
     ·rw [if_neg c6] at H
      exact absurd H (by simp)
    ·rw [if_neg c5] at H
     exact absurd H (by simp)
   ·rw [if_neg c4] at H
    have c4b0 : decide (x11_1 < (l1.length : Int)) = false := decide_eq_false c4
    clear c4
    simp only [Option.some.injEq, Prod.mk.injEq] at H
    obtain ⟨rfl, rfl⟩ := H
    go_wp2
    go_ret2
    exact ⟨by first | rfl | (simp [errW_none, errW_some] <;> rfl) | (simp [*, errW_none, errW_some] <;> rfl), by repeat (first | (with_reducible first | exact HB.out | apply below_alloc | apply pw_below_drewN | apply below_drew1 | refine below_set ?_ GE510.out) | exact HB.out)⟩
end Go.Proofs.Ytjbfbdanbpfplaa.OAll
