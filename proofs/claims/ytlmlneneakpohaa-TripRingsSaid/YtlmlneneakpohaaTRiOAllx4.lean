/- A part of the proof of 'tripRings_holds', for every input, without a condition. -/
import Derived.Test.YtlmlneneakpohaaTRiOAllx0
import Derived.Test.YtlmlneneakpohaaTRiOAllx2
namespace Go.Proofs.Ytlmlneneakpohaa.OAll
open Go.RowKit Go.Proofs.YtlmlneneakpohaaW.PrintWords Go.Proofs.YtlmlneneakpohaaW.PrintLast Go.Proofs.YtlmlneneakpohaaW.PrintMore
attribute [local go_sem] max2_int min2_int max_two min_two max_three min_three max_four min_four
set_option linter.unusedVariables false
set_option linter.unusedSimpArgs false
def outH (x : Int) : Bool := decide (x < 0) || decide (1000 < x)
def outR (p : S36) : Bool := outH p.f0 || outH p.f1
def firstR : List S36 → Int → Int
 | [], _ => -1
 | p :: t, i => if outR p then i else firstR t (i + 1)
theorem toured_out.calls (x : Int) (w : World) : Calls Try.prog 70 #[.int .i64 x] w fun e w' => e = .returned (.bool (outH x)) ∧ Below w.heap.size w w' := by
 have HB := Aside0.mk (Below.refl w.heap.size w)
 by_cases h : x < 0
 ·have c1 : decide (x < 0) = true := decide_eq_true h
  have E := Aside0.mk (show outH x = true by rw [outH, c1]; rfl)
  clear h
  go_enter Try.func70, Try.ntmps70
  go_wp2
  go_ret
  exact ⟨by rw [E.out]; rfl, HB.out⟩
 ·have c1 : decide (x < 0) = false := decide_eq_false h
  have E := Aside0.mk (show outH x = decide (1000 < x) by rw [outH, c1]; rfl)
  clear h
  go_enter Try.func70, Try.ntmps70
  go_wp2
  go_ret
  exact ⟨by rw [E.out]; rfl, HB.out⟩
theorem toured_ride.calls (B : Nat) (p : S36) (w : World) (hb : w.cell? ⟨B, 0, none⟩ = some (.func (.func 70) #[] #[])) :
  Calls Try.prog 72 #[.agg #[.int .i64 p.f0, .int .i64 p.f1], .pointer (some ⟨B, 0, none⟩)] w fun e w' => e = .returned (.bool (outR p)) ∧ Below w.heap.size w w' := by
 have hu36 := Try.underlying36
 have hlo : Below w.heap.size w (w.alloc (.cells #[.int .i64 p.f0, .int .i64 p.f1] 36)) := below_alloc (Below.refl _ _) _
 have bx : (w.alloc (.cells #[.int .i64 p.f0, .int .i64 p.f1] 36)).heap[w.heap.size]? = some (.cells #[.int .i64 p.f0, .int .i64 p.f1] 36 (0, 0)) := blk_new w _
 have HB := Aside0.mk hlo
 have g1 := pw_cell_below hlo hb
 have x0 : (w.alloc (.cells #[.int .i64 p.f0, .int .i64 p.f1] 36)).cell? ⟨w.heap.size, 0, none⟩ = some (.int .i64 p.f0) := (blk_cell bx 0).trans rfl
 have x1 : (w.alloc (.cells #[.int .i64 p.f0, .int .i64 p.f1] 36)).cell? ⟨w.heap.size, 1, none⟩ = some (.int .i64 p.f1) := (blk_cell bx 1).trans rfl
 have HC := Aside0.mk (toured_out.calls p.f0 (w.alloc (.cells #[.int .i64 p.f0, .int .i64 p.f1] 36)))
 clear hlo bx hb
 go_enter Try.func72, Try.ntmps72
 go_wp2_with fail
 refine HC.out.mono ?_
 rintro e w2 ⟨rfl, hb2⟩
 have HB2 := Aside0.mk (below_step HB.out hb2)
 have g2 := pw_cell_below hb2 g1
 have y1 := pw_cell_below hb2 x1
 clear hb2 g1 x0 x1 HC
 cases h0 : outH p.f0
 ·have E := Aside0.mk (show outR p = outH p.f1 by rw [outR, h0]; rfl)
  have HC := Aside0.mk (toured_out.calls p.f1 w2)
  go_wp2_with fail
  refine HC.out.mono ?_
  rintro e w3 ⟨rfl, hb3⟩
  have HB3 := Aside0.mk (below_step HB2.out hb3)
  clear hb3
  go_wp2
  go_ret
  exact ⟨by rw [E.out]; rfl, HB3.out⟩
 ·have E := Aside0.mk (show outR p = true by rw [outR, h0]; rfl)
  go_wp2
  go_ret
  exact ⟨by rw [E.out]; rfl, HB2.out⟩
set_option maxRecDepth 100000 in
theorem indexRide.calls (B : Nat) (A0 : Option Addr) (c0 : Nat) (l0 : List S36) (w : World) (hr0 : Kd.C k36 w A0 l0.length l0) (hl : l0.length ≤ 1000) (hb : w.cell? ⟨B, 0, none⟩ = some (.func (.func 70) #[] #[])) :
  Calls Try.prog 77 #[.slice A0 l0.length c0, .func (.func 72) #[] #[.pointer (some ⟨B, 0, none⟩)]] w fun e w' => e = .returned (.int .i64 (firstR l0 0)) ∧ Below w.heap.size w w' := by
 have HR := Aside0.mk hr0
 have HC := Aside0.mk hb
 have hu36 := Try.underlying36
 clear hr0 hb
 go_enter Try.func77, Try.ntmps77
 go_wp2_with fail
 go_loopg [8] l0.length (fun gq v8 w' => ∃ (i : Nat), v8 = .int .i64 (i : Int) ∧ i ≤ l0.length ∧ l0.length - i ≤ gq ∧ Aside0 (firstR (l0.drop i) (i : Int) = firstR l0 0) ∧ Aside0 (Below w.heap.size w w'))
 case atStart => exact ⟨0, rfl, Nat.zero_le _, by omega, ⟨rfl⟩, ⟨Below.refl _ _⟩⟩
 case round =>
  obtain ⟨i, rfl, hi, hgk, HF, HB⟩ := hrel
  by_cases hlt : i < l0.length
  ·have c1 : (i : Int) < (l0.length : Int) := by omega
   have c1b : decide ((i : Int) < (l0.length : Int)) = true := decide_eq_true c1
   have c0' : (0 : Int) ≤ (i : Int) := by omega
   obtain ⟨ad, e1, hx0, hx1⟩ := at_T36 (Kd.C_below HR.out HB.out) (i : Int) c0' c1
   obtain ⟨p, hp⟩ : ∃ p, p = rd_T36 l0 (i : Int) := ⟨_, rfl⟩
   rw [← hp, Int.toNat_natCast] at hx0 hx1
   subst e1
   have HD : Aside0 (l0.drop i = p :: l0.drop (i + 1)) := ⟨by rw [hp, List.drop_eq_getElem_cons hlt]; simp [rd_T36, hlt]⟩
   have c1c := eq_true c1
   have c0c := eq_true c0'
   have HCC := Aside0.mk (toured_ride.calls B p wr (pw_cell_below HB.out HC.out))
   clear c1 c0' hp
   go_wp2_with fail
   refine HCC.out.mono ?_
   rintro e w2 ⟨rfl, hb2⟩
   have HB2 := Aside0.mk (below_step HB.out hb2)
   clear hb2 hx0 hx1
   cases ho : outR p
   ·have HF2 : Aside0 (firstR (l0.drop (i + 1)) ((i : Int) + 1) = firstR l0 0) := ⟨by have := HF.out; rw [HD.out, firstR, ho] at this; simpa using this⟩
    go_wp2
    go_roundg (l0.length - (i + 1))
    case measure => omega
    case rel => exact ⟨i + 1, by go_num, by omega, Nat.le_refl _, ⟨by have := HF2.out; simpa using this⟩, HB2⟩
   ·have HF2 : Aside0 ((i : Int) = firstR l0 0) := ⟨by have := HF.out; rw [HD.out, firstR, ho] at this; simpa using this⟩
    go_wp2
    go_ret
    exact ⟨by rw [← HF2.out]; rfl, HB2.out⟩
  ·obtain rfl : i = l0.length := by omega
   have c1b : decide ((l0.length : Int) < (l0.length : Int)) = false := decide_eq_false (by omega)
   have HF2 : Aside0 ((-1 : Int) = firstR l0 0) := ⟨by have := HF.out; rw [List.drop_length, firstR] at this; exact this⟩
   go_wp2
   go_ret
   exact ⟨by rw [← HF2.out]; rfl, HB.out⟩
theorem containsRide.calls (B : Nat) (A0 : Option Addr) (c0 : Nat) (l0 : List S36) (w : World) (hr0 : Kd.C k36 w A0 l0.length l0) (hl : l0.length ≤ 1000) (hb : w.cell? ⟨B, 0, none⟩ = some (.func (.func 70) #[] #[])) :
  Calls Try.prog 71 #[.slice A0 l0.length c0, .func (.func 72) #[] #[.pointer (some ⟨B, 0, none⟩)]] w fun e w' => e = .returned (.bool (decide (0 ≤ firstR l0 0))) ∧ Below w.heap.size w w' := by
 have HI := Aside0.mk (indexRide.calls B A0 c0 l0 w hr0 hl hb)
 clear hr0 hb
 go_enter Try.func71, Try.ntmps71
 go_wp2_with fail
 refine HI.out.mono ?_
 rintro e w1 ⟨rfl, hb1⟩
 have HB := Aside0.mk hb1
 clear hb1 HI
 go_wp2
 go_ret
 exact ⟨rfl, HB.out⟩
theorem firstR_all : ∀ (l : List S36) (i : Int), 0 ≤ i → (0 ≤ firstR l i ↔ l.any outR = true)
 | [], i, h => by simp [firstR]
 | p :: t, i, h => by
  rw [firstR, List.any_cons]
  cases ho : outR p
  ·have := firstR_all t (i + 1) (by omega)
   simpa using this
  ·simpa using h
def trip_toured.f (l0 : List S36) : Option Int := some (if 9 < l0.length then 3 else if l0.length = 0 then 2 else if l0.any outR = true then 2 else 0)
theorem trip_toured.calls (A0 : Option Addr) (c0 : Nat) (l0 : List S36) (r : Int) (w : World) (hr0 : Kd.C k36 w A0 l0.length l0) (hc0 : l0.length ≤ c0) (h : trip_toured.f l0 = some r) :
  Calls Try.prog 52 #[.slice A0 l0.length c0] w fun e w' => e = .returned (.int .i64 r) ∧ Below w.heap.size w w' := by
 have h' := Option.some.inj h
 have HE := Aside0.mk h'
 have HR := Aside0.mk hr0
 have HB1 := Aside0.mk (below_alloc (Below.refl w.heap.size w) (.cells #[.func (.func 70) #[] #[]] 85))
 have hmf : ∀ (fn : Fn) (first cap : Array Value) (w : World), (Instr.makeFunc fn first cap).run Try.prog w = .ok (.func fn first cap) w := fun _ _ _ _ => rfl
 clear h h' hr0
 by_cases h9 : 9 < l0.length
 ·have c1 : decide ((9 : Int) < (l0.length : Int)) = true := decide_eq_true (by omega)
  have HE2 : Aside0 (r = 3) := ⟨by have := HE.out; rw [if_pos h9] at this; omega⟩
  clear h9
  go_enter Try.func52, Try.ntmps52
  go_wp2
  go_ret
  exact ⟨by rw [HE2.out]; rfl, HB1.out⟩
 ·have c1 : decide ((9 : Int) < (l0.length : Int)) = false := decide_eq_false (by omega)
  by_cases h0 : l0.length = 0
  ·have c2 : ((l0.length : Int) == 0) = true := beq_iff_eq.mpr (by omega)
   have c2b : (l0.length == 0) = true := beq_iff_eq.mpr h0
   have HE2 : Aside0 (r = 2) := ⟨by have := HE.out; rw [if_neg h9, if_pos h0] at this; omega⟩
   clear h9
   go_enter Try.func52, Try.ntmps52
   go_wp2
   go_ret
   exact ⟨by rw [HE2.out]; rfl, HB1.out⟩
  ·have c2 : ((l0.length : Int) == 0) = false := beq_eq_false_iff_ne.mpr (by omega)
   have c2b : (l0.length == 0) = false := beq_eq_false_iff_ne.mpr h0
   have bx : (w.alloc (.cells #[.func (.func 70) #[] #[]] 85)).heap[w.heap.size]? = some (.cells #[.func (.func 70) #[] #[]] 85 (0, 0)) := blk_new w _
   have HC := Aside0.mk (containsRide.calls w.heap.size A0 c0 l0 (w.alloc (.cells #[.func (.func 70) #[] #[]] 85)) (Kd.C_below HR.out HB1.out) (by omega) ((blk_cell bx 0).trans rfl))
   have hq := firstR_all l0 0 (Int.le_refl _)
   by_cases ha : l0.any outR = true
   ·have c3 : decide (0 ≤ firstR l0 0) = true := decide_eq_true (hq.mpr ha)
    have HE2 : Aside0 (r = 2) := ⟨by have := HE.out; rw [if_neg h9, if_neg h0, if_pos ha] at this; omega⟩
    clear h9 h0 ha hq bx
    go_enter Try.func52, Try.ntmps52
    go_wp2_with fail
    refine HC.out.mono ?_
    rintro e w1 ⟨rfl, hb1⟩
    have HB := Aside0.mk (below_step HB1.out hb1)
    clear hb1 HC
    go_wp2
    go_ret
    exact ⟨by rw [HE2.out]; rfl, HB.out⟩
   ·have c3 : decide (0 ≤ firstR l0 0) = false := decide_eq_false (fun h => ha (hq.mp h))
    have HE2 : Aside0 (r = 0) := ⟨by have := HE.out; rw [if_neg h9, if_neg h0, if_neg ha] at this; omega⟩
    clear h9 h0 ha hq bx
    go_enter Try.func52, Try.ntmps52
    go_wp2_with fail
    refine HC.out.mono ?_
    rintro e w1 ⟨rfl, hb1⟩
    have HB := Aside0.mk (below_step HB1.out hb1)
    clear hb1 HC
    go_wp2
    go_ret
    exact ⟨by rw [HE2.out]; rfl, HB.out⟩
def trip_read.f (l0 : List (S36)) (a1_0 : Int) (a1_1 : Int) : Option (Int × Int × (List (S36)) × Int) := (trip_toured.f l0).bind fun t125 => (if t125 = 0 then (if (mn a1_0 a1_1) < 0 then (some (a1_0, a1_1, l0, 2)) else (if (mx a1_0 a1_1) > 1000 then (some (a1_0, a1_1, l0, 2)) else (some (a1_0, a1_1, l0, t125)))) else (some (a1_0, a1_1, l0, t125)))
set_option maxHeartbeats 8000000 in
set_option maxRecDepth 100000 in
theorem trip_read.calls (P0_ : Nat → Prop) (A0 : Option Addr) (c0 : Nat) (l0 : List (S36)) (a1_0 : Int) (a1_1 : Int) (r1 : Int) (r2 : Int) (r3 : List (S36)) (r4 : Int) (w : World) (hs0 : Kd.V k36 36 w w.heap.size (fun k_ => P0_ k_) (.slice A0 l0.length c0) l0) (h : trip_read.f l0 a1_0 a1_1 = some (r1, r2, r3, r4)) :
  Calls Try.prog 40 #[.slice A0 l0.length c0, .agg #[.int .i64 a1_0, .int .i64 a1_1]] w fun e w' => ∃ v2_ : Value, e = .returned (.tuple #[.agg #[.int .i64 r1, .int .i64 r2, v2_], .int .i64 r4]) ∧ Kd.V k36 36 w' w.heap.size (fun k_ => (P0_ k_ ∨ w.heap.size ≤ k_)) v2_ r3 ∧ Below w.heap.size w w' := by
 have hu24 := Try.underlying24
 have hu59 := Try.underlying59
 have hu57 := Try.underlying57
 have HO0 := Aside0.mk (show Kd.V k36 36 w w.heap.size (fun k_ => (P0_ k_ ∨ w.heap.size ≤ k_)) (.slice A0 l0.length c0) l0 from Kd.V_mono hs0 (fun k_ hk => .inl hk))
 have HB := Aside0.mk (Below.refl w.heap.size w)
 have H : ((trip_toured.f l0).bind fun t125 => (if t125 = 0 then (if (mn a1_0 a1_1) < 0 then (some (a1_0, a1_1, l0, 2)) else (if (mx a1_0 a1_1) > 1000 then (some (a1_0, a1_1, l0, 2)) else (some (a1_0, a1_1, l0, t125)))) else (some (a1_0, a1_1, l0, t125)))) = some (r1, r2, r3, r4) := h
 clear h
 replace H := Option.bind_eq_some_iff.mp H
 obtain ⟨t125, A30, H⟩ := H
 replace H : (if t125 = 0 then (if (mn a1_0 a1_1) < 0 then (some (a1_0, a1_1, l0, 2)) else (if (mx a1_0 a1_1) > 1000 then (some (a1_0, a1_1, l0, 2)) else (some (a1_0, a1_1, l0, t125)))) else (some (a1_0, a1_1, l0, t125))) = some (r1, r2, r3, r4) := H
 have A3 := Aside0.mk A30
 clear A30
 by_cases c4 : t125 = 0
 ·rw [if_pos c4] at H
  have c4b0 : (t125 == 0) = true := beq_iff_eq.mpr c4
  have c4b1 : (t125 != 0) = false := bne_eq_false_iff_eq.mpr c4
  clear c4
  obtain ⟨ji5, hji5⟩ : ∃ j_ : Int, (mn a1_0 a1_1) = j_ := ⟨_, rfl⟩
  replace H : (if (ji5) < 0 then (some (a1_0, a1_1, l0, 2)) else (if (mx a1_0 a1_1) > 1000 then (some (a1_0, a1_1, l0, 2)) else (some (a1_0, a1_1, l0, t125)))) = some (r1, r2, r3, r4) := by first | (rw [hji5] at H; exact H) | (simp only [hji5] at H ⊢; exact H)
  (try rw [hji5] at A3)
  have hji5_ : (if a1_1 < a1_0 then a1_1 else a1_0) = ji5 := hji5
  by_cases c6 : (ji5) < 0
  ·rw [if_pos c6] at H
   have c6b0 : decide ((ji5) < 0) = true := decide_eq_true c6
   clear c6
   simp only [Option.some.injEq, Prod.mk.injEq] at H
   obtain ⟨rfl, rfl, rfl, rfl⟩ := H
   go_enter Try.func40, Try.ntmps40
   go_wp2_with (first | ((with_reducible refine gate_dst (N := 3) rfl ?_); (try (refine gate_guard (by rfl) ?_; dsimp only)); refine box_event ?hg (N := 3) ?hd (cs := #[.int .i64 a1_0, .int .i64 a1_1]) (t := 24) ?hr ?_; (case hd => rfl); (case hg => rfl); (case hr => first | (go_simp; done) | (go_simp; rfl)); intro gb123 hg w7 hbox hb; have n0_ := Aside0.mk (Kd.V_below (Kd.V_elderB (by (with_reducible repeat (first | apply Kd.V_alloc | apply Kd.V_drewN | apply Kd.V_drew)); exact HO0.out) gb123 (Nat.le_of_eq hg.symm)) hb); have n1_ := Aside0.mk (below_step (by repeat (first | (with_reducible first | exact HB.out | apply lal | apply ldn | apply ldr) | exact HB.out)) hb); have n2_ := Aside0.mk (hbox); have n3_ := Aside0.mk ((by rw [hg]; exact (below_size (by repeat (first | (with_reducible first | exact HB.out | apply lal | apply ldn | apply ldr) | exact HB.out))) : w.heap.size ≤ gb123)); have n4_ := Aside0.mk ((by rw [hg]; exact (below_size (by repeat (first | (with_reducible first | exact HB.out | apply lal | apply ldn | apply ldr) | exact HB.out))) : w.heap.size ≤ gb123)); clear HO0; clear HB; have HO0 := n0_; have HB := n1_; have BK123 := n2_; have GW123 := n3_; have GE123 := n4_; clear n0_ n1_ n2_ n3_ n4_; clear hb hbox hg) | ((with_reducible refine gate_dst (N := 4) rfl ?_); (try (refine gate_guard (by rfl) ?_; dsimp only)); refine box_event ?hg (N := 4) ?hd (cs := #[.int .i64 0, .int .i64 0, .slice none 0 0]) (t := 59) ?hr ?_; (case hd => rfl); (case hg => rfl); (case hr => first | (go_simp; done) | (go_simp; rfl)); intro gb124 hg w8 hbox hb; have n0_ := Aside0.mk (Kd.V_below (Kd.V_elderB (by (with_reducible repeat (first | apply Kd.V_alloc | apply Kd.V_drewN | apply Kd.V_drew)); exact HO0.out) gb124 (Nat.le_of_eq hg.symm)) hb); have n1_ := Aside0.mk (blk_below (g := gb123) (o := .cells #[.int .i64 a1_0, .int .i64 a1_1] 24 (0, 0)) (by (with_reducible repeat (first | apply kdn | apply kdr | apply kal)); exact BK123.out) hb); have n2_ := Aside0.mk (below_step (by repeat (first | (with_reducible first | exact HB.out | apply lal | apply ldn | apply ldr | refine below_set ?_ GE123.out) | exact HB.out)) hb); have n3_ := Aside0.mk (hbox); have n4_ := Aside0.mk ((by rw [hg]; exact (below_size (by repeat (first | (with_reducible first | exact HB.out | apply lal | apply ldn | apply ldr | refine below_set ?_ GE123.out) | exact HB.out))) : w.heap.size ≤ gb124)); have n5_ := Aside0.mk ((by rw [hg]; exact (below_size (by repeat (first | (with_reducible first | exact HB.out | apply lal | apply ldn | apply ldr | refine below_set ?_ GE123.out) | exact HB.out))) : w.heap.size ≤ gb124)); have n6_ := Aside0.mk ((by rw [hg]; exact Nat.ne_of_lt (blk_lt (g := gb123) (o := .cells #[.int .i64 a1_0, .int .i64 a1_1] 24 (0, 0)) (by (with_reducible repeat (first | apply kdn | apply kdr | apply kal)); exact BK123.out)) : gb123 ≠ gb124)); have n7_ := Aside0.mk ((by rw [hg]; exact Nat.ne_of_gt (blk_lt (g := gb123) (o := .cells #[.int .i64 a1_0, .int .i64 a1_1] 24 (0, 0)) (by (with_reducible repeat (first | apply kdn | apply kdr | apply kal)); exact BK123.out)) : gb124 ≠ gb123)); clear HO0; clear BK123; clear HB; have HO0 := n0_; have BK123 := n1_; have HB := n2_; have BK124 := n3_; have GW124 := n4_; have GE124 := n5_; have NB123_124 := n6_; have NB124_123 := n7_; clear n0_ n1_ n2_ n3_ n4_ n5_ n6_ n7_; clear hb hbox hg) | ((with_reducible refine gate_callee (f := 52) rfl ?_); refine goesL_ (some 8) rfl rfl Try.func52 (by kernel_rfl) rfl #[.slice A0 l0.length c0] rfl (by (try simp only [List.map_toArray, List.map_cons, List.map_nil]); first | done | rfl | (simp only [List.length_drop, List.length_take]; rfl)) ?_; (with_reducible refine (trip_toured.calls _ _ l0 t125 _ ?side1 ?side2 A3.out).mono ?_); (case side1 => repeat (first | exact (Kd.V_reads' HO0.out).2.2 | (with_reducible refine Kd.C_alloc ?_ _) | (with_reducible refine Kd.C_drewN ?_ _) | (with_reducible refine Kd.C_drew ?_))); (case side2 => exact (Kd.V_reads' HO0.out).2.1); rintro e w9 ⟨rfl, hb⟩; refine ⟨_, rfl, ?_⟩; have n0_ := Aside0.mk (Kd.V_below (by (with_reducible repeat (first | apply Kd.V_alloc | apply Kd.V_drewN | apply Kd.V_drew)); exact HO0.out) hb); have n1_ := Aside0.mk (blk_below (g := gb123) (o := .cells #[.int .i64 a1_0, .int .i64 a1_1] 24 (0, 0)) (by (with_reducible repeat (first | apply kdn | apply kdr | apply kal)); exact BK123.out) hb); have n2_ := Aside0.mk (blk_below (g := gb124) (o := .cells #[.int .i64 0, .int .i64 0, .slice none 0 0] 59 (0, 0)) (by (with_reducible repeat (first | apply kdn | apply kdr | apply kal)); exact BK124.out) hb); have n3_ := Aside0.mk (below_step (by repeat (first | (with_reducible first | exact HB.out | apply lal | apply ldn | apply ldr | refine below_set ?_ GE123.out | refine below_set ?_ GE124.out) | exact HB.out)) hb); clear HO0; clear BK123; clear BK124; clear HB; have HO0 := n0_; have BK123 := n1_; have BK124 := n2_; have HB := n3_; clear n0_ n1_ n2_ n3_; (try clear hb); (try clear hb2); (try clear hk); (try clear hi); have hnb10 := NB123_124.out; have hnc10 := NB124_123.out; have hcz11_0 : w9.cell? ⟨gb123, 0, none⟩ = some (.int .i64 a1_0) := (blk_cell BK123.out 0).trans rfl; have hcz11_1 : w9.cell? ⟨gb123, 1, none⟩ = some (.int .i64 a1_1) := (blk_cell BK123.out 1).trans rfl; have hfz11_0 := blk_frozen BK123.out 0; have hfz11_1 := blk_frozen BK123.out 1; have hcz12_0 : w9.cell? ⟨gb124, 0, none⟩ = some (.int .i64 0) := (blk_cell BK124.out 0).trans rfl; have hcz12_1 : w9.cell? ⟨gb124, 1, none⟩ = some (.int .i64 0) := (blk_cell BK124.out 1).trans rfl; have hcz12_2 : w9.cell? ⟨gb124, 2, none⟩ = some (.slice none 0 0) := (blk_cell BK124.out 2).trans rfl; have hfz12_0 := blk_frozen BK124.out 0; have hfz12_1 := blk_frozen BK124.out 1; have hfz12_2 := blk_frozen BK124.out 2))
   refine bodyPost_ret (results_ct rfl _ _ gb124 59 #[.int .i64 a1_0, .int .i64 a1_1, .slice A0 l0.length c0] (0, 0) _ rfl (by (with_reducible repeat (first | apply kdn | apply kdr | apply kal)); refine blk_put (cs := #[.int .i64 a1_0, .int .i64 a1_1, .slice none 0 0]) ?_ 2 _ rfl; (with_reducible repeat (first | apply kdn | apply kdr | apply kal)); refine blk_put (cs := #[.int .i64 a1_0, .int .i64 0, .slice none 0 0]) ?_ 1 _ rfl; (with_reducible repeat (first | apply kdn | apply kdr | apply kal)); refine blk_put (cs := #[.int .i64 0, .int .i64 0, .slice none 0 0]) ?_ 0 _ rfl; (with_reducible repeat (first | apply kdn | apply kdr | apply kal)); exact BK124.out) Try.underlying59 rfl (by kernel_rfl)) rfl ?_
   exact ⟨_, by first | rfl | (simp [errW_none, errW_some] <;> rfl) | (simp only [← hji5]; first | rfl | (simp [errW_none, errW_some] <;> rfl)) | (simp [*, errW_none, errW_some] <;> rfl), by (with_reducible repeat (first | apply Kd.V_alloc | apply Kd.V_drewN | apply Kd.V_drew)); exact Kd.V_mono (Kd.V_far (p := ⟨gb124, 2, none⟩) (Kd.V_far (p := ⟨gb124, 1, none⟩) (Kd.V_far (p := ⟨gb124, 0, none⟩) (Kd.V_mono HO0.out (fun k_ hk => (⟨hk, hk.2⟩ : _ ∧ k_ ≠ gb124))) (fun _ hk => hk.2) (.int .i64 a1_0)) (fun _ hk => hk.2) (.int .i64 a1_1)) (fun _ hk => hk.2) (.slice A0 l0.length c0)) (fun _ hk => hk.1.1.1), by repeat (first | (with_reducible first | exact HB.out | apply lal | apply ldn | apply ldr | refine below_set ?_ GE123.out | refine below_set ?_ GE124.out) | exact HB.out)⟩
  ·rw [if_neg c6] at H
   have c6b0 : decide ((ji5) < 0) = false := decide_eq_false c6
   clear c6
   obtain ⟨ji13, hji13⟩ : ∃ j_ : Int, (mx a1_0 a1_1) = j_ := ⟨_, rfl⟩
   replace H : (if (ji13) > 1000 then (some (a1_0, a1_1, l0, 2)) else (some (a1_0, a1_1, l0, t125))) = some (r1, r2, r3, r4) := by first | (rw [hji13] at H; exact H) | (simp only [hji13] at H ⊢; exact H)
   (try rw [hji13] at A3)
   have hji13_ : (if a1_0 < a1_1 then a1_1 else a1_0) = ji13 := hji13
   by_cases c14 : (ji13) > 1000
   ·rw [if_pos c14] at H
    have c14b0 : decide (1000 < (ji13)) = true := decide_eq_true c14
    clear c14
    simp only [Option.some.injEq, Prod.mk.injEq] at H
    obtain ⟨rfl, rfl, rfl, rfl⟩ := H
    go_enter Try.func40, Try.ntmps40
    go_wp2_with (first | ((with_reducible refine gate_dst (N := 3) rfl ?_); (try (refine gate_guard (by rfl) ?_; dsimp only)); refine box_event ?hg (N := 3) ?hd (cs := #[.int .i64 a1_0, .int .i64 a1_1]) (t := 24) ?hr ?_; (case hd => rfl); (case hg => rfl); (case hr => first | (go_simp; done) | (go_simp; rfl)); intro gb123 hg w15 hbox hb; have n0_ := Aside0.mk (Kd.V_below (Kd.V_elderB (by (with_reducible repeat (first | apply Kd.V_alloc | apply Kd.V_drewN | apply Kd.V_drew)); exact HO0.out) gb123 (Nat.le_of_eq hg.symm)) hb); have n1_ := Aside0.mk (below_step (by repeat (first | (with_reducible first | exact HB.out | apply lal | apply ldn | apply ldr) | exact HB.out)) hb); have n2_ := Aside0.mk (hbox); have n3_ := Aside0.mk ((by rw [hg]; exact (below_size (by repeat (first | (with_reducible first | exact HB.out | apply lal | apply ldn | apply ldr) | exact HB.out))) : w.heap.size ≤ gb123)); have n4_ := Aside0.mk ((by rw [hg]; exact (below_size (by repeat (first | (with_reducible first | exact HB.out | apply lal | apply ldn | apply ldr) | exact HB.out))) : w.heap.size ≤ gb123)); clear HO0; clear HB; have HO0 := n0_; have HB := n1_; have BK123 := n2_; have GW123 := n3_; have GE123 := n4_; clear n0_ n1_ n2_ n3_ n4_; clear hb hbox hg) | ((with_reducible refine gate_dst (N := 4) rfl ?_); (try (refine gate_guard (by rfl) ?_; dsimp only)); refine box_event ?hg (N := 4) ?hd (cs := #[.int .i64 0, .int .i64 0, .slice none 0 0]) (t := 59) ?hr ?_; (case hd => rfl); (case hg => rfl); (case hr => first | (go_simp; done) | (go_simp; rfl)); intro gb124 hg w16 hbox hb; have n0_ := Aside0.mk (Kd.V_below (Kd.V_elderB (by (with_reducible repeat (first | apply Kd.V_alloc | apply Kd.V_drewN | apply Kd.V_drew)); exact HO0.out) gb124 (Nat.le_of_eq hg.symm)) hb); have n1_ := Aside0.mk (blk_below (g := gb123) (o := .cells #[.int .i64 a1_0, .int .i64 a1_1] 24 (0, 0)) (by (with_reducible repeat (first | apply kdn | apply kdr | apply kal)); exact BK123.out) hb); have n2_ := Aside0.mk (below_step (by repeat (first | (with_reducible first | exact HB.out | apply lal | apply ldn | apply ldr | refine below_set ?_ GE123.out) | exact HB.out)) hb); have n3_ := Aside0.mk (hbox); have n4_ := Aside0.mk ((by rw [hg]; exact (below_size (by repeat (first | (with_reducible first | exact HB.out | apply lal | apply ldn | apply ldr | refine below_set ?_ GE123.out) | exact HB.out))) : w.heap.size ≤ gb124)); have n5_ := Aside0.mk ((by rw [hg]; exact (below_size (by repeat (first | (with_reducible first | exact HB.out | apply lal | apply ldn | apply ldr | refine below_set ?_ GE123.out) | exact HB.out))) : w.heap.size ≤ gb124)); have n6_ := Aside0.mk ((by rw [hg]; exact Nat.ne_of_lt (blk_lt (g := gb123) (o := .cells #[.int .i64 a1_0, .int .i64 a1_1] 24 (0, 0)) (by (with_reducible repeat (first | apply kdn | apply kdr | apply kal)); exact BK123.out)) : gb123 ≠ gb124)); have n7_ := Aside0.mk ((by rw [hg]; exact Nat.ne_of_gt (blk_lt (g := gb123) (o := .cells #[.int .i64 a1_0, .int .i64 a1_1] 24 (0, 0)) (by (with_reducible repeat (first | apply kdn | apply kdr | apply kal)); exact BK123.out)) : gb124 ≠ gb123)); clear HO0; clear BK123; clear HB; have HO0 := n0_; have BK123 := n1_; have HB := n2_; have BK124 := n3_; have GW124 := n4_; have GE124 := n5_; have NB123_124 := n6_; have NB124_123 := n7_; clear n0_ n1_ n2_ n3_ n4_ n5_ n6_ n7_; clear hb hbox hg) | ((with_reducible refine gate_callee (f := 52) rfl ?_); refine goesL_ (some 8) rfl rfl Try.func52 (by kernel_rfl) rfl #[.slice A0 l0.length c0] rfl (by (try simp only [List.map_toArray, List.map_cons, List.map_nil]); first | done | rfl | (simp only [List.length_drop, List.length_take]; rfl)) ?_; (with_reducible refine (trip_toured.calls _ _ l0 t125 _ ?side1 ?side2 A3.out).mono ?_); (case side1 => repeat (first | exact (Kd.V_reads' HO0.out).2.2 | (with_reducible refine Kd.C_alloc ?_ _) | (with_reducible refine Kd.C_drewN ?_ _) | (with_reducible refine Kd.C_drew ?_))); (case side2 => exact (Kd.V_reads' HO0.out).2.1); rintro e w17 ⟨rfl, hb⟩; refine ⟨_, rfl, ?_⟩; have n0_ := Aside0.mk (Kd.V_below (by (with_reducible repeat (first | apply Kd.V_alloc | apply Kd.V_drewN | apply Kd.V_drew)); exact HO0.out) hb); have n1_ := Aside0.mk (blk_below (g := gb123) (o := .cells #[.int .i64 a1_0, .int .i64 a1_1] 24 (0, 0)) (by (with_reducible repeat (first | apply kdn | apply kdr | apply kal)); exact BK123.out) hb); have n2_ := Aside0.mk (blk_below (g := gb124) (o := .cells #[.int .i64 0, .int .i64 0, .slice none 0 0] 59 (0, 0)) (by (with_reducible repeat (first | apply kdn | apply kdr | apply kal)); exact BK124.out) hb); have n3_ := Aside0.mk (below_step (by repeat (first | (with_reducible first | exact HB.out | apply lal | apply ldn | apply ldr | refine below_set ?_ GE123.out | refine below_set ?_ GE124.out) | exact HB.out)) hb); clear HO0; clear BK123; clear BK124; clear HB; have HO0 := n0_; have BK123 := n1_; have BK124 := n2_; have HB := n3_; clear n0_ n1_ n2_ n3_; (try clear hb); (try clear hb2); (try clear hk); (try clear hi); have hnb18 := NB123_124.out; have hnc18 := NB124_123.out; have hcz19_0 : w17.cell? ⟨gb123, 0, none⟩ = some (.int .i64 a1_0) := (blk_cell BK123.out 0).trans rfl; have hcz19_1 : w17.cell? ⟨gb123, 1, none⟩ = some (.int .i64 a1_1) := (blk_cell BK123.out 1).trans rfl; have hfz19_0 := blk_frozen BK123.out 0; have hfz19_1 := blk_frozen BK123.out 1; have hcz20_0 : w17.cell? ⟨gb124, 0, none⟩ = some (.int .i64 0) := (blk_cell BK124.out 0).trans rfl; have hcz20_1 : w17.cell? ⟨gb124, 1, none⟩ = some (.int .i64 0) := (blk_cell BK124.out 1).trans rfl; have hcz20_2 : w17.cell? ⟨gb124, 2, none⟩ = some (.slice none 0 0) := (blk_cell BK124.out 2).trans rfl; have hfz20_0 := blk_frozen BK124.out 0; have hfz20_1 := blk_frozen BK124.out 1; have hfz20_2 := blk_frozen BK124.out 2))
    refine bodyPost_ret (results_ct rfl _ _ gb124 59 #[.int .i64 a1_0, .int .i64 a1_1, .slice A0 l0.length c0] (0, 0) _ rfl (by (with_reducible repeat (first | apply kdn | apply kdr | apply kal)); refine blk_put (cs := #[.int .i64 a1_0, .int .i64 a1_1, .slice none 0 0]) ?_ 2 _ rfl; (with_reducible repeat (first | apply kdn | apply kdr | apply kal)); refine blk_put (cs := #[.int .i64 a1_0, .int .i64 0, .slice none 0 0]) ?_ 1 _ rfl; (with_reducible repeat (first | apply kdn | apply kdr | apply kal)); refine blk_put (cs := #[.int .i64 0, .int .i64 0, .slice none 0 0]) ?_ 0 _ rfl; (with_reducible repeat (first | apply kdn | apply kdr | apply kal)); exact BK124.out) Try.underlying59 rfl (by kernel_rfl)) rfl ?_
    exact ⟨_, by first | rfl | (simp [errW_none, errW_some] <;> rfl) | (simp only [← hji5, ← hji13]; first | rfl | (simp [errW_none, errW_some] <;> rfl)) | (simp [*, errW_none, errW_some] <;> rfl), by (with_reducible repeat (first | apply Kd.V_alloc | apply Kd.V_drewN | apply Kd.V_drew)); exact Kd.V_mono (Kd.V_far (p := ⟨gb124, 2, none⟩) (Kd.V_far (p := ⟨gb124, 1, none⟩) (Kd.V_far (p := ⟨gb124, 0, none⟩) (Kd.V_mono HO0.out (fun k_ hk => (⟨hk, hk.2⟩ : _ ∧ k_ ≠ gb124))) (fun _ hk => hk.2) (.int .i64 a1_0)) (fun _ hk => hk.2) (.int .i64 a1_1)) (fun _ hk => hk.2) (.slice A0 l0.length c0)) (fun _ hk => hk.1.1.1), by repeat (first | (with_reducible first | exact HB.out | apply lal | apply ldn | apply ldr | refine below_set ?_ GE123.out | refine below_set ?_ GE124.out) | exact HB.out)⟩
   ·rw [if_neg c14] at H
    have c14b0 : decide (1000 < (ji13)) = false := decide_eq_false c14
    clear c14
    simp only [Option.some.injEq, Prod.mk.injEq] at H
    obtain ⟨rfl, rfl, rfl, rfl⟩ := H
    go_enter Try.func40, Try.ntmps40
    go_wp2_with (first | ((with_reducible refine gate_dst (N := 3) rfl ?_); (try (refine gate_guard (by rfl) ?_; dsimp only)); refine box_event ?hg (N := 3) ?hd (cs := #[.int .i64 a1_0, .int .i64 a1_1]) (t := 24) ?hr ?_; (case hd => rfl); (case hg => rfl); (case hr => first | (go_simp; done) | (go_simp; rfl)); intro gb123 hg w21 hbox hb; have n0_ := Aside0.mk (Kd.V_below (Kd.V_elderB (by (with_reducible repeat (first | apply Kd.V_alloc | apply Kd.V_drewN | apply Kd.V_drew)); exact HO0.out) gb123 (Nat.le_of_eq hg.symm)) hb); have n1_ := Aside0.mk (below_step (by repeat (first | (with_reducible first | exact HB.out | apply lal | apply ldn | apply ldr) | exact HB.out)) hb); have n2_ := Aside0.mk (hbox); have n3_ := Aside0.mk ((by rw [hg]; exact (below_size (by repeat (first | (with_reducible first | exact HB.out | apply lal | apply ldn | apply ldr) | exact HB.out))) : w.heap.size ≤ gb123)); have n4_ := Aside0.mk ((by rw [hg]; exact (below_size (by repeat (first | (with_reducible first | exact HB.out | apply lal | apply ldn | apply ldr) | exact HB.out))) : w.heap.size ≤ gb123)); clear HO0; clear HB; have HO0 := n0_; have HB := n1_; have BK123 := n2_; have GW123 := n3_; have GE123 := n4_; clear n0_ n1_ n2_ n3_ n4_; clear hb hbox hg) | ((with_reducible refine gate_dst (N := 4) rfl ?_); (try (refine gate_guard (by rfl) ?_; dsimp only)); refine box_event ?hg (N := 4) ?hd (cs := #[.int .i64 0, .int .i64 0, .slice none 0 0]) (t := 59) ?hr ?_; (case hd => rfl); (case hg => rfl); (case hr => first | (go_simp; done) | (go_simp; rfl)); intro gb124 hg w22 hbox hb; have n0_ := Aside0.mk (Kd.V_below (Kd.V_elderB (by (with_reducible repeat (first | apply Kd.V_alloc | apply Kd.V_drewN | apply Kd.V_drew)); exact HO0.out) gb124 (Nat.le_of_eq hg.symm)) hb); have n1_ := Aside0.mk (blk_below (g := gb123) (o := .cells #[.int .i64 a1_0, .int .i64 a1_1] 24 (0, 0)) (by (with_reducible repeat (first | apply kdn | apply kdr | apply kal)); exact BK123.out) hb); have n2_ := Aside0.mk (below_step (by repeat (first | (with_reducible first | exact HB.out | apply lal | apply ldn | apply ldr | refine below_set ?_ GE123.out) | exact HB.out)) hb); have n3_ := Aside0.mk (hbox); have n4_ := Aside0.mk ((by rw [hg]; exact (below_size (by repeat (first | (with_reducible first | exact HB.out | apply lal | apply ldn | apply ldr | refine below_set ?_ GE123.out) | exact HB.out))) : w.heap.size ≤ gb124)); have n5_ := Aside0.mk ((by rw [hg]; exact (below_size (by repeat (first | (with_reducible first | exact HB.out | apply lal | apply ldn | apply ldr | refine below_set ?_ GE123.out) | exact HB.out))) : w.heap.size ≤ gb124)); have n6_ := Aside0.mk ((by rw [hg]; exact Nat.ne_of_lt (blk_lt (g := gb123) (o := .cells #[.int .i64 a1_0, .int .i64 a1_1] 24 (0, 0)) (by (with_reducible repeat (first | apply kdn | apply kdr | apply kal)); exact BK123.out)) : gb123 ≠ gb124)); have n7_ := Aside0.mk ((by rw [hg]; exact Nat.ne_of_gt (blk_lt (g := gb123) (o := .cells #[.int .i64 a1_0, .int .i64 a1_1] 24 (0, 0)) (by (with_reducible repeat (first | apply kdn | apply kdr | apply kal)); exact BK123.out)) : gb124 ≠ gb123)); clear HO0; clear BK123; clear HB; have HO0 := n0_; have BK123 := n1_; have HB := n2_; have BK124 := n3_; have GW124 := n4_; have GE124 := n5_; have NB123_124 := n6_; have NB124_123 := n7_; clear n0_ n1_ n2_ n3_ n4_ n5_ n6_ n7_; clear hb hbox hg) | ((with_reducible refine gate_callee (f := 52) rfl ?_); refine goesL_ (some 8) rfl rfl Try.func52 (by kernel_rfl) rfl #[.slice A0 l0.length c0] rfl (by (try simp only [List.map_toArray, List.map_cons, List.map_nil]); first | done | rfl | (simp only [List.length_drop, List.length_take]; rfl)) ?_; (with_reducible refine (trip_toured.calls _ _ l0 t125 _ ?side1 ?side2 A3.out).mono ?_); (case side1 => repeat (first | exact (Kd.V_reads' HO0.out).2.2 | (with_reducible refine Kd.C_alloc ?_ _) | (with_reducible refine Kd.C_drewN ?_ _) | (with_reducible refine Kd.C_drew ?_))); (case side2 => exact (Kd.V_reads' HO0.out).2.1); rintro e w23 ⟨rfl, hb⟩; refine ⟨_, rfl, ?_⟩; have n0_ := Aside0.mk (Kd.V_below (by (with_reducible repeat (first | apply Kd.V_alloc | apply Kd.V_drewN | apply Kd.V_drew)); exact HO0.out) hb); have n1_ := Aside0.mk (blk_below (g := gb123) (o := .cells #[.int .i64 a1_0, .int .i64 a1_1] 24 (0, 0)) (by (with_reducible repeat (first | apply kdn | apply kdr | apply kal)); exact BK123.out) hb); have n2_ := Aside0.mk (blk_below (g := gb124) (o := .cells #[.int .i64 0, .int .i64 0, .slice none 0 0] 59 (0, 0)) (by (with_reducible repeat (first | apply kdn | apply kdr | apply kal)); exact BK124.out) hb); have n3_ := Aside0.mk (below_step (by repeat (first | (with_reducible first | exact HB.out | apply lal | apply ldn | apply ldr | refine below_set ?_ GE123.out | refine below_set ?_ GE124.out) | exact HB.out)) hb); clear HO0; clear BK123; clear BK124; clear HB; have HO0 := n0_; have BK123 := n1_; have BK124 := n2_; have HB := n3_; clear n0_ n1_ n2_ n3_; (try clear hb); (try clear hb2); (try clear hk); (try clear hi); have hnb24 := NB123_124.out; have hnc24 := NB124_123.out; have hcz25_0 : w23.cell? ⟨gb123, 0, none⟩ = some (.int .i64 a1_0) := (blk_cell BK123.out 0).trans rfl; have hcz25_1 : w23.cell? ⟨gb123, 1, none⟩ = some (.int .i64 a1_1) := (blk_cell BK123.out 1).trans rfl; have hfz25_0 := blk_frozen BK123.out 0; have hfz25_1 := blk_frozen BK123.out 1; have hcz26_0 : w23.cell? ⟨gb124, 0, none⟩ = some (.int .i64 0) := (blk_cell BK124.out 0).trans rfl; have hcz26_1 : w23.cell? ⟨gb124, 1, none⟩ = some (.int .i64 0) := (blk_cell BK124.out 1).trans rfl; have hcz26_2 : w23.cell? ⟨gb124, 2, none⟩ = some (.slice none 0 0) := (blk_cell BK124.out 2).trans rfl; have hfz26_0 := blk_frozen BK124.out 0; have hfz26_1 := blk_frozen BK124.out 1; have hfz26_2 := blk_frozen BK124.out 2))
    refine bodyPost_ret (results_ct rfl _ _ gb124 59 #[.int .i64 a1_0, .int .i64 a1_1, .slice A0 l0.length c0] (0, 0) _ rfl (by (with_reducible repeat (first | apply kdn | apply kdr | apply kal)); refine blk_put (cs := #[.int .i64 a1_0, .int .i64 a1_1, .slice none 0 0]) ?_ 2 _ rfl; (with_reducible repeat (first | apply kdn | apply kdr | apply kal)); refine blk_put (cs := #[.int .i64 a1_0, .int .i64 0, .slice none 0 0]) ?_ 1 _ rfl; (with_reducible repeat (first | apply kdn | apply kdr | apply kal)); refine blk_put (cs := #[.int .i64 0, .int .i64 0, .slice none 0 0]) ?_ 0 _ rfl; (with_reducible repeat (first | apply kdn | apply kdr | apply kal)); exact BK124.out) Try.underlying59 rfl (by kernel_rfl)) rfl ?_
    exact ⟨_, by first | rfl | (simp [errW_none, errW_some] <;> rfl) | (simp only [← hji5, ← hji13]; first | rfl | (simp [errW_none, errW_some] <;> rfl)) | (simp [*, errW_none, errW_some] <;> rfl), by (with_reducible repeat (first | apply Kd.V_alloc | apply Kd.V_drewN | apply Kd.V_drew)); exact Kd.V_mono (Kd.V_far (p := ⟨gb124, 2, none⟩) (Kd.V_far (p := ⟨gb124, 1, none⟩) (Kd.V_far (p := ⟨gb124, 0, none⟩) (Kd.V_mono HO0.out (fun k_ hk => (⟨hk, hk.2⟩ : _ ∧ k_ ≠ gb124))) (fun _ hk => hk.2) (.int .i64 a1_0)) (fun _ hk => hk.2) (.int .i64 a1_1)) (fun _ hk => hk.2) (.slice A0 l0.length c0)) (fun _ hk => hk.1.1.1), by repeat (first | (with_reducible first | exact HB.out | apply lal | apply ldn | apply ldr | refine below_set ?_ GE123.out | refine below_set ?_ GE124.out) | exact HB.out)⟩
 ·rw [if_neg c4] at H
  have c4b0 : (t125 == 0) = false := beq_eq_false_iff_ne.mpr c4
  have c4b1 : (t125 != 0) = true := bne_iff_ne.mpr c4
  simp only [Option.some.injEq, Prod.mk.injEq] at H
  obtain ⟨rfl, rfl, rfl, rfl⟩ := H
  go_enter Try.func40, Try.ntmps40
  go_wp2_with (first | ((with_reducible refine gate_dst (N := 3) rfl ?_); (try (refine gate_guard (by rfl) ?_; dsimp only)); refine box_event ?hg (N := 3) ?hd (cs := #[.int .i64 a1_0, .int .i64 a1_1]) (t := 24) ?hr ?_; (case hd => rfl); (case hg => rfl); (case hr => first | (go_simp; done) | (go_simp; rfl)); intro gb123 hg w27 hbox hb; have n0_ := Aside0.mk (Kd.V_below (Kd.V_elderB (by (with_reducible repeat (first | apply Kd.V_alloc | apply Kd.V_drewN | apply Kd.V_drew)); exact HO0.out) gb123 (Nat.le_of_eq hg.symm)) hb); have n1_ := Aside0.mk (below_step (by repeat (first | (with_reducible first | exact HB.out | apply lal | apply ldn | apply ldr) | exact HB.out)) hb); have n2_ := Aside0.mk (hbox); have n3_ := Aside0.mk ((by rw [hg]; exact (below_size (by repeat (first | (with_reducible first | exact HB.out | apply lal | apply ldn | apply ldr) | exact HB.out))) : w.heap.size ≤ gb123)); have n4_ := Aside0.mk ((by rw [hg]; exact (below_size (by repeat (first | (with_reducible first | exact HB.out | apply lal | apply ldn | apply ldr) | exact HB.out))) : w.heap.size ≤ gb123)); clear HO0; clear HB; have HO0 := n0_; have HB := n1_; have BK123 := n2_; have GW123 := n3_; have GE123 := n4_; clear n0_ n1_ n2_ n3_ n4_; clear hb hbox hg) | ((with_reducible refine gate_dst (N := 4) rfl ?_); (try (refine gate_guard (by rfl) ?_; dsimp only)); refine box_event ?hg (N := 4) ?hd (cs := #[.int .i64 0, .int .i64 0, .slice none 0 0]) (t := 59) ?hr ?_; (case hd => rfl); (case hg => rfl); (case hr => first | (go_simp; done) | (go_simp; rfl)); intro gb124 hg w28 hbox hb; have n0_ := Aside0.mk (Kd.V_below (Kd.V_elderB (by (with_reducible repeat (first | apply Kd.V_alloc | apply Kd.V_drewN | apply Kd.V_drew)); exact HO0.out) gb124 (Nat.le_of_eq hg.symm)) hb); have n1_ := Aside0.mk (blk_below (g := gb123) (o := .cells #[.int .i64 a1_0, .int .i64 a1_1] 24 (0, 0)) (by (with_reducible repeat (first | apply kdn | apply kdr | apply kal)); exact BK123.out) hb); have n2_ := Aside0.mk (below_step (by repeat (first | (with_reducible first | exact HB.out | apply lal | apply ldn | apply ldr | refine below_set ?_ GE123.out) | exact HB.out)) hb); have n3_ := Aside0.mk (hbox); have n4_ := Aside0.mk ((by rw [hg]; exact (below_size (by repeat (first | (with_reducible first | exact HB.out | apply lal | apply ldn | apply ldr | refine below_set ?_ GE123.out) | exact HB.out))) : w.heap.size ≤ gb124)); have n5_ := Aside0.mk ((by rw [hg]; exact (below_size (by repeat (first | (with_reducible first | exact HB.out | apply lal | apply ldn | apply ldr | refine below_set ?_ GE123.out) | exact HB.out))) : w.heap.size ≤ gb124)); have n6_ := Aside0.mk ((by rw [hg]; exact Nat.ne_of_lt (blk_lt (g := gb123) (o := .cells #[.int .i64 a1_0, .int .i64 a1_1] 24 (0, 0)) (by (with_reducible repeat (first | apply kdn | apply kdr | apply kal)); exact BK123.out)) : gb123 ≠ gb124)); have n7_ := Aside0.mk ((by rw [hg]; exact Nat.ne_of_gt (blk_lt (g := gb123) (o := .cells #[.int .i64 a1_0, .int .i64 a1_1] 24 (0, 0)) (by (with_reducible repeat (first | apply kdn | apply kdr | apply kal)); exact BK123.out)) : gb124 ≠ gb123)); clear HO0; clear BK123; clear HB; have HO0 := n0_; have BK123 := n1_; have HB := n2_; have BK124 := n3_; have GW124 := n4_; have GE124 := n5_; have NB123_124 := n6_; have NB124_123 := n7_; clear n0_ n1_ n2_ n3_ n4_ n5_ n6_ n7_; clear hb hbox hg) | ((with_reducible refine gate_callee (f := 52) rfl ?_); refine goesL_ (some 8) rfl rfl Try.func52 (by kernel_rfl) rfl #[.slice A0 l0.length c0] rfl (by (try simp only [List.map_toArray, List.map_cons, List.map_nil]); first | done | rfl | (simp only [List.length_drop, List.length_take]; rfl)) ?_; (with_reducible refine (trip_toured.calls _ _ l0 t125 _ ?side1 ?side2 A3.out).mono ?_); (case side1 => repeat (first | exact (Kd.V_reads' HO0.out).2.2 | (with_reducible refine Kd.C_alloc ?_ _) | (with_reducible refine Kd.C_drewN ?_ _) | (with_reducible refine Kd.C_drew ?_))); (case side2 => exact (Kd.V_reads' HO0.out).2.1); rintro e w29 ⟨rfl, hb⟩; refine ⟨_, rfl, ?_⟩; have n0_ := Aside0.mk (Kd.V_below (by (with_reducible repeat (first | apply Kd.V_alloc | apply Kd.V_drewN | apply Kd.V_drew)); exact HO0.out) hb); have n1_ := Aside0.mk (blk_below (g := gb123) (o := .cells #[.int .i64 a1_0, .int .i64 a1_1] 24 (0, 0)) (by (with_reducible repeat (first | apply kdn | apply kdr | apply kal)); exact BK123.out) hb); have n2_ := Aside0.mk (blk_below (g := gb124) (o := .cells #[.int .i64 0, .int .i64 0, .slice none 0 0] 59 (0, 0)) (by (with_reducible repeat (first | apply kdn | apply kdr | apply kal)); exact BK124.out) hb); have n3_ := Aside0.mk (below_step (by repeat (first | (with_reducible first | exact HB.out | apply lal | apply ldn | apply ldr | refine below_set ?_ GE123.out | refine below_set ?_ GE124.out) | exact HB.out)) hb); clear HO0; clear BK123; clear BK124; clear HB; have HO0 := n0_; have BK123 := n1_; have BK124 := n2_; have HB := n3_; clear n0_ n1_ n2_ n3_; (try clear hb); (try clear hb2); (try clear hk); (try clear hi); have hnb30 := NB123_124.out; have hnc30 := NB124_123.out; have hcz31_0 : w29.cell? ⟨gb123, 0, none⟩ = some (.int .i64 a1_0) := (blk_cell BK123.out 0).trans rfl; have hcz31_1 : w29.cell? ⟨gb123, 1, none⟩ = some (.int .i64 a1_1) := (blk_cell BK123.out 1).trans rfl; have hfz31_0 := blk_frozen BK123.out 0; have hfz31_1 := blk_frozen BK123.out 1; have hcz32_0 : w29.cell? ⟨gb124, 0, none⟩ = some (.int .i64 0) := (blk_cell BK124.out 0).trans rfl; have hcz32_1 : w29.cell? ⟨gb124, 1, none⟩ = some (.int .i64 0) := (blk_cell BK124.out 1).trans rfl; have hcz32_2 : w29.cell? ⟨gb124, 2, none⟩ = some (.slice none 0 0) := (blk_cell BK124.out 2).trans rfl; have hfz32_0 := blk_frozen BK124.out 0; have hfz32_1 := blk_frozen BK124.out 1; have hfz32_2 := blk_frozen BK124.out 2))
  refine bodyPost_ret (results_ct rfl _ _ gb124 59 #[.int .i64 a1_0, .int .i64 a1_1, .slice A0 l0.length c0] (0, 0) _ rfl (by (with_reducible repeat (first | apply kdn | apply kdr | apply kal)); refine blk_put (cs := #[.int .i64 a1_0, .int .i64 a1_1, .slice none 0 0]) ?_ 2 _ rfl; (with_reducible repeat (first | apply kdn | apply kdr | apply kal)); refine blk_put (cs := #[.int .i64 a1_0, .int .i64 0, .slice none 0 0]) ?_ 1 _ rfl; (with_reducible repeat (first | apply kdn | apply kdr | apply kal)); refine blk_put (cs := #[.int .i64 0, .int .i64 0, .slice none 0 0]) ?_ 0 _ rfl; (with_reducible repeat (first | apply kdn | apply kdr | apply kal)); exact BK124.out) Try.underlying59 rfl (by kernel_rfl)) rfl ?_
  exact ⟨_, by first | rfl | (simp [errW_none, errW_some] <;> rfl) | (simp [*, errW_none, errW_some] <;> rfl), by (with_reducible repeat (first | apply Kd.V_alloc | apply Kd.V_drewN | apply Kd.V_drew)); exact Kd.V_mono (Kd.V_far (p := ⟨gb124, 2, none⟩) (Kd.V_far (p := ⟨gb124, 1, none⟩) (Kd.V_far (p := ⟨gb124, 0, none⟩) (Kd.V_mono HO0.out (fun k_ hk => (⟨hk, hk.2⟩ : _ ∧ k_ ≠ gb124))) (fun _ hk => hk.2) (.int .i64 a1_0)) (fun _ hk => hk.2) (.int .i64 a1_1)) (fun _ hk => hk.2) (.slice A0 l0.length c0)) (fun _ hk => hk.1.1.1), by repeat (first | (with_reducible first | exact HB.out | apply lal | apply ldn | apply ldr | refine below_set ?_ GE123.out | refine below_set ?_ GE124.out) | exact HB.out)⟩
mutual
def trip_Tour.on : Nat → List S36 → Int → Int → List Int → Int → List Int → Int → Option (List Int × Int)
 | 0, _, _, _, _, _, _, _ => none
 | k + 1, L, U, D, l, sum, best, least => if l = [] then none else (if (l.length : Int) = (L.length : Int) then ((trip_day_empty.f U D L (rd l ((l.length : Int) - 1)) 0).bind fun x => if best = [] then ((slices_Clone_int_int.f l).bind fun b => some (b, wrap64 (sum + x))) else if wrap64 (sum + x) < least then ((slices_Clone_int_int.f l).bind fun b => some (b, wrap64 (sum + x))) else some (best, least)) else trip_Tour.l0 k L U D l sum (rd l ((l.length : Int) - 1)) best least 0)
def trip_Tour.l0 : Nat → List S36 → Int → Int → List Int → Int → Int → List Int → Int → Int → Option (List Int × Int)
 | 0, _, _, _, _, _, _, _, _, _ => none
 | k + 1, L, U, D, l, sum, last, best, least, i => if i < (L.length : Int) then (if 0 ≤ i then ((slices_Contains_int_int.f k l i).bind fun c => if c = false then (if l.length < 17592186044415 then ((trip_day_empty.f U D L last i).bind fun x => (trip_Tour.on k L U D (l ++ [i]) (wrap64 (sum + x)) best least).bind fun b => trip_Tour.l0 k L U D l sum last b.1 b.2 (wrap64 (i + 1))) else none) else trip_Tour.l0 k L U D l sum last best least (wrap64 (i + 1))) else none) else some (best, least)
end
structure TrS (w0 : World) (B R : Nat) (A : Option Addr) (cw : Nat) (Ad : Option Addr) (cd : Nat) (L : List S36) (U D : Int) (w : World) (vb : Value) (best : List Int) (least : Int) : Prop where
 eB : w0.heap.size = B
 hR : R < B
 lo : Below B w0 w
 rd_ : Kd.C k36 w0 Ad L.length L
 cd_ : L.length ≤ cd
 br : w.heap[R]? = some (.cells #[.slice A L.length cw] 22 (0, 0))
 bd : w.heap[B]? = some (.cells #[.int .i64 U, .int .i64 D, .slice Ad L.length cd] 59 (0, 0))
 bb : w.heap[B + 1]? = some (.cells #[vb] 27 (0, 0))
 rb : Kd.R (Kd.int .i64) 3 w (B + 4) (fun _ => True) vb best
 nb : best = [] → vb = .slice none 0 0
 bm : w.heap[B + 2]? = some (.cells #[.int .i64 least] 3 (0, 0))
 bo : w.heap[B + 3]? = some (.cells #[.func (.func 41) #[] #[.pointer (some ⟨R, 0, none⟩), .pointer (some ⟨B, 0, none⟩), .pointer (some ⟨B + 1, 0, none⟩), .pointer (some ⟨B + 2, 0, none⟩), .pointer (some ⟨B + 3, 0, none⟩)]] 62 (0, 0))
section
variable {w0 : World} {B R : Nat} {A : Option Addr} {cw : Nat} {Ad : Option Addr} {cd : Nat} {L : List S36} {U D : Int} {w w1 : World} {vb v : Value} {best b : List Int} {least m : Int}
theorem TrS.size (h : TrS w0 B R A cw Ad cd L U D w vb best least) : B + 4 ≤ w.heap.size := blk_lt h.bo
theorem TrS.below (h : TrS w0 B R A cw Ad cd L U D w vb best least) (hb : Below w.heap.size w w1) : TrS w0 B R A cw Ad cd L U D w1 vb best least :=
 ⟨h.eB, h.hR, h.lo.trans (hb.mono (Nat.le_trans (Nat.le_add_right B 4) h.size)), h.rd_, h.cd_, blk_below h.br hb, blk_below h.bd hb, blk_below h.bb hb, Kd.R_below h.rb hb, h.nb, blk_below h.bm hb, blk_below h.bo hb⟩
theorem TrS.rides (h : TrS w0 B R A cw Ad cd L U D w vb best least) : Kd.C k36 w Ad L.length L := Kd.C_below h.rd_ (by rw [h.eB]; exact h.lo)
theorem TrS.put (h : TrS w0 B R A cw Ad cd L U D w vb best least) (hv : Kd.R (Kd.int .i64) 3 w (B + 4) (fun _ => True) v b) (hn : b ≠ []) :
  TrS w0 B R A cw Ad cd L U D ((w.setCell ⟨B + 1, 0, none⟩ v).setCell ⟨B + 2, 0, none⟩ (.int .i64 m)) v b m := by
 have hR := h.hR
 have hfar : ∀ {j : Nat} {w2 : World} (u : Value), j < B + 4 → Kd.R (Kd.int .i64) 3 w2 (B + 4) (fun _ => True) v b → Kd.R (Kd.int .i64) 3 (w2.setCell ⟨j, 0, none⟩ u) (B + 4) (fun _ => True) v b := fun {j w2} u hj hv =>
  Kd.R_mono (Kd.R_far (Kd.R_bound hv) (fun k hk => by show k ≠ j; have := hk.2.1; omega) _) (fun _ _ => trivial)
 refine ⟨h.eB, h.hR, (h.lo.setCell (p := ⟨B + 1, 0, none⟩) (by simp) _).setCell (p := ⟨B + 2, 0, none⟩) (by simp) _, h.rd_, h.cd_, blk_far (blk_far h.br (by show R ≠ B + 1; omega) _) (by show R ≠ B + 2; omega) _, blk_far (blk_far h.bd (by simp) _) (by simp) _, blk_far (blk_put h.bb 0 v rfl) (by simp) _, hfar _ (by omega) (hfar _ (by omega) hv), fun e => absurd e hn, blk_put (blk_far h.bm (by simp) _) 0 _ rfl, blk_far (blk_far h.bo (by simp) _) (by simp) _⟩
end
theorem nil_of_none {w : World} {base : Nat} {ok : Nat → Prop} {n c : Nat} {l : List Int} (h : Kd.R (Kd.int .i64) 3 w base ok (.slice none n c) l) : l = [] := by
 rcases Nat.eq_zero_or_pos l.length with h0 | h0
 ·exact List.eq_nil_of_length_eq_zero h0
 ·obtain ⟨rfl, _, hc⟩ := Kd.R_reads' h
  obtain ⟨ad, e1, _⟩ := Kd.at_int hc 0 (by omega) (by omega)
  cases e1
set_option maxRecDepth 100000 in
set_option maxHeartbeats 1000000 in
theorem trip_Tour_on.calls (k : Nat) : ∀ (w0 : World) (B R : Nat) (A : Option Addr) (cw : Nat) (Ad : Option Addr) (cd : Nat) (L : List S36) (U D : Int) (vb : Value) (A4 : Option Addr) (c4 : Nat) (l : List Int) (sum : Int) (best : List Int) (least : Int) (r1 : List Int) (r2 : Int) (w : World) (hS : TrS w0 B R A cw Ad cd L U D w vb best least) (hF : Kd.F (Kd.int .i64) w (fun k_ => B + 4 ≤ k_) A4 l.length l) (hc4 : l.length ≤ c4) (h : trip_Tour.on k L U D l sum best least = some (r1, r2)),
  Calls Try.prog 41 #[.slice A4 l.length c4, .int .i64 sum, .pointer (some ⟨R, 0, none⟩), .pointer (some ⟨B, 0, none⟩), .pointer (some ⟨B + 1, 0, none⟩), .pointer (some ⟨B + 2, 0, none⟩), .pointer (some ⟨B + 3, 0, none⟩)] w fun e w' => ∃ vb' : Value, e = .returned (.tuple #[]) ∧ TrS w0 B R A cw Ad cd L U D w' vb' r1 r2 ∧ Kept w w' (fun k_ => k_ = B + 1 ∨ k_ = B + 2) := by
 induction k using Nat.strongRecOn with
 | _ k ih =>
 intro w0 B R A cw Ad cd L U D vb A4 c4 l sum best least r1 r2 w hS hF hc4 h
 cases k with
 | zero => exact absurd h (by simp [trip_Tour.on])
 | succ k =>
 simp only [trip_Tour.on] at h
 by_cases hl0 : l = []
 ·rw [if_pos hl0] at h; cases h
 rw [if_neg hl0] at h
 have qT : ∀ (w : World) (a : Option Addr) (n c n' c' : Nat), (binOp .eql 27 (.slice a n c) (.slice none n' c')).run Try.prog w = .ok (.bool a.isNone) w := fun w a n c n' c' => Lib.run_eql_slice_nil w _ _ a n c n' c' Try.underlying27
 have hu59 := Try.underlying59
 have IH := Aside0.mk ih
 have HS0 := Aside0.mk hS
 have HF0 := Aside0.mk hF
 have HL := Aside0.mk (Kd.F_max hF)
 have hpos : 0 < l.length := by
  cases l with
  | nil => exact absurd rfl hl0
  | cons x t => simp
 obtain ⟨n1, hn1⟩ : ∃ n1, l.length = n1 + 1 := ⟨l.length - 1, by omega⟩
 have en : (l.length : Int) - 1 = (n1 : Int) := by omega
 obtain ⟨ao, ea, hxo⟩ := Kd.at_int (Kd.F_now hF) (n1 : Int) (by omega) (by omega)
 subst ea
 rw [Int.toNat_natCast] at hxo
 obtain ⟨last, hlast⟩ : ∃ last, last = rd l (n1 : Int) := ⟨_, rfl⟩
 rw [← hlast] at hxo
 rw [en, ← hlast] at h
 have v1 : (0 : Int) ≤ (n1 : Int) := by omega
 have v2 : (n1 : Int) < (l.length : Int) := by omega
 have v3 : IntKind.i64.wrap ((l.length : Int) - 1) = (n1 : Int) := by have hm := HL.out; rw [en, IntKind.wrap_i64]; first | omega | (simp only [maxLen] at hm; omega)
 have v1b := eq_true v1
 have v2b := eq_true v2
 clear ih hS hF hlast en hn1 v1 v2 hpos
 obtain ⟨Ab, cb, rfl⟩ := Kd.R_slice HS0.out.rb
 have e0 : w.cell? ⟨R, 0, none⟩ = some (.slice A L.length cw) := (blk_cell HS0.out.br 0).trans rfl
 have e1 : w.cell? ⟨B + 1, 0, none⟩ = some (.slice Ab best.length cb) := (blk_cell HS0.out.bb 0).trans rfl
 have e2 : w.cell? ⟨B + 2, 0, none⟩ = some (.int .i64 least) := (blk_cell HS0.out.bm 0).trans rfl
 have d0 : w.cell? ⟨B, 0, none⟩ = some (.int .i64 U) := (blk_cell HS0.out.bd 0).trans rfl
 have d1 : w.cell? ⟨B, 1, none⟩ = some (.int .i64 D) := (blk_cell HS0.out.bd 1).trans rfl
 have d2 : w.cell? ⟨B, 2, none⟩ = some (.slice Ad L.length cd) := (blk_cell HS0.out.bd 2).trans rfl
 by_cases hlen : (l.length : Int) = (L.length : Int)
 ·rw [if_pos hlen] at h
  have c1 : ((l.length : Int) == (L.length : Int)) = true := beq_iff_eq.mpr hlen
  have c2 : (l.length == L.length) = true := beq_iff_eq.mpr (by omega)
  obtain ⟨x, hx, h⟩ := Option.bind_eq_some_iff.mp h
  have HX := Aside0.mk (trip_day_empty.calls U D Ad cd L last 0 x w HS0.out.rides HS0.out.cd_ hx)
  clear hx hlen
  have putit : (slices_Clone_int_int.f l).bind (fun b => some (b, wrap64 (sum + x))) = some (r1, r2) → Ab.isNone = true ∨ (Ab.isNone = false ∧ wrap64 (sum + x) < least) →
    Calls Try.prog 41 #[.slice (some ao) l.length c4, .int .i64 sum, .pointer (some ⟨R, 0, none⟩), .pointer (some ⟨B, 0, none⟩), .pointer (some ⟨B + 1, 0, none⟩), .pointer (some ⟨B + 2, 0, none⟩), .pointer (some ⟨B + 3, 0, none⟩)] w fun e w' => ∃ vb' : Value, e = .returned (.tuple #[]) ∧ TrS w0 B R A cw Ad cd L U D w' vb' r1 r2 ∧ Kept w w' (fun k_ => k_ = B + 1 ∨ k_ = B + 2) := by
   intro hb hcase
   obtain ⟨b0, hb0, hb⟩ := Option.bind_eq_some_iff.mp hb
   simp only [Option.some.injEq, Prod.mk.injEq] at hb
   obtain ⟨rfl, rfl⟩ := hb
   have hbl : b0 = l := by
    unfold slices_Clone_int_int.f at hb0
    split at hb0
    ·exact (Option.some.inj hb0).symm
    ·cases hb0
   have HBL := Aside0.mk hbl
   have HNE := Aside0.mk hl0
   have A0 := Aside0.mk hb0
   clear hb0 hbl hl0 h
   go_enter Try.func41, Try.ntmps41
   go_wp2_with fail
   refine HX.out.mono ?_
   rintro e w1 ⟨rfl, hb1⟩
   have HS1 := Aside0.mk (HS0.out.below hb1)
   have HF1 := Aside0.mk (Kd.F_below HF0.out hb1)
   have HB1 := Aside0.mk hb1
   have g0 : w1.cell? ⟨R, 0, none⟩ = some (.slice A L.length cw) := (blk_cell HS1.out.br 0).trans rfl
   have g1 : w1.cell? ⟨B + 1, 0, none⟩ = some (.slice Ab best.length cb) := (blk_cell HS1.out.bb 0).trans rfl
   have g2 : w1.cell? ⟨B + 2, 0, none⟩ = some (.int .i64 least) := (blk_cell HS1.out.bm 0).trans rfl
   clear hb1 e0 e1 e2 d0 d1 d2 hxo HX
   rcases hcase with hn | ⟨hn, hgt⟩
   ·have HN := Aside0.mk hn
    go_wp2_with fail
    refine (slices_Clone_int_int.calls (some ao) c4 l b0 _ (by repeat (first | exact Kd.F_now HF1.out | apply Kd.C_drew | apply Kd.C_drewN)) hc4 A0.out).mono ?_
    rintro e w2 ⟨v1, rfl, ho, hb⟩
    obtain ⟨A1, d1, rfl⟩ := Kd.R_slice ho
    have HS2 := HS1.out.below hb
    have hsz := HS1.out.size
    have HS := Aside0.mk (HS2.put (m := wrap64 (sum + x)) (Kd.R_lower ho hsz) (by rw [HBL.out]; exact HNE.out))
    have HK := Aside0.mk (((Kept.of_below (below_step HB1.out hb) (fun k_ => k_ = B + 1 ∨ k_ = B + 2)).setCell (p := ⟨B + 1, 0, none⟩) (.inl (.inl rfl)) (.slice A1 b0.length d1)).setCell (p := ⟨B + 2, 0, none⟩) (.inl (.inr rfl)) (.int .i64 (wrap64 (sum + x))))
    have e3 : w2.cell? ⟨B + 1, 0, none⟩ = some (.slice Ab best.length cb) := (blk_cell HS2.bb 0).trans rfl
    have e4 : w2.cell? ⟨B + 2, 0, none⟩ = some (.int .i64 least) := (blk_cell HS2.bm 0).trans rfl
    have g3 := blk_frozen HS2.bb 0
    have g4 := blk_frozen HS2.bm 0
    clear ho hb HS2 g0 g1 g2
    go_wp2
    first | go_end0 | ((try simp only [Exit.inBlock, Exit.then]); refine bodyPost_ret (results_none rfl _ _ _) rfl ?_)
    exact ⟨_, rfl, HS.out, HK.out⟩
   ·have q1 : decide (wrap64 (sum + x) < least) = true := decide_eq_true hgt
    clear hgt
    go_wp2_with fail
    refine (slices_Clone_int_int.calls (some ao) c4 l b0 _ (by repeat (first | exact Kd.F_now HF1.out | apply Kd.C_drew | apply Kd.C_drewN)) hc4 A0.out).mono ?_
    rintro e w2 ⟨v1, rfl, ho, hb⟩
    obtain ⟨A1, d1, rfl⟩ := Kd.R_slice ho
    have HS2 := HS1.out.below hb
    have hsz := HS1.out.size
    have HS := Aside0.mk (HS2.put (m := wrap64 (sum + x)) (Kd.R_lower ho hsz) (by rw [HBL.out]; exact HNE.out))
    have HK := Aside0.mk (((Kept.of_below (below_step HB1.out hb) (fun k_ => k_ = B + 1 ∨ k_ = B + 2)).setCell (p := ⟨B + 1, 0, none⟩) (.inl (.inl rfl)) (.slice A1 b0.length d1)).setCell (p := ⟨B + 2, 0, none⟩) (.inl (.inr rfl)) (.int .i64 (wrap64 (sum + x))))
    have e3 : w2.cell? ⟨B + 1, 0, none⟩ = some (.slice Ab best.length cb) := (blk_cell HS2.bb 0).trans rfl
    have e4 : w2.cell? ⟨B + 2, 0, none⟩ = some (.int .i64 least) := (blk_cell HS2.bm 0).trans rfl
    have g3 := blk_frozen HS2.bb 0
    have g4 := blk_frozen HS2.bm 0
    clear ho hb HS2 g0 g1 g2
    go_wp2
    first | go_end0 | ((try simp only [Exit.inBlock, Exit.then]); refine bodyPost_ret (results_none rfl _ _ _) rfl ?_)
    exact ⟨_, rfl, HS.out, HK.out⟩
  by_cases hbe : best = []
  ·rw [if_pos hbe] at h
   have hn : Ab.isNone = true := by have := HS0.out.nb hbe; injection this with h1; rw [h1]; rfl
   exact putit h (.inl hn)
  ·rw [if_neg hbe] at h
   have hn : Ab.isNone = false := by
    cases Ab with
    | none => exact absurd (nil_of_none HS0.out.rb) hbe
    | some a => rfl
   by_cases hgt : wrap64 (sum + x) < least
   ·rw [if_pos hgt] at h
    exact putit h (.inr ⟨hn, hgt⟩)
   ·rw [if_neg hgt] at h
    simp only [Option.some.injEq, Prod.mk.injEq] at h
    obtain ⟨rfl, rfl⟩ := h
    have g1 : decide (wrap64 (sum + x) < least) = false := decide_eq_false hgt
    clear hgt putit hbe
    go_enter Try.func41, Try.ntmps41
    go_wp2_with fail
    refine HX.out.mono ?_
    rintro e w1 ⟨rfl, hb1⟩
    have HS1 := Aside0.mk (HS0.out.below hb1)
    have HK := Aside0.mk (Kept.of_below hb1 (fun k_ => k_ = B + 1 ∨ k_ = B + 2))
    have f1 : w1.cell? ⟨B + 1, 0, none⟩ = some (.slice Ab best.length cb) := (blk_cell HS1.out.bb 0).trans rfl
    have f2 : w1.cell? ⟨B + 2, 0, none⟩ = some (.int .i64 least) := (blk_cell HS1.out.bm 0).trans rfl
    clear hb1 e0 e1 e2 d0 d1 d2 hxo HX
    go_wp2
    first | go_end0 | ((try simp only [Exit.inBlock, Exit.then]); refine bodyPost_ret (results_none rfl _ _ _) rfl ?_)
    exact ⟨_, rfl, HS1.out, HK.out⟩
 ·rw [if_neg hlen] at h
  have c1 : ((l.length : Int) == (L.length : Int)) = false := beq_eq_false_iff_ne.mpr hlen
  have c2 : (l.length == L.length) = false := beq_eq_false_iff_ne.mpr (by omega)
  have H' := Aside0.mk h
  clear h hlen
  go_enter Try.func41, Try.ntmps41
  go_wp2_with fail
  have HS := HS0
  have HK := Aside0.mk (Kept.refl w (fun k_ => k_ = B + 1 ∨ k_ = B + 2))
  clear e0 e1 e2 hxo d0 d1 d2
  go_loopg [10, 39] k (fun kq v10 v39 w' => ∃ (x39 : Int) (vb' : Value) (best' : List Int) (least' : Int), v39 = .int .i64 x39 ∧ Aside0 (trip_Tour.l0 kq L U D l sum last best' least' x39 = some (r1, r2)) ∧ Aside0 (kq ≤ k) ∧ Aside0 (TrS w0 B R A cw Ad cd L U D w' vb' best' least') ∧ Aside0 (Kept w w' (fun k_ => k_ = B + 1 ∨ k_ = B + 2)))
  case atStart => exact ⟨_, _, _, _, rfl, H', ⟨Nat.le_refl _⟩, HS, HK⟩
  case round =>
   clear H' HS HK
   obtain ⟨x39, vb', best', least', rfl, HA, HK1, HS, HK⟩ := hrel
   cases gk with
   | zero => exact absurd HA.out (by simp [trip_Tour.l0])
   | succ k1 =>
    have H := HA.out
    clear HA
    simp only [trip_Tour.l0] at H
    by_cases c6 : x39 < (L.length : Int)
    ·rw [if_pos c6] at H
     have c6b0 : decide (x39 < (L.length : Int)) = true := decide_eq_true c6
     by_cases c7 : 0 ≤ x39
     ·rw [if_pos c7] at H
      obtain ⟨c, hc, H⟩ := Option.bind_eq_some_iff.mp H
      have A7 := Aside0.mk hc
      have HF2 := Aside0.mk (Kd.F_kept HF0.out HK.out (fun k_ hk => by omega))
      by_cases c9 : c = false
      ·subst c9
       rw [if_pos rfl] at H
       by_cases c10 : l.length < 17592186044415
       ·rw [if_pos c10] at H
        obtain ⟨x, hx, H⟩ := Option.bind_eq_some_iff.mp H
        obtain ⟨⟨b1, m1⟩, hy, H⟩ := Option.bind_eq_some_iff.mp H
        obtain ⟨l5, hl5⟩ : ∃ l5, l5 = l ++ [x39] := ⟨_, rfl⟩
        rw [← hl5] at hy
        have HL5 := Aside0.mk hl5
        have HX := Aside0.mk hx
        have A9 : Aside0 (trip_Tour.on k1 L U D l5 (IntKind.i64.wrap (sum + x)) best' least' = some (b1, m1)) := ⟨by rw [i64_w]; exact hy⟩
        have L10 := Aside0.mk c10
        have H' := Aside0.mk H
        clear hc c7 c6 c10 hy hl5 H hx
        go_wp2_with fail
        refine (slices_Contains_int_int.calls k1 (some ao) c4 l x39 false _ (by repeat (first | exact Kd.F_now HF2.out | apply Kd.C_drew | apply Kd.C_drewN)) hc4 A7.out).mono ?_
        rintro e w2 ⟨rfl, ⟨nq, rfl⟩⟩
        have hb2 : Below wr.heap.size wr (wr.drewN nq) := pw_below_drewN (Below.refl _ _) nq
        have HS2 := Aside0.mk (HS.out.below hb2)
        have HF3 := Aside0.mk (Kd.F_below HF2.out hb2)
        have HK2 := Aside0.mk (HK.out.below hb2)
        generalize wr.drewN nq = w2 at HS2 HF3 HK2 ⊢
        have f1 : w2.cell? ⟨B + 3, 0, none⟩ = some (.func (.func 41) #[] #[.pointer (some ⟨R, 0, none⟩), .pointer (some ⟨B, 0, none⟩), .pointer (some ⟨B + 1, 0, none⟩), .pointer (some ⟨B + 2, 0, none⟩), .pointer (some ⟨B + 3, 0, none⟩)]) := (blk_cell HS2.out.bo 0).trans rfl
        have f2 : w2.cell? ⟨B, 0, none⟩ = some (.int .i64 U) := (blk_cell HS2.out.bd 0).trans rfl
        have f3 : w2.cell? ⟨B, 1, none⟩ = some (.int .i64 D) := (blk_cell HS2.out.bd 1).trans rfl
        have f4 : w2.cell? ⟨B, 2, none⟩ = some (.slice Ad L.length cd) := (blk_cell HS2.out.bd 2).trans rfl
        clear hb2 HS HF2 HK
        go_wp2_with fail
        have hw0 : Below w2.heap.size w2 (w2.alloc (.cells #[.int .i64 x39] 3)).drew := below_drew (below_alloc (Below.refl _ _) _)
        have HS3 := Aside0.mk (HS2.out.below hw0)
        have HF4 := Aside0.mk (Kd.F_below HF3.out hw0)
        have HK3 := Aside0.mk (HK2.out.below hw0)
        have st3 : TrS w0 B R A cw Ad cd L U D (w2.alloc (.cells #[.int .i64 x39] 3)).drew vb' best' least' := HS3.out
        have hx3 := And.intro ((blk_cell st3.bo 0).trans rfl : (w2.alloc (.cells #[.int .i64 x39] 3)).drew.cell? ⟨B + 3, 0, none⟩ = some (.func (.func 41) #[] #[.pointer (some ⟨R, 0, none⟩), .pointer (some ⟨B, 0, none⟩), .pointer (some ⟨B + 1, 0, none⟩), .pointer (some ⟨B + 2, 0, none⟩), .pointer (some ⟨B + 3, 0, none⟩)])) (And.intro ((blk_cell st3.bd 0).trans rfl : (w2.alloc (.cells #[.int .i64 x39] 3)).drew.cell? ⟨B, 0, none⟩ = some (.int .i64 U)) (And.intro ((blk_cell st3.bd 1).trans rfl : (w2.alloc (.cells #[.int .i64 x39] 3)).drew.cell? ⟨B, 1, none⟩ = some (.int .i64 D)) ((blk_cell st3.bd 2).trans rfl : (w2.alloc (.cells #[.int .i64 x39] 3)).drew.cell? ⟨B, 2, none⟩ = some (.slice Ad L.length cd))))
        clear hw0 st3
        go_region_held3 (fun w' => w'.cell? ⟨B + 3, 0, none⟩ = some (.func (.func 41) #[] #[.pointer (some ⟨R, 0, none⟩), .pointer (some ⟨B, 0, none⟩), .pointer (some ⟨B + 1, 0, none⟩), .pointer (some ⟨B + 2, 0, none⟩), .pointer (some ⟨B + 3, 0, none⟩)]) ∧ w'.cell? ⟨B, 0, none⟩ = some (.int .i64 U) ∧ w'.cell? ⟨B, 1, none⟩ = some (.int .i64 D) ∧ w'.cell? ⟨B, 2, none⟩ = some (.slice Ad L.length cd)) (first | exact hx3 | exact hx5 | exact hx6 | exact hx7 | go_keep)
         (first | (refine step_append_full rfl (.tmp 52) (.tmp 54) 27 3 rfl Try.underlying27 info3 (some ao) l x39 _ _ rfl rfl rfl (by simp) (Kd.F_now HF4.out) (by have := L10.out; omega) ?_; intro v1 w1 ho hb; rw [← HL5.out] at ho; obtain ⟨Av, cv, rfl⟩ := Kd.R_slice ho; have HS5 := Aside0.mk (HS3.out.below hb); have hx5 := And.intro ((blk_cell HS5.out.bo 0).trans rfl : w1.cell? ⟨B + 3, 0, none⟩ = _) (And.intro ((blk_cell HS5.out.bd 0).trans rfl : w1.cell? ⟨B, 0, none⟩ = _) (And.intro ((blk_cell HS5.out.bd 1).trans rfl : w1.cell? ⟨B, 1, none⟩ = _) ((blk_cell HS5.out.bd 2).trans rfl : w1.cell? ⟨B, 2, none⟩ = _))); have HK5 := Aside0.mk (HK3.out.below hb); have HF5 := Aside0.mk (Kd.F_below HF4.out hb); have hsz3 := HS3.out.size; have HV5 := Aside0.mk (Kd.F_mono (Kd.V_F (Kd.R_V (base' := 0) (Kd.R_bound ho))) (ok' := fun k_ => B + 4 ≤ k_) (fun k_ hk => by have := hk.2.1; omega)); have HC5 := Aside0.mk (Kd.R_reads' ho).2.1; clear ho hb hsz3) | (go_at_call 42; refine (trip_day_empty.calls U D Ad cd L last x39 x _ HS5.out.rides HS5.out.cd_ HX.out).mono ?_; rintro e w6 ⟨rfl, hb6⟩; have HS6 := Aside0.mk (HS5.out.below hb6); have HK6 := Aside0.mk (HK5.out.below hb6); have HF6 := Aside0.mk (Kd.F_below HF5.out hb6); have HV6 := Aside0.mk (Kd.F_below HV5.out hb6); have hx6 := And.intro ((blk_cell HS6.out.bo 0).trans rfl : w6.cell? ⟨B + 3, 0, none⟩ = _) (And.intro ((blk_cell HS6.out.bd 0).trans rfl : w6.cell? ⟨B, 0, none⟩ = _) (And.intro ((blk_cell HS6.out.bd 1).trans rfl : w6.cell? ⟨B, 1, none⟩ = _) ((blk_cell HS6.out.bd 2).trans rfl : w6.cell? ⟨B, 2, none⟩ = _))); clear hb6) | (go_at_call 41; refine (IH.out k1 (by have := HK1.out; omega) w0 B R A cw Ad cd L U D _ Av cv l5 _ best' least' b1 m1 _ HS6.out HV6.out HC5.out A9.out).mono ?_; rintro e w7 ⟨v7, rfl, hS7, hk7⟩; have HS7 := Aside0.mk hS7; have hx7 := And.intro ((blk_cell HS7.out.bo 0).trans rfl : w7.cell? ⟨B + 3, 0, none⟩ = _) (And.intro ((blk_cell HS7.out.bd 0).trans rfl : w7.cell? ⟨B, 0, none⟩ = _) (And.intro ((blk_cell HS7.out.bd 1).trans rfl : w7.cell? ⟨B, 1, none⟩ = _) ((blk_cell HS7.out.bd 2).trans rfl : w7.cell? ⟨B, 2, none⟩ = _))); have HF7 := Aside0.mk (Kd.F_kept HF6.out hk7 (fun k_ hk => by omega)); have HK7 := Aside0.mk (HK6.out.then_ hk7 (fun k_ hk => .inl hk)); clear hS7 hk7))
        go_wp2
        go_roundg k1
        case measure => have := HK1.out; omega
        case rel => exact ⟨_, _, _, _, rfl, H', ⟨by have := HK1.out; omega⟩, HS7, HK7⟩
       ·rw [if_neg c10] at H; cases H
      ·rw [if_neg c9] at H
       obtain rfl : c = true := by cases c with | true => rfl | false => exact absurd rfl c9
       have H' := Aside0.mk H
       clear hc c7 c6 c9 H
       go_wp2_with fail
       refine (slices_Contains_int_int.calls k1 (some ao) c4 l x39 true _ (by repeat (first | exact Kd.F_now HF2.out | apply Kd.C_drew | apply Kd.C_drewN)) hc4 A7.out).mono ?_
       rintro e w2 ⟨rfl, ⟨nq, rfl⟩⟩
       have hb2 : Below wr.heap.size wr (wr.drewN nq) := pw_below_drewN (Below.refl _ _) nq
       have HS2 := Aside0.mk (HS.out.below hb2)
       have HK2 := Aside0.mk (HK.out.below hb2)
       clear hb2 HS HF2 HK
       go_wp2
       go_roundg k1
       case measure => have := HK1.out; omega
       case rel => exact ⟨_, _, _, _, rfl, H', ⟨by have := HK1.out; omega⟩, HS2, HK2⟩
     ·rw [if_neg c7] at H; cases H
    ·rw [if_neg c6] at H
     have c6b0 : decide (x39 < (L.length : Int)) = false := decide_eq_false c6
     simp only [Option.some.injEq, Prod.mk.injEq] at H
     obtain ⟨rfl, rfl⟩ := H
     clear c6
     go_wp2
     go_end0
     exact ⟨_, rfl, HS.out, HK.out⟩
theorem one_block {w : World} {b n : Nat} {ok : Nat → Prop} {x : Int} (hb : w.heap[b]? = some (.cells #[.int .i64 x] 3 (0, 0))) (hok : ok b) (hn : n = 1) : Kd.F (Kd.int .i64) w ok (some ⟨b, 0, none⟩) n [x] := by
 subst hn
 intro W' hW
 have h1 : W'.heap[b]? = some (.cells #[.int .i64 x] 3 (0, 0)) := (hW b hok (blk_lt hb)).trans hb
 refine Kd.C_of_reads (d := (0 : Int)) ⟨rfl, by decide, fun _ => ⟨_, rfl, fun j hj => ?_⟩⟩
 obtain rfl : j = 0 := by omega
 exact (blk_cell h1 0).trans rfl
theorem read_same {l0 : List S36} {a b r1 r2 : Int} {r3 : List S36} {r4 : Int} (h : trip_read.f l0 a b = some (r1, r2, r3, r4)) : r1 = a ∧ r2 = b ∧ r3 = l0 := by
 unfold trip_read.f at h
 obtain ⟨t, _, h⟩ := Option.bind_eq_some_iff.mp h
 split at h
 ·split at h
  ·simp only [Option.some.injEq, Prod.mk.injEq] at h; exact ⟨h.1.symm, h.2.1.symm, h.2.2.1.symm⟩
  ·split at h <;> (simp only [Option.some.injEq, Prod.mk.injEq] at h; exact ⟨h.1.symm, h.2.1.symm, h.2.2.1.symm⟩)
 ·simp only [Option.some.injEq, Prod.mk.injEq] at h; exact ⟨h.1.symm, h.2.1.symm, h.2.2.1.symm⟩
def trip_Tour.f (k : Nat) (l0 : List S36) (a1_0 : Int) (a1_1 : Int) : Option (List Int × Int × Int) := (trip_read.f l0 a1_0 a1_1).bind fun t => if t.2.2.2 = 0 then (if (l0.length : Int) > 7 then some ([], 0, 8) else ((trip_Tour.on k l0 a1_0 a1_1 [0] 0 [] 0).bind fun b => some (b.1, b.2, 0))) else some ([], 0, t.2.2.2)
set_option maxRecDepth 100000 in
set_option maxHeartbeats 1000000 in
theorem trip_Tour.calls (k : Nat) (A0 : Option Addr) (c0 : Nat) (l0 : List (S36)) (a1_0 : Int) (a1_1 : Int) (r1 : List Int) (r2 : Int) (r3 : Int) (w : World) (hr0 : Kd.C k36 w A0 l0.length l0) (hc0 : l0.length ≤ c0) (h : trip_Tour.f k l0 a1_0 a1_1 = some (r1, r2, r3)) :
  Calls Try.prog 17 #[.slice A0 l0.length c0, .agg #[.int .i64 a1_0, .int .i64 a1_1]] w fun e w' => ∃ v0_ : Value, e = .returned (.tuple #[v0_, .int .i64 r2, .int .i64 r3]) ∧ Kd.R (Kd.int .i64) 3 w' w.heap.size (fun _ => True) v0_ r1 ∧ Below w.heap.size w w' := by
 have hu24 := Try.underlying24
 have hu59 := Try.underlying59
 have hmf : ∀ (fn : Fn) (first cap : Array Value) (w : World), (Instr.makeFunc fn first cap).run Try.prog w = .ok (.func fn first cap) w := fun _ _ _ _ => rfl
 unfold trip_Tour.f at h
 obtain ⟨⟨t1, t2, t3, t4⟩, hx, h⟩ := Option.bind_eq_some_iff.mp h
 obtain ⟨rfl, rfl, rfl⟩ := read_same hx
 have hb0 : Below w.heap.size w ((w.alloc (.cells #[.slice A0 t3.length c0] 22)).alloc (.cells #[.int .i64 t1, .int .i64 t2] 24)) := below_alloc (below_alloc (Below.refl _ _) _) _
 have HX := Aside0.mk (trip_read.calls (fun k_ => k_ < w.heap.size) A0 c0 t3 t1 t2 t1 t2 t3 t4 ((w.alloc (.cells #[.slice A0 t3.length c0] 22)).alloc (.cells #[.int .i64 t1, .int .i64 t2] 24)) (Kd.V_mk hc0 (Kd.F_below (Kd.C_F k36_heap hr0) hb0)) hx)
 have hn1 := blk_new w (.cells #[.slice A0 t3.length c0] 22)
 have hn1 := blk_alloc hn1 (.cells #[.int .i64 t1, .int .i64 t2] 24)
 have g0 : ((w.alloc (.cells #[.slice A0 t3.length c0] 22)).alloc (.cells #[.int .i64 t1, .int .i64 t2] 24)).cell? ⟨w.heap.size, 0, none⟩ = some (.slice A0 t3.length c0) := (blk_cell hn1 0).trans rfl
 have HB := Aside0.mk hb0
 have HN := Aside0.mk hn1
 have H := Aside0.mk h
 have HR := Aside0.mk hr0
 clear h hx hb0 hr0 hn1
 go_enter Try.func17, Try.ntmps17
 go_wp2_with fail
 refine HX.out.mono ?_
 rintro e w1 ⟨v2, rfl, ho, hb⟩
 obtain ⟨Ad, cd, rfl⟩ := Kd.V_slice ho
 have HB1 := Aside0.mk (below_step HB.out hb)
 have HV := Aside0.mk ho
 have HB0 := Aside0.mk hb
 have g1 : w1.cell? ⟨w.heap.size, 0, none⟩ = some (.slice A0 t3.length c0) := (pw_cell_below hb g0)
 have g2 : (w1.alloc (.cells #[.int .i64 t1, .int .i64 t2, .slice Ad t3.length cd] 59)).cell? ⟨w.heap.size, 0, none⟩ = some (.slice A0 t3.length c0) := (pw_cell_below (below_alloc (Below.refl _ _) _) g1)
 clear hb ho g0 HX g1
 by_cases c4 : t4 = 0
 ·have h := H.out
  rw [if_pos c4] at h
  have c4b0 : (t4 == 0) = true := beq_iff_eq.mpr c4
  have c4b1 : (t4 != 0) = false := bne_eq_false_iff_eq.mpr c4
  by_cases c5 : (t3.length : Int) > 7
  ·rw [if_pos c5] at h
   have c5b : decide (7 < (t3.length : Int)) = true := decide_eq_true c5
   simp only [Option.some.injEq, Prod.mk.injEq] at h
   obtain ⟨rfl, rfl, rfl⟩ := h
   clear c5 c4
   go_wp2
   repeat (go_quiet (fail); try go_wp2)
   go_ret3
   exact ⟨_, rfl, Kd.R_nil _ _ _ _ _, below_alloc HB1.out _⟩
  ·rw [if_neg c5] at h
   have c5b : decide (7 < (t3.length : Int)) = false := decide_eq_false c5
   obtain ⟨⟨b1, b2⟩, hO, h⟩ := Option.bind_eq_some_iff.mp h
   simp only [Option.some.injEq, Prod.mk.injEq] at h
   obtain ⟨rfl, rfl, rfl⟩ := h
   have HO := Aside0.mk hO
   clear hO c5 c4
   go_wp2_with fail
   have hRb : w1.heap[w.heap.size]? = some (.cells #[.slice A0 t3.length c0] 22 (0, 0)) := blk_below HN.out HB0.out
   have hRl : w.heap.size < w1.heap.size := blk_lt hRb
   have hn1 := blk_new w1 (.cells #[.int .i64 t1, .int .i64 t2, .slice Ad t3.length cd] 59)
   have hn2 := blk_new (w1.alloc (.cells #[.int .i64 t1, .int .i64 t2, .slice Ad t3.length cd] 59)) (.cells #[.slice none 0 0] 27)
   have hn3 := blk_new ((w1.alloc (.cells #[.int .i64 t1, .int .i64 t2, .slice Ad t3.length cd] 59)).alloc (.cells #[.slice none 0 0] 27)) (.cells #[.int .i64 0] 3)
   have hn4 := blk_new (((w1.alloc (.cells #[.int .i64 t1, .int .i64 t2, .slice Ad t3.length cd] 59)).alloc (.cells #[.slice none 0 0] 27)).alloc (.cells #[.int .i64 0] 3)) (.cells #[.func (.func 41) #[] #[.pointer (some ⟨w.heap.size, 0, none⟩), .pointer (some ⟨w1.heap.size, 0, none⟩), .pointer (some ⟨w1.heap.size + 1, 0, none⟩), .pointer (some ⟨w1.heap.size + 2, 0, none⟩), .pointer (some ⟨w1.heap.size + 3, 0, none⟩)]] 62)
   have hn5 := blk_new ((((w1.alloc (.cells #[.int .i64 t1, .int .i64 t2, .slice Ad t3.length cd] 59)).alloc (.cells #[.slice none 0 0] 27)).alloc (.cells #[.int .i64 0] 3)).alloc (.cells #[.func (.func 41) #[] #[.pointer (some ⟨w.heap.size, 0, none⟩), .pointer (some ⟨w1.heap.size, 0, none⟩), .pointer (some ⟨w1.heap.size + 1, 0, none⟩), .pointer (some ⟨w1.heap.size + 2, 0, none⟩), .pointer (some ⟨w1.heap.size + 3, 0, none⟩)]] 62)) (.cells #[.int .i64 0] 3)
   simp only [World.size_alloc] at hn2 hn3 hn4 hn5
   refine (trip_Tour_on.calls k w1 w1.heap.size w.heap.size A0 c0 Ad cd t3 t1 t2 (.slice none 0 0) (some ⟨w1.heap.size + 4, 0, none⟩) 1 [0] 0 [] 0 b1 b2 _ ⟨rfl, hRl, below_alloc (below_alloc (below_alloc (below_alloc (below_alloc (Below.refl _ _) _) _) _) _) _, (Kd.V_reads' HV.out).2.2, (Kd.V_reads' HV.out).2.1, blk_alloc (blk_alloc (blk_alloc (blk_alloc (blk_alloc hRb _) _) _) _) _, blk_alloc (blk_alloc (blk_alloc (blk_alloc hn1 _) _) _) _, blk_alloc (blk_alloc (blk_alloc hn2 _) _) _, Kd.R_nil _ _ _ _ _, fun _ => rfl, blk_alloc (blk_alloc hn3 _) _, blk_alloc hn4 _⟩ (one_block hn5 (Nat.le_refl _) rfl) (Nat.le_refl _) HO.out).mono ?_
   rintro e w3 ⟨vb, rfl, hS, hk⟩
   clear hn1 hn2 hn3 hn4 hn5 hRb
   obtain ⟨Ab, cb, rfl⟩ := Kd.R_slice hS.rb
   have f1 : w3.cell? ⟨w1.heap.size + 1, 0, none⟩ = some (.slice Ab b1.length cb) := (blk_cell hS.bb 0).trans rfl
   have f2 : w3.cell? ⟨w1.heap.size + 2, 0, none⟩ = some (.int .i64 b2) := (blk_cell hS.bm 0).trans rfl
   have HR3 := Aside0.mk (Kd.R_lower hS.rb (show w.heap.size ≤ w1.heap.size + 4 by omega))
   have HB3 := Aside0.mk (below_step HB1.out hS.lo)
   clear hS hk hRl
   go_wp2
   repeat (go_quiet (fail); try go_wp2)
   go_ret3
   exact ⟨_, rfl, Kd.R_drewN HR3.out _, pw_below_drewN HB3.out _⟩
 ·have h := H.out
  rw [if_neg c4] at h
  have c4b0 : (t4 == 0) = false := beq_eq_false_iff_ne.mpr c4
  have c4b1 : (t4 != 0) = true := bne_iff_ne.mpr c4
  simp only [Option.some.injEq, Prod.mk.injEq] at h
  obtain ⟨rfl, rfl, rfl⟩ := h
  clear c4
  go_wp2
  repeat (go_quiet (fail); try go_wp2)
  go_ret3
  exact ⟨_, rfl, Kd.R_nil _ _ _ _ _, below_alloc HB1.out _⟩
theorem trip_Tour.mono_l : ∀ k, (∀ y0 y1 y2 y3 y4 y5 y6, LeO (trip_Tour.on k y0 y1 y2 y3 y4 y5 y6) (trip_Tour.on (k + 1) y0 y1 y2 y3 y4 y5 y6)) ∧ (∀ y0 y1 y2 y3 y4 y5 y6 y7 y8, LeO (trip_Tour.l0 k y0 y1 y2 y3 y4 y5 y6 y7 y8) (trip_Tour.l0 (k + 1) y0 y1 y2 y3 y4 y5 y6 y7 y8))
 | 0 => ⟨fun _ _ _ _ _ _ _ r h => by simp [trip_Tour.on] at h, fun _ _ _ _ _ _ _ _ _ r h => by simp [trip_Tour.l0] at h⟩
 | k + 1 => by
  obtain ⟨ih0, ih1⟩ := trip_Tour.mono_l k
  refine ⟨?_, ?_⟩
  ·intro y0 y1 y2 y3 y4 y5 y6
   unfold trip_Tour.on
   repeat' first
   | (with_reducible exact ih0 _ _ _ _ _ _ _)
   | (with_reducible exact ih1 _ _ _ _ _ _ _ _ _)
   | (with_reducible exact slices_Contains_int_int.mono _ _ _)
   | (with_reducible exact LeO.refl _)
   | (with_reducible exact LeO.none _)
   | (with_reducible refine LeO.ite ?_ ?_)
   | (with_reducible refine LeO.bind ?_ (fun _ => ?_))
   | exact ih0 _ _ _ _ _ _ _
   | exact ih1 _ _ _ _ _ _ _ _ _
   | exact slices_Contains_int_int.mono _ _ _
   | exact LeO.none _
   | refine LeO.ite ?_ ?_
   | refine LeO.bind ?_ (fun _ => ?_)
  ·intro y0 y1 y2 y3 y4 y5 y6 y7 y8
   unfold trip_Tour.l0
   repeat' first
   | (with_reducible exact ih0 _ _ _ _ _ _ _)
   | (with_reducible exact ih1 _ _ _ _ _ _ _ _ _)
   | (with_reducible exact slices_Contains_int_int.mono _ _ _)
   | (with_reducible exact LeO.refl _)
   | (with_reducible exact LeO.none _)
   | (with_reducible refine LeO.ite ?_ ?_)
   | (with_reducible refine LeO.bind ?_ (fun _ => ?_))
   | exact ih0 _ _ _ _ _ _ _
   | exact ih1 _ _ _ _ _ _ _ _ _
   | exact slices_Contains_int_int.mono _ _ _
   | exact LeO.none _
   | refine LeO.ite ?_ ?_
   | refine LeO.bind ?_ (fun _ => ?_)
theorem trip_Tour.mono : ∀ a0 a1 a2 k, LeO (trip_Tour.f k a0 a1 a2) (trip_Tour.f (k + 1) a0 a1 a2) := by
 intro a0 a1 a2 k
 obtain ⟨ih0, ih1⟩ := trip_Tour.mono_l k
 unfold trip_Tour.f
 repeat' first
   | (with_reducible exact ih0 _ _ _ _ _ _ _)
   | (with_reducible exact ih1 _ _ _ _ _ _ _ _ _)
   | (with_reducible exact slices_Contains_int_int.mono _ _ _)
   | (with_reducible exact LeO.refl _)
   | (with_reducible exact LeO.none _)
   | (with_reducible refine LeO.ite ?_ ?_)
   | (with_reducible refine LeO.bind ?_ (fun _ => ?_))
   | exact ih0 _ _ _ _ _ _ _
   | exact ih1 _ _ _ _ _ _ _ _ _
   | exact slices_Contains_int_int.mono _ _ _
   | exact LeO.none _
   | refine LeO.ite ?_ ?_
   | refine LeO.bind ?_ (fun _ => ?_)
def trishawlaw06_same.l0 : Nat → List Int → List Int → Int → Option (Bool)
 | 0, _, _, _ => none
 | k + 1, x0, x1, x5 => if x5 < (x0.length : Int) then (if 0 ≤ x5 then (if x5 < (x1.length : Int) then (if (rd x0 x5) = (rd x1 x5) then (trishawlaw06_same.l0 k x0 x1 (wrap64 (x5 + 1))) else (some false)) else (none)) else (none)) else (some true)
def trishawlaw06_same.f (k : Nat) (l0 : List Int) (l1 : List Int) : Option (Bool) := if (l0.length : Int) = (l1.length : Int) then (trishawlaw06_same.l0 k l0 l1 0) else (some false)
theorem trishawlaw06_same.mono_l : ∀ k, (∀ y0 y1 y2, LeO (trishawlaw06_same.l0 k y0 y1 y2) (trishawlaw06_same.l0 (k + 1) y0 y1 y2))
 | 0 => fun _ _ _ r h => by simp [trishawlaw06_same.l0] at h
 | k + 1 => by
  have ih0 := trishawlaw06_same.mono_l k
  ·intro y0 y1 y2
   unfold trishawlaw06_same.l0
   repeat' first
   | (with_reducible exact ih0 _ _ _)
   | (with_reducible exact LeO.refl _)
   | (with_reducible exact LeO.none _)
   | (with_reducible refine LeO.ite ?_ ?_)
   | (with_reducible refine LeO.bind ?_ (fun _ => ?_))
   | exact ih0 _ _ _
   | exact LeO.none _
   | refine LeO.ite ?_ ?_
   | refine LeO.bind ?_ (fun _ => ?_)
theorem trishawlaw06_same.mono : ∀ a0 a1 k, LeO (trishawlaw06_same.f k a0 a1) (trishawlaw06_same.f (k + 1) a0 a1) := by
 intro a0 a1 k
 have ih0 := trishawlaw06_same.mono_l k
 unfold trishawlaw06_same.f
 repeat' first
   | (with_reducible exact ih0 _ _ _)
   | (with_reducible exact LeO.refl _)
   | (with_reducible exact LeO.none _)
   | (with_reducible refine LeO.ite ?_ ?_)
   | (with_reducible refine LeO.bind ?_ (fun _ => ?_))
   | exact ih0 _ _ _
   | exact LeO.none _
   | refine LeO.ite ?_ ?_
   | refine LeO.bind ?_ (fun _ => ?_)
set_option maxHeartbeats 8000000 in
set_option maxRecDepth 100000 in
theorem trishawlaw06_same.calls (k : Nat) (A0 : Option Addr) (c0 : Nat) (l0 : List Int) (A1 : Option Addr) (c1 : Nat) (l1 : List Int) (r : Bool) (w : World) (hr0 : Kd.C (Kd.int .i64) w A0 l0.length l0) (hc0 : l0.length ≤ c0) (hr1 : Kd.C (Kd.int .i64) w A1 l1.length l1) (hc1 : l1.length ≤ c1) (h : trishawlaw06_same.f k l0 l1 = some r) :
  Calls Try.prog 19 #[.slice A0 l0.length c0, .slice A1 l1.length c1] w fun e w' => e = .returned (.bool r) ∧ Drawn0 w w' := by
 have HR0 := Aside0.mk hr0
 have HC0 := Aside0.mk hc0
 clear hr0 hc0
 have HR1 := Aside0.mk hr1
 have HC1 := Aside0.mk hc1
 clear hr1 hc1
 have H : (if (l0.length : Int) = (l1.length : Int) then (trishawlaw06_same.l0 k l0 l1 0) else (some false)) = some r := h
 clear h
 by_cases c3 : (l0.length : Int) = (l1.length : Int)
 ·rw [if_pos c3] at H
  have c3b0 : ((l0.length : Int) == (l1.length : Int)) = true := beq_iff_eq.mpr c3
  have c3b1 : ((l0.length : Int) != (l1.length : Int)) = false := bne_eq_false_iff_eq.mpr c3
  have c3b2 : (l0.length == l1.length) = true := by first | simpa using c3 | (simp at c3 ⊢; omega)
  clear c3
  have H' := Aside0.mk H
  clear H
  go_enter Try.func19, Try.ntmps19
  go_wp2
  repeat (go_quiet (fail); try go_wp2)
  go_loopg [5] k (fun kq v5 w' => ∃ (x5_1 : Int), v5 = .int .i64 x5_1 ∧ Aside0 (trishawlaw06_same.l0 kq l0 l1 x5_1 = some r) ∧ Aside0 (kq ≤ k) ∧ Drawn0 w w')
  case atStart => exact ⟨(0), (by first | rfl | (simp; done) | (simp [*]; done)), H', ⟨Nat.le_refl _⟩, by repeat (first | exact Drawn0.refl _ | apply Drawn0.step)⟩
  case round =>
   clear H'
   try clear c1
   try clear p2
   try clear c3
   try clear c3b0
   try clear c3b1
   try clear c3b2
   obtain ⟨x5_1, rfl, HA, HK1, ⟨m1, rfl⟩⟩ := hrel
   cases gk with
   | zero => exact absurd HA.out (by simp [trishawlaw06_same.l0])
   | succ k1 =>
    have H := HA.out
    clear HA
    simp only [trishawlaw06_same.l0] at H
    by_cases c4 : x5_1 < (l0.length : Int)
    ·rw [if_pos c4] at H
     have c4b0 : decide (x5_1 < (l0.length : Int)) = true := decide_eq_true c4
     clear c4
     by_cases c5 : 0 ≤ x5_1
     ·rw [if_pos c5] at H
      have c5b0 : decide (0 ≤ x5_1) = true := decide_eq_true c5
      clear c5
      by_cases c6 : x5_1 < (l1.length : Int)
      ·rw [if_pos c6] at H
       have c6b0 : decide (x5_1 < (l1.length : Int)) = true := decide_eq_true c6
       clear c6
       by_cases c7 : (rd l0 x5_1) = (rd l1 x5_1)
       ·rw [if_pos c7] at H
        have c7b0 : ((rd l0 x5_1) == (rd l1 x5_1)) = true := beq_iff_eq.mpr c7
        have c7b1 : ((rd l0 x5_1) != (rd l1 x5_1)) = false := bne_eq_false_iff_eq.mpr c7
        clear c7
        have H' := Aside0.mk H
        clear H
        have p126 : 0 ≤ (x5_1 : Int) := of_decide_eq_true (by first | (with_reducible assumption) | assumption)
        have q126 : x5_1 < (l0.length : Int) := of_decide_eq_true (by first | (with_reducible assumption) | assumption)
        obtain ⟨ad126, e126, hx126_0⟩ := Kd.at_int HR0.out x5_1 p126 q126
        cases e126
        replace p126 := eq_true p126
        replace q126 := eq_true q126
        have p127 : 0 ≤ (x5_1 : Int) := of_decide_eq_true (by first | (with_reducible assumption) | assumption)
        have q127 : x5_1 < (l1.length : Int) := of_decide_eq_true (by first | (with_reducible assumption) | assumption)
        obtain ⟨ad127, e127, hx127_0⟩ := Kd.at_int HR1.out x5_1 p127 q127
        cases e127
        replace p127 := eq_true p127
        replace q127 := eq_true q127
        go_wp2
        repeat (go_quiet (fail); try go_wp2)
        go_roundg k1
        case measure => have := HK1.out; omega
        case rel => exact ⟨(wrap64 (x5_1 + 1)), (by first | rfl | (simp; done) | (simp [*]; done)), H', ⟨by have := HK1.out; omega⟩, by repeat (first | exact Drawn0.refl _ | apply Drawn0.step)⟩
       ·rw [if_neg c7] at H
        have c7b0 : ((rd l0 x5_1) == (rd l1 x5_1)) = false := beq_eq_false_iff_ne.mpr c7
        have c7b1 : ((rd l0 x5_1) != (rd l1 x5_1)) = true := bne_iff_ne.mpr c7
        obtain rfl := Option.some.inj H
        have p126 : 0 ≤ (x5_1 : Int) := of_decide_eq_true (by first | (with_reducible assumption) | assumption)
        have q126 : x5_1 < (l0.length : Int) := of_decide_eq_true (by first | (with_reducible assumption) | assumption)
        obtain ⟨ad126, e126, hx126_0⟩ := Kd.at_int HR0.out x5_1 p126 q126
        cases e126
        replace p126 := eq_true p126
        replace q126 := eq_true q126
        have p127 : 0 ≤ (x5_1 : Int) := of_decide_eq_true (by first | (with_reducible assumption) | assumption)
        have q127 : x5_1 < (l1.length : Int) := of_decide_eq_true (by first | (with_reducible assumption) | assumption)
        obtain ⟨ad127, e127, hx127_0⟩ := Kd.at_int HR1.out x5_1 p127 q127
        cases e127
        replace p127 := eq_true p127
        replace q127 := eq_true q127
        go_wp2
        repeat (go_quiet (fail); try go_wp2)
        go_ret
        exact ⟨by first | rfl | (simp; done) | (simp [*]; done), by repeat (first | exact Drawn0.refl _ | apply Drawn0.step)⟩
      ·rw [if_neg c6] at H
       exact absurd H (by simp)
     ·rw [if_neg c5] at H
      exact absurd H (by simp)
    ·rw [if_neg c4] at H
     have c4b0 : decide (x5_1 < (l0.length : Int)) = false := decide_eq_false c4
     clear c4
     obtain rfl := Option.some.inj H
     go_wp2
     repeat (go_quiet (fail); try go_wp2)
     go_ret
     exact ⟨by first | rfl | (simp; done) | (simp [*]; done), by repeat (first | exact Drawn0.refl _ | apply Drawn0.step)⟩
 ·rw [if_neg c3] at H
  have c3b0 : ((l0.length : Int) == (l1.length : Int)) = false := beq_eq_false_iff_ne.mpr c3
  have c3b1 : ((l0.length : Int) != (l1.length : Int)) = true := bne_iff_ne.mpr c3
  have c3b2 : (l0.length == l1.length) = false := by first | simpa using c3 | (simp at c3 ⊢; omega)
  obtain rfl := Option.some.inj H
  go_enter Try.func19, Try.ntmps19
  go_wp2
  repeat (go_quiet (fail); try go_wp2)
  go_ret
  exact ⟨by first | rfl | (simp; done) | (simp [*]; done), by repeat (first | exact Drawn0.refl _ | apply Drawn0.step)⟩
end Go.Proofs.Ytlmlneneakpohaa.OAll
