/- A part of the proof of 'shareAssigns_holds', for every input, without a condition. -/
import Derived.Test.YtiafiebalibkdaaSAsOAllx0
import Derived.Test.YtiafiebalibkdaaSAsOAllx3
import Derived.Test.YtiafiebalibkdaaSAsOAllx16
namespace Go.Proofs.Ytiafiebalibkdaa.OAll
open Go.RowKit Go.Proofs.YtiafiebalibkdaaW.PrintWords Go.Proofs.YtiafiebalibkdaaW.PrintLast Go.Proofs.YtiafiebalibkdaaW.PrintMore
attribute [local go_sem] max2_int min2_int max_two min_two max_three min_three max_four min_four
set_option linter.unusedVariables false
set_option linter.unusedSimpArgs false
mutual
def trishawref08_assign.f : Nat → List (List Int) → List Int → Int → Option (List Int × Int)
 | 0, _, _, _ => none
 | k + 1, W, now, used => if (now.length : Int) = (W.length : Int) then (trishawref08_worth.f k W now).bind fun t => some (now, t) else trishawref08_assign.l0 k W now used [] (-1) 0
def trishawref08_assign.l0 : Nat → List (List Int) → List Int → Int → List Int → Int → Int → Option (List Int × Int)
 | 0, _, _, _, _, _, _ => none
 | k + 1, W, now, used, best, most, i => if i < (W.length : Int) then (if 0 ≤ i then (if i ≤ 64 then (if Int.tmod (used / 2 ^ i.toNat) 2 = 1 then trishawref08_assign.l0 k W now used best most (wrap64 (i + 1)) else (if now.length < 17592186044415 then ((trishawref08_assign.f k W (now ++ [i]) (Go.bits .or .i64 used (wrap64 (2 ^ i.toNat)))).bind fun y => if y.2 > most then trishawref08_assign.l0 k W now used y.1 y.2 (wrap64 (i + 1)) else trishawref08_assign.l0 k W now used best most (wrap64 (i + 1))) else none)) else none) else none) else some (best, most)
end
set_option maxRecDepth 100000 in
set_option maxHeartbeats 1000000 in
theorem trishawref08_assign.calls (k : Nat) : ∀ (A0 : Option Addr) (c0 : Nat) (l0 : List (List Int)) (P1_ : Nat → Prop) (A1 : Option Addr) (c1 : Nat) (l1 : List Int) (a2 : Int) (r1 : List Int) (r2 : Int) (w : World) (hr0 : Kd.C (Kd.slice 3 (Kd.int .i64)) w A0 l0.length l0) (hc0 : l0.length ≤ c0) (hs1 : Kd.V (Kd.int .i64) 3 w w.heap.size (fun k_ => P1_ k_) (.slice A1 l1.length c1) l1) (h : trishawref08_assign.f k l0 l1 a2 = some (r1, r2)),
  Calls Try.prog 57 #[.slice A0 l0.length c0, .slice A1 l1.length c1, .int .i64 a2] w fun e w' => ∃ v0_ : Value, e = .returned (.tuple #[v0_, .int .i64 r2]) ∧ Kd.V (Kd.int .i64) 3 w' w.heap.size (fun k_ => (P1_ k_ ∨ w.heap.size ≤ k_)) v0_ r1 ∧ Below w.heap.size w w' := by
 induction k using Nat.strongRecOn with
 | _ k ih =>
 intro A0 c0 l0 P1_ A1 c1 l1 a2 r1 r2 w hr0 hc0 hs1 h
 cases k with
 | zero => exact absurd h (by simp [trishawref08_assign.f])
 | succ k =>
 simp only [trishawref08_assign.f] at h
 have IH := Aside0.mk ih
 have HR0 := Aside0.mk hr0
 have HS1 := Aside0.mk hs1
 have hc1 := (Kd.V_reads' hs1).2.1
 have HV := Aside0.mk (Kd.V_mono hs1 (ok' := fun k_ => (P1_ k_ ∨ w.heap.size ≤ k_)) (fun k_ hk => .inl hk))
 clear ih hr0 hs1
 by_cases hlen : (l1.length : Int) = (l0.length : Int)
 ·rw [if_pos hlen] at h
  have c1b : ((l1.length : Int) == (l0.length : Int)) = true := beq_iff_eq.mpr hlen
  have c2b : (l1.length == l0.length) = true := beq_iff_eq.mpr (by omega)
  obtain ⟨t, ht, h⟩ := Option.bind_eq_some_iff.mp h
  simp only [Option.some.injEq, Prod.mk.injEq] at h
  obtain ⟨rfl, rfl⟩ := h
  have HT := Aside0.mk ht
  clear ht hlen
  go_enter Try.func57, Try.ntmps57
  go_wp2_with fail
  refine (trishawref08_worth.calls k A0 c0 l0 A1 c1 l1 t _ HR0.out hc0 (Kd.V_reads' HS1.out).2.2 hc1 HT.out).mono ?_
  rintro e w2 ⟨rfl, ⟨nq, rfl⟩⟩
  go_wp2
  go_ret2
  exact ⟨_, rfl, Kd.V_drewN HV.out _, pw_below_drewN (Below.refl _ _) _⟩
 ·rw [if_neg hlen] at h
  have c1b : ((l1.length : Int) == (l0.length : Int)) = false := beq_eq_false_iff_ne.mpr hlen
  have c2b : (l1.length == l0.length) = false := beq_eq_false_iff_ne.mpr (by omega)
  have H' := Aside0.mk h
  clear h hlen
  go_enter Try.func57, Try.ntmps57
  go_wp2_with fail
  go_loopg [8, 9, 10] k (fun kq v8 v9 v10 w' => ∃ (x8 : List Int) (x9 x10 : Int), v9 = .int .i64 x9 ∧ v10 = .int .i64 x10 ∧ Aside0 (trishawref08_assign.l0 kq l0 l1 a2 x8 x9 x10 = some (r1, r2)) ∧ Aside0 (kq ≤ k) ∧ Aside0 (Kd.V (Kd.int .i64) 3 w' w.heap.size (fun k_ => (P1_ k_ ∨ w.heap.size ≤ k_)) v8 x8) ∧ Aside0 (Below w.heap.size w w'))
  case atStart => exact ⟨_, _, _, rfl, rfl, H', ⟨Nat.le_refl _⟩, ⟨Kd.V_nil _ _ _ _ _⟩, ⟨Below.refl _ _⟩⟩
  case round =>
   clear H' HV
   obtain ⟨x8, x9, x10, rfl, rfl, HA, HK1, HV, HB⟩ := hrel
   obtain ⟨Ab, cb, rfl⟩ := Kd.V_slice HV.out
   cases gk with
   | zero => exact absurd HA.out (by simp [trishawref08_assign.l0])
   | succ k1 =>
    have H := HA.out
    clear HA
    simp only [trishawref08_assign.l0] at H
    by_cases c6 : x10 < (l0.length : Int)
    ·rw [if_pos c6] at H
     have c6b0 : decide (x10 < (l0.length : Int)) = true := decide_eq_true c6
     by_cases c7 : 0 ≤ x10
     ·rw [if_pos c7] at H
      by_cases c8 : x10 ≤ 64
      ·rw [if_pos c8] at H
       have c7b0 := eq_true c7
       have c7b1 : decide (0 ≤ x10) = true := decide_eq_true c7
       have c8b0 := eq_true c8
       have c8b1 : decide (x10 ≤ 64) = true := decide_eq_true c8
       by_cases c9 : Int.tmod (a2 / 2 ^ x10.toNat) 2 = 1
       ·rw [if_pos c9] at H
        have c9b : (Int.tmod (a2 / 2 ^ x10.toNat) 2 == 1) = true := beq_iff_eq.mpr c9
        have H' := Aside0.mk H
        clear H c6 c7 c8 c9
        go_wp2
        go_roundg k1
        case measure => have := HK1.out; omega
        case rel => exact ⟨_, _, _, rfl, rfl, H', ⟨by have := HK1.out; omega⟩, HV, HB⟩
       ·rw [if_neg c9] at H
        have c9b : (Int.tmod (a2 / 2 ^ x10.toNat) 2 == 1) = false := beq_eq_false_iff_ne.mpr c9
        by_cases c10 : l1.length < 17592186044415
        ·rw [if_pos c10] at H
         obtain ⟨⟨y, m1⟩, hy, H⟩ := Option.bind_eq_some_iff.mp H
         have L10 := Aside0.mk c10
         obtain ⟨l5, hl5⟩ : ∃ l5, l5 = l1 ++ [x10] := ⟨_, rfl⟩
         rw [← hl5] at hy
         have HL5 := Aside0.mk hl5
         have A9 : Aside0 (trishawref08_assign.f k1 l0 l5 (Go.bits .or .i64 a2 (IntKind.i64.wrap (2 ^ x10.toNat))) = some (y, m1)) := ⟨by rw [i64_w]; exact hy⟩
         have HC4 := Aside0.mk (Kd.V_reads' (Kd.V_below HS1.out HB.out)).2.2
         clear hy hl5 c6 c7 c8 c9 c10
         by_cases c11 : m1 > x9
         ·rw [if_pos c11] at H
          have c11b : decide (x9 < m1) = true := decide_eq_true c11
          have H' := Aside0.mk H
          clear H c11
          go_wp2_with fail
          have hw0 : Below wr.heap.size wr (wr.alloc (.cells #[.int .i64 x10] 3)).drew := below_drew (below_alloc (Below.refl _ _) _)
          have HV3 := Aside0.mk (Kd.V_below HV.out hw0)
          have HC5 := Aside0.mk (Kd.C_below HC4.out hw0)
          have HB3 := Aside0.mk (below_step HB.out hw0)
          clear hw0
          go_region_held3 (fun _ => True) (first | go_keep | exact trivial)
           (first | (refine step_append_full rfl (.tmp 40) (.tmp 42) 22 3 rfl Try.underlying22 info3 A1 l1 x10 _ _ rfl rfl rfl (by simp) HC5.out (by have := L10.out; omega) ?_; intro v1 w1 ho hb; rw [← HL5.out] at ho; obtain ⟨Av, cv, rfl⟩ := Kd.R_slice ho; have HB5 := Aside0.mk (below_step HB3.out hb); have HV6 := Aside0.mk (Kd.V_below HV3.out hb); have HV5 := Aside0.mk (Kd.R_V (base' := w1.heap.size) (Kd.R_mono (Kd.R_bound ho) (ok' := fun k_ => w.heap.size ≤ k_) (fun k_ hk => Nat.le_trans HB3.out.size hk.2.1))); clear ho hb) | (go_at_call 57; refine (IH.out k1 (by have := HK1.out; omega) A0 c0 l0 (fun k_ => w.heap.size ≤ k_) Av cv l5 _ y m1 _ (Kd.C_below HR0.out HB5.out) hc0 HV5.out A9.out).mono ?_; rintro e w7 ⟨v7, rfl, hv7, hb7⟩; have HB7 := Aside0.mk (below_step HB5.out hb7); have HV7 := Aside0.mk (Kd.V_mono hv7 (ok' := fun k_ => (P1_ k_ ∨ w.heap.size ≤ k_)) (fun k_ hk => .inr (hk.elim id (Nat.le_trans HB5.out.size)))); have HV8 := Aside0.mk (Kd.V_below HV6.out hb7); obtain ⟨A7_, c7_, rfl⟩ := Kd.V_slice hv7; clear hv7 hb7))
          go_wp2
          go_roundg k1
          case measure => have := HK1.out; omega
          case rel => exact ⟨_, _, _, rfl, rfl, H', ⟨by have := HK1.out; omega⟩, HV7, HB7⟩
         ·rw [if_neg c11] at H
          have c11b : decide (x9 < m1) = false := decide_eq_false c11
          have H' := Aside0.mk H
          clear H c11
          go_wp2_with fail
          have hw0 : Below wr.heap.size wr (wr.alloc (.cells #[.int .i64 x10] 3)).drew := below_drew (below_alloc (Below.refl _ _) _)
          have HV3 := Aside0.mk (Kd.V_below HV.out hw0)
          have HC5 := Aside0.mk (Kd.C_below HC4.out hw0)
          have HB3 := Aside0.mk (below_step HB.out hw0)
          clear hw0
          go_region_held3 (fun _ => True) (first | go_keep | exact trivial)
           (first | (refine step_append_full rfl (.tmp 40) (.tmp 42) 22 3 rfl Try.underlying22 info3 A1 l1 x10 _ _ rfl rfl rfl (by simp) HC5.out (by have := L10.out; omega) ?_; intro v1 w1 ho hb; rw [← HL5.out] at ho; obtain ⟨Av, cv, rfl⟩ := Kd.R_slice ho; have HB5 := Aside0.mk (below_step HB3.out hb); have HV6 := Aside0.mk (Kd.V_below HV3.out hb); have HV5 := Aside0.mk (Kd.R_V (base' := w1.heap.size) (Kd.R_mono (Kd.R_bound ho) (ok' := fun k_ => w.heap.size ≤ k_) (fun k_ hk => Nat.le_trans HB3.out.size hk.2.1))); clear ho hb) | (go_at_call 57; refine (IH.out k1 (by have := HK1.out; omega) A0 c0 l0 (fun k_ => w.heap.size ≤ k_) Av cv l5 _ y m1 _ (Kd.C_below HR0.out HB5.out) hc0 HV5.out A9.out).mono ?_; rintro e w7 ⟨v7, rfl, hv7, hb7⟩; have HB7 := Aside0.mk (below_step HB5.out hb7); have HV7 := Aside0.mk (Kd.V_mono hv7 (ok' := fun k_ => (P1_ k_ ∨ w.heap.size ≤ k_)) (fun k_ hk => .inr (hk.elim id (Nat.le_trans HB5.out.size)))); have HV8 := Aside0.mk (Kd.V_below HV6.out hb7); obtain ⟨A7_, c7_, rfl⟩ := Kd.V_slice hv7; clear hv7 hb7))
          go_wp2
          go_roundg k1
          case measure => have := HK1.out; omega
          case rel => exact ⟨_, _, _, rfl, rfl, H', ⟨by have := HK1.out; omega⟩, HV8, HB7⟩
        ·rw [if_neg c10] at H; cases H
      ·rw [if_neg c8] at H; cases H
     ·rw [if_neg c7] at H; cases H
    ·rw [if_neg c6] at H
     have c6b0 : decide (x10 < (l0.length : Int)) = false := decide_eq_false c6
     simp only [Option.some.injEq, Prod.mk.injEq] at H
     obtain ⟨rfl, rfl⟩ := H
     clear c6
     go_wp2
     go_ret2
     exact ⟨_, rfl, HV.out, HB.out⟩
def trishawref08_Assign.f (k : Nat) (l0 : List (List Int)) : Option (List Int × Int × Int) := (trishawref08_Rent.f k l0).bind fun bt423 => (if bt423.2 = true then ((trishawref08_assign.f k l0 ([] : List Int) 0).bind fun bt425 => (some (bt425.1, bt425.2, 0))) else (some (([] : List Int), 0, 2)))
set_option maxHeartbeats 8000000 in
set_option maxRecDepth 100000 in
theorem trishawref08_Assign.calls (k : Nat) (A0 : Option Addr) (c0 : Nat) (l0 : List (List Int)) (r1 : List Int) (r2 : Int) (r3 : Int) (w : World) (hr0 : Kd.C (Kd.slice 3 (Kd.int .i64)) w A0 l0.length l0) (hc0 : l0.length ≤ c0) (h : trishawref08_Assign.f k l0 = some (r1, r2, r3)) :
  Calls Try.prog 27 #[.slice A0 l0.length c0] w fun e w' => ∃ v0_ : Value, e = .returned (.tuple #[v0_, .int .i64 r2, .int .i64 r3]) ∧ Kd.V (Kd.int .i64) 3 w' w.heap.size (fun k_ => (w.heap.size ≤ k_)) v0_ r1 ∧ Below w.heap.size w w' := by
 have HR0 := Aside0.mk hr0; have HC0 := Aside0.mk hc0; clear hr0 hc0; have HB := Aside0.mk (Below.refl w.heap.size w); have H : ((trishawref08_Rent.f k l0).bind fun bt423 => (if bt423.2 = true then ((trishawref08_assign.f k l0 ([] : List Int) 0).bind fun bt425 => (some (bt425.1, bt425.2, 0))) else (some (([] : List Int), 0, 2)))) = some (r1, r2, r3) := h; clear h; replace H := Option.bind_eq_some_iff.mp H; obtain ⟨⟨t423, t424⟩, A20, H⟩ := H; replace H : (if t424 = true then ((trishawref08_assign.f k l0 ([] : List Int) 0).bind fun bt425 => (some (bt425.1, bt425.2, 0))) else (some (([] : List Int), 0, 2))) = some (r1, r2, r3) := H; have A2 := Aside0.mk A20; clear A20; by_cases c3 : t424 = true; (focus (subst c3; (have H1 : ((trishawref08_assign.f k l0 ([] : List Int) 0).bind fun bt425 => (some (bt425.1, bt425.2, 0))) = some (r1, r2, r3) := by rw [if_pos rfl] at H; exact H); clear H; have H := H1; clear H1; replace H := Option.bind_eq_some_iff.mp H; obtain ⟨⟨t425, t428⟩, A40, H⟩ := H; replace H : (some (t425, t428, 0)) = some (r1, r2, r3) := H; have A4 := Aside0.mk A40; clear A40; simp only [Option.some.injEq, Prod.mk.injEq] at H; obtain ⟨rfl, rfl, rfl⟩ := H; (go_enter Try.func27, Try.ntmps27); (go_wp2_with (first | ((with_reducible refine gate_callee (f := 24) rfl ?_); refine goesL_ (some 11) rfl rfl Try.func24 (by kernel_rfl) rfl #[.slice A0 l0.length c0] rfl (by (try simp only [List.map_toArray, List.map_cons, List.map_nil]); first | done | rfl | (simp only [List.length_drop, List.length_take]; rfl)) ?_; (with_reducible refine (trishawref08_Rent.calls k _ _ l0 t423 true _ ?side1 ?side2 A2.out).mono ?_); (case side1 => repeat (first | exact HR0.out | (with_reducible refine Kd.C_alloc ?_ _) | (with_reducible refine Kd.C_drewN ?_ _) | (with_reducible refine Kd.C_drew ?_))); (case side2 => exact HC0.out); rintro e w' ⟨rfl, ⟨nd, rfl⟩⟩; refine ⟨_, rfl, ?_⟩) | ((with_reducible refine gate_callee (f := 57) rfl ?_); refine goesL_ (some 18) rfl rfl Try.func57 (by kernel_rfl) rfl #[.slice A0 l0.length c0, .slice none 0 0, .int .i64 0] rfl (by (try simp only [List.map_toArray, List.map_cons, List.map_nil]); first | done | rfl | (simp only [List.length_drop, List.length_take]; rfl)) ?_; (refine (trishawref08_assign.calls k _ _ l0 (fun k_ => False) _ _ ([] : List Int) 0 t425 t428 _ ?side1 ?side2 ?side3 A4.out).mono ?_); (case side1 => repeat (first | exact HR0.out | (with_reducible refine Kd.C_alloc ?_ _) | (with_reducible refine Kd.C_drewN ?_ _) | (with_reducible refine Kd.C_drew ?_))); (case side2 => exact HC0.out); (case side3 => exact Kd.V_nil _ _ _ _ _); rintro e w5 ⟨v426, rfl, ho0, hb⟩; refine ⟨_, rfl, ?_⟩; have n0_ := Aside0.mk (Kd.V_lower (Kd.V_mono (ok' := fun k_ => (w.heap.size ≤ k_)) ho0 (fun k_ hk_ => Or.elim hk_ (fun hs_ => (hs_).elim) (fun hn_ => (Nat.le_trans (below_size (by repeat (first | (with_reducible first | exact HB.out | apply lal | apply ldn | apply ldr) | exact HB.out))) hn_)))) (below_size (by repeat (first | (with_reducible first | exact HB.out | apply lal | apply ldn | apply ldr) | exact HB.out)))); have n1_ := Aside0.mk (below_step (by repeat (first | (with_reducible first | exact HB.out | apply lal | apply ldn | apply ldr) | exact HB.out)) hb); clear HB; have HO427 := n0_; have HB := n1_; clear n0_ n1_; (try clear hb); (try clear hb2); (try clear hk); (try clear hi); (try clear ho0)))); (go_ret3); exact ⟨_, by first | rfl | (simp [errW_none, errW_some] <;> rfl) | (simp [*, errW_none, errW_some] <;> rfl), by (with_reducible repeat (first | apply Kd.V_alloc | apply Kd.V_drewN | apply Kd.V_drew)); exact HO427.out, by repeat (first | (with_reducible first | exact HB.out | apply lal | apply ldn | apply ldr) | exact HB.out)⟩)); (focus (replace c3 := Bool.eq_false_iff.mpr c3; subst c3; (have H1 : (some (([] : List Int), 0, 2)) = some (r1, r2, r3) := by rw [if_neg (show ¬ (false = true) by decide)] at H; exact H); clear H; have H := H1; clear H1; simp only [Option.some.injEq, Prod.mk.injEq] at H; obtain ⟨rfl, rfl, rfl⟩ := H; (go_enter Try.func27, Try.ntmps27); (go_wp2_with (first | ((with_reducible refine gate_callee (f := 24) rfl ?_); refine goesL_ (some 11) rfl rfl Try.func24 (by kernel_rfl) rfl #[.slice A0 l0.length c0] rfl (by (try simp only [List.map_toArray, List.map_cons, List.map_nil]); first | done | rfl | (simp only [List.length_drop, List.length_take]; rfl)) ?_; (with_reducible refine (trishawref08_Rent.calls k _ _ l0 t423 false _ ?side1 ?side2 A2.out).mono ?_); (case side1 => repeat (first | exact HR0.out | (with_reducible refine Kd.C_alloc ?_ _) | (with_reducible refine Kd.C_drewN ?_ _) | (with_reducible refine Kd.C_drew ?_))); (case side2 => exact HC0.out); rintro e w' ⟨rfl, ⟨nd, rfl⟩⟩; refine ⟨_, rfl, ?_⟩))); (go_ret3); exact ⟨_, by first | rfl | (simp [errW_none, errW_some] <;> rfl) | (simp [*, errW_none, errW_some] <;> rfl), Kd.V_nil _ _ _ _ _, by repeat (first | (with_reducible first | exact HB.out | apply lal | apply ldn | apply ldr) | exact HB.out)⟩))
end Go.Proofs.Ytiafiebalibkdaa.OAll
