/- A part of the proof of 'stampBest_holds', for every input, without a condition. -/
import Derived.Test.YthbalcbibmdpnaaSBeRs
import Derived.Test.YthbalcbibmdpnaaSBeOAllx4
namespace Go.Proofs.Ythbalcbibmdpnaa.OAll
open Go.RowKit Go.Proofs.YthbalcbibmdpnaaW.PrintWords Go.Proofs.YthbalcbibmdpnaaW.PrintLast Go.Proofs.YthbalcbibmdpnaaW.PrintMore
attribute [local go_sem] max2_int min2_int max_two min_two max_three min_three max_four min_four
set_option linter.unusedVariables false
set_option linter.unusedSimpArgs false
mutual
def trishawref04_best.f : Nat → Int → Int → List Int → Option (List Int × Int)
  | 0, _, _, _ => none
  | k + 1, h, kk, now => if (now.length : Int) = kk then (trishawref04_reach.f k h now).bind fun t => some (now, t) else if now = [] then trishawref04_best.l0 k h kk now 1 [] (-1) 1 else (trishawref04_reach.f k h now).bind fun t => trishawref04_best.l0 k h kk now (mn 200 (wrap64 (t + 1))) [] (-1) (wrap64 (rd now ((now.length : Int) - 1) + 1))
def trishawref04_best.l0 : Nat → Int → Int → List Int → Int → List Int → Int → Int → Option (List Int × Int)
  | 0, _, _, _, _, _, _, _ => none
  | k + 1, h, kk, now, high, best, most, x => if x ≤ high then (if now.length < 17592186044415 then (trishawref04_best.f k h kk (now ++ [x])).bind fun y => if most < y.2 then trishawref04_best.l0 k h kk now high y.1 y.2 (wrap64 (x + 1)) else trishawref04_best.l0 k h kk now high best most (wrap64 (x + 1)) else none) else some (best, most)
end
set_option maxRecDepth 100000 in
set_option maxHeartbeats 1000000 in
theorem trishawref04_best.calls (k : Nat) : ∀ (a0 a1 : Int) (P2_ : Nat → Prop) (A2 : Option Addr) (c2 : Nat) (l2 : List Int) (r1 : List Int) (r2 : Int) (w : World) (hs2 : Kd.V (Kd.int .i64) 3 w w.heap.size (fun k_ => P2_ k_) (.slice A2 l2.length c2) l2) (h : trishawref04_best.f k a0 a1 l2 = some (r1, r2)),
    Calls Try.prog 48 #[.int .i64 a0, .int .i64 a1, .slice A2 l2.length c2] w fun e w' => ∃ v0_ : Value, e = .returned (.tuple #[v0_, .int .i64 r2]) ∧ Kd.V (Kd.int .i64) 3 w' w.heap.size (fun k_ => (P2_ k_ ∨ w.heap.size ≤ k_)) v0_ r1 ∧ Below w.heap.size w w' := by
  induction k using Nat.strongRecOn with
  | _ k ih =>
  intro a0 a1 P2_ A2 c2 l2 r1 r2 w hs2 h
  cases k with
  | zero => exact absurd h (by simp [trishawref04_best.f])
  | succ k =>
  simp only [trishawref04_best.f] at h
  have IH := Aside0.mk ih
  have HS2 := Aside0.mk hs2
  have hc2 := (Kd.V_reads' hs2).2.1
  have HC2 := Aside0.mk (Kd.V_reads' hs2).2.2
  have HV := Aside0.mk (Kd.V_mono hs2 (ok' := fun k_ => (P2_ k_ ∨ w.heap.size ≤ k_)) (fun k_ hk => .inl hk))
  clear ih hs2
  by_cases hlen : (l2.length : Int) = a1
  · rw [if_pos hlen] at h
    have c1b : ((l2.length : Int) == a1) = true := beq_iff_eq.mpr hlen
    obtain ⟨t, ht, h⟩ := Option.bind_eq_some_iff.mp h
    simp only [Option.some.injEq, Prod.mk.injEq] at h
    obtain ⟨rfl, rfl⟩ := h
    have HT := Aside0.mk ht
    clear ht hlen
    go_enter Try.func48, Try.ntmps48
    go_wp2_with fail
    refine (trishawref04_reach.calls k a0 A2 c2 l2 t _ HC2.out hc2 HT.out).mono ?_
    rintro e w2 ⟨rfl, hb2⟩
    have HB2 := Aside0.mk hb2
    clear hb2
    go_wp2
    go_ret2
    exact ⟨_, rfl, Kd.V_below HV.out HB2.out, HB2.out⟩
  · rw [if_neg hlen] at h
    have c1b : ((l2.length : Int) == a1) = false := beq_eq_false_iff_ne.mpr hlen
    by_cases hl0 : l2 = []
    · rw [if_pos hl0] at h
      have hz : (l2.length : Int) = 0 := by rw [hl0]; rfl
      have z1 : decide ((0 : Int) < (l2.length : Int)) = false := decide_eq_false (by omega)
      have z2 : decide (0 < l2.length) = false := decide_eq_false (by omega)
      have z3 : (0 < l2.length) = False := eq_false (by omega)
      have z4 : ((0 : Int) < (l2.length : Int)) = False := eq_false (by omega)
      have H' := Aside0.mk h
      have HL0 := Aside0.mk hl0
      have HB := Aside0.mk (Below.refl w.heap.size w)
      clear h hlen hl0 hz
      go_enter Try.func48, Try.ntmps48
      go_wp2_with fail
      go_loopg [8, 9, 12] k (fun kq v8 v9 v12 w' => ∃ (x8 : List Int) (x9 x12 : Int), v9 = .int .i64 x9 ∧ v12 = .int .i64 x12 ∧ Aside0 (trishawref04_best.l0 kq a0 a1 l2 1 x8 x9 x12 = some (r1, r2)) ∧ Aside0 (kq ≤ k) ∧ Aside0 (Kd.V (Kd.int .i64) 3 w' w.heap.size (fun k_ => (P2_ k_ ∨ w.heap.size ≤ k_)) v8 x8) ∧ Aside0 (Below w.heap.size w w'))
      case atStart => exact ⟨_, _, _, rfl, rfl, H', ⟨Nat.le_refl _⟩, ⟨Kd.V_nil _ _ _ _ _⟩, HB⟩
      case round =>
        clear H' HV HB
        obtain ⟨x8, x9, x12, rfl, rfl, HA, HK1, HV, HB⟩ := hrel
        obtain ⟨Ab, cb, rfl⟩ := Kd.V_slice HV.out
        cases gk with
        | zero => exact absurd HA.out (by simp [trishawref04_best.l0])
        | succ k1 =>
          have H := HA.out
          clear HA
          simp only [trishawref04_best.l0] at H
          by_cases c6 : x12 ≤ 1
          · rw [if_pos c6] at H
            have c6b0 : decide (x12 ≤ 1) = true := decide_eq_true c6
            by_cases c10 : l2.length < 17592186044415
            · rw [if_pos c10] at H
              obtain ⟨⟨y, m1⟩, hy, H⟩ := Option.bind_eq_some_iff.mp H
              obtain ⟨l5, hl5⟩ : ∃ l5, l5 = l2 ++ [x12] := ⟨_, rfl⟩
              rw [← hl5] at hy
              have HL5 := Aside0.mk hl5
              have A9 := Aside0.mk hy
              have L10 := Aside0.mk c10
              have HC4 := Aside0.mk (Kd.C_below HC2.out HB.out)
              clear hy hl5 c6 c10
              by_cases c12 : x9 < m1
              · rw [if_pos c12] at H
                have c12b : decide (x9 < m1) = true := decide_eq_true c12
                have H' := Aside0.mk H
                clear H c12
                go_wp2_with (first | ((with_reducible refine gate_builtin (b := .append) (xs := #[.tmp 52, .tmp 54]) rfl ?_); at_builtin; refine append_full (w0 := w) w.heap.size rfl (.tmp 52) (.tmp 54) 22 3 rfl Try.underlying22 info3 A2 l2 x12 _ rfl rfl rfl HC4.out HB.out (below_size HB.out) (by have := L10.out; omega) ?_; intro v1 w1 ho hb hbw; rw [← HL5.out] at ho; obtain ⟨Av, cv, rfl⟩ := Kd.R_slice ho; have HB5 := Aside0.mk hb; have HV6 := Aside0.mk (Kd.V_below HV.out hbw); have HV5 := Aside0.mk (Kd.R_V (base' := w1.heap.size) (Kd.R_mono (Kd.R_bound ho) (ok' := fun k_ => w.heap.size ≤ k_) (fun k_ hk => Nat.le_trans (below_size HB.out) (Nat.le_trans (Nat.le_succ _) hk.2.1)))); clear ho hb hbw) | (go_at_call 48; refine (IH.out k1 (by have := HK1.out; omega) a0 a1 (fun k_ => w.heap.size ≤ k_) Av cv l5 y m1 _ HV5.out A9.out).mono ?_; rintro e w7 ⟨v7, rfl, hv7, hb7⟩; have HB7 := Aside0.mk (below_step HB5.out hb7); have HV7 := Aside0.mk (Kd.V_mono (Kd.V_lower hv7 (base' := w.heap.size) (below_size HB5.out)) (ok' := fun k_ => (P2_ k_ ∨ w.heap.size ≤ k_)) (fun k_ hk => .inr (hk.elim id (Nat.le_trans (below_size HB5.out))))); have HV8 := Aside0.mk (Kd.V_below HV6.out hb7); obtain ⟨A7_, c7_, rfl⟩ := Kd.V_slice hv7; clear hv7 hb7))
                go_roundg k1
                case measure => have := HK1.out; omega
                case rel => exact ⟨_, _, _, rfl, rfl, H', ⟨by have := HK1.out; omega⟩, HV7, HB7⟩
              · rw [if_neg c12] at H
                have c12b : decide (x9 < m1) = false := decide_eq_false c12
                have H' := Aside0.mk H
                clear H c12
                go_wp2_with (first | ((with_reducible refine gate_builtin (b := .append) (xs := #[.tmp 52, .tmp 54]) rfl ?_); at_builtin; refine append_full (w0 := w) w.heap.size rfl (.tmp 52) (.tmp 54) 22 3 rfl Try.underlying22 info3 A2 l2 x12 _ rfl rfl rfl HC4.out HB.out (below_size HB.out) (by have := L10.out; omega) ?_; intro v1 w1 ho hb hbw; rw [← HL5.out] at ho; obtain ⟨Av, cv, rfl⟩ := Kd.R_slice ho; have HB5 := Aside0.mk hb; have HV6 := Aside0.mk (Kd.V_below HV.out hbw); have HV5 := Aside0.mk (Kd.R_V (base' := w1.heap.size) (Kd.R_mono (Kd.R_bound ho) (ok' := fun k_ => w.heap.size ≤ k_) (fun k_ hk => Nat.le_trans (below_size HB.out) (Nat.le_trans (Nat.le_succ _) hk.2.1)))); clear ho hb hbw) | (go_at_call 48; refine (IH.out k1 (by have := HK1.out; omega) a0 a1 (fun k_ => w.heap.size ≤ k_) Av cv l5 y m1 _ HV5.out A9.out).mono ?_; rintro e w7 ⟨v7, rfl, hv7, hb7⟩; have HB7 := Aside0.mk (below_step HB5.out hb7); have HV7 := Aside0.mk (Kd.V_mono (Kd.V_lower hv7 (base' := w.heap.size) (below_size HB5.out)) (ok' := fun k_ => (P2_ k_ ∨ w.heap.size ≤ k_)) (fun k_ hk => .inr (hk.elim id (Nat.le_trans (below_size HB5.out))))); have HV8 := Aside0.mk (Kd.V_below HV6.out hb7); obtain ⟨A7_, c7_, rfl⟩ := Kd.V_slice hv7; clear hv7 hb7))
                go_roundg k1
                case measure => have := HK1.out; omega
                case rel => exact ⟨_, _, _, rfl, rfl, H', ⟨by have := HK1.out; omega⟩, HV8, HB7⟩
            · rw [if_neg c10] at H; cases H
          · rw [if_neg c6] at H
            have c6b0 : decide (x12 ≤ 1) = false := decide_eq_false c6
            simp only [Option.some.injEq, Prod.mk.injEq] at H
            obtain ⟨rfl, rfl⟩ := H
            clear c6
            go_wp2
            go_ret2
            exact ⟨_, rfl, HV.out, HB.out⟩
    · rw [if_neg hl0] at h
      obtain ⟨t, ht, h⟩ := Option.bind_eq_some_iff.mp h
      have hpos : 0 < l2.length := by
        cases l2 with
        | nil => exact absurd rfl hl0
        | cons x t => simp
      have hmx := Kd.C_max HC2.out
      obtain ⟨n1, hn1⟩ : ∃ n1, l2.length = n1 + 1 := ⟨l2.length - 1, by omega⟩
      have en : (l2.length : Int) - 1 = (n1 : Int) := by omega
      obtain ⟨ao, ea, hxo⟩ := Kd.at_int HC2.out (n1 : Int) (by omega) (by omega)
      subst ea
      rw [Int.toNat_natCast] at hxo
      obtain ⟨last, hlast⟩ : ∃ last, last = rd l2 (n1 : Int) := ⟨_, rfl⟩
      rw [en, ← hlast] at h
      rw [← hlast] at hxo
      have v1 := eq_true (show (0 : Int) ≤ (n1 : Int) by omega)
      have v2 := eq_true (show (n1 : Int) < (l2.length : Int) by omega)
      have v4 : wrap64 ((l2.length : Int) - 1) = (n1 : Int) := by rw [en]; first | (unfold wrap64; omega) | (simp only [maxLen] at hmx; unfold wrap64; omega)
      have z1 : decide ((0 : Int) < (l2.length : Int)) = true := decide_eq_true (by omega)
      have z2 : decide (0 < l2.length) = true := decide_eq_true (by omega)
      have z3 : (0 < l2.length) = True := eq_true (by omega)
      have HT := Aside0.mk (trishawref04_reach.calls k a0 (some ao) c2 l2 t w HC2.out hc2 ht)
      by_cases hgc : wrap64 (t + 1) < 200
      · have q1 := eq_true hgc
        rw [show mn 200 (wrap64 (t + 1)) = (wrap64 (t + 1)) by unfold mn; omega] at h
        have q2 : decide (wrap64 (t + 1) < 200) = true := decide_eq_true hgc
        have q3 : (200 ≤ wrap64 (t + 1)) = False := eq_false (by omega)
        have H' := Aside0.mk h
        clear h hlen hl0 ht hpos hmx en hn1 hlast hgc
        go_enter Try.func48, Try.ntmps48
        go_wp2_with fail
        refine HT.out.mono ?_
        rintro e w2 ⟨rfl, hb2⟩
        have HB := Aside0.mk hb2
        clear hb2 hxo
        go_wp2_with fail
        go_loopg [8, 9, 12] k (fun kq v8 v9 v12 w' => ∃ (x8 : List Int) (x9 x12 : Int), v9 = .int .i64 x9 ∧ v12 = .int .i64 x12 ∧ Aside0 (trishawref04_best.l0 kq a0 a1 l2 (wrap64 (t + 1)) x8 x9 x12 = some (r1, r2)) ∧ Aside0 (kq ≤ k) ∧ Aside0 (Kd.V (Kd.int .i64) 3 w' w.heap.size (fun k_ => (P2_ k_ ∨ w.heap.size ≤ k_)) v8 x8) ∧ Aside0 (Below w.heap.size w w'))
        case atStart => exact ⟨_, _, _, rfl, rfl, H', ⟨Nat.le_refl _⟩, ⟨Kd.V_nil _ _ _ _ _⟩, HB⟩
        case round =>
          clear H' HV HB
          obtain ⟨x8, x9, x12, rfl, rfl, HA, HK1, HV, HB⟩ := hrel
          obtain ⟨Ab, cb, rfl⟩ := Kd.V_slice HV.out
          cases gk with
          | zero => exact absurd HA.out (by simp [trishawref04_best.l0])
          | succ k1 =>
            have H := HA.out
            clear HA
            simp only [trishawref04_best.l0] at H
            by_cases c6 : x12 ≤ (wrap64 (t + 1))
            · rw [if_pos c6] at H
              have c6b0 : decide (x12 ≤ (wrap64 (t + 1))) = true := decide_eq_true c6
              by_cases c10 : l2.length < 17592186044415
              · rw [if_pos c10] at H
                obtain ⟨⟨y, m1⟩, hy, H⟩ := Option.bind_eq_some_iff.mp H
                obtain ⟨l5, hl5⟩ : ∃ l5, l5 = l2 ++ [x12] := ⟨_, rfl⟩
                rw [← hl5] at hy
                have HL5 := Aside0.mk hl5
                have A9 := Aside0.mk hy
                have L10 := Aside0.mk c10
                have HC4 := Aside0.mk (Kd.C_below HC2.out HB.out)
                clear hy hl5 c6 c10
                by_cases c12 : x9 < m1
                · rw [if_pos c12] at H
                  have c12b : decide (x9 < m1) = true := decide_eq_true c12
                  have H' := Aside0.mk H
                  clear H c12
                  go_wp2_with (first | ((with_reducible refine gate_builtin (b := .append) (xs := #[.tmp 52, .tmp 54]) rfl ?_); at_builtin; refine append_full (w0 := w) w.heap.size rfl (.tmp 52) (.tmp 54) 22 3 rfl Try.underlying22 info3 (some ao) l2 x12 _ rfl rfl rfl HC4.out HB.out (below_size HB.out) (by have := L10.out; omega) ?_; intro v1 w1 ho hb hbw; rw [← HL5.out] at ho; obtain ⟨Av, cv, rfl⟩ := Kd.R_slice ho; have HB5 := Aside0.mk hb; have HV6 := Aside0.mk (Kd.V_below HV.out hbw); have HV5 := Aside0.mk (Kd.R_V (base' := w1.heap.size) (Kd.R_mono (Kd.R_bound ho) (ok' := fun k_ => w.heap.size ≤ k_) (fun k_ hk => Nat.le_trans (below_size HB.out) (Nat.le_trans (Nat.le_succ _) hk.2.1)))); clear ho hb hbw) | (go_at_call 48; refine (IH.out k1 (by have := HK1.out; omega) a0 a1 (fun k_ => w.heap.size ≤ k_) Av cv l5 y m1 _ HV5.out A9.out).mono ?_; rintro e w7 ⟨v7, rfl, hv7, hb7⟩; have HB7 := Aside0.mk (below_step HB5.out hb7); have HV7 := Aside0.mk (Kd.V_mono (Kd.V_lower hv7 (base' := w.heap.size) (below_size HB5.out)) (ok' := fun k_ => (P2_ k_ ∨ w.heap.size ≤ k_)) (fun k_ hk => .inr (hk.elim id (Nat.le_trans (below_size HB5.out))))); have HV8 := Aside0.mk (Kd.V_below HV6.out hb7); obtain ⟨A7_, c7_, rfl⟩ := Kd.V_slice hv7; clear hv7 hb7))
                  go_roundg k1
                  case measure => have := HK1.out; omega
                  case rel => exact ⟨_, _, _, rfl, rfl, H', ⟨by have := HK1.out; omega⟩, HV7, HB7⟩
                · rw [if_neg c12] at H
                  have c12b : decide (x9 < m1) = false := decide_eq_false c12
                  have H' := Aside0.mk H
                  clear H c12
                  go_wp2_with (first | ((with_reducible refine gate_builtin (b := .append) (xs := #[.tmp 52, .tmp 54]) rfl ?_); at_builtin; refine append_full (w0 := w) w.heap.size rfl (.tmp 52) (.tmp 54) 22 3 rfl Try.underlying22 info3 (some ao) l2 x12 _ rfl rfl rfl HC4.out HB.out (below_size HB.out) (by have := L10.out; omega) ?_; intro v1 w1 ho hb hbw; rw [← HL5.out] at ho; obtain ⟨Av, cv, rfl⟩ := Kd.R_slice ho; have HB5 := Aside0.mk hb; have HV6 := Aside0.mk (Kd.V_below HV.out hbw); have HV5 := Aside0.mk (Kd.R_V (base' := w1.heap.size) (Kd.R_mono (Kd.R_bound ho) (ok' := fun k_ => w.heap.size ≤ k_) (fun k_ hk => Nat.le_trans (below_size HB.out) (Nat.le_trans (Nat.le_succ _) hk.2.1)))); clear ho hb hbw) | (go_at_call 48; refine (IH.out k1 (by have := HK1.out; omega) a0 a1 (fun k_ => w.heap.size ≤ k_) Av cv l5 y m1 _ HV5.out A9.out).mono ?_; rintro e w7 ⟨v7, rfl, hv7, hb7⟩; have HB7 := Aside0.mk (below_step HB5.out hb7); have HV7 := Aside0.mk (Kd.V_mono (Kd.V_lower hv7 (base' := w.heap.size) (below_size HB5.out)) (ok' := fun k_ => (P2_ k_ ∨ w.heap.size ≤ k_)) (fun k_ hk => .inr (hk.elim id (Nat.le_trans (below_size HB5.out))))); have HV8 := Aside0.mk (Kd.V_below HV6.out hb7); obtain ⟨A7_, c7_, rfl⟩ := Kd.V_slice hv7; clear hv7 hb7))
                  go_roundg k1
                  case measure => have := HK1.out; omega
                  case rel => exact ⟨_, _, _, rfl, rfl, H', ⟨by have := HK1.out; omega⟩, HV8, HB7⟩
              · rw [if_neg c10] at H; cases H
            · rw [if_neg c6] at H
              have c6b0 : decide (x12 ≤ (wrap64 (t + 1))) = false := decide_eq_false c6
              simp only [Option.some.injEq, Prod.mk.injEq] at H
              obtain ⟨rfl, rfl⟩ := H
              clear c6
              go_wp2
              go_ret2
              exact ⟨_, rfl, HV.out, HB.out⟩
      · have q1 := eq_false hgc
        rw [show mn 200 (wrap64 (t + 1)) = 200 by unfold mn; omega] at h
        have q2 : decide (wrap64 (t + 1) < 200) = false := decide_eq_false hgc
        have q3 : (200 ≤ wrap64 (t + 1)) = True := eq_true (by omega)
        have H' := Aside0.mk h
        clear h hlen hl0 ht hpos hmx en hn1 hlast hgc
        go_enter Try.func48, Try.ntmps48
        go_wp2_with fail
        refine HT.out.mono ?_
        rintro e w2 ⟨rfl, hb2⟩
        have HB := Aside0.mk hb2
        clear hb2 hxo
        go_wp2_with fail
        go_loopg [8, 9, 12] k (fun kq v8 v9 v12 w' => ∃ (x8 : List Int) (x9 x12 : Int), v9 = .int .i64 x9 ∧ v12 = .int .i64 x12 ∧ Aside0 (trishawref04_best.l0 kq a0 a1 l2 200 x8 x9 x12 = some (r1, r2)) ∧ Aside0 (kq ≤ k) ∧ Aside0 (Kd.V (Kd.int .i64) 3 w' w.heap.size (fun k_ => (P2_ k_ ∨ w.heap.size ≤ k_)) v8 x8) ∧ Aside0 (Below w.heap.size w w'))
        case atStart => exact ⟨_, _, _, rfl, rfl, H', ⟨Nat.le_refl _⟩, ⟨Kd.V_nil _ _ _ _ _⟩, HB⟩
        case round =>
          clear H' HV HB
          obtain ⟨x8, x9, x12, rfl, rfl, HA, HK1, HV, HB⟩ := hrel
          obtain ⟨Ab, cb, rfl⟩ := Kd.V_slice HV.out
          cases gk with
          | zero => exact absurd HA.out (by simp [trishawref04_best.l0])
          | succ k1 =>
            have H := HA.out
            clear HA
            simp only [trishawref04_best.l0] at H
            by_cases c6 : x12 ≤ 200
            · rw [if_pos c6] at H
              have c6b0 : decide (x12 ≤ 200) = true := decide_eq_true c6
              by_cases c10 : l2.length < 17592186044415
              · rw [if_pos c10] at H
                obtain ⟨⟨y, m1⟩, hy, H⟩ := Option.bind_eq_some_iff.mp H
                obtain ⟨l5, hl5⟩ : ∃ l5, l5 = l2 ++ [x12] := ⟨_, rfl⟩
                rw [← hl5] at hy
                have HL5 := Aside0.mk hl5
                have A9 := Aside0.mk hy
                have L10 := Aside0.mk c10
                have HC4 := Aside0.mk (Kd.C_below HC2.out HB.out)
                clear hy hl5 c6 c10
                by_cases c12 : x9 < m1
                · rw [if_pos c12] at H
                  have c12b : decide (x9 < m1) = true := decide_eq_true c12
                  have H' := Aside0.mk H
                  clear H c12
                  go_wp2_with (first | ((with_reducible refine gate_builtin (b := .append) (xs := #[.tmp 52, .tmp 54]) rfl ?_); at_builtin; refine append_full (w0 := w) w.heap.size rfl (.tmp 52) (.tmp 54) 22 3 rfl Try.underlying22 info3 (some ao) l2 x12 _ rfl rfl rfl HC4.out HB.out (below_size HB.out) (by have := L10.out; omega) ?_; intro v1 w1 ho hb hbw; rw [← HL5.out] at ho; obtain ⟨Av, cv, rfl⟩ := Kd.R_slice ho; have HB5 := Aside0.mk hb; have HV6 := Aside0.mk (Kd.V_below HV.out hbw); have HV5 := Aside0.mk (Kd.R_V (base' := w1.heap.size) (Kd.R_mono (Kd.R_bound ho) (ok' := fun k_ => w.heap.size ≤ k_) (fun k_ hk => Nat.le_trans (below_size HB.out) (Nat.le_trans (Nat.le_succ _) hk.2.1)))); clear ho hb hbw) | (go_at_call 48; refine (IH.out k1 (by have := HK1.out; omega) a0 a1 (fun k_ => w.heap.size ≤ k_) Av cv l5 y m1 _ HV5.out A9.out).mono ?_; rintro e w7 ⟨v7, rfl, hv7, hb7⟩; have HB7 := Aside0.mk (below_step HB5.out hb7); have HV7 := Aside0.mk (Kd.V_mono (Kd.V_lower hv7 (base' := w.heap.size) (below_size HB5.out)) (ok' := fun k_ => (P2_ k_ ∨ w.heap.size ≤ k_)) (fun k_ hk => .inr (hk.elim id (Nat.le_trans (below_size HB5.out))))); have HV8 := Aside0.mk (Kd.V_below HV6.out hb7); obtain ⟨A7_, c7_, rfl⟩ := Kd.V_slice hv7; clear hv7 hb7))
                  go_roundg k1
                  case measure => have := HK1.out; omega
                  case rel => exact ⟨_, _, _, rfl, rfl, H', ⟨by have := HK1.out; omega⟩, HV7, HB7⟩
                · rw [if_neg c12] at H
                  have c12b : decide (x9 < m1) = false := decide_eq_false c12
                  have H' := Aside0.mk H
                  clear H c12
                  go_wp2_with (first | ((with_reducible refine gate_builtin (b := .append) (xs := #[.tmp 52, .tmp 54]) rfl ?_); at_builtin; refine append_full (w0 := w) w.heap.size rfl (.tmp 52) (.tmp 54) 22 3 rfl Try.underlying22 info3 (some ao) l2 x12 _ rfl rfl rfl HC4.out HB.out (below_size HB.out) (by have := L10.out; omega) ?_; intro v1 w1 ho hb hbw; rw [← HL5.out] at ho; obtain ⟨Av, cv, rfl⟩ := Kd.R_slice ho; have HB5 := Aside0.mk hb; have HV6 := Aside0.mk (Kd.V_below HV.out hbw); have HV5 := Aside0.mk (Kd.R_V (base' := w1.heap.size) (Kd.R_mono (Kd.R_bound ho) (ok' := fun k_ => w.heap.size ≤ k_) (fun k_ hk => Nat.le_trans (below_size HB.out) (Nat.le_trans (Nat.le_succ _) hk.2.1)))); clear ho hb hbw) | (go_at_call 48; refine (IH.out k1 (by have := HK1.out; omega) a0 a1 (fun k_ => w.heap.size ≤ k_) Av cv l5 y m1 _ HV5.out A9.out).mono ?_; rintro e w7 ⟨v7, rfl, hv7, hb7⟩; have HB7 := Aside0.mk (below_step HB5.out hb7); have HV7 := Aside0.mk (Kd.V_mono (Kd.V_lower hv7 (base' := w.heap.size) (below_size HB5.out)) (ok' := fun k_ => (P2_ k_ ∨ w.heap.size ≤ k_)) (fun k_ hk => .inr (hk.elim id (Nat.le_trans (below_size HB5.out))))); have HV8 := Aside0.mk (Kd.V_below HV6.out hb7); obtain ⟨A7_, c7_, rfl⟩ := Kd.V_slice hv7; clear hv7 hb7))
                  go_roundg k1
                  case measure => have := HK1.out; omega
                  case rel => exact ⟨_, _, _, rfl, rfl, H', ⟨by have := HK1.out; omega⟩, HV8, HB7⟩
              · rw [if_neg c10] at H; cases H
            · rw [if_neg c6] at H
              have c6b0 : decide (x12 ≤ 200) = false := decide_eq_false c6
              simp only [Option.some.injEq, Prod.mk.injEq] at H
              obtain ⟨rfl, rfl⟩ := H
              clear c6
              go_wp2
              go_ret2
              exact ⟨_, rfl, HV.out, HB.out⟩
end Go.Proofs.Ythbalcbibmdpnaa.OAll
