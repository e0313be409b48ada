/- A part of the proof of 'stampPaid_holds', for every input, without a condition. -/
import Derived.Test.YthbalcbibmdpnaaSPdRo
import Derived.Test.YthbalcbibmdpnaaSPdOAllx2
namespace Go.Proofs.Ythbalcbibmdpnaa.OAll
open Go.RowKit Go.Proofs.YthbalcbibmdpnaaW.PrintWords Go.Proofs.YthbalcbibmdpnaaW.PrintLast Go.Proofs.YthbalcbibmdpnaaW.PrintMore
set_option linter.unusedVariables false
set_option linter.unusedSimpArgs false
theorem step_append_full {P : Program} {ops : Array Oper} {o : Oper} {a : Act} {w : World} {K : Act → World → Prop} {Q : Exit → Act → World → Prop} {E : Prop} (hgd : o.guard = none) (s x : Operand) (t e : TypeId)
    (ho : o.op = .call { callee := .builtin .append, args := #[s, x], argTypes := #[t, t] })
    (ht : P.underlying t = some (.slice e)) (hinfo : (P.info? e).map (fun i => (i.zero, i.size, i.bytes)) = some (some (.int .i64 0), 1, 8))
    (A : Option Addr) (xs : List Int) (y : Int) (n g : Nat) (hn : n = xs.length) (hs : a.eval s = .slice A n n) (hx : a.eval x = .slice (some ⟨g, 0, none⟩) 1 1) (hy : w.cell? ⟨g, 0, none⟩ = some (.int .i64 y))
    (HR : Kd.C (Kd.int .i64) w A xs.length xs) (hl : (xs.length + 1) * 8 ≤ 140737488355328)
    (h : ∀ v1 w1, Kd.R (Kd.int .i64) e w1 w.heap.size (fun _ => True) v1 (xs ++ [y]) → Below w.heap.size w w1 → K (a.put o.dst v1) w1) :
    if Region.wanted o (yielded ops a.tmps) = true then Oper.wp P o a w K Q else E := by
  subst hn
  obtain ⟨i0, hi, hzz⟩ := Option.map_eq_some_iff.1 hinfo
  simp only [Prod.mk.injEq] at hzz
  obtain ⟨hz0, hz1, hz2⟩ := hzz
  refine step_append_grows hgd s x t ho e i0 (.int .i64 0) 1 8 ht hi hz0 hz1 hz2 rfl (by omega) A xs.length xs.length (nums .i64 xs) hs ?_ (by simp [nums]) ?_ ⟨g, 0, none⟩ 1 1 [.int .i64 y] hx rfl
    ?_ (by simp [Value.oneCell']) (by omega) (by simp only [maxLen]; omega) hl ?_
  · intro hA
    rcases Nat.eq_zero_or_pos xs.length with h0 | h0
    · exact ⟨h0, h0⟩
    · obtain ⟨ad, e1, _⟩ := Kd.at_int HR 0 (by omega) (by omega)
      rw [hA] at e1; cases e1
  · intro b hb j u hj
    have hjl : j < xs.length := by have := (List.getElem?_eq_some_iff.1 hj).1; simpa [nums] using this
    obtain ⟨ad, e1, hc⟩ := Kd.at_int HR (j : Int) (by omega) (by omega)
    rw [hb] at e1; cases e1
    rw [Int.toNat_natCast] at hc
    rw [hc]
    simp only [nums, List.getElem?_map, List.getElem?_eq_getElem hjl, Option.map_some, Option.some.injEq] at hj
    rw [← hj]
    simp [rd, List.getD_eq_getElem?_getD, List.getElem?_eq_getElem hjl]
  · intro j u hj
    rcases j with _ | j
    · simp only [List.getElem?_cons_zero, Option.some.injEq] at hj
      rw [← hj, add_plain]; exact hy
    · simp at hj
  · intro v' w' hown hg
    exact h v' w' (Kd.R_of_own (by simpa [nums, encs] using hown) (fun _ _ => trivial)) ((Below.refl w.heap.size w).grown hg (Nat.le_refl _) (fun k hk => by cases hk))
mutual
def stamp_Best.on : Nat → Int → Int → List Int → List Int → Int → Option (List Int × Int)
  | 0, _, _, _, _, _ => none
  | k + 1, h, kk, l, best, most => if l = [] then none else (stamp_reach.f k h l).bind fun rg => if (l.length : Int) = kk then (if most < rg then ((slices_Clone_int_int.f l).bind fun b => some (b, rg)) else some (best, most)) else stamp_Best.l0 k h kk l rg best most (wrap64 (rd l ((l.length : Int) - 1) + 1))
def stamp_Best.l0 : Nat → Int → Int → List Int → Int → List Int → Int → Int → Option (List Int × Int)
  | 0, _, _, _, _, _, _, _ => none
  | k + 1, h, kk, l, rg, best, most, v => if v ≤ wrap64 (rg + 1) then (if l.length < 17592186044415 then (stamp_Best.on k h kk (l ++ [v]) best most).bind fun b => stamp_Best.l0 k h kk l rg b.1 b.2 (wrap64 (v + 1)) else none) else some (best, most)
end
theorem stamp_Best.mono_l : ∀ k, (∀ y0 y1 y2 y3 y4, LeO (stamp_Best.on k y0 y1 y2 y3 y4) (stamp_Best.on (k + 1) y0 y1 y2 y3 y4)) ∧ (∀ y0 y1 y2 y3 y4 y5 y6, LeO (stamp_Best.l0 k y0 y1 y2 y3 y4 y5 y6) (stamp_Best.l0 (k + 1) y0 y1 y2 y3 y4 y5 y6))
  | 0 => ⟨fun _ _ _ _ _ r h => by simp [stamp_Best.on] at h, fun _ _ _ _ _ _ _ r h => by simp [stamp_Best.l0] at h⟩
  | k + 1 => by
    obtain ⟨ih0, ih1⟩ := stamp_Best.mono_l k
    refine ⟨fun y0 y1 y2 y3 y4 => ?_, fun y0 y1 y2 y3 y4 y5 y6 => ?_⟩
    · rw [stamp_Best.on, stamp_Best.on]
      split
      · exact LeO.refl _
      · refine LeO.bind (stamp_reach.mono _ _ _) (fun rg => ?_)
        split
        · exact LeO.refl _
        · exact ih1 _ _ _ _ _ _ _
    · rw [stamp_Best.l0, stamp_Best.l0]
      split
      · split
        · exact LeO.bind (ih0 _ _ _ _ _) (fun b => ih1 _ _ _ _ _ _ _)
        · exact LeO.refl _
      · exact LeO.refl _
structure BeS (w0 : World) (B : Nat) (h kk : Int) (w : World) (vb : Value) (best : List Int) (most : Int) : Prop where
  eB : w0.heap.size = B
  lo : Below B w0 w
  bh : w.heap[B]? = some (.cells #[.int .i64 h] 3 (0, 0))
  bk : w.heap[B + 1]? = some (.cells #[.int .i64 kk] 3 (0, 0))
  bb : w.heap[B + 2]? = some (.cells #[vb] 22 (0, 0))
  rb : Kd.R (Kd.int .i64) 3 w (B + 5) (fun _ => True) vb best
  bm : w.heap[B + 3]? = some (.cells #[.int .i64 most] 3 (0, 0))
  bo : w.heap[B + 4]? = some (.cells #[.func (.func 46) #[] #[.pointer (some ⟨B, 0, none⟩), .pointer (some ⟨B + 1, 0, none⟩), .pointer (some ⟨B + 3, 0, none⟩), .pointer (some ⟨B + 2, 0, none⟩), .pointer (some ⟨B + 4, 0, none⟩)]] 58 (0, 0))
section
variable {w0 : World} {B : Nat} {h kk : Int} {w w1 : World} {vb v : Value} {best b : List Int} {most m : Int}
theorem BeS.size (hS : BeS w0 B h kk w vb best most) : B + 5 ≤ w.heap.size := blk_lt hS.bo
theorem BeS.below (hS : BeS w0 B h kk w vb best most) (hb : Below w.heap.size w w1) : BeS w0 B h kk w1 vb best most :=
  ⟨hS.eB, hS.lo.trans (hb.mono (Nat.le_trans (Nat.le_add_right B 5) hS.size)), blk_below hS.bh hb, blk_below hS.bk hb, blk_below hS.bb hb, Kd.R_below hS.rb hb, blk_below hS.bm hb, blk_below hS.bo hb⟩
theorem BeS.put (hS : BeS w0 B h kk w vb best most) (hv : Kd.R (Kd.int .i64) 3 w (B + 5) (fun _ => True) v b) :
    BeS w0 B h kk ((w.setCell ⟨B + 2, 0, none⟩ v).setCell ⟨B + 3, 0, none⟩ (.int .i64 m)) v b m := by
  have hfar : ∀ {j : Nat} {w2 : World} (u : Value), j < B + 5 → Kd.R (Kd.int .i64) 3 w2 (B + 5) (fun _ => True) v b → Kd.R (Kd.int .i64) 3 (w2.setCell ⟨j, 0, none⟩ u) (B + 5) (fun _ => True) v b := fun {j w2} u hj hv =>
    Kd.R_mono (Kd.R_far (Kd.R_bound hv) (fun k hk => by show k ≠ j; have := hk.2.1; omega) _) (fun _ _ => trivial)
  exact ⟨hS.eB, (hS.lo.setCell (p := ⟨B + 2, 0, none⟩) (by simp) _).setCell (p := ⟨B + 3, 0, none⟩) (by simp) _, blk_far (blk_far hS.bh (by simp) _) (by simp) _, blk_far (blk_far hS.bk (by simp) _) (by simp) _, blk_far (blk_put hS.bb 0 v rfl) (by simp) _, hfar _ (by omega) (hfar _ (by omega) hv), blk_put (blk_far hS.bm (by simp) _) 0 _ rfl, blk_far (blk_far hS.bo (by simp) _) (by simp) _⟩
end
set_option maxRecDepth 100000 in
set_option maxHeartbeats 1000000 in
theorem stamp_Best_on.calls (k : Nat) : ∀ (w0 : World) (B : Nat) (h0 kk : Int) (vb : Value) (A4 : Option Addr) (c4 : Nat) (l : List Int) (best : List Int) (most : Int) (r1 : List Int) (r2 : Int) (w : World) (hS : BeS w0 B h0 kk w vb best most) (hF : Kd.F (Kd.int .i64) w (fun k_ => B + 5 ≤ k_) A4 l.length l) (hc4 : l.length ≤ c4) (h : stamp_Best.on k h0 kk l best most = some (r1, r2)),
    Calls Try.prog 46 #[.slice A4 l.length c4, .pointer (some ⟨B, 0, none⟩), .pointer (some ⟨B + 1, 0, none⟩), .pointer (some ⟨B + 3, 0, none⟩), .pointer (some ⟨B + 2, 0, none⟩), .pointer (some ⟨B + 4, 0, none⟩)] w fun e w' => ∃ vb' : Value, e = .returned (.tuple #[]) ∧ BeS w0 B h0 kk w' vb' r1 r2 ∧ Kept w w' (fun k_ => k_ = B + 2 ∨ k_ = B + 3) := by
  induction k using Nat.strongRecOn with
  | _ k ih =>
  intro w0 B h0 kk vb A4 c4 l best most r1 r2 w hS hF hc4 h
  cases k with
  | zero => exact absurd h (by simp [stamp_Best.on])
  | succ k =>
  simp only [stamp_Best.on] at h
  by_cases hl0 : l = []
  · rw [if_pos hl0] at h; cases h
  rw [if_neg hl0] at h
  obtain ⟨rg, hto, h⟩ := Option.bind_eq_some_iff.mp h
  have IH := Aside0.mk ih
  have HS0 := Aside0.mk hS
  have HF0 := Aside0.mk hF
  have HL := Aside0.mk (Kd.F_max hF)
  have hpos : 0 < l.length := by
    cases l with
    | nil => exact absurd rfl hl0
    | cons x t => simp
  obtain ⟨n1, hn1⟩ : ∃ n1, l.length = n1 + 1 := ⟨l.length - 1, by omega⟩
  have en : (l.length : Int) - 1 = (n1 : Int) := by omega
  obtain ⟨ao, ea, hxo0⟩ := Kd.at_int (Kd.F_now hF) (n1 : Int) (by omega) (by omega)
  subst ea
  obtain ⟨last, hlast⟩ : ∃ last, last = rd l (n1 : Int) := ⟨_, rfl⟩
  rw [en, ← hlast] at h
  have v1 : (0 : Int) ≤ (n1 : Int) := by omega
  have v2 : (n1 : Int) < (l.length : Int) := by omega
  have v3 : IntKind.i64.wrap ((l.length : Int) - 1) = (n1 : Int) := by have hm := HL.out; rw [en, IntKind.wrap_i64]; first | omega | (simp only [maxLen] at hm; omega)
  have v4 : wrap64 ((l.length : Int) - 1) = (n1 : Int) := by rw [← v3, IntKind.wrap_i64]; unfold wrap64; rfl
  have HLA := Aside0.mk hlast
  have v1b := eq_true v1
  have v2b := eq_true v2
  have HTO := Aside0.mk (stamp_reach.calls k h0 (some ao) c4 l rg w (Kd.F_now hF) hc4 hto)
  have HV12 := Aside0.mk (And.intro v1 v2)
  clear ih hS hF hlast en hn1 v1 v2 hpos hto hxo0
  obtain ⟨Ab, cb, rfl⟩ := Kd.R_slice HS0.out.rb
  have e0 : w.cell? ⟨B, 0, none⟩ = some (.int .i64 h0) := (blk_cell HS0.out.bh 0).trans rfl
  go_enter Try.func46, Try.ntmps46
  go_wp2_with fail
  refine HTO.out.mono ?_
  rintro e w1 ⟨rfl, hb1⟩
  have HS1 := Aside0.mk (HS0.out.below hb1)
  have HF1 := Aside0.mk (Kd.F_below HF0.out hb1)
  have HB1 := Aside0.mk hb1
  have e1 : w1.cell? ⟨B + 1, 0, none⟩ = some (.int .i64 kk) := (blk_cell HS1.out.bk 0).trans rfl
  have e2 : w1.cell? ⟨B + 2, 0, none⟩ = some (.slice Ab best.length cb) := (blk_cell HS1.out.bb 0).trans rfl
  have e3 : w1.cell? ⟨B + 3, 0, none⟩ = some (.int .i64 most) := (blk_cell HS1.out.bm 0).trans rfl
  have hxo : w1.cell? (ao.add n1) = some (.int .i64 last) := by
    obtain ⟨ad, ea, hx⟩ := Kd.at_int (Kd.F_now HF1.out) (n1 : Int) HV12.out.1 HV12.out.2
    cases ea
    rw [Int.toNat_natCast, ← HLA.out] at hx
    exact hx
  clear hb1 e0
  by_cases hlen : (l.length : Int) = kk
  · rw [if_pos hlen] at h
    have c1 : ((l.length : Int) == kk) = true := beq_iff_eq.mpr hlen
    by_cases hgt : most < rg
    · rw [if_pos hgt] at h
      obtain ⟨b0, hb0, hb⟩ := Option.bind_eq_some_iff.mp h
      simp only [Option.some.injEq, Prod.mk.injEq] at hb
      obtain ⟨rfl, rfl⟩ := hb
      have q1 : decide (most < rg) = true := decide_eq_true hgt
      have A0 := Aside0.mk hb0
      clear hb0 hl0 h hgt hlen
      go_wp2_with fail
      refine (slices_Clone_int_int.calls (some ao) c4 l b0 _ (by repeat (first | exact Kd.F_now HF1.out | apply Kd.C_drew | apply Kd.C_drewN)) hc4 A0.out).mono ?_
      rintro e w2 ⟨v1, rfl, ho, hb⟩
      obtain ⟨A1, d1, rfl⟩ := Kd.R_slice ho
      have HS2 := HS1.out.below hb
      have hsz := HS1.out.size
      have HS := Aside0.mk (HS2.put (m := rg) (Kd.R_lower ho hsz))
      have HK := Aside0.mk (((Kept.of_below (below_step HB1.out hb) (fun k_ => k_ = B + 2 ∨ k_ = B + 3)).setCell (p := ⟨B + 2, 0, none⟩) (.inl (.inl rfl)) (.slice A1 b0.length d1)).setCell (p := ⟨B + 3, 0, none⟩) (.inl (.inr rfl)) (.int .i64 rg))
      have e4 : w2.cell? ⟨B + 2, 0, none⟩ = some (.slice Ab best.length cb) := (blk_cell HS2.bb 0).trans rfl
      have e5 : w2.cell? ⟨B + 3, 0, none⟩ = some (.int .i64 most) := (blk_cell HS2.bm 0).trans rfl
      have g4 := blk_frozen HS2.bb 0
      have g5 := blk_frozen HS2.bm 0
      clear ho hb HS2 e1 e2 e3
      go_wp2
      first | go_end0 | ((try simp only [Exit.inBlock, Exit.then]); refine bodyPost_ret (results_none rfl _ _ _) rfl ?_)
      exact ⟨_, rfl, HS.out, HK.out⟩
    · rw [if_neg hgt] at h
      simp only [Option.some.injEq, Prod.mk.injEq] at h
      obtain ⟨rfl, rfl⟩ := h
      have g1 : decide (most < rg) = false := decide_eq_false hgt
      have HK := Aside0.mk (Kept.of_below HB1.out (fun k_ => k_ = B + 2 ∨ k_ = B + 3))
      clear hgt hlen hl0
      go_wp2
      first | go_end0 | ((try simp only [Exit.inBlock, Exit.then]); refine bodyPost_ret (results_none rfl _ _ _) rfl ?_)
      exact ⟨_, rfl, HS1.out, HK.out⟩
  · rw [if_neg hlen] at h
    have c1 : ((l.length : Int) == kk) = false := beq_eq_false_iff_ne.mpr hlen
    have H' := Aside0.mk h
    clear h hlen hl0
    go_wp2_with fail
    have HS := HS1
    have HK := Aside0.mk (Kept.of_below HB1.out (fun k_ => k_ = B + 2 ∨ k_ = B + 3))
    clear e1 e2 e3 hxo
    go_loopg [8] k (fun kq v8 w' => ∃ (x8 : Int) (vb' : Value) (best' : List Int) (most' : Int), v8 = .int .i64 x8 ∧ Aside0 (stamp_Best.l0 kq h0 kk l rg best' most' x8 = some (r1, r2)) ∧ Aside0 (kq ≤ k) ∧ Aside0 (BeS w0 B h0 kk w' vb' best' most') ∧ Aside0 (Kept w w' (fun k_ => k_ = B + 2 ∨ k_ = B + 3)))
    case atStart => exact ⟨_, _, _, _, rfl, H', ⟨Nat.le_refl _⟩, HS, HK⟩
    case round =>
      clear H' HS HK
      obtain ⟨x8, vb', best', most', rfl, HA, HK1, HS, HK⟩ := hrel
      cases gk with
      | zero => exact absurd HA.out (by simp [stamp_Best.l0])
      | succ k1 =>
        have H := HA.out
        clear HA
        simp only [stamp_Best.l0] at H
        by_cases c6 : x8 ≤ wrap64 (rg + 1)
        · rw [if_pos c6] at H
          have c6b0 : decide (x8 ≤ wrap64 (rg + 1)) = true := decide_eq_true c6
          by_cases c10 : l.length < 17592186044415
          · rw [if_pos c10] at H
            obtain ⟨⟨b1, m1⟩, hy, H⟩ := Option.bind_eq_some_iff.mp H
            obtain ⟨l5, hl5⟩ : ∃ l5, l5 = l ++ [x8] := ⟨_, rfl⟩
            rw [← hl5] at hy
            have HL5 := Aside0.mk hl5
            have A9 : Aside0 (stamp_Best.on k1 h0 kk l5 best' most' = some (b1, m1)) := ⟨hy⟩
            have L10 := Aside0.mk c10
            have H' := Aside0.mk H
            have HF2 := Aside0.mk (Kd.F_kept HF0.out HK.out (fun k_ hk => by omega))
            have f1 : wr.cell? ⟨B + 4, 0, none⟩ = some (.func (.func 46) #[] #[.pointer (some ⟨B, 0, none⟩), .pointer (some ⟨B + 1, 0, none⟩), .pointer (some ⟨B + 3, 0, none⟩), .pointer (some ⟨B + 2, 0, none⟩), .pointer (some ⟨B + 4, 0, none⟩)]) := (blk_cell HS.out.bo 0).trans rfl
            clear c6 c10 hy hl5 H
            go_wp2_with fail
            have hw0 : Below wr.heap.size wr (wr.alloc (.cells #[.int .i64 x8] 3)).drew := below_drew (below_alloc (Below.refl _ _) _)
            have HS3 := Aside0.mk (HS.out.below hw0)
            have HF4 := Aside0.mk (Kd.F_below HF2.out hw0)
            have HK3 := Aside0.mk (HK.out.below hw0)
            have st3 : BeS w0 B h0 kk (wr.alloc (.cells #[.int .i64 x8] 3)).drew vb' best' most' := HS3.out
            have hx3 : (wr.alloc (.cells #[.int .i64 x8] 3)).drew.cell? ⟨B + 4, 0, none⟩ = some (.func (.func 46) #[] #[.pointer (some ⟨B, 0, none⟩), .pointer (some ⟨B + 1, 0, none⟩), .pointer (some ⟨B + 3, 0, none⟩), .pointer (some ⟨B + 2, 0, none⟩), .pointer (some ⟨B + 4, 0, none⟩)]) := (blk_cell st3.bo 0).trans rfl
            have hx4 : wr.drew.cell? ⟨B + 4, 0, none⟩ = some (.func (.func 46) #[] #[.pointer (some ⟨B, 0, none⟩), .pointer (some ⟨B + 1, 0, none⟩), .pointer (some ⟨B + 3, 0, none⟩), .pointer (some ⟨B + 2, 0, none⟩), .pointer (some ⟨B + 4, 0, none⟩)]) := f1
            clear hw0 st3
            go_region_held3 (fun w' => w'.cell? ⟨B + 4, 0, none⟩ = some (.func (.func 46) #[] #[.pointer (some ⟨B, 0, none⟩), .pointer (some ⟨B + 1, 0, none⟩), .pointer (some ⟨B + 3, 0, none⟩), .pointer (some ⟨B + 2, 0, none⟩), .pointer (some ⟨B + 4, 0, none⟩)])) (first | exact hx3 | exact hx4 | exact hx5 | exact hx7 | go_keep)
              (first | (refine step_append_full rfl (.tmp 41) (.tmp 43) 22 3 rfl Try.underlying22 info3 (some ao) l x8 _ _ rfl rfl rfl (by simp) (Kd.F_now HF4.out) (by have := L10.out; omega) ?_; intro v1 w1 ho hb; rw [← HL5.out] at ho; obtain ⟨Av, cv, rfl⟩ := Kd.R_slice ho; have HS5 := Aside0.mk (HS3.out.below hb); have hx5 := ((blk_cell HS5.out.bo 0).trans rfl : w1.cell? ⟨B + 4, 0, none⟩ = _); have HK5 := Aside0.mk (HK3.out.below hb); have HF5 := Aside0.mk (Kd.F_below HF4.out hb); have hsz3 := HS3.out.size; have HV5 := Aside0.mk (Kd.F_mono (Kd.V_F (Kd.R_V (base' := 0) (Kd.R_bound ho))) (ok' := fun k_ => B + 5 ≤ k_) (fun k_ hk => by have := hk.2.1; omega)); have HC5 := Aside0.mk (Kd.R_reads' ho).2.1; clear ho hb hsz3) | (go_at_call 46; refine (IH.out k1 (by have := HK1.out; omega) w0 B h0 kk _ Av cv l5 best' most' b1 m1 _ HS5.out HV5.out HC5.out A9.out).mono ?_; rintro e w7 ⟨vb7, rfl, hS7, hK7⟩; have HS7 := Aside0.mk hS7; have HK7 := Aside0.mk (HK5.out.then_ hK7 (fun k_ hk => .inl hk)); have hx7 := ((blk_cell HS7.out.bo 0).trans rfl : w7.cell? ⟨B + 4, 0, none⟩ = _); clear hS7 hK7))
            go_wp2
            go_roundg k1
            case measure => have := HK1.out; omega
            case rel => exact ⟨_, _, _, _, rfl, H', ⟨by have := HK1.out; omega⟩, HS7, HK7⟩
          · rw [if_neg c10] at H; cases H
        · rw [if_neg c6] at H
          have c6b0 : decide (x8 ≤ wrap64 (rg + 1)) = false := decide_eq_false c6
          simp only [Option.some.injEq, Prod.mk.injEq] at H
          obtain ⟨rfl, rfl⟩ := H
          clear c6
          go_wp2
          go_end0
          exact ⟨_, rfl, HS.out, HK.out⟩
end Go.Proofs.Ythbalcbibmdpnaa.OAll
