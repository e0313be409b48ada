/- A part of the proof of 'shareRenumbered_holds', for every input, without a condition. -/
import Derived.Test.YtiafiebalibkdaaSRnOAllx0
import Derived.Test.YtiafiebalibkdaaSRnOAllx3
import Derived.Test.YtiafiebalibkdaaSRnOAllx8
namespace Go.Proofs.Ytiafiebalibkdaa.OAll
open Go.RowKit Go.Proofs.YtiafiebalibkdaaW.PrintWords Go.Proofs.YtiafiebalibkdaaW.PrintLast Go.Proofs.YtiafiebalibkdaaW.PrintMore
attribute [local go_sem] max2_int min2_int max_two min_two max_three min_three max_four min_four
set_option linter.unusedVariables false
set_option linter.unusedSimpArgs false
mutual
def share_assign.on : Nat → List (List Int) → List Int → Int → List Int → Int → Option (List Int × Int)
  | 0, _, _, _, _, _ => none
  | k + 1, W, l, sum, best, most => if (l.length : Int) = (W.length : Int) then (if best = [] then (if l = [] then none else (slices_Clone_int_int.f l).bind fun b => some (b, sum)) else if sum > most then (if l = [] then none else (slices_Clone_int_int.f l).bind fun b => some (b, sum)) else some (best, most)) else if l.length < W.length then share_assign.l0 k W l sum best most (rd_L1 W (l.length : Int)) 0 else none
def share_assign.l0 : Nat → List (List Int) → List Int → Int → List Int → Int → List Int → Int → Option (List Int × Int)
  | 0, _, _, _, _, _, _, _ => none
  | k + 1, W, l, sum, best, most, row, i => if i < (row.length : Int) then (if 0 ≤ i then ((slices_Contains_int_int.f k l i).bind fun c => if c = false then (if l.length < 17592186044415 then ((share_assign.on k W (l ++ [i]) (wrap64 (sum + rd row i)) best most).bind fun b => share_assign.l0 k W l sum b.1 b.2 row (wrap64 (i + 1))) else none) else share_assign.l0 k W l sum best most row (wrap64 (i + 1))) else none) else some (best, most)
end
structure AsS (w0 : World) (B : Nat) (Aw : Option Addr) (cw : Nat) (W : List (List Int)) (w : World) (vb : Value) (best : List Int) (most : Int) : Prop where
  eB : w0.heap.size = B
  lo : Below B w0 w
  rw : Kd.C (Kd.slice 3 (Kd.int .i64)) w0 Aw W.length W
  bw : w.heap[B]? = some (.cells #[.slice Aw W.length cw] 38 (0, 0))
  bb : w.heap[B + 1]? = some (.cells #[vb] 22 (0, 0))
  rb : Kd.R (Kd.int .i64) 3 w (B + 4) (fun _ => True) vb best
  nb : best = [] → vb = .slice none 0 0
  bm : w.heap[B + 2]? = some (.cells #[.int .i64 most] 3 (0, 0))
  bo : w.heap[B + 3]? = some (.cells #[.func (.func 76) #[] #[.pointer (some ⟨B, 0, none⟩), .pointer (some ⟨B + 1, 0, none⟩), .pointer (some ⟨B + 2, 0, none⟩), .pointer (some ⟨B + 3, 0, none⟩)]] 107 (0, 0))
section
variable {w0 : World} {B : Nat} {Aw : Option Addr} {cw : Nat} {W : List (List Int)} {w w1 : World} {vb v : Value} {best b : List Int} {most m : Int}
theorem AsS.size (h : AsS w0 B Aw cw W w vb best most) : B + 4 ≤ w.heap.size := blk_lt h.bo
theorem AsS.below (h : AsS w0 B Aw cw W w vb best most) (hb : Below w.heap.size w w1) : AsS w0 B Aw cw W w1 vb best most :=
  ⟨h.eB, h.lo.trans (hb.mono (Nat.le_trans (Nat.le_add_right B 4) h.size)), h.rw, blk_below h.bw hb, blk_below h.bb hb, Kd.R_below h.rb hb, h.nb, blk_below h.bm hb, blk_below h.bo hb⟩
theorem AsS.put (h : AsS w0 B Aw cw W w vb best most) (hv : Kd.R (Kd.int .i64) 3 w (B + 4) (fun _ => True) v b) (hn : b ≠ []) :
    AsS w0 B Aw cw W ((w.setCell ⟨B + 1, 0, none⟩ v).setCell ⟨B + 2, 0, none⟩ (.int .i64 m)) v b m := by
  have hfar : ∀ {j : Nat} {w2 : World} (u : Value), j < B + 4 → Kd.R (Kd.int .i64) 3 w2 (B + 4) (fun _ => True) v b → Kd.R (Kd.int .i64) 3 (w2.setCell ⟨j, 0, none⟩ u) (B + 4) (fun _ => True) v b := fun {j w2} u hj hv =>
    Kd.R_mono (Kd.R_far (Kd.R_bound hv) (fun k hk => by show k ≠ j; have := hk.2.1; omega) _) (fun _ _ => trivial)
  refine ⟨h.eB, (h.lo.setCell (p := ⟨B + 1, 0, none⟩) (by simp) _).setCell (p := ⟨B + 2, 0, none⟩) (by simp) _, h.rw, blk_far (blk_far h.bw (by simp) _) (by simp) _, blk_far (blk_put h.bb 0 v rfl) (by simp) _, hfar _ (by omega) (hfar _ (by omega) hv), fun e => absurd e hn, blk_put (blk_far h.bm (by simp) _) 0 _ rfl, blk_far (blk_far h.bo (by simp) _) (by simp) _⟩
end
theorem nil_of_none {w : World} {base : Nat} {ok : Nat → Prop} {n c : Nat} {l : List Int} (h : Kd.R (Kd.int .i64) 3 w base ok (.slice none n c) l) : l = [] := by
  rcases Nat.eq_zero_or_pos l.length with h0 | h0
  · exact List.eq_nil_of_length_eq_zero h0
  · obtain ⟨rfl, _, hc⟩ := Kd.R_reads' h
    obtain ⟨ad, e1, _⟩ := Kd.at_int hc 0 (by omega) (by omega)
    cases e1
set_option maxRecDepth 100000 in
set_option maxHeartbeats 800000 in
theorem share_assign_on.calls (k : Nat) : ∀ (w0 : World) (B : Nat) (Aw : Option Addr) (cw : Nat) (W : List (List Int)) (vb : Value) (A4 : Option Addr) (c4 : Nat) (l : List Int) (sum : Int) (best : List Int) (most : Int) (r1 : List Int) (r2 : Int) (w : World) (hcw : W.length ≤ cw) (hS : AsS w0 B Aw cw W w vb best most) (hF : Kd.F (Kd.int .i64) w (fun k_ => B + 4 ≤ k_) A4 l.length l) (hc4 : l.length ≤ c4) (h : share_assign.on k W l sum best most = some (r1, r2)),
    Calls Try.prog 76 #[.slice A4 l.length c4, .int .i64 sum, .pointer (some ⟨B, 0, none⟩), .pointer (some ⟨B + 1, 0, none⟩), .pointer (some ⟨B + 2, 0, none⟩), .pointer (some ⟨B + 3, 0, none⟩)] w fun e w' => ∃ vb' : Value, e = .returned (.tuple #[]) ∧ AsS w0 B Aw cw W w' vb' r1 r2 ∧ Kept w w' (fun k_ => k_ = B + 1 ∨ k_ = B + 2) := by
  induction k using Nat.strongRecOn with
  | _ k ih =>
  intro w0 B Aw cw W vb A4 c4 l sum best most r1 r2 w hcw hS hF hc4 h
  cases k with
  | zero => exact absurd h (by simp [share_assign.on])
  | succ k =>
  simp only [share_assign.on] at h
  have qT : ∀ (w : World) (a : Option Addr) (n c n' c' : Nat), (binOp .eql 22 (.slice a n c) (.slice none n' c')).run Try.prog w = .ok (.bool a.isNone) w := fun w a n c n' c' => Lib.run_eql_slice_nil w _ _ a n c n' c' Try.underlying22
  have IH := Aside0.mk ih
  have HS0 := Aside0.mk hS
  have HF0 := Aside0.mk hF
  have HL := Aside0.mk (Kd.F_max hF)
  clear ih hS hF
  obtain ⟨Ab, cb, rfl⟩ := Kd.R_slice HS0.out.rb
  have e0 : w.cell? ⟨B, 0, none⟩ = some (.slice Aw W.length cw) := (blk_cell HS0.out.bw 0).trans rfl
  have e1 : w.cell? ⟨B + 1, 0, none⟩ = some (.slice Ab best.length cb) := (blk_cell HS0.out.bb 0).trans rfl
  have e2 : w.cell? ⟨B + 2, 0, none⟩ = some (.int .i64 most) := (blk_cell HS0.out.bm 0).trans rfl
  by_cases hlen : (l.length : Int) = (W.length : Int)
  · rw [if_pos hlen] at h
    have c1 : ((l.length : Int) == (W.length : Int)) = true := beq_iff_eq.mpr hlen
    have c2 : (l.length == W.length) = true := beq_iff_eq.mpr (by omega)
    have putit : l ≠ [] → (slices_Clone_int_int.f l).bind (fun b => some (b, sum)) = some (r1, r2) → Ab.isNone = true ∨ (Ab.isNone = false ∧ sum > most) →
        Calls Try.prog 76 #[.slice A4 l.length c4, .int .i64 sum, .pointer (some ⟨B, 0, none⟩), .pointer (some ⟨B + 1, 0, none⟩), .pointer (some ⟨B + 2, 0, none⟩), .pointer (some ⟨B + 3, 0, none⟩)] w fun e w' => ∃ vb' : Value, e = .returned (.tuple #[]) ∧ AsS w0 B Aw cw W w' vb' r1 r2 ∧ Kept w w' (fun k_ => k_ = B + 1 ∨ k_ = B + 2) := by
      intro hne hb hcase
      obtain ⟨b0, hb0, hb⟩ := Option.bind_eq_some_iff.mp hb
      simp only [Option.some.injEq, Prod.mk.injEq] at hb
      obtain ⟨rfl, rfl⟩ := hb
      have hbl : b0 = l := by
        unfold slices_Clone_int_int.f at hb0
        split at hb0
        · exact (Option.some.inj hb0).symm
        · cases hb0
      have HBL := Aside0.mk hbl
      have HNE := Aside0.mk hne
      have A0 := Aside0.mk hb0
      clear hb0 hbl hne h hlen
      rcases hcase with hn | ⟨hn, hgt⟩
      · have HN := Aside0.mk hn
        go_enter Try.func76, Try.ntmps76
        go_wp2_with fail
        refine (slices_Clone_int_int.calls A4 c4 l b0 _ (by repeat (first | exact Kd.F_now HF0.out | apply Kd.C_drew | apply Kd.C_drewN)) hc4 A0.out).mono ?_
        rintro e w1 ⟨v1, rfl, ho, hb⟩
        obtain ⟨A1, d1, rfl⟩ := Kd.R_slice ho
        have HS1 := HS0.out.below hb
        have hsz := HS0.out.size
        have HS := Aside0.mk (HS1.put (m := sum) (Kd.R_lower ho hsz) (by rw [HBL.out]; exact HNE.out))
        have HK := Aside0.mk (((Kept.of_below hb (fun k_ => k_ = B + 1 ∨ k_ = B + 2)).setCell (p := ⟨B + 1, 0, none⟩) (.inl (.inl rfl)) (.slice A1 b0.length d1)).setCell (p := ⟨B + 2, 0, none⟩) (.inl (.inr rfl)) (.int .i64 sum))
        have e3 : w1.cell? ⟨B + 1, 0, none⟩ = some (.slice Ab best.length cb) := (blk_cell HS1.bb 0).trans rfl
        have e4 : w1.cell? ⟨B + 2, 0, none⟩ = some (.int .i64 most) := (blk_cell HS1.bm 0).trans rfl
        have g3 := blk_frozen HS1.bb 0
        have g4 := blk_frozen HS1.bm 0
        clear ho hb HS1 e0 e1 e2
        go_wp2
        first | go_end0 | ((try simp only [Exit.inBlock, Exit.then]); refine bodyPost_ret (results_none rfl _ _ _) rfl ?_)
        exact ⟨_, rfl, HS.out, HK.out⟩
      · have g1 : decide (most < sum) = true := decide_eq_true hgt
        clear hgt
        go_enter Try.func76, Try.ntmps76
        go_wp2_with fail
        refine (slices_Clone_int_int.calls A4 c4 l b0 _ (by repeat (first | exact Kd.F_now HF0.out | apply Kd.C_drew | apply Kd.C_drewN)) hc4 A0.out).mono ?_
        rintro e w1 ⟨v1, rfl, ho, hb⟩
        obtain ⟨A1, d1, rfl⟩ := Kd.R_slice ho
        have HS1 := HS0.out.below hb
        have hsz := HS0.out.size
        have HS := Aside0.mk (HS1.put (m := sum) (Kd.R_lower ho hsz) (by rw [HBL.out]; exact HNE.out))
        have HK := Aside0.mk (((Kept.of_below hb (fun k_ => k_ = B + 1 ∨ k_ = B + 2)).setCell (p := ⟨B + 1, 0, none⟩) (.inl (.inl rfl)) (.slice A1 b0.length d1)).setCell (p := ⟨B + 2, 0, none⟩) (.inl (.inr rfl)) (.int .i64 sum))
        have e3 : w1.cell? ⟨B + 1, 0, none⟩ = some (.slice Ab best.length cb) := (blk_cell HS1.bb 0).trans rfl
        have e4 : w1.cell? ⟨B + 2, 0, none⟩ = some (.int .i64 most) := (blk_cell HS1.bm 0).trans rfl
        have g3 := blk_frozen HS1.bb 0
        have g4 := blk_frozen HS1.bm 0
        clear ho hb HS1 e0 e1 e2
        go_wp2
        first | go_end0 | ((try simp only [Exit.inBlock, Exit.then]); refine bodyPost_ret (results_none rfl _ _ _) rfl ?_)
        exact ⟨_, rfl, HS.out, HK.out⟩
    by_cases hbe : best = []
    · rw [if_pos hbe] at h
      have hn : Ab.isNone = true := by have := HS0.out.nb hbe; injection this with h1; rw [h1]; rfl
      by_cases hl0 : l = []
      · rw [if_pos hl0] at h; cases h
      · rw [if_neg hl0] at h
        exact putit hl0 h (.inl hn)
    · rw [if_neg hbe] at h
      have hn : Ab.isNone = false := by
        cases Ab with
        | none => exact absurd (nil_of_none HS0.out.rb) hbe
        | some a => rfl
      by_cases hgt : sum > most
      · rw [if_pos hgt] at h
        by_cases hl0 : l = []
        · rw [if_pos hl0] at h; cases h
        · rw [if_neg hl0] at h
          exact putit hl0 h (.inr ⟨hn, hgt⟩)
      · rw [if_neg hgt] at h
        simp only [Option.some.injEq, Prod.mk.injEq] at h
        obtain ⟨rfl, rfl⟩ := h
        have g1 : decide (most < sum) = false := decide_eq_false hgt
        clear hgt hlen putit hbe
        go_enter Try.func76, Try.ntmps76
        go_wp2
        first | go_end0 | ((try simp only [Exit.inBlock, Exit.then]); refine bodyPost_ret (results_none rfl _ _ _) rfl ?_)
        exact ⟨_, rfl, HS0.out, Kept.refl _ _⟩
  · rw [if_neg hlen] at h
    by_cases hlt : l.length < W.length
    · rw [if_pos hlt] at h
      have c1 : ((l.length : Int) == (W.length : Int)) = false := beq_eq_false_iff_ne.mpr hlen
      have c2 : (l.length == W.length) = false := beq_eq_false_iff_ne.mpr (by omega)
      have c6 : (l.length : Int) < (W.length : Int) := by omega
      have c7 : (0 : Int) ≤ (l.length : Int) := Int.natCast_nonneg _
      obtain ⟨ad, Ar, cr, rfl, hx0, hlr, hCr0⟩ := at_L1 HS0.out.rw (l.length : Int) c7 c6
      obtain ⟨row, hrow⟩ : ∃ row, row = rd_L1 W (l.length : Int) := ⟨_, rfl⟩
      rw [← hrow] at h hx0 hlr hCr0
      rw [Int.toNat_natCast] at hx0
      have hx : w.cell? (ad.add l.length) = some (.slice Ar row.length cr) := pw_cell_below (by rw [HS0.out.eB]; exact HS0.out.lo) hx0
      have HCr := Aside0.mk hCr0
      have H' := Aside0.mk h
      have c7b := eq_true c7
      have c6b := eq_true c6
      clear h hx0 hCr0 hrow c7 c6 hlen hlt
      go_enter Try.func76, Try.ntmps76
      go_wp2_with fail
      have HS := HS0
      have HK := Aside0.mk (Kept.refl w (fun k_ => k_ = B + 1 ∨ k_ = B + 2))
      clear e0 e1 e2 hx
      go_loopg [31] k (fun kq v31 w' => ∃ (x31 : Int) (vb' : Value) (best' : List Int) (most' : Int), v31 = .int .i64 x31 ∧ Aside0 (share_assign.l0 kq W l sum best' most' row x31 = some (r1, r2)) ∧ Aside0 (kq ≤ k) ∧ Aside0 (AsS w0 B (some ad) cw W w' vb' best' most') ∧ Aside0 (Kept w w' (fun k_ => k_ = B + 1 ∨ k_ = B + 2)))
      case atStart => exact ⟨_, _, _, _, rfl, H', ⟨Nat.le_refl _⟩, HS, HK⟩
      case round =>
        clear H' HS HK
        obtain ⟨x31, vb', best', most', rfl, HA, HK1, HS, HK⟩ := hrel
        cases gk with
        | zero => exact absurd HA.out (by simp [share_assign.l0])
        | succ k1 =>
          have H := HA.out
          clear HA
          simp only [share_assign.l0] at H
          have hsz := HS.out.size
          by_cases c6 : x31 < (row.length : Int)
          · rw [if_pos c6] at H
            have c6b0 : decide (x31 < (row.length : Int)) = true := decide_eq_true c6
            by_cases c7 : 0 ≤ x31
            · rw [if_pos c7] at H
              obtain ⟨c, hc, H⟩ := Option.bind_eq_some_iff.mp H
              have A7 := Aside0.mk hc
              have HCr2 := Kd.C_below HCr.out (by rw [HS.out.eB]; exact HS.out.lo)
              obtain ⟨ar, e1, hx⟩ := Kd.at_int HCr2 x31 c7 c6
              cases e1
              have HF2 := Aside0.mk (Kd.F_kept HF0.out HK.out (fun k_ hk => by omega))
              have c7b := eq_true c7
              have c6b := eq_true c6
              clear HCr2
              by_cases c9 : c = false
              · subst c9
                rw [if_pos rfl] at H
                by_cases c10 : l.length < 17592186044415
                · rw [if_pos c10] at H
                  obtain ⟨⟨b1, m1⟩, hy, H⟩ := Option.bind_eq_some_iff.mp H
                  obtain ⟨l5, hl5⟩ : ∃ l5, l5 = l ++ [x31] := ⟨_, rfl⟩
                  rw [← hl5] at hy
                  have HL5 := Aside0.mk hl5
                  have A9 : Aside0 (share_assign.on k1 W l5 (IntKind.i64.wrap (sum + rd row x31)) best' most' = some (b1, m1)) := ⟨by rw [i64_w]; exact hy⟩
                  have L10 := Aside0.mk c10
                  have H' := Aside0.mk H
                  clear hc c7 c6 c10 hy hl5 H
                  go_wp2_with fail
                  refine (slices_Contains_int_int.calls k1 A4 c4 l x31 false _ (by repeat (first | exact Kd.F_now HF2.out | apply Kd.C_drew | apply Kd.C_drewN)) hc4 A7.out).mono ?_
                  rintro e w2 ⟨rfl, ⟨nq, rfl⟩⟩
                  have hb2 : Below wr.heap.size wr (wr.drewN nq) := pw_below_drewN (Below.refl _ _) nq
                  have HS2 := Aside0.mk (HS.out.below hb2)
                  have HF3 := Aside0.mk (Kd.F_below HF2.out hb2)
                  have HK2 := Aside0.mk (HK.out.below hb2)
                  generalize wr.drewN nq = w2 at HS2 HF3 HK2 ⊢
                  have f1 : w2.cell? ⟨B + 3, 0, none⟩ = some (.func (.func 76) #[] #[.pointer (some ⟨B, 0, none⟩), .pointer (some ⟨B + 1, 0, none⟩), .pointer (some ⟨B + 2, 0, none⟩), .pointer (some ⟨B + 3, 0, none⟩)]) := (blk_cell HS2.out.bo 0).trans rfl
                  clear hx hb2 HS HF2 HK
                  go_wp2_with fail
                  have hw0 : Below w2.heap.size w2 (w2.alloc (.cells #[.int .i64 x31] 3)).drew := below_drew (below_alloc (Below.refl _ _) _)
                  have HS3 := Aside0.mk (HS2.out.below hw0)
                  have HF4 := Aside0.mk (Kd.F_below HF3.out hw0)
                  have HK3 := Aside0.mk (HK2.out.below hw0)
                  have hx3 : (w2.alloc (.cells #[.int .i64 x31] 3)).drew.cell? ⟨B + 3, 0, none⟩ = _ := (blk_cell HS3.out.bo 0).trans rfl
                  clear hw0
                  go_region_held3 (fun w' => w'.cell? ⟨B + 3, 0, none⟩ = some (.func (.func 76) #[] #[.pointer (some ⟨B, 0, none⟩), .pointer (some ⟨B + 1, 0, none⟩), .pointer (some ⟨B + 2, 0, none⟩), .pointer (some ⟨B + 3, 0, none⟩)])) (first | go_keep | exact hx3 | exact hx5)
                    (first | (refine step_append_full rfl (.tmp 46) (.tmp 48) 22 3 rfl Try.underlying22 info3 A4 l x31 _ _ rfl rfl rfl (by simp) (Kd.F_now HF4.out) (by have := L10.out; omega) ?_; intro v1 w1 ho hb; rw [← HL5.out] at ho; obtain ⟨Av, cv, rfl⟩ := Kd.R_slice ho; have HS5 := Aside0.mk (HS3.out.below hb); have hx5 : w1.cell? ⟨B + 3, 0, none⟩ = _ := (blk_cell HS5.out.bo 0).trans rfl; have HK5 := Aside0.mk (HK3.out.below hb); have HF5 := Aside0.mk (Kd.F_below HF4.out hb); have hsz3 := HS3.out.size; have HV5 := Aside0.mk (Kd.F_mono (Kd.V_F (Kd.R_V (base' := 0) (Kd.R_bound ho))) (ok' := fun k_ => B + 4 ≤ k_) (fun k_ hk => by have := hk.2.1; omega)); have HC5 := Aside0.mk (Kd.R_reads' ho).2.1; clear ho hb hsz3) | (go_at_call 76; refine (IH.out k1 (by have := HK1.out; omega) w0 B (some ad) cw W _ Av cv l5 _ best' most' b1 m1 _ hcw HS5.out HV5.out HC5.out A9.out).mono ?_; rintro e w7 ⟨v7, rfl, hS7, hk7⟩; have HS7 := Aside0.mk hS7; have hx7 : w7.cell? ⟨B + 3, 0, none⟩ = _ := (blk_cell HS7.out.bo 0).trans rfl; have HF7 := Aside0.mk (Kd.F_kept HF5.out hk7 (fun k_ hk => by omega)); have HK7 := Aside0.mk (HK5.out.then_ hk7 (fun k_ hk => .inl hk)); clear hS7 hk7 hx5 hx3))
                  go_wp2
                  go_roundg k1
                  case measure => have := HK1.out; omega
                  case rel => exact ⟨_, _, _, _, rfl, H', ⟨by have := HK1.out; omega⟩, HS7, HK7⟩
                · rw [if_neg c10] at H; cases H
              · rw [if_neg c9] at H
                obtain rfl : c = true := by cases c with | true => rfl | false => exact absurd rfl c9
                have H' := Aside0.mk H
                clear hc c7 c6 c9 H
                go_wp2_with fail
                refine (slices_Contains_int_int.calls k1 A4 c4 l x31 true _ (by repeat (first | exact Kd.F_now HF2.out | apply Kd.C_drew | apply Kd.C_drewN)) hc4 A7.out).mono ?_
                rintro e w2 ⟨rfl, ⟨nq, rfl⟩⟩
                have hb2 : Below wr.heap.size wr (wr.drewN nq) := pw_below_drewN (Below.refl _ _) nq
                have HS2 := Aside0.mk (HS.out.below hb2)
                have HK2 := Aside0.mk (HK.out.below hb2)
                clear hx hb2 HS HF2 HK
                go_wp2
                go_roundg k1
                case measure => have := HK1.out; omega
                case rel => exact ⟨_, _, _, _, rfl, H', ⟨by have := HK1.out; omega⟩, HS2, HK2⟩
            · rw [if_neg c7] at H; cases H
          · rw [if_neg c6] at H
            have c6b0 : decide (x31 < (row.length : Int)) = false := decide_eq_false c6
            simp only [Option.some.injEq, Prod.mk.injEq] at H
            obtain ⟨rfl, rfl⟩ := H
            clear c6
            go_wp2
            go_end0
            exact ⟨_, rfl, HS.out, HK.out⟩
    · rw [if_neg hlt] at h; cases h
def share_assign.f (k : Nat) (l0 : List (List Int)) : Option (List Int × Int) := share_assign.on k l0 [] 0 [] 0
theorem share_assign.calls (k : Nat) (A0 : Option Addr) (c0 : Nat) (l0 : List (List Int)) (r1 : List Int) (r2 : Int) (w : World) (hr0 : Kd.C (Kd.slice 3 (Kd.int .i64)) w A0 l0.length l0) (hc0 : l0.length ≤ c0) (h : share_assign.f k l0 = some (r1, r2)) :
    Calls Try.prog 56 #[.slice A0 l0.length c0] w fun e w' => ∃ v0_ : Value, e = .returned (.tuple #[v0_, .int .i64 r2]) ∧ Kd.R (Kd.int .i64) 3 w' w.heap.size (fun _ => True) v0_ r1 ∧ Below w.heap.size w w' := by
  have hmf : ∀ (fn : Fn) (first cap : Array Value) (w : World), (Instr.makeFunc fn first cap).run Try.prog w = .ok (.func fn first cap) w := fun _ _ _ _ => rfl
  have HR := Aside0.mk hr0
  have HO : Aside0 (share_assign.on k l0 [] 0 [] 0 = some (r1, r2)) := ⟨h⟩
  clear hr0 h
  go_enter Try.func56, Try.ntmps56
  go_wp2_with fail
  have hn1 := blk_new w (.cells #[.slice A0 l0.length c0] 38)
  have hn2 := blk_new (w.alloc (.cells #[.slice A0 l0.length c0] 38)) (.cells #[.slice none 0 0] 22)
  have hn3 := blk_new ((w.alloc (.cells #[.slice A0 l0.length c0] 38)).alloc (.cells #[.slice none 0 0] 22)) (.cells #[.int .i64 0] 3)
  have hn4 := blk_new (((w.alloc (.cells #[.slice A0 l0.length c0] 38)).alloc (.cells #[.slice none 0 0] 22)).alloc (.cells #[.int .i64 0] 3)) (.cells #[.func (.func 76) #[] #[.pointer (some ⟨w.heap.size, 0, none⟩), .pointer (some ⟨w.heap.size + 1, 0, none⟩), .pointer (some ⟨w.heap.size + 2, 0, none⟩), .pointer (some ⟨w.heap.size + 3, 0, none⟩)]] 107)
  simp only [World.size_alloc] at hn2 hn3 hn4
  refine (share_assign_on.calls k w w.heap.size A0 c0 l0 (.slice none 0 0) none 0 [] 0 [] 0 r1 r2 _ hc0 ⟨rfl, below_alloc (below_alloc (below_alloc (below_alloc (Below.refl _ _) _) _) _) _, HR.out, blk_alloc (blk_alloc (blk_alloc hn1 _) _) _, blk_alloc (blk_alloc hn2 _) _, Kd.R_nil _ _ _ _ _, fun _ => rfl, blk_alloc hn3 _, hn4⟩ (Kd.F_nil _ _ _) (Nat.le_refl _) HO.out).mono ?_
  rintro e w3 ⟨vb, rfl, hS, hk⟩
  clear hn1 hn2 hn3 hn4
  obtain ⟨Ab, cb, rfl⟩ := Kd.R_slice hS.rb
  have f1 : w3.cell? ⟨w.heap.size + 1, 0, none⟩ = some (.slice Ab r1.length cb) := (blk_cell hS.bb 0).trans rfl
  have f2 : w3.cell? ⟨w.heap.size + 2, 0, none⟩ = some (.int .i64 r2) := (blk_cell hS.bm 0).trans rfl
  have HR3 := Aside0.mk (Kd.R_lower hS.rb (Nat.le_add_right w.heap.size 4))
  have HB3 := Aside0.mk hS.lo
  clear hS hk
  go_wp2
  repeat (go_quiet (fail); try go_wp2)
  go_ret2
  exact ⟨_, rfl, Kd.R_drewN HR3.out _, pw_below_drewN HB3.out _⟩
theorem share_assign.mono_l : ∀ k, (∀ y0 y1 y2 y3 y4, LeO (share_assign.on k y0 y1 y2 y3 y4) (share_assign.on (k + 1) y0 y1 y2 y3 y4)) ∧ (∀ y0 y1 y2 y3 y4 y5 y6, LeO (share_assign.l0 k y0 y1 y2 y3 y4 y5 y6) (share_assign.l0 (k + 1) y0 y1 y2 y3 y4 y5 y6))
  | 0 => ⟨fun _ _ _ _ _ r h => by simp [share_assign.on] at h, fun _ _ _ _ _ _ _ r h => by simp [share_assign.l0] at h⟩
  | k + 1 => by
    obtain ⟨ih0, ih1⟩ := share_assign.mono_l k
    refine ⟨?_, ?_⟩
    · intro y0 y1 y2 y3 y4
      unfold share_assign.on
      repeat' first
      | (with_reducible exact ih0 _ _ _ _ _)
      | (with_reducible exact ih1 _ _ _ _ _ _ _)
      | (with_reducible exact slices_Clone_int_int.mono _ _)
      | (with_reducible exact slices_Contains_int_int.mono _ _ _)
      | (with_reducible exact LeO.refl _)
      | (with_reducible exact LeO.none _)
      | (with_reducible refine LeO.ite ?_ ?_)
      | (with_reducible refine LeO.bind ?_ (fun _ => ?_))
      | exact ih0 _ _ _ _ _
      | exact ih1 _ _ _ _ _ _ _
      | exact slices_Clone_int_int.mono _ _
      | exact slices_Contains_int_int.mono _ _ _
      | exact LeO.none _
      | refine LeO.ite ?_ ?_
      | refine LeO.bind ?_ (fun _ => ?_)
    · intro y0 y1 y2 y3 y4 y5 y6
      unfold share_assign.l0
      repeat' first
      | (with_reducible exact ih0 _ _ _ _ _)
      | (with_reducible exact ih1 _ _ _ _ _ _ _)
      | (with_reducible exact slices_Clone_int_int.mono _ _)
      | (with_reducible exact slices_Contains_int_int.mono _ _ _)
      | (with_reducible exact LeO.refl _)
      | (with_reducible exact LeO.none _)
      | (with_reducible refine LeO.ite ?_ ?_)
      | (with_reducible refine LeO.bind ?_ (fun _ => ?_))
      | exact ih0 _ _ _ _ _
      | exact ih1 _ _ _ _ _ _ _
      | exact slices_Clone_int_int.mono _ _
      | exact slices_Contains_int_int.mono _ _ _
      | exact LeO.none _
      | refine LeO.ite ?_ ?_
      | refine LeO.bind ?_ (fun _ => ?_)
theorem share_assign.mono : ∀ a0 k, LeO (share_assign.f k a0) (share_assign.f (k + 1) a0) := by
  intro a0 k
  obtain ⟨ih0, ih1⟩ := share_assign.mono_l k
  unfold share_assign.f
  repeat' first
      | (with_reducible exact ih0 _ _ _ _ _)
      | (with_reducible exact ih1 _ _ _ _ _ _ _)
      | (with_reducible exact slices_Clone_int_int.mono _ _)
      | (with_reducible exact slices_Contains_int_int.mono _ _ _)
      | (with_reducible exact LeO.refl _)
      | (with_reducible exact LeO.none _)
      | (with_reducible refine LeO.ite ?_ ?_)
      | (with_reducible refine LeO.bind ?_ (fun _ => ?_))
      | exact ih0 _ _ _ _ _
      | exact ih1 _ _ _ _ _ _ _
      | exact slices_Clone_int_int.mono _ _
      | exact slices_Contains_int_int.mono _ _ _
      | exact LeO.none _
      | refine LeO.ite ?_ ?_
      | refine LeO.bind ?_ (fun _ => ?_)
def share_Assign.f (k : Nat) (l0 : List (List Int)) : Option (List Int × Int × Int) := (share_wished.f k l0).bind fun bt177 => (if bt177.2 = 0 then ((share_assign.f k l0).bind fun bt179 => (some (bt179.1, bt179.2, 0))) else (some (([] : List Int), 0, bt177.2)))
theorem share_Assign.mono : ∀ a0 k, LeO (share_Assign.f k a0) (share_Assign.f (k + 1) a0) := by
  intro a0 k
  unfold share_Assign.f
  repeat' first
      | (with_reducible exact share_assign.mono _ _)
      | (with_reducible exact share_wished.mono _ _)
      | (with_reducible exact LeO.refl _)
      | (with_reducible exact LeO.none _)
      | (with_reducible refine LeO.ite ?_ ?_)
      | (with_reducible refine LeO.bind ?_ (fun _ => ?_))
      | exact share_assign.mono _ _
      | exact share_wished.mono _ _
      | exact LeO.none _
      | refine LeO.ite ?_ ?_
      | refine LeO.bind ?_ (fun _ => ?_)
set_option maxHeartbeats 8000000 in
set_option maxRecDepth 100000 in
theorem share_Assign.calls (k : Nat) (A0 : Option Addr) (c0 : Nat) (l0 : List (List Int)) (r1 : List Int) (r2 : Int) (r3 : Int) (w : World) (hr0 : Kd.C (Kd.slice 3 (Kd.int .i64)) w A0 l0.length l0) (hc0 : l0.length ≤ c0) (h : share_Assign.f k l0 = some (r1, r2, r3)) :
    Calls Try.prog 26 #[.slice A0 l0.length c0] w fun e w' => ∃ v0_ : Value, e = .returned (.tuple #[v0_, .int .i64 r2, .int .i64 r3]) ∧ Kd.R (Kd.int .i64) 3 w' w.heap.size (fun _ => True) v0_ r1 ∧ Below w.heap.size w w' := by
  have HR0 := Aside0.mk hr0
  have HC0 := Aside0.mk hc0
  clear hr0 hc0
  have HB := Aside0.mk (Below.refl w.heap.size w)
  have H : ((share_wished.f k l0).bind fun bt177 => (if bt177.2 = 0 then ((share_assign.f k l0).bind fun bt179 => (some (bt179.1, bt179.2, 0))) else (some (([] : List Int), 0, bt177.2)))) = some (r1, r2, r3) := h
  clear h
  replace H := Option.bind_eq_some_iff.mp H
  obtain ⟨⟨t177, t178⟩, A20, H⟩ := H
  replace H : (if t178 = 0 then ((share_assign.f k l0).bind fun bt179 => (some (bt179.1, bt179.2, 0))) else (some (([] : List Int), 0, t178))) = some (r1, r2, r3) := H
  have A2 := Aside0.mk A20
  clear A20
  by_cases c3 : t178 = 0
  · rw [if_pos c3] at H
    have c3b0 : (t178 == 0) = true := beq_iff_eq.mpr c3
    have c3b1 : (t178 != 0) = false := bne_eq_false_iff_eq.mpr c3
    clear c3
    replace H := Option.bind_eq_some_iff.mp H
    obtain ⟨⟨t179, t180⟩, A40, H⟩ := H
    replace H : (some (t179, t180, 0)) = some (r1, r2, r3) := H
    have A4 := Aside0.mk A40
    clear A40
    simp only [Option.some.injEq, Prod.mk.injEq] at H
    obtain ⟨rfl, rfl, rfl⟩ := H
    go_enter Try.func26, Try.ntmps26
    go_wp2_with (first | ((with_reducible refine gate_callee (f := 55) rfl ?_); refine goesL_ (some 11) rfl rfl Try.func55 (by kernel_rfl) rfl #[.slice A0 l0.length c0] rfl (by (try simp only [List.map_toArray, List.map_cons, List.map_nil]); first | done | rfl | (simp only [List.length_drop, List.length_take]; rfl)) ?_; (with_reducible refine (share_wished.calls k _ _ l0 t177 t178 _ ?side1 ?side2 A2.out).mono ?_); (case side1 => repeat (first | exact HR0.out | (with_reducible refine Kd.C_alloc ?_ _) | (with_reducible refine Kd.C_drewN ?_ _) | (with_reducible refine Kd.C_drew ?_))); (case side2 => exact HC0.out); rintro e w' ⟨rfl, ⟨nd, rfl⟩⟩; refine ⟨_, rfl, ?_⟩) | ((with_reducible refine gate_callee (f := 56) rfl ?_); refine goesL_ (some 19) rfl rfl Try.func56 (by kernel_rfl) rfl #[.slice A0 l0.length c0] rfl (by (try simp only [List.map_toArray, List.map_cons, List.map_nil]); first | done | rfl | (simp only [List.length_drop, List.length_take]; rfl)) ?_; (with_reducible refine (share_assign.calls k _ _ l0 t179 t180 _ ?side1 ?side2 A4.out).mono ?_); (case side1 => repeat (first | exact HR0.out | (with_reducible refine Kd.C_alloc ?_ _) | (with_reducible refine Kd.C_drewN ?_ _) | (with_reducible refine Kd.C_drew ?_))); (case side2 => exact HC0.out); rintro e w5 ⟨v181, rfl, ho0, hb⟩; refine ⟨_, rfl, ?_⟩; have n0_ := Aside0.mk (Kd.R_lower ho0 (below_size (by repeat (first | (with_reducible first | exact HB.out | apply below_alloc | apply pw_below_drewN | apply below_drew1) | exact HB.out)))); have n1_ := Aside0.mk (below_step (by repeat (first | (with_reducible first | exact HB.out | apply below_alloc | apply pw_below_drewN | apply below_drew1) | exact HB.out)) hb); clear HB; have HO182 := n0_; have HB := n1_; clear n0_ n1_; (try clear hb); (try clear hb2); (try clear hk); (try clear hi); (try clear ho0)))
    go_ret3
    exact ⟨_, by first | rfl | (simp [errW_none, errW_some] <;> rfl) | (simp [*, errW_none, errW_some] <;> rfl), by (with_reducible repeat (first | apply Kd.R_alloc | apply Kd.R_drewN | apply Kd.R_drew)); exact HO182.out, by repeat (first | (with_reducible first | exact HB.out | apply below_alloc | apply pw_below_drewN | apply below_drew1) | exact HB.out)⟩
  · rw [if_neg c3] at H
    have c3b0 : (t178 == 0) = false := beq_eq_false_iff_ne.mpr c3
    have c3b1 : (t178 != 0) = true := bne_iff_ne.mpr c3
    simp only [Option.some.injEq, Prod.mk.injEq] at H
    obtain ⟨rfl, rfl, rfl⟩ := H
    go_enter Try.func26, Try.ntmps26
    go_wp2_with (first | ((with_reducible refine gate_callee (f := 55) rfl ?_); refine goesL_ (some 11) rfl rfl Try.func55 (by kernel_rfl) rfl #[.slice A0 l0.length c0] rfl (by (try simp only [List.map_toArray, List.map_cons, List.map_nil]); first | done | rfl | (simp only [List.length_drop, List.length_take]; rfl)) ?_; (with_reducible refine (share_wished.calls k _ _ l0 t177 t178 _ ?side1 ?side2 A2.out).mono ?_); (case side1 => repeat (first | exact HR0.out | (with_reducible refine Kd.C_alloc ?_ _) | (with_reducible refine Kd.C_drewN ?_ _) | (with_reducible refine Kd.C_drew ?_))); (case side2 => exact HC0.out); rintro e w' ⟨rfl, ⟨nd, rfl⟩⟩; refine ⟨_, rfl, ?_⟩))
    go_ret3
    exact ⟨_, by first | rfl | (simp [errW_none, errW_some] <;> rfl) | (simp [*, errW_none, errW_some] <;> rfl), by first | exact Kd.R_nil _ _ _ _ _ | exact Kd.N_nil _ _ _ _ _ | exact Kd.V_nil _ _ _ _ _ | exact Kd.Q_nil _ _ _ _ _ | exact Kd.S_nil _ _ _ _ _, by repeat (first | (with_reducible first | exact HB.out | apply below_alloc | apply pw_below_drewN | apply below_drew1) | exact HB.out)⟩
def setRow (W : List (List Int)) (l : List Int) (x : Nat) (row : List Int) (j : Nat) : List Int :=
  row.set (rd l j).toNat (wrap64 (rd (rd_L1 W j) (rd l j) - rd (rd_L1 W j) x))
def rowN (W : List (List Int)) (l : List Int) (x m : Nat) : List Int := (List.range m).foldl (setRow W l x) (List.replicate l.length 0)
def relax (z x : Nat) (out : List (List Int)) (y : Nat) : List (List Int) :=
  out.set x ((rd_L1 out x).set y (mn (rd (rd_L1 out x) y) (wrap64 (rd (rd_L1 out x) z + rd (rd_L1 out z) y))))
def relaxY (z x m : Nat) (out : List (List Int)) : List (List Int) := (List.range m).foldl (relax z x) out
def relaxX (n z m : Nat) (out : List (List Int)) : List (List Int) := (List.range m).foldl (fun o x => relaxY z x n o) out
def relaxZ (n m : Nat) (out : List (List Int)) : List (List Int) := (List.range m).foldl (fun o z => relaxX n z n o) out
def goodB (W : List (List Int)) (l : List Int) : Bool := decide (l.length = W.length) && decide (l.length ≤ 1000) && l.all (fun y => decide (0 ≤ y ∧ y < (l.length : Int))) && W.all (fun r => decide (r.length = l.length))
def dearN (W : List (List Int)) (l : List Int) : List (List Int) := relaxZ l.length l.length ((List.range l.length).map fun x => rowN W l x l.length)
def share_dearer.f (k : Nat) (W : List (List Int)) : Option (List (List Int)) := (share_assign.f k W).bind fun bt => if goodB W bt.1 = true then some (dearN W bt.1) else none
structure DeS (w0 w : World) (G : Nat) (bs : Nat → Nat) (n m : Nat) (out : List (List Int)) : Prop where
  lo : Below w0.heap.size w0 w
  hG : w0.heap.size ≤ G
  g : w.heap[G]? = some (.cells ((List.range n).map fun i => if i < m then Value.slice (some ⟨bs i, 0, none⟩) n n else .slice none 0 0).toArray 22 (0, 0))
  hb : ∀ i, i < m → w0.heap.size ≤ bs i ∧ bs i ≠ G ∧ w.heap[bs i]? = some (.cells ((rd_L1 out i).map (Value.int .i64)).toArray 3 (0, 0)) ∧ (rd_L1 out i).length = n
  inj : ∀ i j, i < m → j < m → bs i = bs j → i = j
  ol : out.length = m
  mn : m ≤ n
theorem made_cells (z : Value) (n : Nat) : madeCells #[z] n = (List.replicate n z).toArray := by
  apply Array.ext
  · simp [madeCells]
  · intro i h1 h2; simp [madeCells, Nat.mod_one]
section
variable {w0 w w1 : World} {G : Nat} {bs : Nat → Nat} {n m : Nat} {out : List (List Int)}
theorem DeS.below (h : DeS w0 w G bs n m out) (hb : Below w.heap.size w w1) : DeS w0 w1 G bs n m out :=
  ⟨h.lo.trans (hb.mono h.lo.size), h.hG, blk_below h.g hb, fun i hi => ⟨(h.hb i hi).1, (h.hb i hi).2.1, blk_below (h.hb i hi).2.2.1 hb, (h.hb i hi).2.2.2⟩, h.inj, h.ol, h.mn⟩
theorem DeS.cellG (h : DeS w0 w G bs n m out) {i : Nat} (hi : i < m) : w.cell? ⟨G, i, none⟩ = some (.slice (some ⟨bs i, 0, none⟩) n n) := by
  have hn : i < n := Nat.lt_of_lt_of_le hi h.mn
  rw [blk_cell h.g i]
  simp [hn, hi]
theorem DeS.cellB (h : DeS w0 w G bs n m out) {i j : Nat} (hi : i < m) (hj : j < n) : w.cell? ⟨bs i, j, none⟩ = some (.int .i64 (rd (rd_L1 out i) j)) := by
  have hl := (h.hb i hi).2.2.2
  rw [blk_cell (h.hb i hi).2.2.1 j]
  have : j < (rd_L1 out i).length := by omega
  simp [rd, this, List.getD_eq_getElem?_getD]
theorem DeS.frozenB (h : DeS w0 w G bs n m out) {i : Nat} (hi : i < m) (j : Nat) : w.frozen? ⟨bs i, j, none⟩ = false := blk_frozen (h.hb i hi).2.2.1 j
theorem rd_L1_set (out : List (List Int)) (x i : Nat) (r : List Int) (hx : x < out.length) : rd_L1 (out.set x r) i = if i = x then r else rd_L1 out i := by
  simp only [rd_L1, Int.toNat_natCast, List.getD_eq_getElem?_getD]
  by_cases e : i = x
  · subst e; simp [hx]
  · rw [List.getElem?_set_ne (by omega), if_neg e]
theorem DeS.put (h : DeS w0 w G bs n m out) {x y : Nat} (hx : x < m) (v : Int) : DeS w0 (w.setCell ⟨bs x, y, none⟩ (.int .i64 v)) G bs n m (out.set x ((rd_L1 out x).set y v)) := by
  have hbx := h.hb x hx
  have hol := h.ol
  refine ⟨h.lo.setCell (p := ⟨bs x, y, none⟩) hbx.1 _, h.hG, blk_far h.g (fun e => hbx.2.1 e.symm) _, fun i hi => ?_, h.inj, by rw [List.length_set]; exact h.ol, h.mn⟩
  have hbi := h.hb i hi
  rw [rd_L1_set _ _ _ _ (by omega)]
  by_cases e : i = x
  · subst e
    rw [if_pos rfl]
    refine ⟨hbi.1, hbi.2.1, ?_, by rw [List.length_set]; exact hbi.2.2.2⟩
    have := blk_set hbi.2.2.1 y (.int .i64 v)
    rw [this]
    congr 2
    simp [List.map_set]
  · rw [if_neg e]
    exact ⟨hbi.1, hbi.2.1, blk_far hbi.2.2.1 (fun hh => e (h.inj i x hi hx hh)) _, hbi.2.2.2⟩
theorem DeS.more (h : DeS w0 w G bs n m out) (hm : m < n) : DeS w0 ((w.alloc (.cells (madeCells #[.int .i64 0] n) 3)).setCell ⟨G, m, none⟩ (.slice (some ⟨w.heap.size, 0, none⟩) n n)) G (fun i => if i < m then bs i else w.heap.size) n (m + 1) (out ++ [List.replicate n 0]) := by
  have hGlt := blk_lt h.g
  have hol := h.ol
  have rdl : ∀ i, i < m → rd_L1 (out ++ [List.replicate n 0]) i = rd_L1 out i := fun i hi => by
    simp only [rd_L1, Int.toNat_natCast, List.getD_eq_getElem?_getD]
    rw [List.getElem?_append_left (by omega)]
  have rdm : rd_L1 (out ++ [List.replicate n 0]) m = List.replicate n 0 := by
    simp only [rd_L1, Int.toNat_natCast, List.getD_eq_getElem?_getD]
    rw [List.getElem?_append_right (by omega)]; simp [hol]
  refine ⟨(below_alloc' h.lo).setCell (p := ⟨G, m, none⟩) h.hG _, h.hG, ?_, fun i hi => ?_, fun i j hi hj => ?_, by simp [hol], hm⟩
  · rw [blk_set (blk_alloc h.g _) m _]
    congr 2
    apply Array.ext
    · simp
    · intro i h1 h2
      simp only [Array.getElem_setIfInBounds, List.getElem_toArray, List.getElem_map, List.getElem_range]
      by_cases e : m = i
      · subst e; simp
      · by_cases h3 : i < m
        · simp [e, h3, show i < m + 1 by omega]
        · simp [e, h3, show ¬ i < m + 1 by omega]
  · by_cases e : i < m
    · have hbi := h.hb i e
      simp only [e, if_true]
      rw [rdl i e]
      exact ⟨hbi.1, hbi.2.1, blk_far (blk_alloc hbi.2.2.1 _) hbi.2.1 _, hbi.2.2.2⟩
    · obtain rfl : i = m := by omega
      simp only [Nat.lt_irrefl, if_false]
      rw [rdm]
      refine ⟨h.lo.size, by omega, ?_, by simp⟩
      have := blk_far (blk_new w (.cells (madeCells #[.int .i64 0] n) 3)) (p := ⟨G, i, none⟩) (show w.heap.size ≠ G by omega) (.slice (some ⟨w.heap.size, 0, none⟩) n n)
      rw [this, made_cells]; simp
  · intro he
    replace he : (if i < m then bs i else w.heap.size) = (if j < m then bs j else w.heap.size) := he
    by_cases e1 : i < m <;> by_cases e2 : j < m
    · rw [if_pos e1, if_pos e2] at he; exact h.inj i j e1 e2 he
    · rw [if_pos e1, if_neg e2] at he; have := blk_lt (h.hb i e1).2.2.1; omega
    · rw [if_neg e1, if_pos e2] at he; have := blk_lt (h.hb j e2).2.2.1; omega
    · omega
where
  below_alloc' {w0 w : World} {o : Obj} (h : Below w0.heap.size w0 w) : Below w0.heap.size w0 (w.alloc o) := h.alloc h.size o
theorem DeS.row (h : DeS w0 w G bs n n out) (hn : n ≤ 1000) : Kd.S (Kd.slice 3 (Kd.int .i64)) 22 w w0.heap.size (fun _ => True) (.slice (some ⟨G, 0, none⟩) n n) out := by
  have hf : ∃ f : Nat → Nat, ∀ j, j < n → f (bs j) = j := by
    classical
    refine ⟨fun k => if hk : ∃ i, i < n ∧ bs i = k then Classical.choose hk else 0, fun j hj => ?_⟩
    have hk : ∃ i, i < n ∧ bs i = bs j := ⟨j, hj, rfl⟩
    simp only [dif_pos hk]
    exact h.inj _ _ (Classical.choose_spec hk).1 hj (Classical.choose_spec hk).2
  obtain ⟨f, hf⟩ := hf
  refine ⟨f, fun _ _ => trivial, (List.range n).map fun i => Value.slice (some ⟨bs i, 0, none⟩) n n, ?_, ?_⟩
  · refine ⟨by simp [h.ol, Kd.tag, Kd.slice], .inr ⟨G, n, _, by rw [List.length_zipIdx, h.ol], h.hG, h.g, by rw [List.length_zipIdx, h.ol]; omega, by simp [maxLen]; omega, by simp [Kd.tag, Kd.slice], ?_⟩⟩
    rw [List.length_zipIdx, h.ol]
    simp only [Kd.tag, Kd.slice, Nat.mul_one]
    rw [List.take_of_length_le (by simp)]
    apply List.map_congr_left
    intro i hi
    rw [if_pos (List.mem_range.mp hi)]
  · refine ⟨by simp [h.ol, Kd.tag, Kd.slice], fun j p hp => ?_⟩
    rw [List.getElem?_zipIdx] at hp
    obtain ⟨q, hq, rfl⟩ := Option.map_eq_some_iff.mp hp
    have hj : j < n := by have := (List.getElem?_eq_some_iff.mp hq).1; have := h.ol; omega
    have hr : rd_L1 out j = q := by simp [rd_L1, hq]
    have hbj := h.hb j hj
    rw [hr] at hbj
    have e : (((List.range n).map fun i => Value.slice (some ⟨bs i, 0, none⟩) n n).drop (j * 1)).take 1 = [Value.slice (some ⟨bs j, 0, none⟩) n n] := by
      rw [Nat.mul_one, List.drop_eq_getElem_cons (by simpa using hj)]
      simp
    refine ⟨Value.slice (some ⟨bs j, 0, none⟩) n n, e, ?_⟩
    refine ⟨fun k hk => ⟨⟨trivial, ?_⟩, ?_⟩, q.map (Value.int .i64), ?_, ?_⟩
    · simp only [Value.ownBlock, Option.some.injEq] at hk ⊢
      rw [← hk]
      exact fun e => hbj.2.1 (Option.some.inj e)
    · simp only [Value.ownBlock, Option.some.injEq] at hk
      rw [← hk, hf j hj]; simp
    · refine ⟨by simp [Kd.int, Kd.scalar], .inr ⟨bs j, n, _, by rw [hbj.2.2.2], hbj.1, hbj.2.2.1, Nat.le_of_eq hbj.2.2.2, by simp [maxLen]; omega, by simp [Kd.int, Kd.scalar, hbj.2.2.2], ?_⟩⟩
      simp [Kd.int, Kd.scalar]
      rw [List.take_of_length_le (by simp)]
    · refine ⟨by simp [Kd.int, Kd.scalar], fun i q' hq' => ?_⟩
      have hi := (List.getElem?_eq_some_iff.mp hq').1
      show ((q.map (Value.int .i64)).drop (i * 1)).take 1 = [Value.int .i64 q']
      rw [Nat.mul_one, List.drop_eq_getElem_cons (by simpa using hi)]
      simp only [List.getElem_map, List.take_succ_cons, List.take_zero]
      rw [(List.getElem?_eq_some_iff.mp hq').2]
end
theorem goodB_spec {W : List (List Int)} {l : List Int} (h : goodB W l = true) : l.length = W.length ∧ l.length ≤ 1000 ∧ (∀ j, j < l.length → 0 ≤ rd l (j : Int) ∧ rd l (j : Int) < (l.length : Int)) ∧ ∀ j, j < l.length → (rd_L1 W (j : Int)).length = l.length := by
  simp only [goodB, Bool.and_eq_true, decide_eq_true_eq, List.all_eq_true] at h
  obtain ⟨⟨⟨h1, h2⟩, h3⟩, h4⟩ := h
  refine ⟨h1, h2, fun j hj => ?_, fun j hj => ?_⟩
  · have e : rd l (j : Int) = l[j] := by simp [rd, hj]
    rw [e]; exact h3 _ (List.getElem_mem hj)
  · have hj' : j < W.length := by omega
    have e : rd_L1 W (j : Int) = W[j] := by simp [rd_L1, hj']
    rw [e]; exact h4 _ (List.getElem_mem hj')
theorem next_i (j : Nat) (h : j ≤ 1000) : wrap64 ((j : Int) + 1) = ((j + 1 : Nat) : Int) := by unfold wrap64; omega
theorem snoc_get {A : List (List Int)} {R : List Int} {i : Nat} (h : A.length = i) : rd_L1 (A ++ [R]) (i : Int) = R := by subst h; simp [rd_L1]
theorem snoc_set {A : List (List Int)} {R X : List Int} {i : Nat} (h : A.length = i) : (A ++ [R]).set i X = A ++ [X] := by subst h; simp
theorem rowN_succ (W : List (List Int)) (l : List Int) (x m : Nat) : rowN W l x (m + 1) = setRow W l x (rowN W l x m) m := by rw [rowN, List.range_succ, List.foldl_append]; rfl
theorem relaxY_succ (z x m : Nat) (out : List (List Int)) : relaxY z x (m + 1) out = relax z x (relaxY z x m out) m := by rw [relaxY, List.range_succ, List.foldl_append]; rfl
theorem relaxX_succ (n z m : Nat) (out : List (List Int)) : relaxX n z (m + 1) out = relaxY z m n (relaxX n z m out) := by rw [relaxX, List.range_succ, List.foldl_append]; rfl
theorem relaxZ_succ (n m : Nat) (out : List (List Int)) : relaxZ n (m + 1) out = relaxX n m n (relaxZ n m out) := by rw [relaxZ, List.range_succ, List.foldl_append]; rfl
set_option maxRecDepth 100000 in
set_option maxHeartbeats 1000000 in
theorem share_dearer.calls (k : Nat) (A0 : Option Addr) (c0 : Nat) (l0 : List (List Int)) (r : List (List Int)) (w : World) (hr0 : Kd.C (Kd.slice 3 (Kd.int .i64)) w A0 l0.length l0) (hc0 : l0.length ≤ c0) (h : share_dearer.f k l0 = some r) :
    Calls Try.prog 59 #[.slice A0 l0.length c0] w fun e w' => ∃ v0_ : Value, e = .returned v0_ ∧ Kd.S (Kd.slice 3 (Kd.int .i64)) 22 w' w.heap.size (fun _ => True) v0_ r ∧ Below w.heap.size w w' := by
  obtain ⟨⟨l, s⟩, hl, h⟩ := Option.bind_eq_some_iff.mp h
  by_cases hg : goodB l0 l = true
  · rw [if_pos hg] at h
    obtain rfl := Option.some.inj h
    obtain ⟨g1, g2, g3, g4⟩ := goodB_spec hg
    have G1 := Aside0.mk g1
    have G2 := Aside0.mk g2
    have G3 := Aside0.mk g3
    have G4 := Aside0.mk g4
    have HR := Aside0.mk hr0
    have HL := Aside0.mk hl
    have hc0l : l0.length ≤ c0 := hc0
    have mk38 : ∀ w, Sem.run Try.prog (Instr.makeSlice 38 (.int .i64 (l.length : Int)) (.int .i64 (l.length : Int))) w = .ok (.slice (some ⟨w.heap.size, 0, none⟩) l.length l.length) (w.alloc (.cells (madeCells #[.slice none 0 0] l.length) 22)) := fun w => by
      obtain ⟨i0, hi, hzz⟩ := Option.map_eq_some_iff.1 info22
      simp only [Prod.mk.injEq] at hzz
      obtain ⟨hz0, hz1, hz2⟩ := hzz
      have hr := run_make (P := Try.prog) w 38 22 i0 (.slice none 0 0) Try.underlying38 hi hz0 .i64 .i64 (l.length : Int) (l.length : Int) (by omega) (by omega) (by rw [hz2]; omega) (by omega)
      have e : (Value.slice none 0 0).cells = #[.slice none 0 0] := rfl
      rw [hz1, e] at hr
      simpa using hr
    have mk22 : ∀ w, Sem.run Try.prog (Instr.makeSlice 22 (.int .i64 (l.length : Int)) (.int .i64 (l.length : Int))) w = .ok (.slice (some ⟨w.heap.size, 0, none⟩) l.length l.length) (w.alloc (.cells (madeCells #[.int .i64 0] l.length) 3)) := fun w => by
      obtain ⟨i0, hi, hzz⟩ := Option.map_eq_some_iff.1 info3
      simp only [Prod.mk.injEq] at hzz
      obtain ⟨hz0, hz1, hz2⟩ := hzz
      have hr := run_make (P := Try.prog) w 22 3 i0 (.int .i64 0) Try.underlying22 hi hz0 .i64 .i64 (l.length : Int) (l.length : Int) (by omega) (by omega) (by rw [hz2]; omega) (by omega)
      have e : (Value.int .i64 0).cells = #[.int .i64 0] := rfl
      rw [hz1, e] at hr
      simpa using hr
    clear hr0 hl h hg g1 g2 g3 g4
    have c1 : (0 : Int) ≤ (l.length : Int) := Int.natCast_nonneg _
    have c1b := eq_true c1
    go_enter Try.func59, Try.ntmps59
    go_wp2_with fail
    refine (share_assign.calls k A0 c0 l0 l s _ HR.out hc0 HL.out).mono ?_
    rintro e w1 ⟨v1, rfl, ho, hb⟩
    obtain ⟨Al, cl, rfl⟩ := Kd.R_slice ho
    have HO := Aside0.mk ho
    have HB := Aside0.mk hb
    have HCl := Aside0.mk (Kd.R_reads' ho).2.2
    clear ho hb
    go_wp2_with fail
    have HS : Aside0 (DeS w1 (w1.alloc (.cells (madeCells #[.slice none 0 0] l.length) 22)) w1.heap.size (fun _ => 0) l.length 0 []) := ⟨⟨below_alloc (Below.refl _ _) _, Nat.le_refl _, by rw [blk_new, made_cells]; congr 2; simp [List.map_const'], fun i hi => absurd hi (Nat.not_lt_zero i), fun i j hi => absurd hi (Nat.not_lt_zero i), rfl, Nat.zero_le _⟩⟩
    obtain ⟨G, hG⟩ : ∃ G, G = w1.heap.size := ⟨_, rfl⟩
    rw [← hG] at HS ⊢
    have HG := Aside0.mk hG
    clear hG
    go_loopg [24] l.length (fun gq v24 w' => ∃ (i : Nat) (bs : Nat → Nat), v24 = .int .i64 (i : Int) ∧ i ≤ l.length ∧ l.length - i ≤ gq ∧ Aside0 (DeS w1 w' G bs l.length i ((List.range i).map fun x => rowN l0 l x l.length)))
    case atStart => exact ⟨0, fun _ => 0, rfl, Nat.zero_le _, by omega, HS⟩
    case round =>
      clear HS
      obtain ⟨i, bs, rfl, hi, hgk, HS⟩ := hrel
      by_cases hlt : i < l.length
      · have c3 : (i : Int) < (l.length : Int) := by omega
        have c3b : decide ((i : Int) < (l.length : Int)) = true := decide_eq_true c3
        have c3c := eq_true c3
        have c4 : (0 : Int) ≤ (i : Int) := by omega
        have c4c := eq_true c4
        have hga := blk_alloc HS.out.g (.cells (madeCells #[.int .i64 0] l.length) 3)
        have hx : (wr.alloc (.cells (madeCells #[.int .i64 0] l.length) 3)).cell? ⟨G, i, none⟩ = some (.slice none 0 0) := by rw [blk_cell hga i]; simp [hlt]
        have hf := blk_frozen hga i
        have HM := Aside0.mk (HS.out.more hlt)
        clear c3 c4 hga
        go_wp2_with fail
        have HM0 : Aside0 (DeS w1 ((wr.alloc (.cells (madeCells #[.int .i64 0] l.length) 3)).setCell ⟨G, i, none⟩ (.slice (some ⟨wr.heap.size, 0, none⟩) l.length l.length)) G (fun q => if q < i then bs q else wr.heap.size) l.length (i + 1) ((List.range i).map (fun x => rowN l0 l x l.length) ++ [rowN l0 l i 0])) := HM
        clear HM hx hf HS c3b c3c
        go_loopg [34] l.length (fun gq v34 w' => ∃ (j : Nat) (bs : Nat → Nat), v34 = .int .i64 (j : Int) ∧ j ≤ l.length ∧ l.length - j ≤ gq ∧ Aside0 (DeS w1 w' G bs l.length (i + 1) ((List.range i).map (fun x => rowN l0 l x l.length) ++ [rowN l0 l i j])))
        case atStart => exact ⟨0, _, rfl, Nat.zero_le _, by omega, HM0⟩
        case round =>
          clear HM0
          obtain ⟨j, bs2, rfl, hj, hgk2, HS⟩ := hrel
          by_cases hjl : j < l.length
          · have d3 : (j : Int) < (l.length : Int) := by omega
            have d3b : decide ((j : Int) < (l.length : Int)) = true := decide_eq_true d3
            have d3c := eq_true d3
            have d4 : (0 : Int) ≤ (j : Int) := by omega
            have d4c := eq_true d4
            have hb2 := HS.out.lo
            obtain ⟨al, e1, hxl⟩ := Kd.at_int (Kd.C_below HCl.out hb2) (j : Int) d4 d3
            cases e1
            obtain ⟨y, hy⟩ : ∃ y : Nat, rd l (j : Int) = (y : Int) := ⟨(rd l (j : Int)).toNat, by have := (G3.out j hjl).1; omega⟩
            have hyl : y < l.length := by have := (G3.out j hjl).2; omega
            rw [hy, Int.toNat_natCast] at hxl
            have hjW : (j : Int) < (l0.length : Int) := by have := G1.out; omega
            obtain ⟨aW, Ar, cr, e2, hxW, hlr, hCr⟩ := at_L1 (Kd.C_below (Kd.C_below HR.out HB.out) hb2) (j : Int) d4 hjW
            obtain ⟨row, hrow⟩ : ∃ row, row = rd_L1 l0 (j : Int) := ⟨_, rfl⟩
            have hrl : row.length = l.length := by rw [hrow]; exact G4.out j hjl
            rw [← hrow] at hxW hlr hCr
            rw [Int.toNat_natCast] at hxW
            have hyr : (y : Int) < (row.length : Int) := by omega
            have hir : (i : Int) < (row.length : Int) := by omega
            obtain ⟨aR, e3, hxy⟩ := Kd.at_int hCr (y : Int) (by omega) hyr
            obtain ⟨aR', e4, hxi⟩ := Kd.at_int hCr (i : Int) (by omega) hir
            rw [e3] at e4
            obtain rfl := Option.some.inj e4
            rw [Int.toNat_natCast] at hxy hxi
            subst e2 e3
            have hxG := HS.out.cellG (i := i) (by omega)
            have hxB := HS.out.cellB (i := i) (j := y) (by omega) hyl
            have hfB := HS.out.frozenB (i := i) (by omega) y
            have c5 : (y : Int) < (l.length : Int) := by omega
            have c6 : (i : Int) < (l.length : Int) := by omega
            have c5c := eq_true c5
            have c6c := eq_true c6
            have c7c := eq_true hyr
            have c8c := eq_true hir
            have c9c := eq_true hjW
            have HROW := Aside0.mk hrow
            have HY := Aside0.mk hy
            have HRL := Aside0.mk hrl
            have HHB := Aside0.mk hb2
            clear d3 d4 hb2 hrow hy hrl hyr hir c5 c6 hjW hCr hlr
            go_wp2_with fail
            have HS5 := Aside0.mk (HS.out.below (below_drew (Below.refl wr.heap.size wr)))
            have hxB : wr.drew.cell? ⟨bs2 i, y, none⟩ = _ := HS5.out.cellB (i := i) (j := y) (by omega) hyl
            have hfB := HS5.out.frozenB (i := i) (by omega) y
            go_still_tail 20, (by kernel_rfl)
            change wpList _ _ _ _ _ wr.drew
            generalize wr.drew = w5 at HS5 hxB hfB ⊢
            go_wp2
            go_roundg (l.length - (j + 1))
            case measure => omega
            case rel =>
              refine ⟨j + 1, bs2, by rw [next_i j (by have := G2.out; omega)], by omega, Nat.le_refl _, ⟨?_⟩⟩
              have hp := HS5.out.put (x := i) (y := y) (by omega) (wrap64 (rd row (y : Int) - rd row (i : Int)))
              rw [snoc_get (by simp), snoc_set (by simp)] at hp
              rw [rowN_succ, setRow, HY.out, ← HROW.out, Int.toNat_natCast]
              exact hp
          · obtain rfl : j = l.length := by omega
            have d3b : decide ((l.length : Int) < (l.length : Int)) = false := decide_eq_false (by omega)
            go_wp2
            go_roundg (l.length - (i + 1))
            case measure => omega
            case rel =>
              refine ⟨i + 1, bs2, by rw [next_i i (by have := G2.out; omega)], by omega, Nat.le_refl _, ⟨?_⟩⟩
              rw [List.range_succ, List.map_append]
              exact HS.out
      · obtain rfl : i = l.length := by omega
        have d3b : decide ((l.length : Int) < (l.length : Int)) = false := decide_eq_false (by omega)
        go_wp2_with fail
        obtain ⟨out0, hout0⟩ : ∃ o, o = (List.range l.length).map fun x => rowN l0 l x l.length := ⟨_, rfl⟩
        rw [← hout0] at HS
        have HOUT := Aside0.mk hout0
        have HS0 := Aside0.mk (Exists.intro bs HS.out : ∃ bs, DeS w1 wr G bs l.length l.length out0)
        clear hout0 HS d3b mk22 mk38
        go_loopg [63] l.length (fun gq v63 w' => ∃ (z : Nat), v63 = .int .i64 (z : Int) ∧ z ≤ l.length ∧ l.length - z ≤ gq ∧ Aside0 (∃ bs, DeS w1 w' G bs l.length l.length (relaxZ l.length z out0)))
        case atStart => exact ⟨0, rfl, Nat.zero_le _, by omega, HS0⟩
        case round =>
          clear HS0 hgk
          obtain ⟨z, rfl, hz, hgk, HS⟩ := hrel
          by_cases hzl : z < l.length
          · have z3 : (z : Int) < (l.length : Int) := by omega
            have z3b : decide ((z : Int) < (l.length : Int)) = true := decide_eq_true z3
            have z3c := eq_true z3
            have z4 : (0 : Int) ≤ (z : Int) := by omega
            have z4c := eq_true z4
            clear z3 z4
            go_wp2_with fail
            clear z3b
            go_loopg [67] l.length (fun gq v67 w' => ∃ (x : Nat), v67 = .int .i64 (x : Int) ∧ x ≤ l.length ∧ l.length - x ≤ gq ∧ Aside0 (∃ bs, DeS w1 w' G bs l.length l.length (relaxX l.length z x (relaxZ l.length z out0))))
            case atStart => exact ⟨0, rfl, Nat.zero_le _, by omega, HS⟩
            case round =>
              clear HS
              obtain ⟨x, rfl, hx, hgk2, HS⟩ := hrel
              by_cases hxl : x < l.length
              · have x3 : (x : Int) < (l.length : Int) := by omega
                have x3b : decide ((x : Int) < (l.length : Int)) = true := decide_eq_true x3
                have x3c := eq_true x3
                have x4 : (0 : Int) ≤ (x : Int) := by omega
                have x4c := eq_true x4
                clear x3 x4
                go_wp2_with fail
                clear x3b
                go_loopg [71] l.length (fun gq v71 w' => ∃ (y : Nat), v71 = .int .i64 (y : Int) ∧ y ≤ l.length ∧ l.length - y ≤ gq ∧ Aside0 (∃ bs, DeS w1 w' G bs l.length l.length (relaxY z x y (relaxX l.length z x (relaxZ l.length z out0)))))
                case atStart => exact ⟨0, rfl, Nat.zero_le _, by omega, HS⟩
                case round =>
                  clear HS
                  obtain ⟨y, rfl, hy, hgk3, HS⟩ := hrel
                  by_cases hyl : y < l.length
                  · have y3 : (y : Int) < (l.length : Int) := by omega
                    have y3b : decide ((y : Int) < (l.length : Int)) = true := decide_eq_true y3
                    have y3c := eq_true y3
                    have y4 : (0 : Int) ≤ (y : Int) := by omega
                    have y4c := eq_true y4
                    obtain ⟨bs3, hS⟩ := HS.out
                    obtain ⟨o, ho⟩ : ∃ o, o = relaxY z x y (relaxX l.length z x (relaxZ l.length z out0)) := ⟨_, rfl⟩
                    rw [← ho] at hS
                    have HOO := Aside0.mk ho
                    have HS3 := Aside0.mk hS
                    have f1 := hS.cellG (i := x) hxl
                    have f2 := hS.cellG (i := z) hzl
                    have f3 := hS.cellB (i := x) (j := y) hxl hyl
                    have f4 := hS.cellB (i := x) (j := z) hxl hzl
                    have f5 := hS.cellB (i := z) (j := y) hzl hyl
                    clear y3 y4 hS ho
                    go_wp2_with fail
                    have HS5 := Aside0.mk (HS3.out.below (below_drew (Below.refl wr.heap.size wr)))
                    have hxB : wr.drew.cell? ⟨bs3 x, y, none⟩ = _ := HS5.out.cellB (i := x) (j := y) hxl hyl
                    have hfB := HS5.out.frozenB (i := x) hxl y
                    go_still_tail 28, (by kernel_rfl)
                    change wpList _ _ _ _ _ wr.drew
                    generalize wr.drew = w5 at HS5 hxB hfB ⊢
                    go_wp2
                    all_goals
                      go_roundg (l.length - (y + 1))
                      (case measure => omega)
                      (case rel =>
                        refine ⟨y + 1, by rw [next_i y (by have := G2.out; omega)], by omega, Nat.le_refl _, ⟨bs3, ?_⟩⟩
                        first
                        | (have hc : wrap64 (rd (rd_L1 o (x : Int)) (z : Int) + rd (rd_L1 o (z : Int)) (y : Int)) < rd (rd_L1 o (x : Int)) (y : Int) := by assumption
                           rw [relaxY_succ, ← HOO.out, relax, YtiafiebalibkdaaW.PrintWords.mn, if_pos hc]
                           exact HS5.out.put hxl _)
                        | (have hc : ¬ wrap64 (rd (rd_L1 o (x : Int)) (z : Int) + rd (rd_L1 o (z : Int)) (y : Int)) < rd (rd_L1 o (x : Int)) (y : Int) := by first | assumption | (apply Int.not_lt.mpr; assumption)
                           rw [relaxY_succ, ← HOO.out, relax, YtiafiebalibkdaaW.PrintWords.mn, if_neg hc]
                           exact HS5.out.put hxl _)
                        | (trace_state; exfalso; omega))
                  · obtain rfl : y = l.length := by omega
                    have y3b : decide ((l.length : Int) < (l.length : Int)) = false := decide_eq_false (by omega)
                    go_wp2
                    go_roundg (l.length - (x + 1))
                    case measure => omega
                    case rel => exact ⟨x + 1, by rw [next_i x (by have := G2.out; omega)], by omega, Nat.le_refl _, ⟨by rw [relaxX_succ]; exact HS.out⟩⟩
              · obtain rfl : x = l.length := by omega
                have x3b : decide ((l.length : Int) < (l.length : Int)) = false := decide_eq_false (by omega)
                go_wp2
                go_roundg (l.length - (z + 1))
                case measure => omega
                case rel => exact ⟨z + 1, by rw [next_i z (by have := G2.out; omega)], by omega, Nat.le_refl _, ⟨by rw [relaxZ_succ]; exact HS.out⟩⟩
          · obtain rfl : z = l.length := by omega
            have z3b : decide ((l.length : Int) < (l.length : Int)) = false := decide_eq_false (by omega)
            go_wp2
            go_ret
            obtain ⟨bs3, hS⟩ := HS.out
            have e : relaxZ l.length l.length out0 = dearN l0 l := by rw [dearN, HOUT.out]
            rw [e] at hS
            exact ⟨_, rfl, Kd.S_lower (hS.row G2.out) HB.out.size, HB.out.trans (hS.lo.mono HB.out.size)⟩
  · rw [if_neg hg] at h; cases h
theorem share_dearer.mono : ∀ a0 k, LeO (share_dearer.f k a0) (share_dearer.f (k + 1) a0) := by
  intro a0 k
  unfold share_dearer.f
  refine LeO.bind (share_assign.mono _ _) (fun _ => ?_)
  exact LeO.refl _
def share_asked.f (k : Nat) (l0 : List (List Int)) (a1 : Int) : Option (Int × Int) := (share_wished.f k l0).bind fun bt183 => (if bt183.2 = 0 then (if a1 < 0 then (some (bt183.1, 2)) else (if a1 ≥ (l0.length : Int) then (some (bt183.1, 2)) else (some (bt183.1, bt183.2)))) else (some (bt183.1, bt183.2)))
theorem share_asked.mono : ∀ a0 a1 k, LeO (share_asked.f k a0 a1) (share_asked.f (k + 1) a0 a1) := by
  intro a0 a1 k
  unfold share_asked.f
  repeat' first
      | (with_reducible exact share_wished.mono _ _)
      | (with_reducible exact LeO.refl _)
      | (with_reducible exact LeO.none _)
      | (with_reducible refine LeO.ite ?_ ?_)
      | (with_reducible refine LeO.bind ?_ (fun _ => ?_))
      | exact share_wished.mono _ _
      | exact LeO.none _
      | refine LeO.ite ?_ ?_
      | refine LeO.bind ?_ (fun _ => ?_)
set_option maxHeartbeats 8000000 in
set_option maxRecDepth 100000 in
theorem share_asked.calls (k : Nat) (A0 : Option Addr) (c0 : Nat) (l0 : List (List Int)) (a1 : Int) (r1 : Int) (r2 : Int) (w : World) (hr0 : Kd.C (Kd.slice 3 (Kd.int .i64)) w A0 l0.length l0) (hc0 : l0.length ≤ c0) (h : share_asked.f k l0 a1 = some (r1, r2)) :
    Calls Try.prog 60 #[.slice A0 l0.length c0, .int .i64 a1] w fun e w' => e = .returned (.tuple #[.int .i64 r1, .int .i64 r2]) ∧ Drawn0 w w' := by
  have HR0 := Aside0.mk hr0
  have HC0 := Aside0.mk hc0
  clear hr0 hc0
  have H : ((share_wished.f k l0).bind fun bt183 => (if bt183.2 = 0 then (if a1 < 0 then (some (bt183.1, 2)) else (if a1 ≥ (l0.length : Int) then (some (bt183.1, 2)) else (some (bt183.1, bt183.2)))) else (some (bt183.1, bt183.2)))) = some (r1, r2) := h
  clear h
  replace H := Option.bind_eq_some_iff.mp H
  obtain ⟨⟨t183, t184⟩, A30, H⟩ := H
  replace H : (if t184 = 0 then (if a1 < 0 then (some (t183, 2)) else (if a1 ≥ (l0.length : Int) then (some (t183, 2)) else (some (t183, t184)))) else (some (t183, t184))) = some (r1, r2) := H
  have A3 := Aside0.mk A30
  clear A30
  by_cases c4 : t184 = 0
  · rw [if_pos c4] at H
    have c4b0 : (t184 == 0) = true := beq_iff_eq.mpr c4
    have c4b1 : (t184 != 0) = false := bne_eq_false_iff_eq.mpr c4
    clear c4
    by_cases c5 : a1 < 0
    · rw [if_pos c5] at H
      have c5b0 : decide (a1 < 0) = true := decide_eq_true c5
      clear c5
      simp only [Option.some.injEq, Prod.mk.injEq] at H
      obtain ⟨rfl, rfl⟩ := H
      go_enter Try.func60, Try.ntmps60
      go_wp2_with (first | ((with_reducible refine gate_callee (f := 55) rfl ?_); refine goesL_ (some 10) rfl rfl Try.func55 (by kernel_rfl) rfl #[.slice A0 l0.length c0] rfl (by (try simp only [List.map_toArray, List.map_cons, List.map_nil]); first | done | rfl | (simp only [List.length_drop, List.length_take]; rfl)) ?_; (with_reducible refine (share_wished.calls k _ _ l0 t183 t184 _ ?side1 ?side2 A3.out).mono ?_); (case side1 => repeat (first | exact HR0.out | (with_reducible refine Kd.C_alloc ?_ _) | (with_reducible refine Kd.C_drewN ?_ _) | (with_reducible refine Kd.C_drew ?_))); (case side2 => exact HC0.out); rintro e w' ⟨rfl, ⟨nd, rfl⟩⟩; refine ⟨_, rfl, ?_⟩))
      go_ret2
      exact ⟨by first | rfl | (simp; done) | (simp [*]; done), by repeat (first | exact Drawn0.refl _ | apply Drawn0.step)⟩
    · rw [if_neg c5] at H
      have c5b0 : decide (a1 < 0) = false := decide_eq_false c5
      clear c5
      by_cases c6 : a1 ≥ (l0.length : Int)
      · rw [if_pos c6] at H
        have c6b0 : decide ((l0.length : Int) ≤ a1) = true := decide_eq_true c6
        clear c6
        simp only [Option.some.injEq, Prod.mk.injEq] at H
        obtain ⟨rfl, rfl⟩ := H
        go_enter Try.func60, Try.ntmps60
        go_wp2_with (first | ((with_reducible refine gate_callee (f := 55) rfl ?_); refine goesL_ (some 10) rfl rfl Try.func55 (by kernel_rfl) rfl #[.slice A0 l0.length c0] rfl (by (try simp only [List.map_toArray, List.map_cons, List.map_nil]); first | done | rfl | (simp only [List.length_drop, List.length_take]; rfl)) ?_; (with_reducible refine (share_wished.calls k _ _ l0 t183 t184 _ ?side1 ?side2 A3.out).mono ?_); (case side1 => repeat (first | exact HR0.out | (with_reducible refine Kd.C_alloc ?_ _) | (with_reducible refine Kd.C_drewN ?_ _) | (with_reducible refine Kd.C_drew ?_))); (case side2 => exact HC0.out); rintro e w' ⟨rfl, ⟨nd, rfl⟩⟩; refine ⟨_, rfl, ?_⟩))
        go_ret2
        exact ⟨by first | rfl | (simp; done) | (simp [*]; done), by repeat (first | exact Drawn0.refl _ | apply Drawn0.step)⟩
      · rw [if_neg c6] at H
        have c6b0 : decide ((l0.length : Int) ≤ a1) = false := decide_eq_false c6
        clear c6
        simp only [Option.some.injEq, Prod.mk.injEq] at H
        obtain ⟨rfl, rfl⟩ := H
        go_enter Try.func60, Try.ntmps60
        go_wp2_with (first | ((with_reducible refine gate_callee (f := 55) rfl ?_); refine goesL_ (some 10) rfl rfl Try.func55 (by kernel_rfl) rfl #[.slice A0 l0.length c0] rfl (by (try simp only [List.map_toArray, List.map_cons, List.map_nil]); first | done | rfl | (simp only [List.length_drop, List.length_take]; rfl)) ?_; (with_reducible refine (share_wished.calls k _ _ l0 t183 t184 _ ?side1 ?side2 A3.out).mono ?_); (case side1 => repeat (first | exact HR0.out | (with_reducible refine Kd.C_alloc ?_ _) | (with_reducible refine Kd.C_drewN ?_ _) | (with_reducible refine Kd.C_drew ?_))); (case side2 => exact HC0.out); rintro e w' ⟨rfl, ⟨nd, rfl⟩⟩; refine ⟨_, rfl, ?_⟩))
        go_ret2
        exact ⟨by first | rfl | (simp; done) | (simp [*]; done), by repeat (first | exact Drawn0.refl _ | apply Drawn0.step)⟩
  · rw [if_neg c4] at H
    have c4b0 : (t184 == 0) = false := beq_eq_false_iff_ne.mpr c4
    have c4b1 : (t184 != 0) = true := bne_iff_ne.mpr c4
    simp only [Option.some.injEq, Prod.mk.injEq] at H
    obtain ⟨rfl, rfl⟩ := H
    go_enter Try.func60, Try.ntmps60
    go_wp2_with (first | ((with_reducible refine gate_callee (f := 55) rfl ?_); refine goesL_ (some 10) rfl rfl Try.func55 (by kernel_rfl) rfl #[.slice A0 l0.length c0] rfl (by (try simp only [List.map_toArray, List.map_cons, List.map_nil]); first | done | rfl | (simp only [List.length_drop, List.length_take]; rfl)) ?_; (with_reducible refine (share_wished.calls k _ _ l0 t183 t184 _ ?side1 ?side2 A3.out).mono ?_); (case side1 => repeat (first | exact HR0.out | (with_reducible refine Kd.C_alloc ?_ _) | (with_reducible refine Kd.C_drewN ?_ _) | (with_reducible refine Kd.C_drew ?_))); (case side2 => exact HC0.out); rintro e w' ⟨rfl, ⟨nd, rfl⟩⟩; refine ⟨_, rfl, ?_⟩))
    go_ret2
    exact ⟨by first | rfl | (simp; done) | (simp [*]; done), by repeat (first | exact Drawn0.refl _ | apply Drawn0.step)⟩
end Go.Proofs.Ytiafiebalibkdaa.OAll
