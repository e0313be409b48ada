/- A part of the proof of 'fetchStrong_holds', for every input, without a condition. -/
import Derived.Test.YtjbfbdanbpfplaaSTOAllx0
import Derived.Test.YtjbfbdanbpfplaaSTOAllx2
import Derived.Test.YtjbfbdanbpfplaaSTOAllx3
import Derived.Test.YtjbfbdanbpfplaaSTOAllx4
namespace Go.Proofs.Ytjbfbdanbpfplaa.OAll
open Go.RowKit Go.Proofs.YtjbfbdanbpfplaaW.PrintWords Go.Proofs.YtjbfbdanbpfplaaW.PrintLast Go.Proofs.YtjbfbdanbpfplaaW.PrintMore
attribute [local go_sem] max2_int min2_int max_two min_two max_three min_three max_four min_four
set_option linter.unusedVariables false
set_option linter.unusedSimpArgs false
def trishawlaw09_few.f (l0 : List (S34)) (l1 : List Int) : Option (Bool) := if (l0.length : Int) ≤ 40 then (some (decide ((l1.length : Int) ≤ 60))) else (some false)
set_option maxHeartbeats 8000000 in
set_option maxRecDepth 100000 in
theorem trishawlaw09_few.calls (A0 : Option Addr) (c0 : Nat) (l0 : List (S34)) (A1 : Option Addr) (c1 : Nat) (l1 : List Int) (r : Bool) (w : World) (hr0 : Kd.C k34 w A0 l0.length l0) (hc0 : l0.length ≤ c0) (hr1 : Kd.C (Kd.int .i64) w A1 l1.length l1) (hc1 : l1.length ≤ c1) (h : trishawlaw09_few.f l0 l1 = some r) :
  Calls Try.prog 16 #[.slice A0 l0.length c0, .slice A1 l1.length c1] w fun e w' => e = .returned (.bool r) ∧ Drawn0 w w' := by
 have HR0 := Aside0.mk hr0
 have HC0 := Aside0.mk hc0
 clear hr0 hc0
 have HR1 := Aside0.mk hr1
 have HC1 := Aside0.mk hc1
 clear hr1 hc1
 have H : (if (l0.length : Int) ≤ 40 then (some (decide ((l1.length : Int) ≤ 60))) else (some false)) = some r := h
 clear h
 by_cases c3 : (l0.length : Int) ≤ 40
 ·rw [if_pos c3] at H
  have c3b0 : decide ((l0.length : Int) ≤ 40) = true := decide_eq_true c3
  have c3b1 : decide (l0.length ≤ 40) = true := decide_eq_true (by omega)
  clear c3
  obtain rfl := Option.some.inj H
  go_enter Try.func16, Try.ntmps16
  go_wp2
  go_ret
  exact ⟨by first | rfl | (simp; done) | (simp [*]; done), by repeat (first | exact Drawn0.refl _ | apply Drawn0.step)⟩
 ·rw [if_neg c3] at H
  have c3b0 : decide ((l0.length : Int) ≤ 40) = false := decide_eq_false c3
  have c3b1 : decide (l0.length ≤ 40) = false := decide_eq_false (by omega)
  clear c3
  obtain rfl := Option.some.inj H
  go_enter Try.func16, Try.ntmps16
  go_wp2
  go_ret
  exact ⟨by first | rfl | (simp; done) | (simp [*]; done), by repeat (first | exact Drawn0.refl _ | apply Drawn0.step)⟩
mutual
def fetch_Apart.on : Nat → Int → List S34 → List Int → Int → Int → List Int → List Int → Option (List Int)
 | 0, _, _, _, _, _, _, _ => none
 | k + 1, n, st, all, from_, used, l, best => if (l.length : Int) > (best.length : Int) then ((slices_Clone_int_int.f l).bind fun b => fetch_Apart.l0 k n st all used l b from_) else fetch_Apart.l0 k n st all used l best from_
def fetch_Apart.l0 : Nat → Int → List S34 → List Int → Int → List Int → List Int → Int → Option (List Int)
 | 0, _, _, _, _, _, _, _ => none
 | k + 1, n, st, all, used, l, best, i => if i < (all.length : Int) then (if 0 ≤ i then ((fetch_quarter_crossing.f k n st (rd all i)).bind fun c => if Go.bits .and .i64 c used = 0 then (if l.length < 17592186044415 then ((fetch_Apart.on k n st all (wrap64 (i + 1)) (Go.bits .or .i64 used c) (l ++ [rd all i]) best).bind fun b => fetch_Apart.l0 k n st all used l b (wrap64 (i + 1))) else none) else fetch_Apart.l0 k n st all used l best (wrap64 (i + 1))) else none) else some best
end
structure ApS (B Bq : Nat) (n : Int) (A : Option Addr) (cp : Nat) (st : List S34) (Aa : Option Addr) (ca : Nat) (all : List Int) (w : World) (vl vb : Value) (l best : List Int) : Prop where
 ba : w.heap[B]? = some (.cells #[.slice Aa all.length ca] 23 (0, 0))
 ra : Kd.R (Kd.int .i64) 3 w 0 (fun k => k < B) (.slice Aa all.length ca) all
 bb : w.heap[B + 1]? = some (.cells #[vb] 23 (0, 0))
 rb : Kd.R (Kd.int .i64) 3 w (B + 4) (fun k => some k ≠ vl.ownBlock) vb best
 bl : w.heap[B + 2]? = some (.cells #[vl] 23 (0, 0))
 rl : Kd.R (Kd.int .i64) 3 w (B + 4) (fun k => some k ≠ vb.ownBlock) vl l
 bo : w.heap[B + 3]? = some (.cells #[.func (.func 46) #[] #[.pointer (some ⟨B + 2, 0, none⟩), .pointer (some ⟨B + 1, 0, none⟩), .pointer (some ⟨B, 0, none⟩), .pointer (some ⟨Bq, 0, none⟩), .pointer (some ⟨B + 3, 0, none⟩)]] 62 (0, 0))
 bq : w.heap[Bq]? = some (.cells #[.int .i64 n, .slice A st.length cp] 58 (0, 0))
 hq : Bq < B
 rs : Kd.F k34 w (fun k => k < B) A st.length st
 cs : st.length ≤ cp
section
variable {B Bq : Nat} {n : Int} {A : Option Addr} {cp : Nat} {st : List S34} {Aa : Option Addr} {ca : Nat} {all : List Int} {w w1 : World} {vl vb v : Value} {l best b : List Int}
theorem ApS.size (h : ApS B Bq n A cp st Aa ca all w vl vb l best) : B + 4 ≤ w.heap.size := blk_lt h.bo
theorem ApS.below (h : ApS B Bq n A cp st Aa ca all w vl vb l best) (hb : Below w.heap.size w w1) : ApS B Bq n A cp st Aa ca all w1 vl vb l best :=
 ⟨blk_below h.ba hb, Kd.R_below h.ra hb, blk_below h.bb hb, Kd.R_below h.rb hb, blk_below h.bl hb, Kd.R_below h.rl hb, blk_below h.bo hb, blk_below h.bq hb, h.hq, Kd.F_below h.rs hb, h.cs⟩
theorem R_put {N : Nat} {ok : Nat → Prop} (h : Kd.R (Kd.int .i64) 3 w N ok v l) (j : Nat) (hj : j < N) (u : Value) : Kd.R (Kd.int .i64) 3 (w.setCell ⟨j, 0, none⟩ u) N ok v l :=
 Kd.R_mono (Kd.R_far (Kd.R_bound h) (fun k hk => by show k ≠ j; have := hk.2.1; omega) _) (fun _ hk => hk.1)
theorem ApS.put_best (h : ApS B Bq n A cp st Aa ca all w vl vb l best) (hv : Kd.R (Kd.int .i64) 3 w (B + 4) (fun k => some k ≠ vl.ownBlock) v b) (hl : ∀ k, vl.ownBlock = some k → some k ≠ v.ownBlock) :
  ApS B Bq n A cp st Aa ca all (w.setCell ⟨B + 1, 0, none⟩ v) vl v l b := by
 have hq := h.hq
 refine ⟨blk_far h.ba (by simp) _, Kd.R_far h.ra (fun k hk => by show k ≠ B + 1; omega) _, blk_put h.bb 0 v rfl, R_put hv _ (by omega) _, blk_far h.bl (by simp) _, ?_, blk_far h.bo (by simp) _, blk_far h.bq (by show Bq ≠ B + 1; omega) _, hq, Kd.F_far h.rs (fun k hk => by show k ≠ B + 1; omega) _, h.cs⟩
 refine R_put ?_ _ (by omega) _
 obtain ⟨h1, h2⟩ := h.rl
 exact Kd.R_of_own (Kd.own_of_R ⟨h1, h2⟩) hl
theorem ApS.put_l (h : ApS B Bq n A cp st Aa ca all w vl vb l best) (hv : Kd.R (Kd.int .i64) 3 w (B + 4) (fun k => some k ≠ vb.ownBlock) v b) (hl : ∀ k, vb.ownBlock = some k → some k ≠ v.ownBlock) :
  ApS B Bq n A cp st Aa ca all (w.setCell ⟨B + 2, 0, none⟩ v) v vb b best := by
 have hq := h.hq
 refine ⟨blk_far h.ba (by simp) _, Kd.R_far h.ra (fun k hk => by show k ≠ B + 2; omega) _, blk_far h.bb (by simp) _, ?_, blk_put h.bl 0 v rfl, R_put hv _ (by omega) _, blk_far h.bo (by simp) _, blk_far h.bq (by show Bq ≠ B + 2; omega) _, hq, Kd.F_far h.rs (fun k hk => by show k ≠ B + 2; omega) _, h.cs⟩
 refine R_put ?_ _ (by omega) _
 obtain ⟨h1, h2⟩ := h.rb
 exact Kd.R_of_own (Kd.own_of_R ⟨h1, h2⟩) hl
theorem own_cut (A : Option Addr) (m n c : Nat) : (Value.slice A m c).ownBlock = (Value.slice A n c).ownBlock := by cases A <;> rfl
theorem ApS.pop {Al : Option Addr} {cl : Nat} {l0 : List Int} {x : Int} (h : ApS B Bq n A cp st Aa ca all w (.slice Al l.length cl) vb l best) (hl : l = l0 ++ [x]) :
  ApS B Bq n A cp st Aa ca all (w.setCell ⟨B + 2, 0, none⟩ (.slice Al (l.length - 1) cl)) (.slice Al (l.length - 1) cl) vb l0 best := by
 have e : l.take (l.length - 1) = l0 := by rw [hl]; simp
 have h1 := Kd.R_take (m := l.length - 1) h.rl (by omega)
 rw [e] at h1
 refine h.put_l h1 (fun k hk => ?_)
 rw [own_cut Al _ l.length cl]
 exact h.rb.1 k hk
theorem ApS.grown (h : ApS B Bq n A cp st Aa ca all w vl vb l best) (hg : w.grownBy w1 vl.ownBlock) (hv : Kd.R (Kd.int .i64) 3 w1 (B + 4) (fun k => some k ≠ vb.ownBlock) v b) (hat : v.ownBlock = vl.ownBlock ∨ v.ownBlock = some w.heap.size) :
  ApS B Bq n A cp st Aa ca all (w1.setCell ⟨B + 2, 0, none⟩ v) v vb b best := by
 have hq := h.hq
 have hsz := h.size
 have hlo : ∀ k, vl.ownBlock = some k → B + 4 ≤ k := Kd.R_base h.rl
 have hne : ∀ j, j < B + 4 → some j ≠ vl.ownBlock := fun j hj he => by have := hlo j he.symm; omega
 have hbl : ∀ k, vb.ownBlock = some k → some k ≠ v.ownBlock := by
  intro k hk
  rcases hat with hat | hat
  ·rw [hat]; exact h.rb.1 k hk
  ·rw [hat]; intro he; injection he with he; have := Kd.R_lt h.rb k hk; omega
 refine ⟨blk_far (blk_grown h.ba hg (hne _ (by omega))) (by simp) _, Kd.R_far (Kd.R_grown h.ra hg (fun k hk => hne k (by omega))) (fun k hk => by show k ≠ B + 2; omega) _, blk_far (blk_grown h.bb hg (hne _ (by omega))) (by simp) _, ?_, blk_put (blk_grown h.bl hg (hne _ (by omega))) 0 v rfl, R_put hv _ (by omega) _, blk_far (blk_grown h.bo hg (hne _ (by omega))) (by simp) _, blk_far (blk_grown h.bq hg (hne _ (by omega))) (by show Bq ≠ B + 2; omega) _, hq, Kd.F_far (Kd.F_grown h.rs hg (fun k hk => hne k (by omega))) (fun k hk => by show k ≠ B + 2; omega) _, h.cs⟩
 refine R_put ?_ _ (by omega) _
 exact Kd.R_of_own (Kd.own_of_R (Kd.R_grown h.rb hg (fun k hk => hk))) hbl
end
set_option maxHeartbeats 600000 in
theorem fetch_Apart_on.calls (k : Nat) : ∀ (B Bq : Nat) (n : Int) (A : Option Addr) (cp : Nat) (st : List S34) (Aa : Option Addr) (ca : Nat) (all : List Int) (from_ used : Int) (vl vb : Value) (l best b2 : List Int) (w : World) (hS : ApS B Bq n A cp st Aa ca all w vl vb l best) (h : fetch_Apart.on k n st all from_ used l best = some b2),
  Calls Try.prog 46 #[.int .i64 from_, .int .i64 used, .pointer (some ⟨B + 2, 0, none⟩), .pointer (some ⟨B + 1, 0, none⟩), .pointer (some ⟨B, 0, none⟩), .pointer (some ⟨Bq, 0, none⟩), .pointer (some ⟨B + 3, 0, none⟩)] w fun e w' => ∃ vl' vb' : Value, e = .returned (.tuple #[]) ∧ ApS B Bq n A cp st Aa ca all w' vl' vb' l b2 ∧ Below B w w' := by
 induction k using Nat.strongRecOn with
 | _ k ih =>
 intro B Bq n A cp st Aa ca all from_ used vl vb l best b2 w hS h
 cases k with
 | zero => exact absurd h (by simp [fetch_Apart.on])
 | succ k =>
 simp only [fetch_Apart.on] at h
 have hu58 := Try.underlying58
 have IH := Aside0.mk ih
 have HS0 := Aside0.mk hS
 clear ih hS
 obtain ⟨Al, cl, rfl⟩ := Kd.R_slice HS0.out.rl
 obtain ⟨Ab, cb, rfl⟩ := Kd.R_slice HS0.out.rb
 have e1 : w.cell? ⟨B + 2, 0, none⟩ = some (.slice Al l.length cl) := (blk_cell HS0.out.bl 0).trans rfl
 have e2 : w.cell? ⟨B + 1, 0, none⟩ = some (.slice Ab best.length cb) := (blk_cell HS0.out.bb 0).trans rfl
 have hsz0 := HS0.out.size
 by_cases hgt : (l.length : Int) > (best.length : Int)
 ·rw [if_pos hgt] at h
  have c1 : decide ((best.length : Int) < (l.length : Int)) = true := decide_eq_true hgt
  have c2 : decide (best.length < l.length) = true := decide_eq_true (by omega)
  obtain ⟨b0, hb0, h⟩ := Option.bind_eq_some_iff.mp h
  have H' := Aside0.mk h
  have A0 := Aside0.mk hb0
  clear h hb0 hgt
  go_enter Try.func46, Try.ntmps46
  go_wp2_with fail
  refine (slices_Clone_int_int.calls Al cl l b0 _ (Kd.R_reads' HS0.out.rl).2.2 (Kd.R_reads' HS0.out.rl).2.1 A0.out).mono ?_
  rintro e w1 ⟨v1, rfl, ho, hb⟩
  have HS1 := HS0.out.below hb
  obtain ⟨A1, d1, rfl⟩ := Kd.R_slice ho
  have hlt := Kd.R_lt HS0.out.rl
  have g1 := blk_frozen HS1.bb 0
  have HS := Aside0.mk (HS1.put_best (Kd.R_lower (Kd.R_mono (Kd.R_bound ho) (ok' := fun k => some k ≠ (Value.slice Al l.length cl).ownBlock) (fun k hk he => by have := hlt k he.symm; have := hk.2.1; omega)) hsz0) (fun k hk he => by have := hlt k hk; have := Kd.R_base ho k he.symm; omega))
  have HB := Aside0.mk ((hb.mono (show B ≤ w.heap.size by omega)).setCell (p := ⟨B + 1, 0, none⟩) (by simp) (.slice A1 b0.length d1))
  have e3 : w1.cell? ⟨B + 1, 0, none⟩ = some (.slice Ab best.length cb) := (blk_cell HS1.bb 0).trans rfl
  clear ho hb hlt e1 e2 HS0 HS1
  go_wp2_with fail
  go_loopg [9] k (fun kq v9 w' => ∃ (x9 : Int) (vl' vb' : Value) (b : List Int), v9 = .int .i64 x9 ∧ Aside0 (fetch_Apart.l0 kq n st all used l b x9 = some b2) ∧ Aside0 (kq ≤ k) ∧ Aside0 (ApS B Bq n A cp st Aa ca all w' vl' vb' l b) ∧ Aside0 (Below B w w'))
  case atStart => exact ⟨_, _, _, _, rfl, H', ⟨Nat.le_refl _⟩, HS, HB⟩
  case round =>
   clear H' HS HB
   obtain ⟨x9, vl', vb', b, rfl, HA, HK1, HS, HB⟩ := hrel
   cases gk with
   | zero => exact absurd HA.out (by simp [fetch_Apart.l0])
   | succ k1 =>
    have H := HA.out
    clear HA
    simp only [fetch_Apart.l0] at H
    have hsz := HS.out.size
    have f1 : wr.cell? ⟨B, 0, none⟩ = some (.slice Aa all.length ca) := (blk_cell HS.out.ba 0).trans rfl
    by_cases c6 : x9 < (all.length : Int)
    ·rw [if_pos c6] at H
     have c6b0 : decide (x9 < (all.length : Int)) = true := decide_eq_true c6
     by_cases c7 : 0 ≤ x9
     ·rw [if_pos c7] at H
      obtain ⟨t, ht, H⟩ := Option.bind_eq_some_iff.mp H
      have A7 := Aside0.mk ht
      obtain ⟨ad, e1, hx⟩ := Kd.at_int (Kd.R_reads' HS.out.ra).2.2 x9 c7 c6
      cases e1
      have c7b := eq_true c7
      have c6b := eq_true c6
      have f2 : wr.cell? ⟨Bq, 0, none⟩ = some (.int .i64 n) := (blk_cell HS.out.bq 0).trans rfl
      have f3 : wr.cell? ⟨Bq, 1, none⟩ = some (.slice A st.length cp) := (blk_cell HS.out.bq 1).trans rfl
      by_cases c9 : Go.bits .and .i64 t used = 0
      ·rw [if_pos c9] at H
       have c9b : (Go.bits .and .i64 t used == 0) = true := by rw [c9]; rfl
       by_cases c10 : l.length < 17592186044415
       ·rw [if_pos c10] at H
        obtain ⟨y, hy, H⟩ := Option.bind_eq_some_iff.mp H
        obtain ⟨l5, hl5⟩ : ∃ l5, l5 = l ++ [rd all x9] := ⟨_, rfl⟩
        rw [← hl5] at hy
        have HL5 := Aside0.mk hl5
        have A8 := Aside0.mk hy
        have L10 := Aside0.mk c10
        have H' := Aside0.mk H
        clear ht c7 c6 c9 c10 hy hl5 H
        go_wp2_with fail
        go_region_held3 (fun w' => w'.cell? ⟨B, 0, none⟩ = some (.slice (some ad) all.length ca) ∧ w'.cell? ⟨Bq, 0, none⟩ = some (.int .i64 n) ∧ w'.cell? ⟨Bq, 1, none⟩ = some (.slice A st.length cp) ∧ w'.cell? (ad.add x9.toNat) = some (.int .i64 (rd all x9))) (go_keep)
         (first | (go_at_call 48; refine (fetch_quarter_crossing.calls k1 n A cp st (rd all x9) t _ (by repeat (first | exact Kd.F_now HS.out.rs | apply Kd.C_drew | apply Kd.C_drewN)) HS.out.cs A7.out).mono ?_; rintro e w2 ⟨rfl, hb0⟩; have hb := below_step (below_drew (Below.refl _ _)) hb0; have HS2 := Aside0.mk (HS.out.below hb); have HB2 := Aside0.mk (HB.out.trans (hb.mono (Nat.le_trans (Nat.le_add_right B 4) hsz))); have hx2 := pw_cell_below hb hx; have g1 : w2.cell? ⟨B, 0, none⟩ = some (.slice (some ad) all.length ca) := (blk_cell HS2.out.ba 0).trans rfl; have g2 : w2.cell? ⟨Bq, 0, none⟩ = some (.int .i64 n) := (blk_cell HS2.out.bq 0).trans rfl; have g3 : w2.cell? ⟨Bq, 1, none⟩ = some (.slice A st.length cp) := (blk_cell HS2.out.bq 1).trans rfl; clear hb hb0))
        clear hx f1 f2 f3 HS HB
        obtain ⟨Al, cl, rfl⟩ := Kd.R_slice HS2.out.rl
        have g4 : w2.cell? ⟨B + 2, 0, none⟩ = some (.slice Al l.length cl) := (blk_cell HS2.out.bl 0).trans rfl
        have g5 := blk_frozen HS2.out.bl 0
        go_wp2_with fail
        have hw0 : Below w2.heap.size w2 (w2.alloc (.cells #[.int .i64 (rd all x9)] 3)).drew := below_drew (below_alloc (Below.refl _ _) _)
        have HSW := Aside0.mk (HS2.out.below hw0)
        have hx3 := pw_cell_below hw0 hx2
        have HB3 := Aside0.mk (HB2.out.trans (hw0.mono (Nat.le_trans (Nat.le_add_right B 4) HS2.out.size)))
        have k1' : (w2.alloc (.cells #[.int .i64 (rd all x9)] 3)).drew.cell? ⟨B, 0, none⟩ = some (.slice (some ad) all.length ca) := (blk_cell HSW.out.ba 0).trans rfl
        have k4' : (w2.alloc (.cells #[.int .i64 (rd all x9)] 3)).drew.cell? ⟨B + 2, 0, none⟩ = some (.slice Al l.length cl) := (blk_cell HSW.out.bl 0).trans rfl
        clear hw0
        go_region_law (first | (refine step_append_int rfl (.tmp 35) (.tmp 40) 23 3 rfl Try.underlying23 info3 (.slice Al l.length cl) l (rd all x9) _ (B + 4) _ rfl rfl (by simp) HSW.out.rl HSW.out.size (by have := L10.out; omega) (by intro he; have := Kd.R_lt HSW.out.rb _ he.symm; omega) ?_; intro v1 w3 ho hg hat; rw [← HL5.out] at ho; obtain ⟨Av, cv, rfl⟩ := Kd.R_slice ho; have HS4 := Aside0.mk (HSW.out.grown hg ho hat); have hlo : ∀ k, (Value.slice Al l.length cl).ownBlock = some k → B + 4 ≤ k := Kd.R_base HSW.out.rl; have g6 := blk_frozen (blk_grown HSW.out.bl hg (fun he => by have := hlo _ he.symm; omega)) 0; have g7 : w3.cell? ⟨B + 2, 0, none⟩ = some (.slice Al l.length cl) := (blk_cell (blk_grown HSW.out.bl hg (fun he => by have := hlo _ he.symm; omega)) 0).trans rfl; have HB4 := Aside0.mk ((HB3.out.grown hg (Nat.le_trans (Nat.le_add_right B 4) HSW.out.size) (fun k he => Nat.le_trans (Nat.le_add_right B 4) (hlo k he))).setCell (p := ⟨B + 2, 0, none⟩) (by simp) (.slice Av l5.length cv)); clear ho hg hat hlo))
        all_goals
         generalize w3.setCell ⟨B + 2, 0, none⟩ (.slice Av l5.length cv) = w4 at HS4 HB4 ⊢
         have g8 : w4.cell? ⟨B + 3, 0, none⟩ = some (.func (.func 46) #[] #[.pointer (some ⟨B + 2, 0, none⟩), .pointer (some ⟨B + 1, 0, none⟩), .pointer (some ⟨B, 0, none⟩), .pointer (some ⟨Bq, 0, none⟩), .pointer (some ⟨B + 3, 0, none⟩)]) := (blk_cell HS4.out.bo 0).trans rfl
         clear g1 g2 g3 g4 g5 g6 g7 k1' k4' hx3 hx2
         go_wp2_with fail
         refine (IH.out k1 (by have := HK1.out; omega) B Bq n A cp st (some ad) ca all _ _ _ _ l5 b y _ HS4.out A8.out).mono ?_
         rintro e w5 ⟨vl5, vb5, rfl, hS5, hb5⟩
         obtain ⟨A5, c5, rfl⟩ := Kd.R_slice hS5.rl
         have HS5 := Aside0.mk hS5
         have HB5 := Aside0.mk (HB4.out.trans hb5)
         have m1 : w5.cell? ⟨B + 2, 0, none⟩ = some (.slice A5 l5.length c5) := (blk_cell hS5.bl 0).trans rfl
         have m2 := blk_frozen hS5.bl 0
         have m3 : 1 ≤ l5.length := by rw [HL5.out]; simp
         have m4 := (Kd.R_reads' hS5.rl).2.1
         have m5 := (Kd.R_reads' hS5.rl).2.2.2.1
         clear hS5 hb5 g8
         go_wp2
         go_roundg k1
         case measure => have := HK1.out; omega
         case rel => exact ⟨_, _, _, _, rfl, H', ⟨by have := HK1.out; omega⟩, ⟨HS5.out.pop HL5.out⟩, ⟨HB5.out.setCell (p := ⟨B + 2, 0, none⟩) (by simp) _⟩⟩
       ·rw [if_neg c10] at H
        exact absurd H (by simp)
      ·rw [if_neg c9] at H
       have c9b : (Go.bits .and .i64 t used == 0) = false := by rw [beq_eq_false_iff_ne]; exact c9
       have H' := Aside0.mk H
       clear ht H c7 c6 c9
       go_wp2_with fail
       go_region_held3 (fun w' => w'.cell? ⟨B, 0, none⟩ = some (.slice (some ad) all.length ca) ∧ w'.cell? ⟨Bq, 0, none⟩ = some (.int .i64 n) ∧ w'.cell? ⟨Bq, 1, none⟩ = some (.slice A st.length cp) ∧ w'.cell? (ad.add x9.toNat) = some (.int .i64 (rd all x9))) (go_keep)
        (first | (go_at_call 48; refine (fetch_quarter_crossing.calls k1 n A cp st (rd all x9) t _ (by repeat (first | exact Kd.F_now HS.out.rs | apply Kd.C_drew | apply Kd.C_drewN)) HS.out.cs A7.out).mono ?_; rintro e w2 ⟨rfl, hb0⟩; have hb := below_step (below_drew (Below.refl _ _)) hb0; have HS2 := Aside0.mk (HS.out.below hb); have HB2 := Aside0.mk (HB.out.trans (hb.mono (Nat.le_trans (Nat.le_add_right B 4) hsz))); have hx2 := pw_cell_below hb hx; have g1 : w2.cell? ⟨B, 0, none⟩ = some (.slice (some ad) all.length ca) := (blk_cell HS2.out.ba 0).trans rfl; have g2 : w2.cell? ⟨Bq, 0, none⟩ = some (.int .i64 n) := (blk_cell HS2.out.bq 0).trans rfl; have g3 : w2.cell? ⟨Bq, 1, none⟩ = some (.slice A st.length cp) := (blk_cell HS2.out.bq 1).trans rfl; clear hb hb0))
       clear hx f1 f2 f3 HS HB
       go_wp2
       go_roundg k1
       case measure => have := HK1.out; omega
       case rel => exact ⟨_, _, _, _, rfl, H', ⟨by have := HK1.out; omega⟩, HS2, HB2⟩
     ·rw [if_neg c7] at H
      exact absurd H (by simp)
    ·rw [if_neg c6] at H
     have c6b0 : decide (x9 < (all.length : Int)) = false := decide_eq_false c6
     obtain rfl := Option.some.inj H
     clear H c6
     go_wp2
     go_end0
     exact ⟨_, _, rfl, HS.out, HB.out⟩
 ·rw [if_neg hgt] at h
  have c1 : decide ((best.length : Int) < (l.length : Int)) = false := decide_eq_false hgt
  have c2 : decide (best.length < l.length) = false := decide_eq_false (by omega)
  have H' := Aside0.mk h
  clear h hgt
  go_enter Try.func46, Try.ntmps46
  go_wp2_with fail
  have HS := HS0
  have HB := Aside0.mk (Below.refl B w)
  clear e1 e2 HS0
  go_loopg [9] k (fun kq v9 w' => ∃ (x9 : Int) (vl' vb' : Value) (b : List Int), v9 = .int .i64 x9 ∧ Aside0 (fetch_Apart.l0 kq n st all used l b x9 = some b2) ∧ Aside0 (kq ≤ k) ∧ Aside0 (ApS B Bq n A cp st Aa ca all w' vl' vb' l b) ∧ Aside0 (Below B w w'))
  case atStart => exact ⟨_, _, _, _, rfl, H', ⟨Nat.le_refl _⟩, HS, HB⟩
  case round =>
   clear H' HS HB
   obtain ⟨x9, vl', vb', b, rfl, HA, HK1, HS, HB⟩ := hrel
   cases gk with
   | zero => exact absurd HA.out (by simp [fetch_Apart.l0])
   | succ k1 =>
    have H := HA.out
    clear HA
    simp only [fetch_Apart.l0] at H
    have hsz := HS.out.size
    have f1 : wr.cell? ⟨B, 0, none⟩ = some (.slice Aa all.length ca) := (blk_cell HS.out.ba 0).trans rfl
    by_cases c6 : x9 < (all.length : Int)
    ·rw [if_pos c6] at H
     have c6b0 : decide (x9 < (all.length : Int)) = true := decide_eq_true c6
     by_cases c7 : 0 ≤ x9
     ·rw [if_pos c7] at H
      obtain ⟨t, ht, H⟩ := Option.bind_eq_some_iff.mp H
      have A7 := Aside0.mk ht
      obtain ⟨ad, e1, hx⟩ := Kd.at_int (Kd.R_reads' HS.out.ra).2.2 x9 c7 c6
      cases e1
      have c7b := eq_true c7
      have c6b := eq_true c6
      have f2 : wr.cell? ⟨Bq, 0, none⟩ = some (.int .i64 n) := (blk_cell HS.out.bq 0).trans rfl
      have f3 : wr.cell? ⟨Bq, 1, none⟩ = some (.slice A st.length cp) := (blk_cell HS.out.bq 1).trans rfl
      by_cases c9 : Go.bits .and .i64 t used = 0
      ·rw [if_pos c9] at H
       have c9b : (Go.bits .and .i64 t used == 0) = true := by rw [c9]; rfl
       by_cases c10 : l.length < 17592186044415
       ·rw [if_pos c10] at H
        obtain ⟨y, hy, H⟩ := Option.bind_eq_some_iff.mp H
        obtain ⟨l5, hl5⟩ : ∃ l5, l5 = l ++ [rd all x9] := ⟨_, rfl⟩
        rw [← hl5] at hy
        have HL5 := Aside0.mk hl5
        have A8 := Aside0.mk hy
        have L10 := Aside0.mk c10
        have H' := Aside0.mk H
        clear ht c7 c6 c9 c10 hy hl5 H
        go_wp2_with fail
        go_region_held3 (fun w' => w'.cell? ⟨B, 0, none⟩ = some (.slice (some ad) all.length ca) ∧ w'.cell? ⟨Bq, 0, none⟩ = some (.int .i64 n) ∧ w'.cell? ⟨Bq, 1, none⟩ = some (.slice A st.length cp) ∧ w'.cell? (ad.add x9.toNat) = some (.int .i64 (rd all x9))) (go_keep)
         (first | (go_at_call 48; refine (fetch_quarter_crossing.calls k1 n A cp st (rd all x9) t _ (by repeat (first | exact Kd.F_now HS.out.rs | apply Kd.C_drew | apply Kd.C_drewN)) HS.out.cs A7.out).mono ?_; rintro e w2 ⟨rfl, hb0⟩; have hb := below_step (below_drew (Below.refl _ _)) hb0; have HS2 := Aside0.mk (HS.out.below hb); have HB2 := Aside0.mk (HB.out.trans (hb.mono (Nat.le_trans (Nat.le_add_right B 4) hsz))); have hx2 := pw_cell_below hb hx; have g1 : w2.cell? ⟨B, 0, none⟩ = some (.slice (some ad) all.length ca) := (blk_cell HS2.out.ba 0).trans rfl; have g2 : w2.cell? ⟨Bq, 0, none⟩ = some (.int .i64 n) := (blk_cell HS2.out.bq 0).trans rfl; have g3 : w2.cell? ⟨Bq, 1, none⟩ = some (.slice A st.length cp) := (blk_cell HS2.out.bq 1).trans rfl; clear hb hb0))
        clear hx f1 f2 f3 HS HB
        obtain ⟨Al, cl, rfl⟩ := Kd.R_slice HS2.out.rl
        have g4 : w2.cell? ⟨B + 2, 0, none⟩ = some (.slice Al l.length cl) := (blk_cell HS2.out.bl 0).trans rfl
        have g5 := blk_frozen HS2.out.bl 0
        go_wp2_with fail
        have hw0 : Below w2.heap.size w2 (w2.alloc (.cells #[.int .i64 (rd all x9)] 3)).drew := below_drew (below_alloc (Below.refl _ _) _)
        have HSW := Aside0.mk (HS2.out.below hw0)
        have hx3 := pw_cell_below hw0 hx2
        have HB3 := Aside0.mk (HB2.out.trans (hw0.mono (Nat.le_trans (Nat.le_add_right B 4) HS2.out.size)))
        have k1' : (w2.alloc (.cells #[.int .i64 (rd all x9)] 3)).drew.cell? ⟨B, 0, none⟩ = some (.slice (some ad) all.length ca) := (blk_cell HSW.out.ba 0).trans rfl
        have k4' : (w2.alloc (.cells #[.int .i64 (rd all x9)] 3)).drew.cell? ⟨B + 2, 0, none⟩ = some (.slice Al l.length cl) := (blk_cell HSW.out.bl 0).trans rfl
        clear hw0
        go_region_law (first | (refine step_append_int rfl (.tmp 35) (.tmp 40) 23 3 rfl Try.underlying23 info3 (.slice Al l.length cl) l (rd all x9) _ (B + 4) _ rfl rfl (by simp) HSW.out.rl HSW.out.size (by have := L10.out; omega) (by intro he; have := Kd.R_lt HSW.out.rb _ he.symm; omega) ?_; intro v1 w3 ho hg hat; rw [← HL5.out] at ho; obtain ⟨Av, cv, rfl⟩ := Kd.R_slice ho; have HS4 := Aside0.mk (HSW.out.grown hg ho hat); have hlo : ∀ k, (Value.slice Al l.length cl).ownBlock = some k → B + 4 ≤ k := Kd.R_base HSW.out.rl; have g6 := blk_frozen (blk_grown HSW.out.bl hg (fun he => by have := hlo _ he.symm; omega)) 0; have g7 : w3.cell? ⟨B + 2, 0, none⟩ = some (.slice Al l.length cl) := (blk_cell (blk_grown HSW.out.bl hg (fun he => by have := hlo _ he.symm; omega)) 0).trans rfl; have HB4 := Aside0.mk ((HB3.out.grown hg (Nat.le_trans (Nat.le_add_right B 4) HSW.out.size) (fun k he => Nat.le_trans (Nat.le_add_right B 4) (hlo k he))).setCell (p := ⟨B + 2, 0, none⟩) (by simp) (.slice Av l5.length cv)); clear ho hg hat hlo))
        all_goals
         generalize w3.setCell ⟨B + 2, 0, none⟩ (.slice Av l5.length cv) = w4 at HS4 HB4 ⊢
         have g8 : w4.cell? ⟨B + 3, 0, none⟩ = some (.func (.func 46) #[] #[.pointer (some ⟨B + 2, 0, none⟩), .pointer (some ⟨B + 1, 0, none⟩), .pointer (some ⟨B, 0, none⟩), .pointer (some ⟨Bq, 0, none⟩), .pointer (some ⟨B + 3, 0, none⟩)]) := (blk_cell HS4.out.bo 0).trans rfl
         clear g1 g2 g3 g4 g5 g6 g7 k1' k4' hx3 hx2
         go_wp2_with fail
         refine (IH.out k1 (by have := HK1.out; omega) B Bq n A cp st (some ad) ca all _ _ _ _ l5 b y _ HS4.out A8.out).mono ?_
         rintro e w5 ⟨vl5, vb5, rfl, hS5, hb5⟩
         obtain ⟨A5, c5, rfl⟩ := Kd.R_slice hS5.rl
         have HS5 := Aside0.mk hS5
         have HB5 := Aside0.mk (HB4.out.trans hb5)
         have m1 : w5.cell? ⟨B + 2, 0, none⟩ = some (.slice A5 l5.length c5) := (blk_cell hS5.bl 0).trans rfl
         have m2 := blk_frozen hS5.bl 0
         have m3 : 1 ≤ l5.length := by rw [HL5.out]; simp
         have m4 := (Kd.R_reads' hS5.rl).2.1
         have m5 := (Kd.R_reads' hS5.rl).2.2.2.1
         clear hS5 hb5 g8
         go_wp2
         go_roundg k1
         case measure => have := HK1.out; omega
         case rel => exact ⟨_, _, _, _, rfl, H', ⟨by have := HK1.out; omega⟩, ⟨HS5.out.pop HL5.out⟩, ⟨HB5.out.setCell (p := ⟨B + 2, 0, none⟩) (by simp) _⟩⟩
       ·rw [if_neg c10] at H
        exact absurd H (by simp)
      ·rw [if_neg c9] at H
       have c9b : (Go.bits .and .i64 t used == 0) = false := by rw [beq_eq_false_iff_ne]; exact c9
       have H' := Aside0.mk H
       clear ht H c7 c6 c9
       go_wp2_with fail
       go_region_held3 (fun w' => w'.cell? ⟨B, 0, none⟩ = some (.slice (some ad) all.length ca) ∧ w'.cell? ⟨Bq, 0, none⟩ = some (.int .i64 n) ∧ w'.cell? ⟨Bq, 1, none⟩ = some (.slice A st.length cp) ∧ w'.cell? (ad.add x9.toNat) = some (.int .i64 (rd all x9))) (go_keep)
        (first | (go_at_call 48; refine (fetch_quarter_crossing.calls k1 n A cp st (rd all x9) t _ (by repeat (first | exact Kd.F_now HS.out.rs | apply Kd.C_drew | apply Kd.C_drewN)) HS.out.cs A7.out).mono ?_; rintro e w2 ⟨rfl, hb0⟩; have hb := below_step (below_drew (Below.refl _ _)) hb0; have HS2 := Aside0.mk (HS.out.below hb); have HB2 := Aside0.mk (HB.out.trans (hb.mono (Nat.le_trans (Nat.le_add_right B 4) hsz))); have hx2 := pw_cell_below hb hx; have g1 : w2.cell? ⟨B, 0, none⟩ = some (.slice (some ad) all.length ca) := (blk_cell HS2.out.ba 0).trans rfl; have g2 : w2.cell? ⟨Bq, 0, none⟩ = some (.int .i64 n) := (blk_cell HS2.out.bq 0).trans rfl; have g3 : w2.cell? ⟨Bq, 1, none⟩ = some (.slice A st.length cp) := (blk_cell HS2.out.bq 1).trans rfl; clear hb hb0))
       clear hx f1 f2 f3 HS HB
       go_wp2
       go_roundg k1
       case measure => have := HK1.out; omega
       case rel => exact ⟨_, _, _, _, rfl, H', ⟨by have := HK1.out; omega⟩, HS2, HB2⟩
     ·rw [if_neg c7] at H
      exact absurd H (by simp)
    ·rw [if_neg c6] at H
     have c6b0 : decide (x9 < (all.length : Int)) = false := decide_eq_false c6
     obtain rfl := Option.some.inj H
     clear H c6
     go_wp2
     go_end0
     exact ⟨_, _, rfl, HS.out, HB.out⟩
def fetch_Apart.f (k : Nat) (a0 : Int) (l1 : List S34) : Option (List Int × Int) := (fetch_read.f k a0 l1).bind fun q => if q.2.2 = 0 then ((fetch_quarter_cuts.f k q.1 q.2.1).bind fun all => (fetch_Apart.on k q.1 q.2.1 all 0 0 [] []).bind fun b => some (b, 0)) else some ([], q.2.2)
theorem fetch_Apart.calls (k : Nat) (a0 : Int) (A1 : Option Addr) (c1 : Nat) (l1 : List (S34)) (r1 : List Int) (r2 : Int) (w : World) (hr1 : Kd.C k34 w A1 l1.length l1) (hc1 : l1.length ≤ c1) (h : fetch_Apart.f k a0 l1 = some (r1, r2)) :
  Calls Try.prog 18 #[.int .i64 a0, .slice A1 l1.length c1] w fun e w' => ∃ v0_ : Value, e = .returned (.tuple #[v0_, .int .i64 r2]) ∧ Kd.R (Kd.int .i64) 3 w' w.heap.size (fun _ => True) v0_ r1 ∧ Below w.heap.size w w' := by
 have hmf : ∀ (fn : Fn) (first cap : Array Value) (w : World), (Instr.makeFunc fn first cap).run Try.prog w = .ok (.func fn first cap) w := fun _ _ _ _ => rfl
 have hu58 := Try.underlying58
 obtain ⟨⟨n, st, er⟩, hq, h⟩ := Option.bind_eq_some_iff.mp h
 have HQ := Aside0.mk hq
 have HV := Aside0.mk (show Kd.V k34 34 w w.heap.size (fun k_ => k_ < w.heap.size) (.slice A1 l1.length c1) l1 from ⟨A1, c1, rfl, hc1, Kd.C_F k34_heap hr1⟩)
 clear hq hr1
 by_cases he : er = 0
 ·rw [if_pos he] at h
  obtain ⟨all, ha, h⟩ := Option.bind_eq_some_iff.mp h
  obtain ⟨b, hb, h⟩ := Option.bind_eq_some_iff.mp h
  simp only [Option.some.injEq, Prod.mk.injEq] at h
  obtain ⟨rfl, rfl⟩ := h
  have HA := Aside0.mk ha
  have HO := Aside0.mk hb
  have e0 : (er != 0) = false := by rw [he]; rfl
  have e0' : (er == 0) = true := by rw [he]; rfl
  clear ha hb he
  go_enter Try.func18, Try.ntmps18
  go_wp2_with fail
  refine (fetch_read.calls k a0 (fun k_ => k_ < w.heap.size) A1 c1 l1 n st er _ HV.out HQ.out).mono ?_
  rintro e w1 ⟨v1, rfl, hv, hb1⟩
  obtain ⟨A, cp, rfl⟩ := Kd.V_slice hv
  have HV1 := Aside0.mk hv
  have HB1 := Aside0.mk hb1
  clear hv hb1
  go_wp2_with fail
  have k1 := blk_new w1 (.cells #[.int .i64 n, .slice A st.length cp] 58)
  refine (fetch_quarter_cuts.calls k n A cp st all (w1.alloc (.cells #[.int .i64 n, .slice A st.length cp] 58)) (Kd.V_reads' (Kd.V_alloc HV1.out _)).2.2 (Kd.V_reads' HV1.out).2.1 HA.out).mono ?_
  rintro e w2 ⟨v2, rfl, ho, hb2⟩
  obtain ⟨Aa, ca, rfl⟩ := Kd.R_slice ho
  have k2 := blk_below k1 hb2
  have HV2 := Aside0.mk (Kd.V_bound (Kd.V_below (Kd.V_alloc HV1.out _) hb2))
  have HR2 := Aside0.mk (Kd.R_mono (Kd.R_bound (Kd.R_lower ho (Nat.zero_le _))) (ok' := fun k_ => k_ < w2.heap.size) (fun k_ hk => hk.2.2.1))
  have HB2 := Aside0.mk (below_step (below_alloc HB1.out _) hb2)
  have hq2 := blk_lt k2
  obtain ⟨Bq, hBq⟩ : ∃ Bq, Bq = w1.heap.size := ⟨_, rfl⟩
  rw [← hBq] at k2 hq2 ⊢
  have HK2 := Aside0.mk k2
  clear ho hb2 k1 k2 hBq HB1 HV1
  go_wp2_with fail
  have hn1 := blk_new w2 (.cells #[.slice Aa all.length ca] 23)
  have hn2 := blk_new (w2.alloc (.cells #[.slice Aa all.length ca] 23)) (.cells #[.slice none 0 0] 23)
  have hn3 := blk_new ((w2.alloc (.cells #[.slice Aa all.length ca] 23)).alloc (.cells #[.slice none 0 0] 23)) (.cells #[.slice none 0 0] 23)
  have hn4 := blk_new (((w2.alloc (.cells #[.slice Aa all.length ca] 23)).alloc (.cells #[.slice none 0 0] 23)).alloc (.cells #[.slice none 0 0] 23)) (.cells #[.func (.func 46) #[] #[.pointer (some ⟨w2.heap.size + 2, 0, none⟩), .pointer (some ⟨w2.heap.size + 1, 0, none⟩), .pointer (some ⟨w2.heap.size, 0, none⟩), .pointer (some ⟨Bq, 0, none⟩), .pointer (some ⟨w2.heap.size + 3, 0, none⟩)]] 62)
  simp only [World.size_alloc] at hn2 hn3 hn4
  refine (fetch_Apart_on.calls k w2.heap.size Bq n A cp st Aa ca all 0 0 (.slice none 0 0) (.slice none 0 0) [] [] b _ ⟨blk_alloc (blk_alloc (blk_alloc hn1 _) _) _, Kd.R_alloc (Kd.R_alloc (Kd.R_alloc (Kd.R_alloc HR2.out _) _) _) _, blk_alloc (blk_alloc hn2 _) _, Kd.R_nil _ _ _ _ _, blk_alloc hn3 _, Kd.R_nil _ _ _ _ _, hn4, blk_alloc (blk_alloc (blk_alloc (blk_alloc HK2.out _) _) _) _, hq2, Kd.F_alloc (Kd.F_alloc (Kd.F_alloc (Kd.F_alloc (Kd.F_mono (Kd.V_F HV2.out) (fun _ hk => hk.2)) _) _) _) _, (Kd.V_reads' HV2.out).2.1⟩ HO.out).mono ?_
  rintro e w3 ⟨vl, vb, rfl, hS, hb3⟩
  clear hn1 hn2 hn3 hn4
  obtain ⟨Ab, cb, rfl⟩ := Kd.R_slice hS.rb
  have f1 : w3.cell? ⟨w2.heap.size + 1, 0, none⟩ = some (.slice Ab b.length cb) := (blk_cell hS.bb 0).trans rfl
  have HR3 := Aside0.mk (Kd.R_mono (Kd.R_lower hS.rb (Nat.le_trans HB2.out.size (Nat.le_add_right _ 4))) (ok' := fun _ => True) (fun _ _ => trivial))
  have HB3 := Aside0.mk ((below_alloc (below_alloc (below_alloc (below_alloc HB2.out _) _) _) _).trans (hb3.mono HB2.out.size))
  clear hb3 hS
  go_wp2
  repeat (go_quiet (fail); try go_wp2)
  go_ret2
  exact ⟨_, rfl, HR3.out, HB3.out⟩
 ·rw [if_neg he] at h
  simp only [Option.some.injEq, Prod.mk.injEq] at h
  obtain ⟨rfl, rfl⟩ := h
  have e0 : (er != 0) = true := by rw [bne_iff_ne]; exact he
  have e0' : (er == 0) = false := by rw [beq_eq_false_iff_ne]; exact he
  clear he
  go_enter Try.func18, Try.ntmps18
  go_wp2_with fail
  refine (fetch_read.calls k a0 (fun k_ => k_ < w.heap.size) A1 c1 l1 n st er _ HV.out HQ.out).mono ?_
  rintro e w1 ⟨v1, rfl, hv, hb1⟩
  obtain ⟨A, cp, rfl⟩ := Kd.V_slice hv
  have HB1 := Aside0.mk hb1
  clear hv hb1
  go_wp2
  go_ret2
  exact ⟨_, rfl, Kd.R_nil _ _ _ _ _, below_alloc HB1.out _⟩
theorem fetch_Apart.mono_l : ∀ k, (∀ y0 y1 y2 y3 y4 y5 y6, LeO (fetch_Apart.on k y0 y1 y2 y3 y4 y5 y6) (fetch_Apart.on (k + 1) y0 y1 y2 y3 y4 y5 y6)) ∧ (∀ y0 y1 y2 y3 y4 y5 y6, LeO (fetch_Apart.l0 k y0 y1 y2 y3 y4 y5 y6) (fetch_Apart.l0 (k + 1) y0 y1 y2 y3 y4 y5 y6))
 | 0 => ⟨fun _ _ _ _ _ _ _ r h => by simp [fetch_Apart.on] at h, fun _ _ _ _ _ _ _ r h => by simp [fetch_Apart.l0] at h⟩
 | k + 1 => by
  obtain ⟨ih0, ih1⟩ := fetch_Apart.mono_l k
  refine ⟨?_, ?_⟩
  ·intro y0 y1 y2 y3 y4 y5 y6
   unfold fetch_Apart.on
   repeat' first
   | (with_reducible exact ih0 _ _ _ _ _ _ _)
   | (with_reducible exact ih1 _ _ _ _ _ _ _)
   | (with_reducible exact fetch_list.mono _ _)
   | (with_reducible exact slices_Compare_int_int.mono _ _ _)
   | (with_reducible exact fetch_quarter_crossing.mono _ _ _ _)
   | (with_reducible exact fetch_quarter_cuts.mono _ _ _)
   | (with_reducible exact fetch_read.mono _ _ _)
   | (with_reducible exact LeO.refl _)
   | (with_reducible exact LeO.none _)
   | (with_reducible refine LeO.ite ?_ ?_)
   | (with_reducible refine LeO.bind ?_ (fun _ => ?_))
   | exact ih0 _ _ _ _ _ _ _
   | exact ih1 _ _ _ _ _ _ _
   | exact fetch_list.mono _ _
   | exact slices_Compare_int_int.mono _ _ _
   | exact fetch_quarter_crossing.mono _ _ _ _
   | exact fetch_quarter_cuts.mono _ _ _
   | exact fetch_read.mono _ _ _
   | exact LeO.none _
   | refine LeO.ite ?_ ?_
   | refine LeO.bind ?_ (fun _ => ?_)
  ·intro y0 y1 y2 y3 y4 y5 y6
   unfold fetch_Apart.l0
   repeat' first
   | (with_reducible exact ih0 _ _ _ _ _ _ _)
   | (with_reducible exact ih1 _ _ _ _ _ _ _)
   | (with_reducible exact fetch_list.mono _ _)
   | (with_reducible exact slices_Compare_int_int.mono _ _ _)
   | (with_reducible exact fetch_quarter_crossing.mono _ _ _ _)
   | (with_reducible exact fetch_quarter_cuts.mono _ _ _)
   | (with_reducible exact fetch_read.mono _ _ _)
   | (with_reducible exact LeO.refl _)
   | (with_reducible exact LeO.none _)
   | (with_reducible refine LeO.ite ?_ ?_)
   | (with_reducible refine LeO.bind ?_ (fun _ => ?_))
   | exact ih0 _ _ _ _ _ _ _
   | exact ih1 _ _ _ _ _ _ _
   | exact fetch_list.mono _ _
   | exact slices_Compare_int_int.mono _ _ _
   | exact fetch_quarter_crossing.mono _ _ _ _
   | exact fetch_quarter_cuts.mono _ _ _
   | exact fetch_read.mono _ _ _
   | exact LeO.none _
   | refine LeO.ite ?_ ?_
   | refine LeO.bind ?_ (fun _ => ?_)
theorem fetch_Apart.mono : ∀ a0 a1 k, LeO (fetch_Apart.f k a0 a1) (fetch_Apart.f (k + 1) a0 a1) := by
 intro a0 a1 k
 obtain ⟨ih0, ih1⟩ := fetch_Apart.mono_l k
 unfold fetch_Apart.f
 repeat' first
   | (with_reducible exact ih0 _ _ _ _ _ _ _)
   | (with_reducible exact ih1 _ _ _ _ _ _ _)
   | (with_reducible exact fetch_list.mono _ _)
   | (with_reducible exact slices_Compare_int_int.mono _ _ _)
   | (with_reducible exact fetch_quarter_crossing.mono _ _ _ _)
   | (with_reducible exact fetch_quarter_cuts.mono _ _ _)
   | (with_reducible exact fetch_read.mono _ _ _)
   | (with_reducible exact LeO.refl _)
   | (with_reducible exact LeO.none _)
   | (with_reducible refine LeO.ite ?_ ?_)
   | (with_reducible refine LeO.bind ?_ (fun _ => ?_))
   | exact ih0 _ _ _ _ _ _ _
   | exact ih1 _ _ _ _ _ _ _
   | exact fetch_list.mono _ _
   | exact slices_Compare_int_int.mono _ _ _
   | exact fetch_quarter_crossing.mono _ _ _ _
   | exact fetch_quarter_cuts.mono _ _ _
   | exact fetch_read.mono _ _ _
   | exact LeO.none _
   | refine LeO.ite ?_ ?_
   | refine LeO.bind ?_ (fun _ => ?_)
def trishawlaw09_same.l0 : Nat → List Int → List Int → Int → Option (Bool)
 | 0, _, _, _ => none
 | k + 1, x0, x1, x5 => if x5 < (x0.length : Int) then (if 0 ≤ x5 then (if x5 < (x1.length : Int) then (if (rd x0 x5) = (rd x1 x5) then (trishawlaw09_same.l0 k x0 x1 (wrap64 (x5 + 1))) else (some false)) else (none)) else (none)) else (some true)
def trishawlaw09_same.f (k : Nat) (l0 : List Int) (l1 : List Int) : Option (Bool) := if (l0.length : Int) = (l1.length : Int) then (trishawlaw09_same.l0 k l0 l1 0) else (some false)
theorem trishawlaw09_same.mono_l : ∀ k, (∀ y0 y1 y2, LeO (trishawlaw09_same.l0 k y0 y1 y2) (trishawlaw09_same.l0 (k + 1) y0 y1 y2))
 | 0 => fun _ _ _ r h => by simp [trishawlaw09_same.l0] at h
 | k + 1 => by
  have ih0 := trishawlaw09_same.mono_l k
  ·intro y0 y1 y2
   unfold trishawlaw09_same.l0
   repeat' first
   | (with_reducible exact ih0 _ _ _)
   | (with_reducible exact LeO.refl _)
   | (with_reducible exact LeO.none _)
   | (with_reducible refine LeO.ite ?_ ?_)
   | (with_reducible refine LeO.bind ?_ (fun _ => ?_))
   | exact ih0 _ _ _
   | exact LeO.none _
   | refine LeO.ite ?_ ?_
   | refine LeO.bind ?_ (fun _ => ?_)
theorem trishawlaw09_same.mono : ∀ a0 a1 k, LeO (trishawlaw09_same.f k a0 a1) (trishawlaw09_same.f (k + 1) a0 a1) := by
 intro a0 a1 k
 have ih0 := trishawlaw09_same.mono_l k
 unfold trishawlaw09_same.f
 repeat' first
   | (with_reducible exact ih0 _ _ _)
   | (with_reducible exact LeO.refl _)
   | (with_reducible exact LeO.none _)
   | (with_reducible refine LeO.ite ?_ ?_)
   | (with_reducible refine LeO.bind ?_ (fun _ => ?_))
   | exact ih0 _ _ _
   | exact LeO.none _
   | refine LeO.ite ?_ ?_
   | refine LeO.bind ?_ (fun _ => ?_)
set_option maxHeartbeats 8000000 in
set_option maxRecDepth 100000 in
theorem trishawlaw09_same.calls (k : Nat) (A0 : Option Addr) (c0 : Nat) (l0 : List Int) (A1 : Option Addr) (c1 : Nat) (l1 : List Int) (r : Bool) (w : World) (hr0 : Kd.C (Kd.int .i64) w A0 l0.length l0) (hc0 : l0.length ≤ c0) (hr1 : Kd.C (Kd.int .i64) w A1 l1.length l1) (hc1 : l1.length ≤ c1) (h : trishawlaw09_same.f k l0 l1 = some r) :
  Calls Try.prog 20 #[.slice A0 l0.length c0, .slice A1 l1.length c1] w fun e w' => e = .returned (.bool r) ∧ Drawn0 w w' := by
 have HR0 := Aside0.mk hr0
 have HC0 := Aside0.mk hc0
 clear hr0 hc0
 have HR1 := Aside0.mk hr1
 have HC1 := Aside0.mk hc1
 clear hr1 hc1
 have H : (if (l0.length : Int) = (l1.length : Int) then (trishawlaw09_same.l0 k l0 l1 0) else (some false)) = some r := h
 clear h
 by_cases c3 : (l0.length : Int) = (l1.length : Int)
 ·rw [if_pos c3] at H
  have c3b0 : ((l0.length : Int) == (l1.length : Int)) = true := beq_iff_eq.mpr c3
  have c3b1 : ((l0.length : Int) != (l1.length : Int)) = false := bne_eq_false_iff_eq.mpr c3
  have c3b2 : (l0.length == l1.length) = true := by first | simpa using c3 | (simp at c3 ⊢; omega)
  clear c3
  have H' := Aside0.mk H
  clear H
  go_enter Try.func20, Try.ntmps20
  go_wp2
  repeat (go_quiet (fail); try go_wp2)
  go_loopg [5] k (fun kq v5 w' => ∃ (x5_1 : Int), v5 = .int .i64 x5_1 ∧ Aside0 (trishawlaw09_same.l0 kq l0 l1 x5_1 = some r) ∧ Aside0 (kq ≤ k) ∧ Drawn0 w w')
  case atStart => exact ⟨(0), (by first | rfl | (simp; done) | (simp [*]; done)), H', ⟨Nat.le_refl _⟩, by repeat (first | exact Drawn0.refl _ | apply Drawn0.step)⟩
  case round =>
   clear H'
   try clear c1
   try clear c2
   try clear p2
   try clear c3
   try clear c3b0
   try clear c3b1
   try clear c3b2
   obtain ⟨x5_1, rfl, HA, HK1, ⟨m1, rfl⟩⟩ := hrel
   cases gk with
   | zero => exact absurd HA.out (by simp [trishawlaw09_same.l0])
   | succ k1 =>
    have H := HA.out
    clear HA
    simp only [trishawlaw09_same.l0] at H
    by_cases c4 : x5_1 < (l0.length : Int)
    ·rw [if_pos c4] at H
     have c4b0 : decide (x5_1 < (l0.length : Int)) = true := decide_eq_true c4
     clear c4
     by_cases c5 : 0 ≤ x5_1
     ·rw [if_pos c5] at H
      have c5b0 : decide (0 ≤ x5_1) = true := decide_eq_true c5
      clear c5
      by_cases c6 : x5_1 < (l1.length : Int)
      ·rw [if_pos c6] at H
       have c6b0 : decide (x5_1 < (l1.length : Int)) = true := decide_eq_true c6
       clear c6
       by_cases c7 : (rd l0 x5_1) = (rd l1 x5_1)
       ·rw [if_pos c7] at H
        have c7b0 : ((rd l0 x5_1) == (rd l1 x5_1)) = true := beq_iff_eq.mpr c7
        have c7b1 : ((rd l0 x5_1) != (rd l1 x5_1)) = false := bne_eq_false_iff_eq.mpr c7
        clear c7
        have H' := Aside0.mk H
        clear H
        have p155 : 0 ≤ (x5_1 : Int) := of_decide_eq_true (by first | (with_reducible assumption) | assumption)
        have q155 : x5_1 < (l0.length : Int) := of_decide_eq_true (by first | (with_reducible assumption) | assumption)
        obtain ⟨ad155, e155, hx155_0⟩ := Kd.at_int HR0.out x5_1 p155 q155
        cases e155
        replace p155 := eq_true p155
        replace q155 := eq_true q155
        have p156 : 0 ≤ (x5_1 : Int) := of_decide_eq_true (by first | (with_reducible assumption) | assumption)
        have q156 : x5_1 < (l1.length : Int) := of_decide_eq_true (by first | (with_reducible assumption) | assumption)
        obtain ⟨ad156, e156, hx156_0⟩ := Kd.at_int HR1.out x5_1 p156 q156
        cases e156
        replace p156 := eq_true p156
        replace q156 := eq_true q156
        go_wp2
        repeat (go_quiet (fail); try go_wp2)
        go_roundg k1
        case measure => have := HK1.out; omega
        case rel => exact ⟨(wrap64 (x5_1 + 1)), (by first | rfl | (simp; done) | (simp [*]; done)), H', ⟨by have := HK1.out; omega⟩, by repeat (first | exact Drawn0.refl _ | apply Drawn0.step)⟩
       ·rw [if_neg c7] at H
        have c7b0 : ((rd l0 x5_1) == (rd l1 x5_1)) = false := beq_eq_false_iff_ne.mpr c7
        have c7b1 : ((rd l0 x5_1) != (rd l1 x5_1)) = true := bne_iff_ne.mpr c7
        obtain rfl := Option.some.inj H
        have p155 : 0 ≤ (x5_1 : Int) := of_decide_eq_true (by first | (with_reducible assumption) | assumption)
        have q155 : x5_1 < (l0.length : Int) := of_decide_eq_true (by first | (with_reducible assumption) | assumption)
        obtain ⟨ad155, e155, hx155_0⟩ := Kd.at_int HR0.out x5_1 p155 q155
        cases e155
        replace p155 := eq_true p155
        replace q155 := eq_true q155
        have p156 : 0 ≤ (x5_1 : Int) := of_decide_eq_true (by first | (with_reducible assumption) | assumption)
        have q156 : x5_1 < (l1.length : Int) := of_decide_eq_true (by first | (with_reducible assumption) | assumption)
        obtain ⟨ad156, e156, hx156_0⟩ := Kd.at_int HR1.out x5_1 p156 q156
        cases e156
        replace p156 := eq_true p156
        replace q156 := eq_true q156
        go_wp2
        repeat (go_quiet (fail); try go_wp2)
        go_ret
        exact ⟨by first | rfl | (simp; done) | (simp [*]; done), by repeat (first | exact Drawn0.refl _ | apply Drawn0.step)⟩
      ·rw [if_neg c6] at H
       exact absurd H (by simp)
     ·rw [if_neg c5] at H
      exact absurd H (by simp)
    ·rw [if_neg c4] at H
     have c4b0 : decide (x5_1 < (l0.length : Int)) = false := decide_eq_false c4
     clear c4
     obtain rfl := Option.some.inj H
     go_wp2
     repeat (go_quiet (fail); try go_wp2)
     go_ret
     exact ⟨by first | rfl | (simp; done) | (simp [*]; done), by repeat (first | exact Drawn0.refl _ | apply Drawn0.step)⟩
 ·rw [if_neg c3] at H
  have c3b0 : ((l0.length : Int) == (l1.length : Int)) = false := beq_eq_false_iff_ne.mpr c3
  have c3b1 : ((l0.length : Int) != (l1.length : Int)) = true := bne_iff_ne.mpr c3
  have c3b2 : (l0.length == l1.length) = false := by first | simpa using c3 | (simp at c3 ⊢; omega)
  obtain rfl := Option.some.inj H
  go_enter Try.func20, Try.ntmps20
  go_wp2
  repeat (go_quiet (fail); try go_wp2)
  go_ret
  exact ⟨by first | rfl | (simp; done) | (simp [*]; done), by repeat (first | exact Drawn0.refl _ | apply Drawn0.step)⟩
def fetch_Cuts.f (k : Nat) (a0 : Int) (l1 : List (S34)) : Option (List Int × Int) := (fetch_read.f k a0 l1).bind fun bt157 => (if bt157.2.2 = 0 then ((fetch_quarter_cuts.f k bt157.1 bt157.2.1).bind fun t163 => (some (t163, 0))) else (some (([] : List Int), bt157.2.2)))
theorem fetch_Cuts.mono : ∀ a0 a1 k, LeO (fetch_Cuts.f k a0 a1) (fetch_Cuts.f (k + 1) a0 a1) := by
 intro a0 a1 k
 unfold fetch_Cuts.f
 repeat' first
   | (with_reducible exact fetch_quarter_cuts.mono _ _ _)
   | (with_reducible exact fetch_read.mono _ _ _)
   | (with_reducible exact LeO.refl _)
   | (with_reducible exact LeO.none _)
   | (with_reducible refine LeO.ite ?_ ?_)
   | (with_reducible refine LeO.bind ?_ (fun _ => ?_))
   | exact fetch_quarter_cuts.mono _ _ _
   | exact fetch_read.mono _ _ _
   | exact LeO.none _
   | refine LeO.ite ?_ ?_
   | refine LeO.bind ?_ (fun _ => ?_)
set_option maxHeartbeats 8000000 in
set_option maxRecDepth 100000 in
theorem fetch_Cuts.calls (k : Nat) (a0 : Int) (A1 : Option Addr) (c1 : Nat) (l1 : List (S34)) (r1 : List Int) (r2 : Int) (w : World) (hr1 : Kd.C k34 w A1 l1.length l1) (hc1 : l1.length ≤ c1) (h : fetch_Cuts.f k a0 l1 = some (r1, r2)) :
  Calls Try.prog 22 #[.int .i64 a0, .slice A1 l1.length c1] w fun e w' => ∃ v0_ : Value, e = .returned (.tuple #[v0_, .int .i64 r2]) ∧ Kd.R (Kd.int .i64) 3 w' w.heap.size (fun _ => True) v0_ r1 ∧ Below w.heap.size w w' := by
 have hu58 := Try.underlying58
 have HR1 := Aside0.mk hr1
 have HC1 := Aside0.mk hc1
 clear hr1 hc1
 have HB := Aside0.mk (Below.refl w.heap.size w)
 have H : ((fetch_read.f k a0 l1).bind fun bt157 => (if bt157.2.2 = 0 then ((fetch_quarter_cuts.f k bt157.1 bt157.2.1).bind fun t163 => (some (t163, 0))) else (some (([] : List Int), bt157.2.2)))) = some (r1, r2) := h
 clear h
 replace H := Option.bind_eq_some_iff.mp H
 obtain ⟨⟨t157, t158, t161⟩, A30, H⟩ := H
 replace H : (if t161 = 0 then ((fetch_quarter_cuts.f k t157 t158).bind fun t163 => (some (t163, 0))) else (some (([] : List Int), t161))) = some (r1, r2) := H
 have A3 := Aside0.mk A30
 clear A30
 by_cases c4 : t161 = 0
 ·rw [if_pos c4] at H
  have c4b0 : (t161 == 0) = true := beq_iff_eq.mpr c4
  have c4b1 : (t161 != 0) = false := bne_eq_false_iff_eq.mpr c4
  clear c4
  replace H := Option.bind_eq_some_iff.mp H
  obtain ⟨t163, A50, H⟩ := H
  replace H : (some (t163, 0)) = some (r1, r2) := H
  have A5 := Aside0.mk A50
  clear A50
  simp only [Option.some.injEq, Prod.mk.injEq] at H
  obtain ⟨rfl, rfl⟩ := H
  go_enter Try.func22, Try.ntmps22
  go_wp2_with (first | ((with_reducible refine gate_callee (f := 44) rfl ?_); refine goesL_ (some 11) rfl rfl Try.func44 (by kernel_rfl) rfl #[.int .i64 a0, .slice A1 l1.length c1] rfl (by (try simp only [List.map_toArray, List.map_cons, List.map_nil]); first | done | rfl | (simp only [List.length_drop, List.length_take]; rfl)) ?_; (with_reducible refine (fetch_read.calls k a0 (fun k_ => k_ < w.heap.size) _ _ l1 t157 t158 t161 _ ?side1 A3.out).mono ?_); (case side1 => exact Kd.V_mk HC1.out (Kd.F_below (Kd.C_F k34_heap HR1.out) (by repeat (first | (with_reducible first | exact HB.out | apply below_alloc | apply pw_below_drewN | apply below_drew1) | exact HB.out)))); rintro e w6 ⟨v159, rfl, ho0, hb⟩; refine ⟨_, rfl, ?_⟩; have n0_ := Aside0.mk (Kd.V_lower (Kd.V_mono (ok' := fun k_ => True) ho0 (fun k_ hk_ => trivial)) (below_size (by repeat (first | (with_reducible first | exact HB.out | apply below_alloc | apply pw_below_drewN | apply below_drew1) | exact HB.out)))); have n1_ := Aside0.mk (below_step (by repeat (first | (with_reducible first | exact HB.out | apply below_alloc | apply pw_below_drewN | apply below_drew1) | exact HB.out)) hb); clear HB; have HO160 := n0_; have HB := n1_; clear n0_ n1_; (try clear hb); (try clear hb2); (try clear hk); (try clear hi); (try clear ho0)) | ((with_reducible refine gate_dst (N := 6) rfl ?_); refine box_event ?hg (N := 6) ?hd (cs := #[.int .i64 0, .slice none 0 0]) (t := 58) ?hr ?_; (case hd => rfl); (case hg => rfl); (case hr => first | (go_simp; done) | (go_simp; rfl)); intro gb162 hg w7 hbox hb; have n0_ := Aside0.mk (Kd.V_below (Kd.V_elderB (by (with_reducible repeat (first | apply Kd.V_alloc | apply Kd.V_drewN | apply Kd.V_drew)); exact HO160.out) gb162 (Nat.le_of_eq hg.symm)) hb); have n1_ := Aside0.mk (below_step (by repeat (first | (with_reducible first | exact HB.out | apply below_alloc | apply pw_below_drewN | apply below_drew1) | exact HB.out)) hb); have n2_ := Aside0.mk (hbox); have n3_ := Aside0.mk ((by rw [hg]; exact (below_size (by repeat (first | (with_reducible first | exact HB.out | apply below_alloc | apply pw_below_drewN | apply below_drew1) | exact HB.out))) : w.heap.size ≤ gb162)); have n4_ := Aside0.mk ((by rw [hg]; exact (below_size (by repeat (first | (with_reducible first | exact HB.out | apply below_alloc | apply pw_below_drewN | apply below_drew1) | exact HB.out))) : w.heap.size ≤ gb162)); clear HO160; clear HB; have HO160 := n0_; have HB := n1_; have BK162 := n2_; have GW162 := n3_; have GE162 := n4_; clear n0_ n1_ n2_ n3_ n4_; clear hb hbox hg; have hcz8_0 : w7.cell? ⟨gb162, 0, none⟩ = some (.int .i64 0) := (blk_cell BK162.out 0).trans rfl; have hcz8_1 : w7.cell? ⟨gb162, 1, none⟩ = some (.slice none 0 0) := (blk_cell BK162.out 1).trans rfl; have hfz8_0 := blk_frozen BK162.out 0; have hfz8_1 := blk_frozen BK162.out 1; obtain ⟨Ao9, co9, eo9⟩ := Kd.V_slice HO160.out; subst eo9) | ((with_reducible refine gate_callee (f := 45) rfl ?_); refine goesL_ (some 18) rfl rfl Try.func45 (by kernel_rfl) rfl #[.agg #[.int .i64 t157, .slice Ao9 t158.length co9]] rfl (by (try simp only [List.map_toArray, List.map_cons, List.map_nil]); first | done | rfl | (simp only [List.length_drop, List.length_take]; rfl)) ?_; (with_reducible refine (fetch_quarter_cuts.calls k t157 _ _ t158 t163 _ ?side1 ?side2 A5.out).mono ?_); (case side1 => refine (Kd.V_reads' (e := 34) (base := w.heap.size) (ok := fun k_ => (True ∧ k_ ≠ gb162)) (n := t158.length) (c := co9) ?_).2.2; exact (by (with_reducible repeat (first | apply Kd.V_alloc | apply Kd.V_drewN | apply Kd.V_drew)); exact (Kd.V_mono (Kd.V_far (p := ⟨gb162, 1, none⟩) (Kd.V_far (p := ⟨gb162, 0, none⟩) (Kd.V_mono HO160.out (fun k_ hk => (⟨hk, hk.2⟩ : _ ∧ k_ ≠ gb162))) (fun _ hk => hk.2) (.int .i64 t157)) (fun _ hk => hk.2) (.slice Ao9 t158.length co9)) (fun _ h_ => h_.1)))); (case side2 => exact (Kd.V_reads' HO160.out).2.1); rintro e w10 ⟨v164, rfl, ho0, hb⟩; refine ⟨_, rfl, ?_⟩; have n0_ := Aside0.mk (Kd.V_elder' (by (with_reducible repeat (first | apply Kd.V_alloc | apply Kd.V_drewN | apply Kd.V_drew)); exact (Kd.V_mono (Kd.V_far (p := ⟨gb162, 1, none⟩) (Kd.V_far (p := ⟨gb162, 0, none⟩) (Kd.V_mono HO160.out (fun k_ hk => (⟨hk, hk.2⟩ : _ ∧ k_ ≠ gb162))) (fun _ hk => hk.2) (.int .i64 t157)) (fun _ hk => hk.2) (.slice Ao9 t158.length co9)) (fun _ h_ => h_.1))) (Kd.R_base ho0) hb); have n1_ := Aside0.mk (Kd.R_lower ho0 (below_size (by repeat (first | (with_reducible first | exact HB.out | apply below_alloc | apply pw_below_drewN | apply below_drew1 | refine below_set ?_ GE162.out) | exact HB.out)))); have n2_ := Aside0.mk (blk_below (g := gb162) (o := .cells #[.int .i64 t157, .slice Ao9 t158.length co9] 58 (0, 0)) (by (with_reducible repeat (first | refine blk_drewN ?_ _ | refine blk_drew ?_ | refine blk_alloc ?_ _)); refine blk_put (cs := #[.int .i64 t157, .slice none 0 0]) ?_ 1 _ rfl; (with_reducible repeat (first | refine blk_drewN ?_ _ | refine blk_drew ?_ | refine blk_alloc ?_ _)); refine blk_put (cs := #[.int .i64 0, .slice none 0 0]) ?_ 0 _ rfl; (with_reducible repeat (first | refine blk_drewN ?_ _ | refine blk_drew ?_ | refine blk_alloc ?_ _)); exact BK162.out) hb); have n3_ := Aside0.mk (below_step (by repeat (first | (with_reducible first | exact HB.out | apply below_alloc | apply pw_below_drewN | apply below_drew1 | refine below_set ?_ GE162.out) | exact HB.out)) hb); clear HO160; clear BK162; clear HB; have HO160 := n0_; have HO165 := n1_; have BK162 := n2_; have HB := n3_; clear n0_ n1_ n2_ n3_; (try clear hb); (try clear hb2); (try clear hk); (try clear hi); (try clear ho0)))
  go_ret2
  exact ⟨_, by first | rfl | (simp [errW_none, errW_some] <;> rfl) | (simp [*, errW_none, errW_some] <;> rfl), by (with_reducible repeat (first | apply Kd.R_alloc | apply Kd.R_drewN | apply Kd.R_drew)); exact HO165.out, by repeat (first | (with_reducible first | exact HB.out | apply below_alloc | apply pw_below_drewN | apply below_drew1 | refine below_set ?_ GE162.out) | exact HB.out)⟩
 ·rw [if_neg c4] at H
  have c4b0 : (t161 == 0) = false := beq_eq_false_iff_ne.mpr c4
  have c4b1 : (t161 != 0) = true := bne_iff_ne.mpr c4
  simp only [Option.some.injEq, Prod.mk.injEq] at H
  obtain ⟨rfl, rfl⟩ := H
  go_enter Try.func22, Try.ntmps22
  go_wp2_with (first | ((with_reducible refine gate_callee (f := 44) rfl ?_); refine goesL_ (some 11) rfl rfl Try.func44 (by kernel_rfl) rfl #[.int .i64 a0, .slice A1 l1.length c1] rfl (by (try simp only [List.map_toArray, List.map_cons, List.map_nil]); first | done | rfl | (simp only [List.length_drop, List.length_take]; rfl)) ?_; (with_reducible refine (fetch_read.calls k a0 (fun k_ => k_ < w.heap.size) _ _ l1 t157 t158 t161 _ ?side1 A3.out).mono ?_); (case side1 => exact Kd.V_mk HC1.out (Kd.F_below (Kd.C_F k34_heap HR1.out) (by repeat (first | (with_reducible first | exact HB.out | apply below_alloc | apply pw_below_drewN | apply below_drew1) | exact HB.out)))); rintro e w11 ⟨v159, rfl, ho0, hb⟩; refine ⟨_, rfl, ?_⟩; have n0_ := Aside0.mk (Kd.V_lower (Kd.V_mono (ok' := fun k_ => True) ho0 (fun k_ hk_ => trivial)) (below_size (by repeat (first | (with_reducible first | exact HB.out | apply below_alloc | apply pw_below_drewN | apply below_drew1) | exact HB.out)))); have n1_ := Aside0.mk (below_step (by repeat (first | (with_reducible first | exact HB.out | apply below_alloc | apply pw_below_drewN | apply below_drew1) | exact HB.out)) hb); clear HB; have HO160 := n0_; have HB := n1_; clear n0_ n1_; (try clear hb); (try clear hb2); (try clear hk); (try clear hi); (try clear ho0)) | ((with_reducible refine gate_dst (N := 6) rfl ?_); refine box_event ?hg (N := 6) ?hd (cs := #[.int .i64 0, .slice none 0 0]) (t := 58) ?hr ?_; (case hd => rfl); (case hg => rfl); (case hr => first | (go_simp; done) | (go_simp; rfl)); intro gb162 hg w12 hbox hb; have n0_ := Aside0.mk (Kd.V_below (Kd.V_elderB (by (with_reducible repeat (first | apply Kd.V_alloc | apply Kd.V_drewN | apply Kd.V_drew)); exact HO160.out) gb162 (Nat.le_of_eq hg.symm)) hb); have n1_ := Aside0.mk (below_step (by repeat (first | (with_reducible first | exact HB.out | apply below_alloc | apply pw_below_drewN | apply below_drew1) | exact HB.out)) hb); have n2_ := Aside0.mk (hbox); have n3_ := Aside0.mk ((by rw [hg]; exact (below_size (by repeat (first | (with_reducible first | exact HB.out | apply below_alloc | apply pw_below_drewN | apply below_drew1) | exact HB.out))) : w.heap.size ≤ gb162)); have n4_ := Aside0.mk ((by rw [hg]; exact (below_size (by repeat (first | (with_reducible first | exact HB.out | apply below_alloc | apply pw_below_drewN | apply below_drew1) | exact HB.out))) : w.heap.size ≤ gb162)); clear HO160; clear HB; have HO160 := n0_; have HB := n1_; have BK162 := n2_; have GW162 := n3_; have GE162 := n4_; clear n0_ n1_ n2_ n3_ n4_; clear hb hbox hg; have hcz13_0 : w12.cell? ⟨gb162, 0, none⟩ = some (.int .i64 0) := (blk_cell BK162.out 0).trans rfl; have hcz13_1 : w12.cell? ⟨gb162, 1, none⟩ = some (.slice none 0 0) := (blk_cell BK162.out 1).trans rfl; have hfz13_0 := blk_frozen BK162.out 0; have hfz13_1 := blk_frozen BK162.out 1; obtain ⟨Ao14, co14, eo14⟩ := Kd.V_slice HO160.out; subst eo14))
  go_ret2
  exact ⟨_, by first | rfl | (simp [errW_none, errW_some] <;> rfl) | (simp [*, errW_none, errW_some] <;> rfl), by first | exact Kd.R_nil _ _ _ _ _ | exact Kd.N_nil _ _ _ _ _ | exact Kd.V_nil _ _ _ _ _ | exact Kd.Q_nil _ _ _ _ _ | exact Kd.S_nil _ _ _ _ _, by repeat (first | (with_reducible first | exact HB.out | apply below_alloc | apply pw_below_drewN | apply below_drew1 | refine below_set ?_ GE162.out) | exact HB.out)⟩
end Go.Proofs.Ytjbfbdanbpfplaa.OAll
