/- A part of the proof of 'stampPaid_holds', for every input, without a condition. -/
import Derived.Test.YthbalcbibmdpnaaSPdRs
namespace Go.Proofs.Ythbalcbibmdpnaa.OAll
open Go.RowKit Go.Proofs.YthbalcbibmdpnaaW.PrintWords Go.Proofs.YthbalcbibmdpnaaW.PrintLast Go.Proofs.YthbalcbibmdpnaaW.PrintMore
set_option linter.unusedVariables false
set_option linter.unusedSimpArgs false
theorem one_block {w : World} {b n : Nat} {ok : Nat → Prop} {x : Int} (hb : w.heap[b]? = some (.cells #[.int .i64 x] 3 (0, 0))) (hok : ok b) (hn : n = 1) : Kd.F (Kd.int .i64) w ok (some ⟨b, 0, none⟩) n [x] := by
  subst hn
  intro W' hW
  have h1 : W'.heap[b]? = some (.cells #[.int .i64 x] 3 (0, 0)) := (hW b hok (blk_lt hb)).trans hb
  refine Kd.C_of_reads (d := (0 : Int)) ⟨rfl, by decide, fun _ => ⟨_, rfl, fun j hj => ?_⟩⟩
  obtain rfl : j = 0 := by omega
  exact (blk_cell h1 0).trans rfl
def stamp_Best.f (k : Nat) (a0 a1 : Int) : Option (List Int × Int × Int) := if a0 < 1 then some ([], 0, 2) else (if a0 > 6 then some ([], 0, 2) else (if a1 < 1 then some ([], 0, 2) else (if a1 > 4 then some ([], 0, 2) else (if wrap64 (a0 * a1) > 16 then some ([], 0, 2) else ((stamp_Best.on k a0 a1 [1] [] 0).bind fun b => some (b.1, b.2, 0))))))
theorem stamp_Best.mono : ∀ a0 a1 k, LeO (stamp_Best.f k a0 a1) (stamp_Best.f (k + 1) a0 a1) := by
  intro a0 a1 k
  unfold stamp_Best.f
  repeat' first
    | exact LeO.refl _
    | exact LeO.bind ((stamp_Best.mono_l k).1 _ _ _ _ _) (fun _ => LeO.refl _)
    | split
set_option maxRecDepth 100000 in
set_option maxHeartbeats 1000000 in
theorem stamp_Best.calls (k : Nat) (a0 a1 : Int) (r1 : List Int) (r2 : Int) (r3 : Int) (w : World) (h : stamp_Best.f k a0 a1 = some (r1, r2, r3)) :
    Calls Try.prog 20 #[.int .i64 a0, .int .i64 a1] w fun e w' => ∃ v0_ : Value, e = .returned (.tuple #[v0_, .int .i64 r2, .int .i64 r3]) ∧ Kd.R (Kd.int .i64) 3 w' w.heap.size (fun _ => True) v0_ r1 ∧ Below w.heap.size w w' := by
  have hmf : ∀ (fn : Fn) (first cap : Array Value) (w : World), (Instr.makeFunc fn first cap).run Try.prog w = .ok (.func fn first cap) w := fun _ _ _ _ => rfl
  have hb0 : Below w.heap.size w ((w.alloc (.cells #[.int .i64 a0] 3)).alloc (.cells #[.int .i64 a1] 3)) := below_alloc (below_alloc (Below.refl _ _) _) _
  have HB0 := Aside0.mk hb0
  have g0 : ((w.alloc (.cells #[.int .i64 a0] 3)).alloc (.cells #[.int .i64 a1] 3)).cell? ⟨w.heap.size, 0, none⟩ = some (.int .i64 a0) := (blk_cell (blk_alloc (blk_new w (.cells #[.int .i64 a0] 3)) (.cells #[.int .i64 a1] 3)) 0).trans rfl
  have hn1 := blk_new (w.alloc (.cells #[.int .i64 a0] 3)) (.cells #[.int .i64 a1] 3)
  rw [World.size_alloc] at hn1
  have g1 : ((w.alloc (.cells #[.int .i64 a0] 3)).alloc (.cells #[.int .i64 a1] 3)).cell? ⟨w.heap.size + 1, 0, none⟩ = some (.int .i64 a1) := (blk_cell hn1 0).trans rfl
  clear hb0 hn1
  unfold stamp_Best.f at h
  by_cases c1 : a0 < 1
  · rw [if_pos c1] at h
    simp only [Option.some.injEq, Prod.mk.injEq] at h
    obtain ⟨rfl, rfl, rfl⟩ := h
    have d1 := decide_eq_true c1
    clear c1
    go_enter Try.func20, Try.ntmps20
    go_wp2
    go_ret3
    exact ⟨_, rfl, Kd.R_nil _ _ _ _ _, HB0.out⟩
  rw [if_neg c1] at h
  have d1 := decide_eq_false c1
  by_cases c2 : a0 > 6
  · rw [if_pos c2] at h
    simp only [Option.some.injEq, Prod.mk.injEq] at h
    obtain ⟨rfl, rfl, rfl⟩ := h
    have d2 : decide (6 < a0) = true := decide_eq_true c2
    clear c1 c2
    go_enter Try.func20, Try.ntmps20
    go_wp2
    go_ret3
    exact ⟨_, rfl, Kd.R_nil _ _ _ _ _, HB0.out⟩
  rw [if_neg c2] at h
  have d2 : decide (6 < a0) = false := decide_eq_false c2
  by_cases c3 : a1 < 1
  · rw [if_pos c3] at h
    simp only [Option.some.injEq, Prod.mk.injEq] at h
    obtain ⟨rfl, rfl, rfl⟩ := h
    have d3 := decide_eq_true c3
    clear c1 c2 c3
    go_enter Try.func20, Try.ntmps20
    go_wp2
    go_ret3
    exact ⟨_, rfl, Kd.R_nil _ _ _ _ _, HB0.out⟩
  rw [if_neg c3] at h
  have d3 := decide_eq_false c3
  by_cases c4 : a1 > 4
  · rw [if_pos c4] at h
    simp only [Option.some.injEq, Prod.mk.injEq] at h
    obtain ⟨rfl, rfl, rfl⟩ := h
    have d4 : decide (4 < a1) = true := decide_eq_true c4
    clear c1 c2 c3 c4
    go_enter Try.func20, Try.ntmps20
    go_wp2
    go_ret3
    exact ⟨_, rfl, Kd.R_nil _ _ _ _ _, HB0.out⟩
  rw [if_neg c4] at h
  have d4 : decide (4 < a1) = false := decide_eq_false c4
  by_cases c5 : wrap64 (a0 * a1) > 16
  · rw [if_pos c5] at h
    simp only [Option.some.injEq, Prod.mk.injEq] at h
    obtain ⟨rfl, rfl, rfl⟩ := h
    have d5 : decide (16 < wrap64 (a0 * a1)) = true := decide_eq_true c5
    clear c1 c2 c3 c4 c5
    go_enter Try.func20, Try.ntmps20
    go_wp2
    go_ret3
    exact ⟨_, rfl, Kd.R_nil _ _ _ _ _, HB0.out⟩
  rw [if_neg c5] at h
  have d5 : decide (16 < wrap64 (a0 * a1)) = false := decide_eq_false c5
  obtain ⟨⟨b1, b2⟩, hO, h⟩ := Option.bind_eq_some_iff.mp h
  simp only [Option.some.injEq, Prod.mk.injEq] at h
  obtain ⟨rfl, rfl, rfl⟩ := h
  have HO := Aside0.mk hO
  clear hO c1 c2 c3 c4 c5
  go_enter Try.func20, Try.ntmps20
  go_wp2_with fail
  have hn0 := blk_new w (.cells #[.int .i64 a0] 3)
  have hn1 := blk_new (w.alloc (.cells #[.int .i64 a0] 3)) (.cells #[.int .i64 a1] 3)
  have hn2 := blk_new ((w.alloc (.cells #[.int .i64 a0] 3)).alloc (.cells #[.int .i64 a1] 3)) (.cells #[.slice none 0 0] 22)
  have hn3 := blk_new (((w.alloc (.cells #[.int .i64 a0] 3)).alloc (.cells #[.int .i64 a1] 3)).alloc (.cells #[.slice none 0 0] 22)) (.cells #[.int .i64 0] 3)
  have hn4 := blk_new ((((w.alloc (.cells #[.int .i64 a0] 3)).alloc (.cells #[.int .i64 a1] 3)).alloc (.cells #[.slice none 0 0] 22)).alloc (.cells #[.int .i64 0] 3)) (.cells #[.func (.func 46) #[] #[.pointer (some ⟨w.heap.size, 0, none⟩), .pointer (some ⟨w.heap.size + 1, 0, none⟩), .pointer (some ⟨w.heap.size + 3, 0, none⟩), .pointer (some ⟨w.heap.size + 2, 0, none⟩), .pointer (some ⟨w.heap.size + 4, 0, none⟩)]] 58)
  have hn5 := blk_new (((((w.alloc (.cells #[.int .i64 a0] 3)).alloc (.cells #[.int .i64 a1] 3)).alloc (.cells #[.slice none 0 0] 22)).alloc (.cells #[.int .i64 0] 3)).alloc (.cells #[.func (.func 46) #[] #[.pointer (some ⟨w.heap.size, 0, none⟩), .pointer (some ⟨w.heap.size + 1, 0, none⟩), .pointer (some ⟨w.heap.size + 3, 0, none⟩), .pointer (some ⟨w.heap.size + 2, 0, none⟩), .pointer (some ⟨w.heap.size + 4, 0, none⟩)]] 58)) (.cells #[.int .i64 1] 3)
  simp only [World.size_alloc] at hn1 hn2 hn3 hn4 hn5
  refine (stamp_Best_on.calls k w w.heap.size a0 a1 (.slice none 0 0) (some ⟨w.heap.size + 5, 0, none⟩) 1 [1] [] 0 b1 b2 _ ⟨rfl, below_alloc (below_alloc (below_alloc (below_alloc (below_alloc (below_alloc (Below.refl _ _) _) _) _) _) _) _, blk_alloc (blk_alloc (blk_alloc (blk_alloc (blk_alloc hn0 _) _) _) _) _, blk_alloc (blk_alloc (blk_alloc (blk_alloc hn1 _) _) _) _, blk_alloc (blk_alloc (blk_alloc hn2 _) _) _, Kd.R_nil _ _ _ _ _, blk_alloc (blk_alloc hn3 _) _, blk_alloc hn4 _⟩ (one_block hn5 (Nat.le_refl _) rfl) (Nat.le_refl _) HO.out).mono ?_
  rintro e w3 ⟨vb, rfl, hS, hk⟩
  clear hn0 hn1 hn2 hn3 hn4 hn5
  obtain ⟨Ab, cb, rfl⟩ := Kd.R_slice hS.rb
  have f1 : w3.cell? ⟨w.heap.size + 2, 0, none⟩ = some (.slice Ab b1.length cb) := (blk_cell hS.bb 0).trans rfl
  have f2 : w3.cell? ⟨w.heap.size + 3, 0, none⟩ = some (.int .i64 b2) := (blk_cell hS.bm 0).trans rfl
  have HR3 := Aside0.mk (Kd.R_lower hS.rb (show w.heap.size ≤ w.heap.size + 5 by omega))
  have HB3 := Aside0.mk hS.lo
  clear hS hk
  go_wp2
  repeat (go_quiet (fail); try go_wp2)
  go_ret3
  exact ⟨_, rfl, Kd.R_drewN HR3.out _, pw_below_drewN HB3.out _⟩
end Go.Proofs.Ythbalcbibmdpnaa.OAll
