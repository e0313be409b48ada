/- A part of the proof of 'topBridge_holds', for every input, without a condition. -/
import Derived.Test.YtknecgmmpjggiaaDoorTBrTm
namespace Go.Proofs.YtknecgmmpjggiaaDoor.OAll
open Go.RowKit Go.Proofs.YtknecgmmpjggiaaDoorW.PrintWords Go.Proofs.YtknecgmmpjggiaaDoorW.PrintLast Go.Proofs.YtknecgmmpjggiaaDoorW.PrintMore
set_option linter.unusedVariables false
set_option linter.unusedSimpArgs false
set_option maxRecDepth 100000 in
set_option maxHeartbeats 4000000 in
theorem first_calls (a0 : Int) (A : Option Addr) (c : Nat) (l : List S30) (sb : Nat → Bool) (w : World) (hr : Kd.C k30 w A l.length l) (hc : l.length ≤ c) (hl : l.length ≤ 14) (Kr : Nat) (hread : oneway_read.f Kr a0 l = some (a0, l, 0))
    (hsb : ∀ k, k < 2 ^ l.length → ∃ K, oneway_arcs_strong.f K (signFrom (strB (sgn l.length k)) 0 l) a0 = some (sb k)) :
    Calls Tryd.prog 12 #[.int .i64 a0, .slice A l.length c] w fun e w' => e = .returned (.tuple #[.string (firstS l.length (firstFrom sb (2 ^ l.length) 0)), .int .i64 (firstE (firstFrom sb (2 ^ l.length) 0))]) ∧ Below w.heap.size w w' := by
  have hu46 := Tryd.underlying46
  have HR := Aside0.mk hr
  have HC := Aside0.mk hc
  have HL := Aside0.mk hl
  have HRD := Aside0.mk hread
  have HSB := Aside0.mk hsb
  have HB0 : Aside0 (Below w.heap.size w (w.alloc (.cells #[.int .i64 a0] 3))) := ⟨below_alloc (Below.refl _ _) _⟩
  have HN0 := Aside0.mk (blk_new w (.cells #[.int .i64 a0] 3))
  clear hr hc hl hread hsb
  have hmf : ∀ (fn : Fn) (first cap : Array Value) (w : World), (Instr.makeFunc fn first cap).run Tryd.prog w = .ok (.func fn first cap) w := fun _ _ _ _ => rfl
  go_enter Tryd.func12, Tryd.ntmps12
  go_wp2_with (first | (go_at_call 21; refine (oneway_read.calls Kr a0 (fun k_ => k_ < w.heap.size) A c l a0 l 0 _ (Kd.V_mk HC.out (Kd.F_below (Kd.C_F k30_heap HR.out) HB0.out)) HRD.out).mono ?_; rintro e w1 ⟨v1_, rfl, ho1, hb1⟩; obtain ⟨A1, c1, rfl⟩ := Kd.V_slice ho1; have HO1 := Aside0.mk (Kd.V_bound ho1); have HB1 := Aside0.mk (below_step HB0.out hb1); have HN1 := Aside0.mk (blk_below HN0.out hb1); clear ho1 hb1))
  have hsz : w.heap.size < w1.heap.size := blk_lt HN1.out
  have hbW : Below w1.heap.size w1 (((w1.alloc (.cells #[.int .i64 a0, .slice A1 l.length c1] 46)).alloc (.cells #[.int .i64 10] 24)).alloc (.cells #[.string ⟨#[]⟩] 9)) := below_alloc (below_alloc (below_alloc (Below.refl _ _) _) _) _
  have hbo := blk_new ((w1.alloc (.cells #[.int .i64 a0, .slice A1 l.length c1] 46)).alloc (.cells #[.int .i64 10] 24)) (.cells #[.string ⟨#[]⟩] 9)
  rw [World.size_alloc, World.size_alloc] at hbo
  have hbe := blk_new (w1.alloc (.cells #[.int .i64 a0, .slice A1 l.length c1] 46)) (.cells #[.int .i64 10] 24)
  rw [World.size_alloc] at hbe
  have hbe' := blk_alloc hbe (.cells #[.string ⟨#[]⟩] 9)
  refine (all_calls w w.heap.size w.heap.size (w1.heap.size + 1 + 1) (w1.heap.size + 1) a0 a0 A1 c1 l sb _
    ⟨below_step HB1.out hbW, Nat.le_refl _, by omega, by omega, by omega, by omega, by omega, blk_below HN1.out hbW, hbo, hbe'⟩
    (Kd.F_mono (Kd.F_below (Kd.V_F HO1.out) hbW) (fun k_ hk => by have := hk.2; exact ⟨by omega, by omega⟩)) (Kd.V_reads' HO1.out).2.1 HL.out HSB.out).mono ?_
  rintro e w3 ⟨rfl, hS3, hK3⟩
  have HS3 := Aside0.mk hS3
  have e1 : w3.cell? ⟨w1.heap.size + 1 + 1, 0, none⟩ = some (.string (firstS l.length (firstFrom sb (2 ^ l.length) 0))) := (blk_cell hS3.bo 0).trans rfl
  have e2 : w3.cell? ⟨w1.heap.size + 1, 0, none⟩ = some (.int .i64 (firstE (firstFrom sb (2 ^ l.length) 0))) := (blk_cell hS3.be 0).trans rfl
  clear hsz hbW hbo hbe hbe' hS3 hK3
  go_wp2
  go_region
  go_wp2
  go_ret2
  exact ⟨rfl, below_drew HS3.out.lo⟩
end Go.Proofs.YtknecgmmpjggiaaDoor.OAll
