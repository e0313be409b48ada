/- A part of the proof of 'topReach_holds', for every input, without a condition. -/
import Derived.Test.YtknecgmmpjggiaaDoorTReTc
namespace Go.Proofs.YtknecgmmpjggiaaDoor.OAll
open Go.RowKit Go.Proofs.YtknecgmmpjggiaaDoorW.PrintWords Go.Proofs.YtknecgmmpjggiaaDoorW.PrintLast Go.Proofs.YtknecgmmpjggiaaDoorW.PrintMore
set_option linter.unusedVariables false
set_option linter.unusedSimpArgs false
theorem RdI.town {w wr : World} {N : Nat} {A : Option Addr} {c : Nat} {ways : List S32} (h : RdI w N A c ways ways.length wr) (hC : Kd.C k32 w A ways.length ways) (hc : ways.length ≤ c) : Town wr (w.heap.size + 1) N A c ways :=
  ⟨⟨_, h.cells⟩, Kd.C_below hC h.low, hc⟩
theorem RdI.okW {w wr : World} {N : Nat} {A : Option Addr} {c : Nat} {ways : List S32} (h : RdI w N A c ways ways.length wr) (hl : ways.length ≤ 30) : OkW N ways := by
  refine ⟨hl, fun x hx => ?_⟩
  obtain ⟨j, hj, rfl⟩ := List.getElem_of_mem hx
  have := h.ok j hj
  rw [show rd_T32 ways (j : Int) = ways[j] by simp [rd_T32, List.getD_eq_getElem?_getD, hj]] at this
  exact ⟨this.1, this.2.2.1, this.2.1, this.2.2.2.1, this.2.2.2.2.1, this.2.2.2.2.2⟩
theorem readW_zero {n : Int} {ways : List S32} (h : readW n ways = 0) : 2 ≤ n ∧ n ≤ 7 ∧ ways.length ≤ 30 := by
  unfold readW at h
  split at h
  · cases h
  · split at h
    · cases h
    · split at h
      · cases h
      · omega
set_option maxRecDepth 100000 in
set_option maxHeartbeats 4000000 in
theorem branch_Narrow (n : Nat) (A : Option Addr) (c : Nat) (ways : List S32) (w : World) (hC : Kd.C k32 w A ways.length ways) (hc : ways.length ≤ c) (hz : readW (n : Int) ways = 0) :
    Calls Tryd.prog 13 #[.int .i64 (n : Int), .slice A ways.length c] w fun e w' => e = .returned (.tuple #[.int .i64 (narF ways (2 ^ (n - 1) - 1) 2 (-1, 0)).1, .int .i64 (narF ways (2 ^ (n - 1) - 1) 2 (-1, 0)).2, .int .i64 0]) ∧ Below w.heap.size w w' := by
  have hq := readW_zero hz
  have HQ := Aside0.mk (show 2 ≤ n ∧ n ≤ 7 ∧ ways.length ≤ 30 by omega)
  have HC := Aside0.mk hC
  have Hc := Aside0.mk hc
  have HZ := Aside0.mk hz
  clear hC hc hz hq
  obtain ⟨r, hr⟩ : ∃ r, r = narF ways (2 ^ (n - 1) - 1) 2 (-1, 0) := ⟨_, rfl⟩
  rw [← hr]
  have HR := Aside0.mk hr
  clear hr
  go_enter Tryd.func13, Tryd.ntmps13
  go_wp2_with (first | (go_at_call 16; refine (branch_read (n : Int) A c ways _ HC.out Hc.out).mono ?_; rintro e w1 ⟨⟨v, rfl, hv⟩, hb⟩; rw [HZ.out]; obtain ⟨rfl, hI⟩ := hv HZ.out; rw [Int.toNat_natCast] at hI; have HI := Aside0.mk hI; have HB := Aside0.mk hb; clear hv hI hb) | (go_at_call 28; refine (town_narrow (w.heap.size + 1) n A c ways _ (HI.out.town HC.out Hc.out) (by have := HQ.out; omega) (HI.out.okW (by have := HQ.out; omega))).mono ?_; rintro e w2 ⟨rfl, hb2⟩; rw [← HR.out]; have HB2 := Aside0.mk hb2; clear hb2))
  go_ret3
  exact ⟨rfl, below_then HB.out HB.out.size HB2.out⟩
end Go.Proofs.YtknecgmmpjggiaaDoor.OAll
