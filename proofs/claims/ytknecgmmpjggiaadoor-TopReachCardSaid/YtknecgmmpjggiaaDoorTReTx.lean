/- A part of the proof of 'topReach_holds', for every input, without a condition. -/
import Derived.Test.YtknecgmmpjggiaaDoorTReTw
namespace Go.Proofs.YtknecgmmpjggiaaDoor.OAll
open Go.RowKit Go.Proofs.YtknecgmmpjggiaaDoorW.PrintWords Go.Proofs.YtknecgmmpjggiaaDoorW.PrintLast Go.Proofs.YtknecgmmpjggiaaDoorW.PrintMore
set_option linter.unusedVariables false
set_option linter.unusedSimpArgs false
theorem cosL_zer {ways : List S32} (h : ∀ x ∈ ways, x.f2 = 0) : ∀ m, m ≤ ways.length → ∀ j : Nat, j < m → rd (cosL ways m) (j : Int) = 0
  | 0, _, j, hj => by omega
  | m + 1, hm, j, hj => by
    unfold rd
    rw [Int.toNat_natCast, List.getD_eq_getElem?_getD, cosL, List.getElem?_append, cosL_len]
    split
    · rename_i hlt
      have := cosL_zer h m (by omega) j hlt
      unfold rd at this
      rwa [Int.toNat_natCast, List.getD_eq_getElem?_getD] at this
    · have e : j = m := by omega
      subst e
      simp
      exact h _ (rd_T32_mem (by omega))
def braE (n : Nat) (ways : List S32) : Int := if alF (rchI (fun _ => false) ways n) n n 0 = 0 then 0 else 10
set_option maxRecDepth 100000 in
set_option maxHeartbeats 4000000 in
theorem branch_branching (n : Nat) (A : Option Addr) (c : Nat) (ways : List S32) (w : World) (hC : Kd.C k32 w A ways.length ways) (hc : ways.length ≤ c) (hz : readW (n : Int) ways = 0) (h14 : ways.length ≤ 14) (hcost : ∀ x ∈ ways, x.f2 = 0) :
    Calls Tryd.prog 9 #[.int .i64 (n : Int), .slice A ways.length c] w fun e w' => ∃ (v : Value) (xs : List Int), e = .returned (.tuple #[v, .int .i64 0, .int .i64 (braE n ways)]) ∧ Kd.R (Kd.int .i64) 3 w' w.heap.size (fun _ => True) v xs ∧ Below w.heap.size w w' := by
  have hq := readW_zero hz
  have HQ := Aside0.mk (show 2 ≤ n ∧ n ≤ 7 ∧ ways.length ≤ 30 by omega)
  have HC := Aside0.mk hC
  have Hc := Aside0.mk hc
  have HZ := Aside0.mk hz
  have H14 := Aside0.mk h14
  have HZER : Aside0 (Zer (cosL ways ways.length) ways.length) := ⟨⟨cosL_len ways _, cosL_zer hcost _ (Nat.le_refl _)⟩⟩
  have HCL := Aside0.mk (cosL_len ways ways.length)
  clear hC hc hz hq h14 hcost
  unfold braE
  obtain ⟨ee, hee⟩ : ∃ ee : Int, ee = if alF (rchI (fun _ => false) ways n) n n 0 = 0 then 0 else 10 := ⟨_, rfl⟩
  rw [← hee]
  have HEE := Aside0.mk hee
  clear hee
  go_enter Tryd.func9, Tryd.ntmps9
  go_wp2_with (first | (go_at_call 16; refine (branch_read (n : Int) A c ways _ HC.out Hc.out).mono ?_; rintro e w1 ⟨⟨v, rfl, hv⟩, hb⟩; rw [HZ.out]; obtain ⟨rfl, hI⟩ := hv HZ.out; rw [Int.toNat_natCast] at hI; have HI := Aside0.mk hI; have HB := Aside0.mk hb; clear hv hI hb) | (go_at_call 20; refine (town_costs (w.heap.size + 1) n A c ways _ (HI.out.town HC.out Hc.out) (HI.out.okW (by have := HQ.out; omega))).mono ?_; rintro e w2 ⟨v2_, rfl, ho2, hb2⟩; obtain ⟨A2, c2, he2⟩ := Kd.R_slice ho2; rw [HCL.out] at he2; subst he2; have HR2 := Aside0.mk ho2; have HB2 := Aside0.mk hb2; have HB3 := Aside0.mk (below_step HB.out hb2); clear ho2 hb2) | (go_at_call 19; obtain ⟨D, hD, hG⟩ := HI.out.grp; refine (first_town (w.heap.size + 1) w.heap.size (w.heap.size + 2) n A c ways A2 c2 (cosL ways ways.length) D _ ((HI.out.town HC.out Hc.out).below HB2.out) (blk_below HI.out.cells HB2.out) (hD.kept (row := none) (grown_of_below HB2.out none) (by simp) (fun es clock _ x _ => by cases h : x.val.ownBlock <;> simp)) hG (by have := (Kd.R_reads' HR2.out).2.2; rwa [HCL.out] at this) (Kd.R_reads' HR2.out).2.1 (by have := HQ.out; omega) (by have := HQ.out; omega) (HI.out.okW (by have := HQ.out; omega)) HZER.out H14.out).mono ?_; rintro e w3 ⟨v3_, xs, rfl, ho3, hb3⟩; rw [← HEE.out]; have HR3 := Aside0.mk (Kd.R_lower ho3 HB3.out.size); have HB4 := Aside0.mk (below_step HB3.out hb3); clear ho3 hb3 hD hG))
  go_ret3
  exact ⟨_, xs, rfl, HR3.out, HB4.out⟩
def branch_Reach.f (a0 : Int) (l1 : List S32) : Option (Int × Int) := if readW a0 l1 = 0 then some (((itrI (fun _ => true) l1 a0.toNat 1 : Nat) : Int), 0) else none
theorem branch_Reach.calls (a0 : Int) (A1 : Option Addr) (c1 : Nat) (l1 : List S32) (r1 r2 : Int) (w : World) (hr1 : Kd.C k32 w A1 l1.length l1) (hc1 : l1.length ≤ c1) (h : branch_Reach.f a0 l1 = some (r1, r2)) :
    Calls Tryd.prog 8 #[.int .i64 a0, .slice A1 l1.length c1] w fun e w' => e = .returned (.tuple #[.int .i64 r1, .int .i64 r2]) ∧ Below w.heap.size w w' := by
  unfold branch_Reach.f at h
  split at h
  · rename_i hz
    simp only [Option.some.injEq, Prod.mk.injEq] at h
    obtain ⟨rfl, rfl⟩ := h
    have ha : ((a0.toNat : Nat) : Int) = a0 := by have := readW_zero hz; omega
    have := branch_reach a0.toNat A1 c1 l1 w hr1 hc1 (by rw [ha]; exact hz)
    rwa [ha] at this
  · cases h
def branch_Branching.f (a0 : Int) (l1 : List S32) : Option (List Int × Int × Int) := if readW a0 l1 = 0 ∧ l1.length ≤ 14 ∧ ∀ x ∈ l1, x.f2 = 0 then some ([], 0, braE a0.toNat l1) else none
theorem branch_Branching.calls (a0 : Int) (A1 : Option Addr) (c1 : Nat) (l1 : List S32) (r1 : List Int) (r2 r3 : Int) (w : World) (hr1 : Kd.C k32 w A1 l1.length l1) (hc1 : l1.length ≤ c1) (h : branch_Branching.f a0 l1 = some (r1, r2, r3)) :
    Calls Tryd.prog 9 #[.int .i64 a0, .slice A1 l1.length c1] w fun e w' => ∃ (v0_ : Value) (xs_ : List Int), e = .returned (.tuple #[v0_, .int .i64 r2, .int .i64 r3]) ∧ Kd.R (Kd.int .i64) 3 w' w.heap.size (fun _ => True) v0_ xs_ ∧ Below w.heap.size w w' := by
  unfold branch_Branching.f at h
  split at h
  · rename_i hz
    simp only [Option.some.injEq, Prod.mk.injEq] at h
    obtain ⟨rfl, rfl, rfl⟩ := h
    have ha : ((a0.toNat : Nat) : Int) = a0 := by have := readW_zero hz.1; omega
    have := branch_branching a0.toNat A1 c1 l1 w hr1 hc1 (by rw [ha]; exact hz.1) hz.2.1 hz.2.2
    rwa [ha] at this
  · cases h
end Go.Proofs.YtknecgmmpjggiaaDoor.OAll
