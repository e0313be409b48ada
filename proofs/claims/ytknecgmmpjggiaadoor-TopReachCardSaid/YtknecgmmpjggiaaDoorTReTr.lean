/- A part of the proof of 'topReach_holds', for every input, without a condition. -/
import Derived.Test.YtknecgmmpjggiaaDoorTReTq
namespace Go.Proofs.YtknecgmmpjggiaaDoor.OAll
open Go.RowKit Go.Proofs.YtknecgmmpjggiaaDoorW.PrintWords Go.Proofs.YtknecgmmpjggiaaDoorW.PrintLast Go.Proofs.YtknecgmmpjggiaaDoorW.PrintMore
set_option linter.unusedVariables false
set_option linter.unusedSimpArgs false
theorem allL_succ (i : Nat) : allL (i + 1) = allL i ++ [(i : Int)] := by unfold allL; rw [List.range_succ, List.map_append]; rfl
set_option maxRecDepth 100000 in
set_option maxHeartbeats 4000000 in
theorem town_all (B n : Nat) (A : Option Addr) (c : Nat) (ways : List S32) (w : World) (hT : Town w B n A c ways) (ho : OkW n ways) :
    Calls Tryd.prog 18 #[.pointer (some ⟨B, 0, none⟩)] w fun e w' => ∃ v, e = .returned v ∧ Kd.R (Kd.int .i64) 3 w' w.heap.size (fun _ => True) v (allL ways.length) ∧ Below w.heap.size w w' := by
  have h1 := hT.w1
  have hu78 := Tryd.underlying78
  have HO := Aside0.mk ho.1
  clear hT ho
  go_enter Tryd.func18, Tryd.ntmps18
  go_wp2
  go_loopg [3, 10] ways.length (fun kq v3 v10 w' => ∃ i : Nat, v10 = .int .i64 (i : Int) ∧ Aside0 (i + kq = ways.length) ∧ Aside0 (Kd.R (Kd.int .i64) 3 w' w.heap.size (fun _ => True) v3 (allL i)) ∧ Aside0 (Below w.heap.size w w'))
  case atStart => exact ⟨0, rfl, ⟨by omega⟩, ⟨Kd.R_nil _ _ _ _ _⟩, ⟨Below.refl _ _⟩⟩
  case round =>
    clear h1
    obtain ⟨i, rfl, HI, HR, HB⟩ := hrel
    cases gk with
    | zero =>
      have hi : i = ways.length := HI.out
      have v2 := eq_false (show ¬ i < ways.length by omega)
      have v2b := eq_false (show ¬ (i : Int) < (ways.length : Int) by omega)
      have HI2 := Aside0.mk hi
      clear hi
      go_wp2
      go_ret
      exact ⟨_, rfl, by rw [← HI2.out]; exact HR.out, HB.out⟩
    | succ k1 =>
      have v2 := eq_true (show i < ways.length by have := HI.out; omega)
      have v2b := eq_true (show (i : Int) < (ways.length : Int) by have := HI.out; omega)
      have E1 := Aside0.mk (w64s i (by have := HI.out; have := HO.out; omega))
      go_wp2_with ((with_reducible refine gate_builtin (b := .append) (xs := #[.tmp 13, .tmp 15]) rfl ?_); at_builtin; refine Kd.R_append (Kd.int .i64) (w0 := w) w.heap.size rfl (.tmp 13) (.tmp 15) 35 3 (.int .i64 0) 8 rfl Tryd.underlying35 info3 rfl (by decide) (by omega) u3 (allL i) (i : Int) [.int .i64 (i : Int)] (fun _ => True) (fun _ => False) rfl (by first | (rw [World.size_alloc]; rfl) | rfl) ?aP (fun _ hk => hk.elim) ?aF ?aO ?aB ?aS ?aL ?_; (case aP => exact rfl); (case aB => exact HB.out); (case aF => exact (fun _ _ => trivial)); (case aO => exact HR.out); (case aS => exact below_size HB.out); (case aL => have := allL_len i; have := HO.out; have := HI.out; omega); intro v1 w9 ho hb hg hat; have HR2 := Aside0.mk ho; have HB2 := Aside0.mk hb; clear ho hb hg hat)
      go_roundg k1
      case measure => omega
      case rel => exact ⟨i + 1, by rw [E1.out], ⟨by have := HI.out; omega⟩, ⟨by rw [allL_succ]; exact HR2.out⟩, HB2⟩
def cosL (ways : List S32) : Nat → List Int
  | 0 => []
  | i + 1 => cosL ways i ++ [(rd_T32 ways (i : Int)).f2]
theorem cosL_len (ways : List S32) : ∀ i, (cosL ways i).length = i
  | 0 => rfl
  | i + 1 => by rw [cosL, List.length_append, cosL_len ways i]; rfl
set_option maxRecDepth 100000 in
set_option maxHeartbeats 4000000 in
theorem town_costs (B n : Nat) (A : Option Addr) (c : Nat) (ways : List S32) (w : World) (hT : Town w B n A c ways) (ho : OkW n ways) :
    Calls Tryd.prog 20 #[.pointer (some ⟨B, 0, none⟩)] w fun e w' => ∃ v, e = .returned v ∧ Kd.R (Kd.int .i64) 3 w' w.heap.size (fun _ => True) v (cosL ways ways.length) ∧ Below w.heap.size w w' := by
  have h1 := hT.w1
  have hu78 := Tryd.underlying78
  have hu32 := Tryd.underlying32
  have HT := Aside0.mk hT
  have HO := Aside0.mk ho.1
  clear hT ho
  go_enter Tryd.func20, Tryd.ntmps20
  go_wp2
  go_loopg [3, 11] ways.length (fun kq v3 v11 w' => ∃ i : Nat, v11 = .int .i64 (i : Int) ∧ Aside0 (i + kq = ways.length) ∧ Aside0 (Kd.R (Kd.int .i64) 3 w' w.heap.size (fun _ => True) v3 (cosL ways i)) ∧ Aside0 (Below w.heap.size w w'))
  case atStart => exact ⟨0, rfl, ⟨by omega⟩, ⟨Kd.R_nil _ _ _ _ _⟩, ⟨Below.refl _ _⟩⟩
  case round =>
    clear h1
    obtain ⟨i, rfl, HI, HR, HB⟩ := hrel
    cases gk with
    | zero =>
      have hi : i = ways.length := HI.out
      have v2 := eq_false (show ¬ i < ways.length by omega)
      have v2b := eq_false (show ¬ (i : Int) < (ways.length : Int) by omega)
      have HI2 := Aside0.mk hi
      clear hi
      go_wp2
      go_ret
      exact ⟨_, rfl, by rw [← HI2.out]; exact HR.out, HB.out⟩
    | succ k1 =>
      have hi : i < ways.length := by have := HI.out; omega
      have v2 := eq_true hi
      have v2b := eq_true (show (i : Int) < (ways.length : Int) by omega)
      have p1 := eq_true (show (0 : Int) ≤ (i : Int) by omega)
      have E1 := Aside0.mk (w64s i (by have := HI.out; have := HO.out; omega))
      obtain ⟨ad, e0, x0, x1, x2⟩ := at_T32 (Kd.C_below HT.out.C HB.out) (i : Int) (by omega) (by omega)
      cases e0
      obtain ⟨x, hx⟩ : ∃ x, x = rd_T32 ways (i : Int) := ⟨_, rfl⟩
      rw [← hx] at x0 x1 x2
      rw [Int.toNat_natCast] at x0 x1 x2
      have HX := Aside0.mk hx
      clear hi hx
      go_wp2_with ((with_reducible refine gate_builtin (b := .append) (xs := #[.tmp 15, .tmp 18]) rfl ?_); at_builtin; refine Kd.R_append (Kd.int .i64) (w0 := w) w.heap.size rfl (.tmp 15) (.tmp 18) 35 3 (.int .i64 0) 8 rfl Tryd.underlying35 info3 rfl (by decide) (by omega) u3 (cosL ways i) x.f2 [.int .i64 x.f2] (fun _ => True) (fun _ => False) rfl (by rw [World.size_alloc]; rfl) ?aP (fun _ hk => hk.elim) ?aF ?aO ?aB ?aS ?aL ?_; (case aP => exact rfl); (case aB => exact below_alloc HB.out _); (case aF => exact (fun _ _ => trivial)); (case aO => exact Kd.R_alloc HR.out _); (case aS => exact below_size (below_alloc HB.out _)); (case aL => have := cosL_len ways i; have := HO.out; have := HI.out; omega); intro v1 w9 ho hb hg hat; have HR2 := Aside0.mk ho; have HB2 := Aside0.mk hb; clear ho hb hg hat)
      go_roundg k1
      case measure => omega
      case rel => exact ⟨i + 1, by rw [E1.out], ⟨by have := HI.out; omega⟩, ⟨by rw [cosL, ← HX.out]; exact HR2.out⟩, HB2⟩
set_option maxRecDepth 100000 in
set_option maxHeartbeats 4000000 in
theorem branch_reach (n : Nat) (A : Option Addr) (c : Nat) (ways : List S32) (w : World) (hC : Kd.C k32 w A ways.length ways) (hc : ways.length ≤ c) (hz : readW (n : Int) ways = 0) :
    Calls Tryd.prog 8 #[.int .i64 (n : Int), .slice A ways.length c] w fun e w' => e = .returned (.tuple #[.int .i64 ((itrI (fun _ => true) ways n 1 : Nat) : Int), .int .i64 0]) ∧ Below w.heap.size w w' := by
  have hq := readW_zero hz
  have HQ := Aside0.mk (show 2 ≤ n ∧ n ≤ 7 ∧ ways.length ≤ 30 by omega)
  have HC := Aside0.mk hC
  have Hc := Aside0.mk hc
  have HZ := Aside0.mk hz
  clear hC hc hz hq
  go_enter Tryd.func8, Tryd.ntmps8
  go_wp2_with (first | (go_at_call 16; refine (branch_read (n : Int) A c ways _ HC.out Hc.out).mono ?_; rintro e w1 ⟨⟨v, rfl, hv⟩, hb⟩; rw [HZ.out]; obtain ⟨rfl, hI⟩ := hv HZ.out; rw [Int.toNat_natCast] at hI; have HTW := Aside0.mk (hI.town HC.out Hc.out); have HOW := Aside0.mk (hI.okW (by have := HQ.out; omega)); have HB := Aside0.mk hb; clear hv hI hb) | (go_at_call 18; refine (town_all (w.heap.size + 1) n A c ways _ HTW.out HOW.out).mono ?_; rintro e w2 ⟨v2_, rfl, ho2, hb2⟩; obtain ⟨A2, c2, rfl⟩ := Kd.R_slice ho2; have HR2 := Aside0.mk ho2; have HT2 := Aside0.mk (HTW.out.below hb2); have HB2 := Aside0.mk (below_step HB.out hb2); clear ho2 hb2; rw [allL_len]) | (go_at_call 17; refine (town_reach (w.heap.size + 1) n A c ways A2 c2 _ HT2.out (by have := HQ.out; omega) (by have := HQ.out; omega) HOW.out (by have := (Kd.R_reads' HR2.out).2.2; rwa [allL_len] at this)).mono ?_; rintro e w3 ⟨rfl, hb3⟩; have HB3 := Aside0.mk (below_step HB2.out hb3); clear hb3))
  go_ret2
  exact ⟨rfl, HB3.out⟩
end Go.Proofs.YtknecgmmpjggiaaDoor.OAll
