/- A part of the proof of 'topReach_holds', for every input, without a condition. -/
import Derived.Shelf.Slices.Turned
import Derived.Test.YtknecgmmpjggiaaDoorTReOAllx0
namespace Go.Proofs.YtknecgmmpjggiaaDoor.OAll
open Go.RowKit Go.Proofs.YtknecgmmpjggiaaDoorW.PrintWords Go.Proofs.YtknecgmmpjggiaaDoorW.PrintLast
set_option linter.unusedVariables false
set_option linter.unusedSimpArgs false
def slices_Max_int_int.f (l0 : List Int) : Option Int := if 0 < l0.length then some (Lib.maxOf l0) else none
set_option maxHeartbeats 2000000 in
set_option maxRecDepth 100000 in
theorem slices_Max_int_int.calls (A0 : Option Addr) (c0 : Nat) (l0 : List Int) (r : Int) (w : World) (hr0 : Kd.C (Kd.int .i64) w A0 l0.length l0) (hc0 : l0.length ≤ c0) (h : slices_Max_int_int.f l0 = some r) :
    Calls Tryd.prog 46 #[.slice A0 l0.length c0] w fun e w' => e = .returned (.int .i64 r) ∧ Drawn0 w w' := by
  unfold slices_Max_int_int.f at h
  split at h
  · rename_i hn
    obtain rfl := Option.some.inj h
    obtain ⟨n, hnl⟩ : ∃ n, n = l0.length := ⟨_, rfl⟩
    rw [← hnl] at hr0 hn ⊢
    obtain ⟨ad, rfl, h0⟩ := Kd.at_int hr0 0 (by omega) (by omega)
    have hbig : n ≤ 9223372036854775807 := by have := Kd.C_max hr0; simpa [maxLen] using this
    have hc : ∀ k : Nat, k < n → w.cell? (ad.add k) = some (.int .i64 (l0.getD k 0)) := fun k hk => by
      obtain ⟨ad', e, h⟩ := Kd.at_int hr0 (k : Int) (by omega) (by omega)
      cases e
      simpa [rd] using h
    have hz : n ≤ l0.length := by omega
    have htk : l0.take n = l0 := by rw [hnl]; exact List.take_length
    have h00 : w.cell? ad = some (.int .i64 (l0.getD 0 0)) := by simpa [Addr.add] using hc 0 hn
    have g : Calls Tryd.prog 46 #[.slice (some ad) n c0] w fun e w' => e = .returned (.int .i64 (Lib.maxOf (l0.take n))) ∧ w' = w := by
      clear h h0 hr0 hnl htk hc0
      go_enter Tryd.func46, Tryd.ntmps46
      go_wp2
      go_loop [3, 4] (fun m i => ∃ k : Nat, 0 < k ∧ k ≤ n ∧ i = .int .i64 k ∧ m = .int .i64 (Lib.maxOf (l0.take k))) (fun _ i => match i with | .int _ q => n - q.toNat | _ => 0)
      case atStart => exact ⟨1, Nat.one_pos, hn, rfl, by rw [Lib.maxOf_one]; simp [List.getD]⟩
      case round =>
        obtain ⟨k, hk0, hk, rfl, rfl⟩ := hrel
        have hcell : k < n → w.cell? (ad.add k) = some (.int .i64 (l0.getD k 0)) := fun hlt => hc k hlt
        go_wp2
        · have hlt : k < n := by assumption
          have hkl := Nat.lt_of_lt_of_le hlt hz
          refine ⟨⟨k + 1, Nat.succ_pos k, hlt, by rw [Int.natCast_succ], ?_⟩, ?_⟩
          · rw [Lib.maxOf_step l0 k hk0 hkl]
            simp [List.getD]
          · show n - ((k : Int) + 1).toNat < n - (k : Int).toNat
            clear h00 hc hcell
            omega
        · have hge : ¬ k < n := by assumption
          have : k = n := by omega
          subst this
          go_ret
          exact ⟨rfl, rfl⟩
    rw [htk] at g
    exact g.mono fun e w' h => ⟨h.1, by rw [h.2]; exact Drawn0.refl w⟩
  · cases h
end Go.Proofs.YtknecgmmpjggiaaDoor.OAll
