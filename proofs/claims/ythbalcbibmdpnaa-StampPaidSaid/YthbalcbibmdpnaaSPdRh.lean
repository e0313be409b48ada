/- A part of the proof of 'stampPaid_holds', for every input, without a condition. -/
import Derived.Shelf.Abstract
import Derived.Shelf.RegionOpen
import Derived.WalkKit
import Derived.OwnWalkIn
import Derived.TacticsInMore
import Derived.LoopNIn
import Derived.LoopIn
import Derived.Test.YthbalcbibmdpnaaSPdRg
import Derived.Test.YthbalcbibmdpnaaSPdOAllx0
namespace Go.Proofs.Ythbalcbibmdpnaa.OAll
open Go.RowKit Go.Shelf Go.Proofs.YthbalcbibmdpnaaW.PrintWords Go.Proofs.YthbalcbibmdpnaaW.PrintLast Go.Proofs.YthbalcbibmdpnaaW.PrintMore Go.Proofs.Ythbalcbibmdpnaa.Rg
attribute [local go_sem] Oper.semAt_some
set_option linter.unusedVariables false
set_option linter.unusedSimpArgs false
def bw (zs : List Int) : List (Int × Int) := (List.range zs.length).map (fun k => (((zs.length - 1 - k : Nat) : Int), rd zs ((zs.length - 1 - k : Nat) : Int)))
theorem bw_len (zs : List Int) : (bw zs).length = zs.length := by simp [bw]
def encP (x : Int × Int) (u : Array Value) (_ : World) : Prop := u = #[.int .i64 x.1, .int .i64 x.2]
def KpB (w00 : World) (Bs : Nat) (W W' : World) : Prop := Below w00.heap.size W W' ∧ W'.heap[Bs]? = W.heap[Bs]?
theorem bw_take (zs : List Int) {k : Nat} (hk : k < zs.length) : bw zs = (bw zs).take k ++ (((zs.length - 1 - k : Nat) : Int), rd zs ((zs.length - 1 - k : Nat) : Int)) :: (bw zs).drop (k + 1) := by
  have h : k < (bw zs).length := by rw [bw_len]; exact hk
  have e : (bw zs)[k] = (((zs.length - 1 - k : Nat) : Int), rd zs ((zs.length - 1 - k : Nat) : Int)) := by simp [bw]
  rw [← e, List.getElem_cons_drop, List.take_append_drop]
theorem bw_take_succ (zs : List Int) {k : Nat} (hk : k < zs.length) : (bw zs).take (k + 1) = (bw zs).take k ++ [(((zs.length - 1 - k : Nat) : Int), rd zs ((zs.length - 1 - k : Nat) : Int))] := by
  have h : k < (bw zs).length := by rw [bw_len]; exact hk
  have e : (bw zs)[k] = (((zs.length - 1 - k : Nat) : Int), rd zs ((zs.length - 1 - k : Nat) : Int)) := by simp [bw]
  rw [List.take_succ_eq_append_getElem h, e]
set_option maxRecDepth 100000 in
set_option maxHeartbeats 2000000 in
theorem backward_seq (w00 w : World) (A : Option Addr) (c : Nat) (zs : List Int) (Bs : Nat) (hC : Kd.C (Kd.int .i64) w00 A zs.length zs) (hc : zs.length ≤ c) (hcb : zs.length ≤ 35184372088832) (hb0 : Below w00.heap.size w00 w)
    (hB : w.heap[Bs]? = some (.cells #[.slice A zs.length c] 22 (0, 0))) :
    SeqB Try.prog 62 #[.pointer (some ⟨Bs, 0, none⟩)] encP (KpB w00 Bs) (fun _ _ _ => False) (fun _ _ _ _ => False) (bw zs) w := by
  intro l J Jx W hW hsz hJ hJx hY h0
  have hBs : Bs < w.heap.size := blk_lt hB
  have hBW : W.heap[Bs]? = some (.cells #[.slice A zs.length c] 22 (0, 0)) := (hW.block Bs hBs).trans hB
  have hbW : Below w00.heap.size w00 W := hb0.trans (hW.mono hb0.size)
  have HC := Aside0.mk hC
  clear hC
  refine callsIn_of_wp Try.func62 rfl trivial ?_ rfl
  simp only [Try.ntmps62, List.size_toArray, List.length_cons, List.length_nil, Nat.reduceAdd, Nat.reduceSub, Array.replicate_succ, Array.replicate_zero, List.push_toArray, List.append_toArray, List.nil_append, List.cons_append]
  have hcell : W.cell? ⟨Bs, 0, none⟩ = some (.slice A zs.length c) := (blk_cell hBW 0).trans rfl
  have ew : wrap64 ((zs.length : Int) - 1) = (zs.length : Int) - 1 := by unfold wrap64; omega
  gi_wp2
  gi_loopw [3] (fun i wr => ∃ j : Int, -1 ≤ j ∧ j < (zs.length : Int) ∧ i = .int .i64 j ∧ J ((bw zs).take ((zs.length : Int) - 1 - j).toNat) wr ∧ Below w00.heap.size w00 wr ∧ wr.heap[Bs]? = some (.cells #[.slice A zs.length c] 22 (0, 0)) ∧ W.heap.size ≤ wr.heap.size)
    (fun i _ => (intOf i + 1).toNat)
  case atStart => exact ⟨(zs.length : Int) - 1, by omega, by omega, rfl, by simpa using h0, hbW, hBW, Nat.le_refl _⟩
  case round =>
    obtain ⟨j, hj1, hj2, rfl, hJs, hb, hbx, hs⟩ := hrel
    have hc1 : wr.cell? ⟨Bs, 0, none⟩ = some (.slice A zs.length c) := (blk_cell hbx 0).trans rfl
    by_cases hlt : 0 ≤ j
    · obtain ⟨k, hk⟩ : ∃ k : Nat, k = ((zs.length : Int) - 1 - j).toNat := ⟨_, rfl⟩
      have hkl : k < zs.length := by omega
      have ej : ((zs.length - 1 - k : Nat) : Int) = j := by omega
      have hxs := bw_take zs hkl
      have hts := bw_take_succ zs hkl
      rw [ej] at hxs hts
      rw [← hk] at hJs
      obtain ⟨fn, tmps, assign, body, hy, hR⟩ := hY _ _ _ #[.int .i64 j, .int .i64 (rd zs j)] wr hxs hJs rfl hs
      obtain ⟨ad, e0, hx⟩ := Kd.at_int (Kd.C_below HC.out hb) j hlt hj2
      cases e0
      have c1 : decide (0 ≤ j) = true := decide_eq_true hlt
      have ew1 : wrap64 (j - 1) = j - 1 := by unfold wrap64; omega
      have p1 := eq_true hlt
      have p2 := eq_true hj2
      gi_wp2
      refine ⟨rfl, hR.mono ?_⟩
      rintro e W3 ⟨hk3, (⟨rfl, hJ3⟩ | ⟨rfl, hJx3⟩)⟩
      · gi_wp2
        go_roundw
        case rel => exact ⟨j - 1, by omega, by omega, rfl, by rw [show ((zs.length : Int) - 1 - (j - 1)).toNat = k + 1 by omega, hts]; exact hJ3, hb.trans hk3.1, hk3.2.trans hbx, Nat.le_trans hs hk3.1.size⟩
        case measure => simp [intOf]; omega
      · gi_wp2
        refine bodyPost_ret (results_none rfl _ _ _) rfl ?_
        exact ⟨⟨_, rfl⟩, .inr ⟨_, _, _, _, hxs, hJx3⟩⟩
    · have c1 : decide (0 ≤ j) = false := decide_eq_false hlt
      obtain rfl : j = -1 := by omega
      gi_wp2
      go_end0
      refine ⟨⟨_, rfl⟩, .inl ?_⟩
      have : ((zs.length : Int) - 1 - -1).toNat = (bw zs).length := by rw [bw_len]; omega
      rw [this, List.take_length] at hJs
      exact hJs
set_option maxHeartbeats 1000000 in
theorem backward_calls (A : Option Addr) (n c : Nat) (w : World) :
    Calls Try.prog 50 #[.slice A n c] w fun e w' => e = .returned (.func (.func 62) #[] #[.pointer (some ⟨w.heap.size, 0, none⟩)]) ∧ w' = w.alloc (.cells #[.slice A n c] 22) := by
  refine (callsIn_wide (n := 0)).1 ?_
  refine callsIn_of_wp Try.func50 rfl trivial ?_ rfl
  simp only [Try.ntmps50, List.size_toArray, List.length_cons, List.length_nil, Nat.reduceAdd, Nat.reduceSub, Array.replicate_succ, Array.replicate_zero, List.push_toArray, List.append_toArray, List.nil_append, List.cons_append]
  gi_wp2
  go_ret
  exact ⟨rfl, rfl⟩
end Go.Proofs.Ythbalcbibmdpnaa.OAll
