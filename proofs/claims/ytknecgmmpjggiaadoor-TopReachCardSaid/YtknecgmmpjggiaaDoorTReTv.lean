/- A part of the proof of 'topReach_holds', for every input, without a condition. -/
import Derived.Maps.OwnSet
import Derived.Maps.RangeWalk
import Derived.Test.YtknecgmmpjggiaaDoorTReTu
namespace Go.Proofs.YtknecgmmpjggiaaDoor.OAll
open Go.RowKit Go.Proofs.YtknecgmmpjggiaaDoorW.PrintWords Go.Proofs.YtknecgmmpjggiaaDoorW.PrintLast Go.Proofs.YtknecgmmpjggiaaDoorW.PrintMore
set_option linter.unusedVariables false
set_option linter.unusedSimpArgs false
set_option maxRecDepth 100000 in
set_option maxHeartbeats 2000000 in
theorem same_corner (T K B n : Nat) (A : Option Addr) (c : Nat) (ways : List S32) (t : Int) (i : Nat) (w : World) (hb : w.heap[T]? = some (.cells #[.pointer (some ⟨B, 0, none⟩)] 52 (0, 0))) (hk : w.heap[K]? = some (.cells #[.int .i64 t] 3 (0, 0))) (hT : Town w B n A c ways) (hi : i < ways.length) :
    Calls Tryd.prog 34 #[.int .i64 (i : Int), .pointer (some ⟨T, 0, none⟩), .pointer (some ⟨K, 0, none⟩)] w fun e w' => (∃ b, e = .returned (.bool b)) ∧ Below w.heap.size w w' := by
  have q1 : w.cell? ⟨T, 0, none⟩ = some (.pointer (some ⟨B, 0, none⟩)) := (blk_cell hb 0).trans rfl
  have q2 : w.cell? ⟨K, 0, none⟩ = some (.int .i64 t) := (blk_cell hk 0).trans rfl
  have q3 := hT.w1
  have hu78 := Tryd.underlying78
  have hu32 := Tryd.underlying32
  obtain ⟨ad, e0, x0, x1, x2⟩ := at_T32 hT.C (i : Int) (by omega) (by omega)
  cases e0
  rw [Int.toNat_natCast] at x0 x1 x2
  have p1 := eq_true (show (0 : Int) ≤ (i : Int) by omega)
  have p2 := eq_true (show (i : Int) < (ways.length : Int) by omega)
  have p3 := eq_true hi
  clear hb hk hT hi
  go_enter Tryd.func34, Tryd.ntmps34
  go_wp2
  go_region
  go_wp2
  go_ret
  exact ⟨⟨_, rfl⟩, below_drew (Below.refl _ _)⟩
set_option maxRecDepth 100000 in
set_option maxHeartbeats 4000000 in
theorem index_func (T K B n : Nat) (A : Option Addr) (c : Nat) (ways : List S32) (t : Int) (A1 : Option Addr) (c1 : Nat) (xs : List Int) (w : World) (hb : w.heap[T]? = some (.cells #[.pointer (some ⟨B, 0, none⟩)] 52 (0, 0))) (hk : w.heap[K]? = some (.cells #[.int .i64 t] 3 (0, 0))) (hT : Town w B n A c ways) (hC : Kd.C (Kd.int .i64) w A1 xs.length xs) (hx : ∀ x ∈ xs, ∃ j : Nat, j < ways.length ∧ x = (j : Int)) (hl : xs.length ≤ 1000) :
    Calls Tryd.prog 49 #[.slice A1 xs.length c1, .func (.func 34) #[] #[.pointer (some ⟨T, 0, none⟩), .pointer (some ⟨K, 0, none⟩)]] w fun e w' => (∃ r, e = .returned (.int .i64 r)) ∧ Below w.heap.size w w' := by
  have HB := Aside0.mk hb
  have HK := Aside0.mk hk
  have HT := Aside0.mk hT
  have HC := Aside0.mk hC
  have HX := Aside0.mk hx
  have HL := Aside0.mk hl
  clear hb hk hT hC hx hl
  go_enter Tryd.func49, Tryd.ntmps49
  go_wp2
  go_loopg [8] xs.length (fun kq v8 w' => ∃ j : Nat, v8 = .int .i64 (j : Int) ∧ Aside0 (j + kq = xs.length) ∧ Aside0 (Below w.heap.size w w'))
  case atStart => exact ⟨0, rfl, ⟨by omega⟩, ⟨Below.refl _ _⟩⟩
  case round =>
    obtain ⟨j, rfl, HJ, HBW⟩ := hrel
    cases gk with
    | zero =>
      have v2 := eq_false (show ¬ j < xs.length by have := HJ.out; omega)
      have v2b := eq_false (show ¬ (j : Int) < (xs.length : Int) by have := HJ.out; omega)
      go_wp2
      go_ret
      exact ⟨⟨_, rfl⟩, HBW.out⟩
    | succ k1 =>
      have hj : j < xs.length := by have := HJ.out; omega
      have v2 := eq_true hj
      have v2b := eq_true (show (j : Int) < (xs.length : Int) by omega)
      have p1 := eq_true (show (0 : Int) ≤ (j : Int) by omega)
      have E1 := Aside0.mk (w64s j (by have := HL.out; omega))
      obtain ⟨ad, e0, x0⟩ := Kd.at_int (Kd.C_below HC.out HBW.out) (j : Int) (by omega) (by omega)
      cases e0
      obtain ⟨i, hi, hxi⟩ := HX.out _ (rd_of hj)
      rw [Int.toNat_natCast, hxi] at x0
      have HI := Aside0.mk hi
      clear hj hxi hi
      go_wp2_with (go_at_call 34; refine (same_corner T K B n A c ways t i _ (blk_below HB.out HBW.out) (blk_below HK.out HBW.out) (HT.out.below HBW.out) HI.out).mono ?_; rintro e w3 ⟨⟨b, rfl⟩, hb3⟩; have HB3 := Aside0.mk (below_step HBW.out hb3); clear hb3)
      · go_ret
        exact ⟨⟨_, rfl⟩, HB3.out⟩
      · go_roundg k1
        case measure => omega
        case rel => exact ⟨j + 1, by first | rw [E1.out] | rw [Int.natCast_succ], ⟨by have := HJ.out; omega⟩, HB3⟩
set_option maxRecDepth 100000 in
set_option maxHeartbeats 4000000 in
theorem contains_func (T K B n : Nat) (A : Option Addr) (c : Nat) (ways : List S32) (t : Int) (A1 : Option Addr) (c1 : Nat) (xs : List Int) (w : World) (hb : w.heap[T]? = some (.cells #[.pointer (some ⟨B, 0, none⟩)] 52 (0, 0))) (hk : w.heap[K]? = some (.cells #[.int .i64 t] 3 (0, 0))) (hT : Town w B n A c ways) (hC : Kd.C (Kd.int .i64) w A1 xs.length xs) (hx : ∀ x ∈ xs, ∃ j : Nat, j < ways.length ∧ x = (j : Int)) (hl : xs.length ≤ 1000) :
    Calls Tryd.prog 33 #[.slice A1 xs.length c1, .func (.func 34) #[] #[.pointer (some ⟨T, 0, none⟩), .pointer (some ⟨K, 0, none⟩)]] w fun e w' => (∃ b, e = .returned (.bool b)) ∧ Below w.heap.size w w' := by
  have HH := Aside0.mk (index_func T K B n A c ways t A1 c1 xs w hb hk hT hC hx hl)
  clear hb hk hT hC hx hl
  go_enter Tryd.func33, Tryd.ntmps33
  go_wp2_with (go_at_call 49; refine HH.out.mono ?_; rintro e w3 ⟨⟨r, rfl⟩, hb3⟩; have HB3 := Aside0.mk hb3; clear hb3)
  go_ret
  exact ⟨⟨_, rfl⟩, HB3.out⟩
theorem plainElem_bool_inv {P : Program} {e : TypeId} (he : P.underlying e = some .bool) {v : Value} {z : DataW Unit × List MemPlace} (h : plainElem P e v = some z) : ∃ x, v = .bool x ∧ z = (.lit (.bool x), []) := by
  unfold plainElem at h
  rw [he] at h
  cases v <;> simp at h
  exact ⟨_, rfl, h.symm⟩
def MB (w : World) (b N : Nat) : Prop := ∃ D : DataW Unit, w.ownsMap Tryd.prog 3 (plainElem Tryd.prog 4) b N D
theorem MB.grown {w w1 : World} {b N : Nat} {row : Option Nat} (h : MB w b N) (hg : w.grownBy w1 row) (hne : some b ≠ row) : MB w1 b N := by
  obtain ⟨D, hD⟩ := h
  exact ⟨D, hD.kept hg hne⟩
theorem MB.below {w w1 : World} {b N : Nat} (h : MB w b N) (hb : Below w.heap.size w w1) : MB w1 b N := h.grown (grown_of_below hb none) (by simp)
theorem MB.looser {w : World} {b N N' : Nat} (h : MB w b N) (hn : N ≤ N') : MB w b N' := by
  obtain ⟨D, hD⟩ := h
  exact ⟨D, hD.mono hn⟩
theorem MB.lt {w : World} {b N : Nat} (h : MB w b N) : b < w.heap.size := by
  obtain ⟨D, hD⟩ := h
  exact hD.lt
theorem MB.made (w : World) : MB (w.alloc (.map #[] 0)) w.heap.size 0 := ⟨_, World.ownsMap_made w _ _ _⟩
theorem MB.put {w : World} {b N : Nat} (h : MB w b N) (hN : N < 1000000) (x : Int) (hx : (Lit.int .i64 x).wf = true) : ∃ w', (Instr.mapUpdate 82 (.map (some b)) (.int .i64 x) (.bool true)).run Tryd.prog w = .ok () w' ∧ MB w' b (N + 1) ∧ w.grownBy w' (some b) := by
  obtain ⟨D, hD⟩ := h
  obtain ⟨w', h1, h2, h3⟩ := hD.update (Maps.int_keyed Tryd.underlying3) Tryd.underlying82 (by simp only [maxLen]; omega) (Maps.keyOf_int_mk Tryd.underlying3 hx) (plainElem_bool Tryd.underlying4 true)
  exact ⟨w', h1, ⟨_, h2⟩, h3⟩
theorem MB.looks {w : World} {b N m : Nat} (h : MB w b N) (hm : m ≤ 100) : ∃ p, Looks w (.map (some b)) m p := by
  obtain ⟨D, hD⟩ := h
  refine ⟨fun i => match D.atKey (.int .i64 (i : Int)) (.lit (.bool false)) with | .lit (.bool x) => x | _ => false, fun W hW i hi => ?_⟩
  have hDW := hD.kept (grown_of_below hW none) (by simp)
  obtain ⟨v, ps, hrun, hv⟩ := hDW.lookup (Maps.int_keyed Tryd.underlying3) Tryd.underlying82 (Tryd.zeroValue4 W) (plainElem_bool Tryd.underlying4 false) (Maps.keyOf_int_mk Tryd.underlying3 (wf_small (k := (i : Int)) (by omega) (by omega)))
  obtain ⟨x, rfl, hz⟩ := plainElem_bool_inv Tryd.underlying4 hv
  simp only [Prod.mk.injEq] at hz
  rw [hrun]
  simp only [hz.1]
end Go.Proofs.YtknecgmmpjggiaaDoor.OAll
