/- A part of the proof of 'topBridge_holds', for every input, without a condition. -/
import Derived.Lib.ConvBytes
import Derived.Laws.BytesString
import Derived.Test.YtknecgmmpjggiaaDoorTBrTh
import Derived.Test.YtknecgmmpjggiaaDoorTBrQb
namespace Go.Proofs.YtknecgmmpjggiaaDoor.OAll
open Go.RowKit Go.Proofs.YtknecgmmpjggiaaDoorW.PrintWords Go.Proofs.YtknecgmmpjggiaaDoorW.PrintLast Go.Proofs.YtknecgmmpjggiaaDoorW.PrintMore
set_option linter.unusedVariables false
set_option linter.unusedSimpArgs false
def signB (b : Bool) : UInt8 := if b then 62 else 60
def strB (σ : List Bool) : ByteArray := ⟨(σ.map signB).toArray⟩
def byteN (L k i j : Nat) : Int := if j < i ∧ k.testBit (L - 1 - j) = true then 62 else 60
structure BRow (w : World) (g m L : Nat) (f : Nat → Int) : Prop where
  cells : ∃ cur, w.heap[g]? = some (.cells cur 5 (m, m + 1)) ∧ L ≤ cur.size ∧ ∀ j, j < L → cur[j]? = some (.int .u8 (f j))
  le : L ≤ m
theorem BRow.cell {w : World} {g m L : Nat} {f : Nat → Int} (h : BRow w g m L f) (j : Nat) (hj : j < L) : w.cell? ⟨g, j, none⟩ = some (.int .u8 (f j)) := by
  obtain ⟨cur, hc, _, h2⟩ := h.cells
  rw [cell_of_row w g j cur 5 _ hc]; exact h2 j hj
theorem BRow.frozen {w : World} {g m L : Nat} {f : Nat → Int} (h : BRow w g m L f) (j : Nat) (hj : j < L) : w.frozen? ⟨g, j, none⟩ = false := by
  obtain ⟨cur, hc, _, h2⟩ := h.cells
  have := h.le
  simp [World.frozen?, hc]; omega
theorem BRow.put {w : World} {g m L : Nat} {f : Nat → Int} (h : BRow w g m L f) (j : Nat) (hj : j < L) (x : Int) : BRow (w.setCell ⟨g, j, none⟩ (.int .u8 x)) g m L (fun i => if i = j then x else f i) := by
  obtain ⟨cur, hc, h1, h2⟩ := h.cells
  refine ⟨⟨cur.setIfInBounds j (.int .u8 x), ?_, by simpa using h1, fun i hi => ?_⟩, h.le⟩
  · simp [World.setCell, Array.getElem?_modify, hc]
  · rw [Array.getElem?_setIfInBounds]
    split
    · rename_i e; subst e; simp; omega
    · rename_i e; rw [if_neg (fun e' => e e'.symm)]; exact h2 i hi
theorem BRow.congr {w : World} {g m L : Nat} {f f' : Nat → Int} (h : BRow w g m L f) (e : ∀ j, j < L → f j = f' j) : BRow w g m L f' := by
  obtain ⟨cur, hc, h1, h2⟩ := h.cells
  exact ⟨⟨cur, hc, h1, fun j hj => by rw [h2 j hj, e j hj]⟩, h.le⟩
theorem BRow.made (w : World) (s : ByteArray) (f : Nat → Int) (hf : ∀ j, j < s.size → ((s.data.toList.getD j 0).toNat : Int) = f j) : BRow (Lib.bytesWorld w 5 s) w.heap.size (Lib.bytesCells w 5 s).size s.size f := by
  have hsz : s.size ≤ (Lib.bytesCells w 5 s).size := by simp [Lib.bytesCells]
  refine ⟨⟨_, Lib.bytesWorld_at_new w 5 s, hsz, fun j hj => ?_⟩, hsz⟩
  have := Lib.bytesWorld_cell w 5 s j hj
  rw [cell_of_row _ _ j _ 5 _ (Lib.bytesWorld_at_new w 5 s)] at this
  rw [this, hf j hj]
theorem rep60 : ∀ n, Lib.repeatL [(60 : UInt8)] n = List.replicate n 60
  | 0 => rfl
  | n + 1 => by rw [Lib.repeatL, rep60 n]; rfl
theorem BRow.string {w : World} {g m L : Nat} {f : Nat → Int} (h : BRow w g m L f) (cap : Nat) : (convert 98 9 (.slice (some ⟨g, 0, none⟩) L cap)).run Tryd.prog w = .ok (.string ⟨((List.range L).map fun j => UInt8.ofNat (f j).toNat).toArray⟩) w := by
  rw [run_convert_bytes_string w 98 9 5 _ _ _ Tryd.underlying98 Tryd.underlying5 Tryd.underlying9]
  have hl : (loadCells ⟨g, 0, none⟩ L).run Tryd.prog w = .ok (((List.range L).map f).map (Value.int .u8)).toArray w := by
    rw [run_loadCells (P := Tryd.prog) w ⟨g, 0, none⟩ L (fun j => .int .u8 (f j)) (fun j hj => by rw [add_plain]; exact h.cell j hj)]
    rw [List.map_map]; rfl
  rw [run_bytesToString w _ L cap _ hl]
  have : ∀ (ns : List Int) (r : ByteArray), ns.foldl (fun r n => r.push (UInt8.ofNat n.toNat)) r = ⟨(r.data.toList ++ ns.map fun n => UInt8.ofNat n.toNat).toArray⟩ := by
    intro ns
    induction ns with
    | nil => intro r; simp
    | cons n t ih => intro r; rw [List.foldl_cons, ih]; simp [ByteArray.push]
  rw [this, List.map_map]
  rfl
theorem spell_end (L k : Nat) : (⟨((List.range L).map fun j => UInt8.ofNat (byteN L k L j).toNat).toArray⟩ : ByteArray) = strB (sgn L k) := by
  unfold strB sgn
  congr 2
  rw [List.map_map]
  refine List.map_congr_left fun j hj => ?_
  have hj' := List.mem_range.1 hj
  show _ = signB (k.testBit (L - 1 - j))
  unfold byteN signB
  by_cases hb : k.testBit (L - 1 - j) = true
  · rw [if_pos ⟨hj', hb⟩, if_pos hb]; rfl
  · rw [if_neg (fun e => hb e.2), if_neg hb]; rfl
set_option maxRecDepth 100000 in
set_option maxHeartbeats 4000000 in
theorem oneway_spelled (a0_0 : Int) (A0_1 : Option Addr) (c0_1 : Nat) (l0_1 : List S30) (k : Nat) (w : World) (hl : l0_1.length ≤ 14) (hk : k < 2 ^ 14) :
    Calls Tryd.prog 40 #[.agg #[.int .i64 a0_0, .slice A0_1 l0_1.length c0_1], .int .i64 k] w fun e w' => e = .returned (.string (strB (sgn l0_1.length k))) ∧ Below w.heap.size w w' := by
  have hu46 := Tryd.underlying46
  have hu9 := Tryd.underlying9
  have hu98 := Tryd.underlying98
  have hu5 := Tryd.underlying5
  obtain ⟨L, hL⟩ : ∃ L, L = l0_1.length := ⟨_, rfl⟩
  rw [← hL] at hl ⊢
  obtain ⟨s0, hs0⟩ : ∃ s0 : ByteArray, s0 = ⟨(Lib.repeatL (⟨#[60]⟩ : ByteArray).data.toList L).toArray⟩ := ⟨_, rfl⟩
  have hrep := rep60
  have hs0l : s0.size = L := by
    rw [hs0]; show (Lib.repeatL [(60 : UInt8)] L).toArray.size = L; rw [hrep]; simp
  have HS0 := Aside0.mk hs0
  have HSL := Aside0.mk hs0l
  have HLL := Aside0.mk hl
  have HB0 : Aside0 (Below w.heap.size w (w.alloc (.cells #[.int .i64 a0_0, .slice A0_1 L c0_1] 46))) := ⟨below_alloc (Below.refl _ _) _⟩
  have hcv : ∀ W : World, (convert 9 98 (.string s0)).run Tryd.prog W = .ok (.slice (some ⟨W.heap.size, 0, none⟩) L (grownCap W s0.size 0 5)) (Lib.bytesWorld W 5 s0) := fun W => by
    rw [Lib.run_convert_string_bytes W 9 98 5 s0 hu9 hu98 hu5, hs0l]
  clear hL hs0 hs0l
  go_enter Tryd.func40, Tryd.ntmps40
  go_wp2_with (first | (go_at_call 56; refine (repeat_calls ⟨#[60]⟩ L _ (by have := HLL.out; omega) (by have := HLL.out; show 1 * L ≤ _; omega)).mono ?_; rintro e w1 ⟨rfl, hb1⟩; rw [← HS0.out]; have HB1 := Aside0.mk (below_step HB0.out hb1); clear hb1))
  have hmade : BRow (Lib.bytesWorld w1 5 s0) w1.heap.size (Lib.bytesCells w1 5 s0).size L (byteN L k 0) := by
    have := BRow.made w1 s0 (byteN L k 0) (fun j hj => by
      have e : s0.data.toList = List.replicate L 60 := by rw [HS0.out]; exact hrep L
      have hj' : j < L := by have := HSL.out; omega
      rw [e]; simp [List.getD_eq_getElem?_getD, hj', byteN])
    rwa [HSL.out] at this
  obtain ⟨m, hm⟩ : ∃ m, m = (Lib.bytesCells w1 5 s0).size := ⟨_, rfl⟩
  rw [← hm] at hmade
  obtain ⟨cap, hcap⟩ : ∃ cap, cap = grownCap w1 s0.size 0 5 := ⟨_, rfl⟩
  obtain ⟨W0, hW0⟩ : ∃ W0, W0 = Lib.bytesWorld w1 5 s0 := ⟨_, rfl⟩
  have HBW : Aside0 (Below w.heap.size w W0) := ⟨by
    rw [hW0]
    exact below_step HB1.out ⟨by rfl, by rfl, by rfl, by rw [Lib.bytesWorld_size]; omega, fun j hj => Lib.bytesWorld_at_old w1 5 s0 j hj⟩⟩
  rw [← hW0] at hmade
  have HMADE := Aside0.mk hmade
  have HBS : Aside0 (w.heap.size ≤ w1.heap.size) := ⟨HB1.out.size⟩
  try rw [← hcap]
  try rw [← hW0]
  clear hmade hm hcap hW0 hrep hcv
  go_loopg [14] L (fun kq v14 w' => ∃ i : Nat, v14 = .int .i64 i ∧ Aside0 (i + kq = L) ∧ Aside0 (BRow w' w1.heap.size m L (byteN L k i)) ∧ Aside0 (Below w.heap.size w w'))
  case atStart => exact ⟨0, rfl, ⟨by omega⟩, HMADE, HBW⟩
  case round =>
    clear HMADE HBW
    obtain ⟨i, rfl, HI, HR, HB⟩ := hrel
    cases gk with
    | zero =>
      have hiL : i = L := HI.out
      subst hiL
      have hcs := HR.out.string cap
      rw [spell_end] at hcs
      go_wp2
      go_ret
      exact ⟨rfl, HB.out⟩
    | succ k1 =>
      have hi := HI.out
      have hiL : i < L := by omega
      have v1 := decide_eq_true (show (i : Int) < (L : Int) by omega)
      obtain ⟨a, ha⟩ : ∃ a : Nat, a = L - 1 := ⟨_, rfl⟩
      obtain ⟨c, hc⟩ : ∃ c : Nat, c = L - 1 - i := ⟨_, rfl⟩
      have e1 : IntKind.i64.wrap ((L : Int) - 1) = (a : Int) := by rw [IntKind.wrap_i64]; omega
      have e2 : IntKind.i64.wrap ((a : Int) - (i : Int)) = (c : Int) := by rw [IntKind.wrap_i64]; omega
      have e3 : wrap64 ((L : Int) - 1) = (a : Int) := by unfold wrap64; omega
      have e4 : wrap64 ((a : Int) - (i : Int)) = (c : Int) := by unfold wrap64; omega
      have v2 := eq_true hiL
      have hmin : min c 64 = c := by have := HLL.out; omega
      have hcl := HR.out.cell i hiL
      have hfr := HR.out.frozen i hiL
      have HC := Aside0.mk (And.intro ha (And.intro hc hiL))
      have hbv := bit_and k c (by omega)
      clear ha hc hi hiL
      by_cases hb : k.testBit c = true
      · rw [if_pos hb] at hbv
        have HR2 := Aside0.mk ((HR.out.put i HC.out.2.2 62).congr (f' := byteN L k (i + 1)) fun j hj => by
          unfold byteN
          by_cases hji : j = i
          · subst hji; rw [if_pos rfl, if_pos ⟨by omega, by rw [← HC.out.2.1]; exact hb⟩]
          · rw [if_neg hji]
            by_cases hlt : j < i
            · have h1 : (j < i ∧ k.testBit (L - 1 - j) = true) = (j < i + 1 ∧ k.testBit (L - 1 - j) = true) := propext ⟨fun h => ⟨by omega, h.2⟩, fun h => ⟨hlt, h.2⟩⟩
              simp only [h1]
            · rw [if_neg (fun h => hlt h.1), if_neg (fun h => by omega)])
        have HB2 := Aside0.mk (HB.out.setCell (p := ⟨w1.heap.size, i, none⟩) HBS.out (.int .u8 62))
        clear hb
        go_wp2
        go_roundg k1
        case measure => omega
        case rel => exact ⟨i + 1, by rw [w64s i (by have := HLL.out; have := HI.out; omega)], ⟨by have := HI.out; omega⟩, HR2, HB2⟩
      · rw [if_neg hb] at hbv
        have HR2 := Aside0.mk (HR.out.congr (f' := byteN L k (i + 1)) fun j hj => by
          unfold byteN
          by_cases hji : j = i
          · subst hji; rw [if_neg (fun h => by omega), if_neg (fun h => hb (by rw [HC.out.2.1]; exact h.2))]
          · by_cases hlt : j < i
            · have h1 : (j < i ∧ k.testBit (L - 1 - j) = true) = (j < i + 1 ∧ k.testBit (L - 1 - j) = true) := propext ⟨fun h => ⟨by omega, h.2⟩, fun h => ⟨hlt, h.2⟩⟩
              simp only [h1]
            · rw [if_neg (fun h => hlt h.1), if_neg (fun h => by omega)])
        clear hb
        go_wp2
        go_roundg k1
        case measure => omega
        case rel => exact ⟨i + 1, by rw [w64s i (by have := HLL.out; have := HI.out; omega)], ⟨by have := HI.out; omega⟩, HR2, HB⟩
end Go.Proofs.YtknecgmmpjggiaaDoor.OAll
