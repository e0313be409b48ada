/- A part of the proof of 'topReach_holds', for every input, without a condition. -/
import Derived.Lib.ConvBytes
import Derived.Laws.BytesString
import Derived.Shelf.Strings.Repeat
import Derived.Test.YtknecgmmpjggiaaDoorTReOAllx0
import Derived.Test.YtknecgmmpjggiaaDoorTReQb
namespace Go.Proofs.YtknecgmmpjggiaaDoor.OAll
open Go.RowKit Go.Proofs.YtknecgmmpjggiaaDoorW.PrintWords Go.Proofs.YtknecgmmpjggiaaDoorW.PrintLast Go.Proofs.YtknecgmmpjggiaaDoorW.PrintMore
set_option linter.unusedVariables false
set_option linter.unusedSimpArgs false
structure BRow (w : World) (g m L : Nat) (f : Nat → Int) : Prop where
  cells : ∃ cur, w.heap[g]? = some (.cells cur 5 (m, m + 1)) ∧ L ≤ cur.size ∧ ∀ j, j < L → cur[j]? = some (.int .u8 (f j))
  le : L ≤ m
theorem BRow.cell {w : World} {g m L : Nat} {f : Nat → Int} (h : BRow w g m L f) (j : Nat) (hj : j < L) : w.cell? ⟨g, j, none⟩ = some (.int .u8 (f j)) := by
  obtain ⟨cur, hc, _, h2⟩ := h.cells
  rw [cell_of_row w g j cur 5 _ hc]; exact h2 j hj
theorem BRow.put {w : World} {g m L : Nat} {f : Nat → Int} (h : BRow w g m L f) (j : Nat) (hj : j < L) (x : Int) : BRow (w.setCell ⟨g, j, none⟩ (.int .u8 x)) g m L (fun i => if i = j then x else f i) := by
  obtain ⟨cur, hc, h1, h2⟩ := h.cells
  refine ⟨⟨cur.setIfInBounds j (.int .u8 x), ?_, by simpa using h1, fun i hi => ?_⟩, h.le⟩
  · simp [World.setCell, Array.getElem?_modify, hc]
  · rw [Array.getElem?_setIfInBounds]
    split
    · rename_i e; subst e; simp; omega
    · rename_i e; rw [if_neg (fun e' => e e'.symm)]; exact h2 i hi
theorem BRow.string {w : World} {g m L : Nat} {f : Nat → Int} (h : BRow w g m L f) (cap : Nat) : (convert 98 9 (.slice (some ⟨g, 0, none⟩) L cap)).run Tryd.prog w = .ok (.string ⟨((List.range L).map fun j => UInt8.ofNat (f j).toNat).toArray⟩) w := by
  rw [run_convert_bytes_string w 98 9 5 _ _ _ Tryd.underlying98 Tryd.underlying5 Tryd.underlying9]
  have hl : (loadCells ⟨g, 0, none⟩ L).run Tryd.prog w = .ok (((List.range L).map f).map (Value.int .u8)).toArray w := by
    rw [run_loadCells (P := Tryd.prog) w ⟨g, 0, none⟩ L (fun j => .int .u8 (f j)) (fun j hj => by rw [add_plain]; exact h.cell j hj)]
    rw [List.map_map]; rfl
  rw [run_bytesToString w _ L cap _ hl]
  have : ∀ (ns : List Int) (r : ByteArray), ns.foldl (fun r n => r.push (UInt8.ofNat n.toNat)) r = ⟨(r.data.toList ++ ns.map fun n => UInt8.ofNat n.toNat).toArray⟩ := by
    intro ns
    induction ns with
    | nil => intro r; simp
    | cons n t ih => intro r; rw [List.foldl_cons, ih]; simp [ByteArray.push]
  rw [this, List.map_map]
  rfl
end Go.Proofs.YtknecgmmpjggiaaDoor.OAll
