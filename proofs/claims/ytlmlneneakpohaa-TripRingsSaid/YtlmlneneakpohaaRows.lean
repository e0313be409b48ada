/-
  No cell of these rows narrows 'for every input' (looked for: loops, veiled, ifaces, maps, wideKeys, modest, calm, conditions, laid).
  DERIVED. THE GIVEN ROWS OF THIS SEAT. 12 by the template 'for every input the law returns true; each argument reads behind the call as it read before'; 0 by the template 'total and deterministic' (their statements: YtlmlneneakpohaaTotals.lean).
  GIVEN WITH THE SEED: the statements are not yours to turn. If you find one false, say at which input.
  Laid BY PROGRAM, IN A SANDBOX (cutbox-rows.mjs): the forced cells as the released guide's own fill.sh prints them over the translation 17a1a6a08b8156a5… (all of the seat's roots in one cut). By AI agents, Wed Nov 11 2026. No macro, syntax, notation, axiom, sorry.
-/
import Derived.Test.YtlmlneneakpohaaChecked
import GoSem.Claim
import GoSem.ClaimJoined
import GoSem.ClaimMapViews
import Derived.JoinedTies
import Derived.KernelRfl
namespace Go.Proofs.Ytlmlneneakpohaa
/- THE CELL 'sum', in the pinned program and in every row, IS THE sha256 OF THE DUMP (.gsa) THAT YtlmlneneakpohaaProg.lean LOADS. Nothing in Lean hashes anything: it is a label: what it is worth is what the hold of that sum in a sandbox is worth. -/
noncomputable def Try.pinned : Pinned := { name := "ytlmlneneakpohaa", sum := "17a1a6a08b8156a58b1bb1a831fba9941ff21748c46f09e2e20dabc5ba6fe82c", checked := Try.checked }
namespace Rows
def none {H : Type} : Left H := { results := [], args := [] }

/-- 'trishawlaw06.TripTours': WHATEVER THE INPUT: true; the input reads as it did. -/
def tripToursSpec : ChangeSpec := { name := "tripTours", fn := fun _ => fun
  | [d1, d2] => { results := [.lit (.bool true)], args := [d1, d2] }
  | _ => none }
def tripToursRow : OpenClaim := { program := "ytlmlneneakpohaa", sum := "17a1a6a08b8156a58b1bb1a831fba9941ff21748c46f09e2e20dabc5ba6fe82c", func := "trishaw/trishawlaw06.TripTours", spec := "tripTours", unfollowed := true, recurses := true, apart := false }
def TripToursSaid : Prop := tripToursRow.holds Try.pinned (OpenSpec.ofChange tripToursSpec)

/-- ITS FALSE NEIGHBOUR: 'it returns false'. Refute it at one input. -/
def tripToursWrong : ChangeSpec := { name := "tripTours", fn := fun _ => fun
  | [d1, d2] => { results := [.lit (.bool false)], args := [d1, d2] }
  | _ => none }
def TripToursWrongFalsely : Prop := tripToursRow.holds Try.pinned (OpenSpec.ofChange tripToursWrong)

/-- 'trishawlaw06.TripTurned': WHATEVER THE INPUT: true; the input reads as it did. -/
def tripTurnedSpec : ChangeSpec := { name := "tripTurned", fn := fun _ => fun
  | [d1, d2, d3] => { results := [.lit (.bool true)], args := [d1, d2, d3] }
  | _ => none }
def tripTurnedRow : OpenClaim := { program := "ytlmlneneakpohaa", sum := "17a1a6a08b8156a58b1bb1a831fba9941ff21748c46f09e2e20dabc5ba6fe82c", func := "trishaw/trishawlaw06.TripTurned", spec := "tripTurned", unfollowed := true, recurses := true, apart := false }
def TripTurnedSaid : Prop := tripTurnedRow.holds Try.pinned (OpenSpec.ofChange tripTurnedSpec)

/-- ITS FALSE NEIGHBOUR: 'it returns false'. Refute it at one input. -/
def tripTurnedWrong : ChangeSpec := { name := "tripTurned", fn := fun _ => fun
  | [d1, d2, d3] => { results := [.lit (.bool false)], args := [d1, d2, d3] }
  | _ => none }
def TripTurnedWrongFalsely : Prop := tripTurnedRow.holds Try.pinned (OpenSpec.ofChange tripTurnedWrong)

/-- 'trishawlaw06.TripFurther': WHATEVER THE INPUT: true; the input reads as it did. -/
def tripFurtherSpec : ChangeSpec := { name := "tripFurther", fn := fun _ => fun
  | [d1, d2, d3] => { results := [.lit (.bool true)], args := [d1, d2, d3] }
  | _ => none }
def tripFurtherRow : OpenClaim := { program := "ytlmlneneakpohaa", sum := "17a1a6a08b8156a58b1bb1a831fba9941ff21748c46f09e2e20dabc5ba6fe82c", func := "trishaw/trishawlaw06.TripFurther", spec := "tripFurther", unfollowed := true, recurses := true, apart := false }
def TripFurtherSaid : Prop := tripFurtherRow.holds Try.pinned (OpenSpec.ofChange tripFurtherSpec)

/-- ITS FALSE NEIGHBOUR: 'it returns false'. Refute it at one input. -/
def tripFurtherWrong : ChangeSpec := { name := "tripFurther", fn := fun _ => fun
  | [d1, d2, d3] => { results := [.lit (.bool false)], args := [d1, d2, d3] }
  | _ => none }
def TripFurtherWrongFalsely : Prop := tripFurtherRow.holds Try.pinned (OpenSpec.ofChange tripFurtherWrong)

/-- 'trishawlaw06.TripGaps': WHATEVER THE INPUT: true; the input reads as it did. -/
def tripGapsSpec : ChangeSpec := { name := "tripGaps", fn := fun _ => fun
  | [d1, d2] => { results := [.lit (.bool true)], args := [d1, d2] }
  | _ => none }
def tripGapsRow : OpenClaim := { program := "ytlmlneneakpohaa", sum := "17a1a6a08b8156a58b1bb1a831fba9941ff21748c46f09e2e20dabc5ba6fe82c", func := "trishaw/trishawlaw06.TripGaps", spec := "tripGaps", unfollowed := true, recurses := true, apart := false }
def TripGapsSaid : Prop := tripGapsRow.holds Try.pinned (OpenSpec.ofChange tripGapsSpec)

/-- ITS FALSE NEIGHBOUR: 'it returns false'. Refute it at one input. -/
def tripGapsWrong : ChangeSpec := { name := "tripGaps", fn := fun _ => fun
  | [d1, d2] => { results := [.lit (.bool false)], args := [d1, d2] }
  | _ => none }
def TripGapsWrongFalsely : Prop := tripGapsRow.holds Try.pinned (OpenSpec.ofChange tripGapsWrong)

/-- 'trishawlaw06.TripLevels': WHATEVER THE INPUT: true; the input reads as it did. -/
def tripLevelsSpec : ChangeSpec := { name := "tripLevels", fn := fun _ => fun
  | [d1, d2] => { results := [.lit (.bool true)], args := [d1, d2] }
  | _ => none }
def tripLevelsRow : OpenClaim := { program := "ytlmlneneakpohaa", sum := "17a1a6a08b8156a58b1bb1a831fba9941ff21748c46f09e2e20dabc5ba6fe82c", func := "trishaw/trishawlaw06.TripLevels", spec := "tripLevels", unfollowed := true, recurses := true, apart := false }
def TripLevelsSaid : Prop := tripLevelsRow.holds Try.pinned (OpenSpec.ofChange tripLevelsSpec)

/-- ITS FALSE NEIGHBOUR: 'it returns false'. Refute it at one input. -/
def tripLevelsWrong : ChangeSpec := { name := "tripLevels", fn := fun _ => fun
  | [d1, d2] => { results := [.lit (.bool false)], args := [d1, d2] }
  | _ => none }
def TripLevelsWrongFalsely : Prop := tripLevelsRow.holds Try.pinned (OpenSpec.ofChange tripLevelsWrong)

/-- 'trishawlaw06.TripByLevels': WHATEVER THE INPUT: true; the input reads as it did. -/
def tripByLevelsSpec : ChangeSpec := { name := "tripByLevels", fn := fun _ => fun
  | [d1, d2] => { results := [.lit (.bool true)], args := [d1, d2] }
  | _ => none }
def tripByLevelsRow : OpenClaim := { program := "ytlmlneneakpohaa", sum := "17a1a6a08b8156a58b1bb1a831fba9941ff21748c46f09e2e20dabc5ba6fe82c", func := "trishaw/trishawlaw06.TripByLevels", spec := "tripByLevels", unfollowed := true, recurses := true, apart := false }
def TripByLevelsSaid : Prop := tripByLevelsRow.holds Try.pinned (OpenSpec.ofChange tripByLevelsSpec)

/-- ITS FALSE NEIGHBOUR: 'it returns false'. Refute it at one input. -/
def tripByLevelsWrong : ChangeSpec := { name := "tripByLevels", fn := fun _ => fun
  | [d1, d2] => { results := [.lit (.bool false)], args := [d1, d2] }
  | _ => none }
def TripByLevelsWrongFalsely : Prop := tripByLevelsRow.holds Try.pinned (OpenSpec.ofChange tripByLevelsWrong)

/-- 'trishawlaw06.TripMatches': WHATEVER THE INPUT: true; the input reads as it did. -/
def tripMatchesSpec : ChangeSpec := { name := "tripMatches", fn := fun _ => fun
  | [d1, d2] => { results := [.lit (.bool true)], args := [d1, d2] }
  | _ => none }
def tripMatchesRow : OpenClaim := { program := "ytlmlneneakpohaa", sum := "17a1a6a08b8156a58b1bb1a831fba9941ff21748c46f09e2e20dabc5ba6fe82c", func := "trishaw/trishawlaw06.TripMatches", spec := "tripMatches", unfollowed := true, recurses := true, apart := false }
def TripMatchesSaid : Prop := tripMatchesRow.holds Try.pinned (OpenSpec.ofChange tripMatchesSpec)

/-- ITS FALSE NEIGHBOUR: 'it returns false'. Refute it at one input. -/
def tripMatchesWrong : ChangeSpec := { name := "tripMatches", fn := fun _ => fun
  | [d1, d2] => { results := [.lit (.bool false)], args := [d1, d2] }
  | _ => none }
def TripMatchesWrongFalsely : Prop := tripMatchesRow.holds Try.pinned (OpenSpec.ofChange tripMatchesWrong)

/-- 'trishawlaw06.TripRings': WHATEVER THE INPUT: true; the input reads as it did. -/
def tripRingsSpec : ChangeSpec := { name := "tripRings", fn := fun _ => fun
  | [d1, d2] => { results := [.lit (.bool true)], args := [d1, d2] }
  | _ => none }
def tripRingsRow : OpenClaim := { program := "ytlmlneneakpohaa", sum := "17a1a6a08b8156a58b1bb1a831fba9941ff21748c46f09e2e20dabc5ba6fe82c", func := "trishaw/trishawlaw06.TripRings", spec := "tripRings", unfollowed := true, recurses := true, apart := false }
def TripRingsSaid : Prop := tripRingsRow.holds Try.pinned (OpenSpec.ofChange tripRingsSpec)

/-- ITS FALSE NEIGHBOUR: 'it returns false'. Refute it at one input. -/
def tripRingsWrong : ChangeSpec := { name := "tripRings", fn := fun _ => fun
  | [d1, d2] => { results := [.lit (.bool false)], args := [d1, d2] }
  | _ => none }
def TripRingsWrongFalsely : Prop := tripRingsRow.holds Try.pinned (OpenSpec.ofChange tripRingsWrong)

/-- 'trishawlaw06.TripGilmore': WHATEVER THE INPUT: true; the input reads as it did. -/
def tripGilmoreSpec : ChangeSpec := { name := "tripGilmore", fn := fun _ => fun
  | [d1, d2, d3] => { results := [.lit (.bool true)], args := [d1, d2, d3] }
  | _ => none }
def tripGilmoreRow : OpenClaim := { program := "ytlmlneneakpohaa", sum := "17a1a6a08b8156a58b1bb1a831fba9941ff21748c46f09e2e20dabc5ba6fe82c", func := "trishaw/trishawlaw06.TripGilmore", spec := "tripGilmore", unfollowed := true, recurses := true, apart := false }
def TripGilmoreSaid : Prop := tripGilmoreRow.holds Try.pinned (OpenSpec.ofChange tripGilmoreSpec)

/-- ITS FALSE NEIGHBOUR: 'it returns false'. Refute it at one input. -/
def tripGilmoreWrong : ChangeSpec := { name := "tripGilmore", fn := fun _ => fun
  | [d1, d2, d3] => { results := [.lit (.bool false)], args := [d1, d2, d3] }
  | _ => none }
def TripGilmoreWrongFalsely : Prop := tripGilmoreRow.holds Try.pinned (OpenSpec.ofChange tripGilmoreWrong)

/-- 'trishawlaw06.TripPatched': WHATEVER THE INPUT: true; the input reads as it did. -/
def tripPatchedSpec : ChangeSpec := { name := "tripPatched", fn := fun _ => fun
  | [d1, d2, d3] => { results := [.lit (.bool true)], args := [d1, d2, d3] }
  | _ => none }
def tripPatchedRow : OpenClaim := { program := "ytlmlneneakpohaa", sum := "17a1a6a08b8156a58b1bb1a831fba9941ff21748c46f09e2e20dabc5ba6fe82c", func := "trishaw/trishawlaw06.TripPatched", spec := "tripPatched", unfollowed := true, recurses := true, apart := false }
def TripPatchedSaid : Prop := tripPatchedRow.holds Try.pinned (OpenSpec.ofChange tripPatchedSpec)

/-- ITS FALSE NEIGHBOUR: 'it returns false'. Refute it at one input. -/
def tripPatchedWrong : ChangeSpec := { name := "tripPatched", fn := fun _ => fun
  | [d1, d2, d3] => { results := [.lit (.bool false)], args := [d1, d2, d3] }
  | _ => none }
def TripPatchedWrongFalsely : Prop := tripPatchedRow.holds Try.pinned (OpenSpec.ofChange tripPatchedWrong)

/-- 'trishawlaw06.TripMatched': WHATEVER THE INPUT: true; the input reads as it did. -/
def tripMatchedSpec : ChangeSpec := { name := "tripMatched", fn := fun _ => fun
  | [d1, d2, d3] => { results := [.lit (.bool true)], args := [d1, d2, d3] }
  | _ => none }
def tripMatchedRow : OpenClaim := { program := "ytlmlneneakpohaa", sum := "17a1a6a08b8156a58b1bb1a831fba9941ff21748c46f09e2e20dabc5ba6fe82c", func := "trishaw/trishawlaw06.TripMatched", spec := "tripMatched", unfollowed := true, recurses := true, apart := false }
def TripMatchedSaid : Prop := tripMatchedRow.holds Try.pinned (OpenSpec.ofChange tripMatchedSpec)

/-- ITS FALSE NEIGHBOUR: 'it returns false'. Refute it at one input. -/
def tripMatchedWrong : ChangeSpec := { name := "tripMatched", fn := fun _ => fun
  | [d1, d2, d3] => { results := [.lit (.bool false)], args := [d1, d2, d3] }
  | _ => none }
def TripMatchedWrongFalsely : Prop := tripMatchedRow.holds Try.pinned (OpenSpec.ofChange tripMatchedWrong)

/-- 'trishawlaw06.TripCosts': WHATEVER THE INPUT: true; the input reads as it did. -/
def tripCostsSpec : ChangeSpec := { name := "tripCosts", fn := fun _ => fun
  | [d1, d2, d3, d4] => { results := [.lit (.bool true)], args := [d1, d2, d3, d4] }
  | _ => none }
def tripCostsRow : OpenClaim := { program := "ytlmlneneakpohaa", sum := "17a1a6a08b8156a58b1bb1a831fba9941ff21748c46f09e2e20dabc5ba6fe82c", func := "trishaw/trishawlaw06.TripCosts", spec := "tripCosts", unfollowed := true, recurses := true, apart := false }
def TripCostsSaid : Prop := tripCostsRow.holds Try.pinned (OpenSpec.ofChange tripCostsSpec)

/-- ITS FALSE NEIGHBOUR: 'it returns false'. Refute it at one input. -/
def tripCostsWrong : ChangeSpec := { name := "tripCosts", fn := fun _ => fun
  | [d1, d2, d3, d4] => { results := [.lit (.bool false)], args := [d1, d2, d3, d4] }
  | _ => none }
def TripCostsWrongFalsely : Prop := tripCostsRow.holds Try.pinned (OpenSpec.ofChange tripCostsWrong)

/- THE SECOND FORM. 'bulk': how many values and letters a reading holds, each counted each time it is reached (what is shared counts as often as it is met; a slice's spare places count too). A statement '..UptoSaid' is the law's where the arguments, and the package variables that the reading takes, are together of bulk at most 1048576: NARROWER than '..Said'. Prove '..Said' where nothing that the law and all that it calls make is longer than what came in: it says more and counts as full. Else prove '..UptoSaid'. A law counts once. -/
mutual
def uptoBulk {H : Type} : DataW H → Nat
  | .lit (.string bytes) => bytes.length + 1
  | .lit _ => 1
  | .nil => 1
  | .ptr d => uptoBulk d + 1
  | .slice elems spare => uptoBulkAll elems + uptoBulkAll spare + 1
  | .agg parts => uptoBulkAll parts + 1
  | .iface _ d => uptoBulk d + 1
  | .map entries => uptoBulkEntries entries + 1
  | .held _ => 1
def uptoBulkAll {H : Type} : List (DataW H) → Nat
  | [] => 0
  | d :: r => uptoBulk d + uptoBulkAll r
def uptoBulkEntries {H : Type} : List (Lit × DataW H) → Nat
  | [] => 0
  | x :: r => uptoBulkEntry x + uptoBulkEntries r
def uptoBulkEntry {H : Type} : Lit × DataW H → Nat
  | (.string bytes, d) => bytes.length + uptoBulk d + 1
  | (_, d) => uptoBulk d + 1
 end
def uptoSmall : (H : Type) → List (DataW H) → Bool := fun _ ds => decide (uptoBulkAll ds ≤ 1048576)
def OpenSpec.upto (s : _root_.Go.ChangeSpec) : _root_.Go.OpenSpec := { _root_.Go.OpenSpec.ofChange s with cond := some uptoSmall }

/-- 'trishawlaw06.TripTours', WHERE WHAT IT READS IS OF BULK AT MOST 1048576: true; the input reads as it did. -/
def tripToursUptoRow : OpenClaim := { program := "ytlmlneneakpohaa", sum := "17a1a6a08b8156a58b1bb1a831fba9941ff21748c46f09e2e20dabc5ba6fe82c", func := "trishaw/trishawlaw06.TripTours", spec := "tripTours", unfollowed := true, recurses := true, apart := false, narrowed := true }
def TripToursUptoSaid : Prop := tripToursUptoRow.holds Try.pinned (OpenSpec.upto tripToursSpec)

/-- 'trishawlaw06.TripTurned', WHERE WHAT IT READS IS OF BULK AT MOST 1048576: true; the input reads as it did. -/
def tripTurnedUptoRow : OpenClaim := { program := "ytlmlneneakpohaa", sum := "17a1a6a08b8156a58b1bb1a831fba9941ff21748c46f09e2e20dabc5ba6fe82c", func := "trishaw/trishawlaw06.TripTurned", spec := "tripTurned", unfollowed := true, recurses := true, apart := false, narrowed := true }
def TripTurnedUptoSaid : Prop := tripTurnedUptoRow.holds Try.pinned (OpenSpec.upto tripTurnedSpec)

/-- 'trishawlaw06.TripFurther', WHERE WHAT IT READS IS OF BULK AT MOST 1048576: true; the input reads as it did. -/
def tripFurtherUptoRow : OpenClaim := { program := "ytlmlneneakpohaa", sum := "17a1a6a08b8156a58b1bb1a831fba9941ff21748c46f09e2e20dabc5ba6fe82c", func := "trishaw/trishawlaw06.TripFurther", spec := "tripFurther", unfollowed := true, recurses := true, apart := false, narrowed := true }
def TripFurtherUptoSaid : Prop := tripFurtherUptoRow.holds Try.pinned (OpenSpec.upto tripFurtherSpec)

/-- 'trishawlaw06.TripGaps', WHERE WHAT IT READS IS OF BULK AT MOST 1048576: true; the input reads as it did. -/
def tripGapsUptoRow : OpenClaim := { program := "ytlmlneneakpohaa", sum := "17a1a6a08b8156a58b1bb1a831fba9941ff21748c46f09e2e20dabc5ba6fe82c", func := "trishaw/trishawlaw06.TripGaps", spec := "tripGaps", unfollowed := true, recurses := true, apart := false, narrowed := true }
def TripGapsUptoSaid : Prop := tripGapsUptoRow.holds Try.pinned (OpenSpec.upto tripGapsSpec)

/-- 'trishawlaw06.TripLevels', WHERE WHAT IT READS IS OF BULK AT MOST 1048576: true; the input reads as it did. -/
def tripLevelsUptoRow : OpenClaim := { program := "ytlmlneneakpohaa", sum := "17a1a6a08b8156a58b1bb1a831fba9941ff21748c46f09e2e20dabc5ba6fe82c", func := "trishaw/trishawlaw06.TripLevels", spec := "tripLevels", unfollowed := true, recurses := true, apart := false, narrowed := true }
def TripLevelsUptoSaid : Prop := tripLevelsUptoRow.holds Try.pinned (OpenSpec.upto tripLevelsSpec)

/-- 'trishawlaw06.TripByLevels', WHERE WHAT IT READS IS OF BULK AT MOST 1048576: true; the input reads as it did. -/
def tripByLevelsUptoRow : OpenClaim := { program := "ytlmlneneakpohaa", sum := "17a1a6a08b8156a58b1bb1a831fba9941ff21748c46f09e2e20dabc5ba6fe82c", func := "trishaw/trishawlaw06.TripByLevels", spec := "tripByLevels", unfollowed := true, recurses := true, apart := false, narrowed := true }
def TripByLevelsUptoSaid : Prop := tripByLevelsUptoRow.holds Try.pinned (OpenSpec.upto tripByLevelsSpec)

/-- 'trishawlaw06.TripMatches', WHERE WHAT IT READS IS OF BULK AT MOST 1048576: true; the input reads as it did. -/
def tripMatchesUptoRow : OpenClaim := { program := "ytlmlneneakpohaa", sum := "17a1a6a08b8156a58b1bb1a831fba9941ff21748c46f09e2e20dabc5ba6fe82c", func := "trishaw/trishawlaw06.TripMatches", spec := "tripMatches", unfollowed := true, recurses := true, apart := false, narrowed := true }
def TripMatchesUptoSaid : Prop := tripMatchesUptoRow.holds Try.pinned (OpenSpec.upto tripMatchesSpec)

/-- 'trishawlaw06.TripRings', WHERE WHAT IT READS IS OF BULK AT MOST 1048576: true; the input reads as it did. -/
def tripRingsUptoRow : OpenClaim := { program := "ytlmlneneakpohaa", sum := "17a1a6a08b8156a58b1bb1a831fba9941ff21748c46f09e2e20dabc5ba6fe82c", func := "trishaw/trishawlaw06.TripRings", spec := "tripRings", unfollowed := true, recurses := true, apart := false, narrowed := true }
def TripRingsUptoSaid : Prop := tripRingsUptoRow.holds Try.pinned (OpenSpec.upto tripRingsSpec)

/-- 'trishawlaw06.TripGilmore', WHERE WHAT IT READS IS OF BULK AT MOST 1048576: true; the input reads as it did. -/
def tripGilmoreUptoRow : OpenClaim := { program := "ytlmlneneakpohaa", sum := "17a1a6a08b8156a58b1bb1a831fba9941ff21748c46f09e2e20dabc5ba6fe82c", func := "trishaw/trishawlaw06.TripGilmore", spec := "tripGilmore", unfollowed := true, recurses := true, apart := false, narrowed := true }
def TripGilmoreUptoSaid : Prop := tripGilmoreUptoRow.holds Try.pinned (OpenSpec.upto tripGilmoreSpec)

/-- 'trishawlaw06.TripPatched', WHERE WHAT IT READS IS OF BULK AT MOST 1048576: true; the input reads as it did. -/
def tripPatchedUptoRow : OpenClaim := { program := "ytlmlneneakpohaa", sum := "17a1a6a08b8156a58b1bb1a831fba9941ff21748c46f09e2e20dabc5ba6fe82c", func := "trishaw/trishawlaw06.TripPatched", spec := "tripPatched", unfollowed := true, recurses := true, apart := false, narrowed := true }
def TripPatchedUptoSaid : Prop := tripPatchedUptoRow.holds Try.pinned (OpenSpec.upto tripPatchedSpec)

/-- 'trishawlaw06.TripMatched', WHERE WHAT IT READS IS OF BULK AT MOST 1048576: true; the input reads as it did. -/
def tripMatchedUptoRow : OpenClaim := { program := "ytlmlneneakpohaa", sum := "17a1a6a08b8156a58b1bb1a831fba9941ff21748c46f09e2e20dabc5ba6fe82c", func := "trishaw/trishawlaw06.TripMatched", spec := "tripMatched", unfollowed := true, recurses := true, apart := false, narrowed := true }
def TripMatchedUptoSaid : Prop := tripMatchedUptoRow.holds Try.pinned (OpenSpec.upto tripMatchedSpec)

/-- 'trishawlaw06.TripCosts', WHERE WHAT IT READS IS OF BULK AT MOST 1048576: true; the input reads as it did. -/
def tripCostsUptoRow : OpenClaim := { program := "ytlmlneneakpohaa", sum := "17a1a6a08b8156a58b1bb1a831fba9941ff21748c46f09e2e20dabc5ba6fe82c", func := "trishaw/trishawlaw06.TripCosts", spec := "tripCosts", unfollowed := true, recurses := true, apart := false, narrowed := true }
def TripCostsUptoSaid : Prop := tripCostsUptoRow.holds Try.pinned (OpenSpec.upto tripCostsSpec)

end Rows
end Go.Proofs.Ytlmlneneakpohaa
