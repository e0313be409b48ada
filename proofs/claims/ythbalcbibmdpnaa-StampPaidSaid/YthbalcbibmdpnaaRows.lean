/-
  No cell of these rows narrows 'for every input' (looked for: loops, veiled, ifaces, maps, wideKeys, modest, calm, conditions, laid).
  DERIVED. THE GIVEN ROWS OF THIS SEAT. 13 by the template 'for every input the law returns true; each argument reads behind the call as it read before'; 0 by the template 'total and deterministic' (their statements: YthbalcbibmdpnaaTotals.lean).
  GIVEN WITH THE SEED: the statements are not yours to turn. If you find one false, say at which input.
  Laid BY PROGRAM, IN A SANDBOX (cutbox-rows.mjs): the forced cells as the released guide's own fill.sh prints them over the translation ed38d2bbc72604b8… (all of the seat's roots in one cut). By AI agents, Wed Nov 11 2026. No macro, syntax, notation, axiom, sorry.
-/
import Derived.Test.YthbalcbibmdpnaaChecked
import GoSem.Claim
import GoSem.ClaimJoined
import GoSem.ClaimMapViews
import Derived.JoinedTies
import Derived.KernelRfl
namespace Go.Proofs.Ythbalcbibmdpnaa
/- THE CELL 'sum', in the pinned program and in every row, IS THE sha256 OF THE DUMP (.gsa) THAT YthbalcbibmdpnaaProg.lean LOADS. Nothing in Lean hashes anything: it is a label: what it is worth is what the hold of that sum in a sandbox is worth. -/
noncomputable def Try.pinned : Pinned := { name := "ythbalcbibmdpnaa", sum := "ed38d2bbc72604b81d62a1db53da89e97849521e529c2e35974a2a77636b6a0c", checked := Try.checked }
namespace Rows
def none {H : Type} : Left H := { results := [], args := [] }

/-- 'trishawlaw04.StampPays': WHATEVER THE INPUT: true; the input reads as it did. -/
def stampPaysSpec : ChangeSpec := { name := "stampPays", fn := fun _ => fun
  | [d1, d2, d3] => { results := [.lit (.bool true)], args := [d1, d2, d3] }
  | _ => none }
def stampPaysRow : OpenClaim := { program := "ythbalcbibmdpnaa", sum := "ed38d2bbc72604b81d62a1db53da89e97849521e529c2e35974a2a77636b6a0c", func := "trishaw/trishawlaw04.StampPays", spec := "stampPays", unfollowed := true, recurses := true, apart := false }
def StampPaysSaid : Prop := stampPaysRow.holds Try.pinned (OpenSpec.ofChange stampPaysSpec)

/-- ITS FALSE NEIGHBOUR: 'it returns false'. Refute it at one input. -/
def stampPaysWrong : ChangeSpec := { name := "stampPays", fn := fun _ => fun
  | [d1, d2, d3] => { results := [.lit (.bool false)], args := [d1, d2, d3] }
  | _ => none }
def StampPaysWrongFalsely : Prop := stampPaysRow.holds Try.pinned (OpenSpec.ofChange stampPaysWrong)

/-- 'trishawlaw04.StampBest': WHATEVER THE INPUT: true; the input reads as it did. -/
def stampBestSpec : ChangeSpec := { name := "stampBest", fn := fun _ => fun
  | [d1, d2] => { results := [.lit (.bool true)], args := [d1, d2] }
  | _ => none }
def stampBestRow : OpenClaim := { program := "ythbalcbibmdpnaa", sum := "ed38d2bbc72604b81d62a1db53da89e97849521e529c2e35974a2a77636b6a0c", func := "trishaw/trishawlaw04.StampBest", spec := "stampBest", unfollowed := true, recurses := true, apart := false }
def StampBestSaid : Prop := stampBestRow.holds Try.pinned (OpenSpec.ofChange stampBestSpec)

/-- ITS FALSE NEIGHBOUR: 'it returns false'. Refute it at one input. -/
def stampBestWrong : ChangeSpec := { name := "stampBest", fn := fun _ => fun
  | [d1, d2] => { results := [.lit (.bool false)], args := [d1, d2] }
  | _ => none }
def StampBestWrongFalsely : Prop := stampBestRow.holds Try.pinned (OpenSpec.ofChange stampBestWrong)

/-- 'trishawlaw04.StampMirrors': WHATEVER THE INPUT: true; the input reads as it did. -/
def stampMirrorsSpec : ChangeSpec := { name := "stampMirrors", fn := fun _ => fun
  | [d] => { results := [.lit (.bool true)], args := [d] }
  | _ => none }
def stampMirrorsRow : OpenClaim := { program := "ythbalcbibmdpnaa", sum := "ed38d2bbc72604b81d62a1db53da89e97849521e529c2e35974a2a77636b6a0c", func := "trishaw/trishawlaw04.StampMirrors", spec := "stampMirrors", unfollowed := true, recurses := true, apart := false }
def StampMirrorsSaid : Prop := stampMirrorsRow.holds Try.pinned (OpenSpec.ofChange stampMirrorsSpec)

/-- ITS FALSE NEIGHBOUR: 'it returns false'. Refute it at one input. -/
def stampMirrorsWrong : ChangeSpec := { name := "stampMirrors", fn := fun _ => fun
  | [d] => { results := [.lit (.bool false)], args := [d] }
  | _ => none }
def StampMirrorsWrongFalsely : Prop := stampMirrorsRow.holds Try.pinned (OpenSpec.ofChange stampMirrorsWrong)

/-- 'trishawlaw04.StampCounted': WHATEVER THE INPUT: true; the input reads as it did. -/
def stampCountedSpec : ChangeSpec := { name := "stampCounted", fn := fun _ => fun
  | [d1, d2] => { results := [.lit (.bool true)], args := [d1, d2] }
  | _ => none }
def stampCountedRow : OpenClaim := { program := "ythbalcbibmdpnaa", sum := "ed38d2bbc72604b81d62a1db53da89e97849521e529c2e35974a2a77636b6a0c", func := "trishaw/trishawlaw04.StampCounted", spec := "stampCounted", unfollowed := true, recurses := true, apart := false }
def StampCountedSaid : Prop := stampCountedRow.holds Try.pinned (OpenSpec.ofChange stampCountedSpec)

/-- ITS FALSE NEIGHBOUR: 'it returns false'. Refute it at one input. -/
def stampCountedWrong : ChangeSpec := { name := "stampCounted", fn := fun _ => fun
  | [d1, d2] => { results := [.lit (.bool false)], args := [d1, d2] }
  | _ => none }
def StampCountedWrongFalsely : Prop := stampCountedRow.holds Try.pinned (OpenSpec.ofChange stampCountedWrong)

/-- 'trishawlaw04.StampRohrbach': WHATEVER THE INPUT: true; the input reads as it did. -/
def stampRohrbachSpec : ChangeSpec := { name := "stampRohrbach", fn := fun _ => fun
  | [d] => { results := [.lit (.bool true)], args := [d] }
  | _ => none }
def stampRohrbachRow : OpenClaim := { program := "ythbalcbibmdpnaa", sum := "ed38d2bbc72604b81d62a1db53da89e97849521e529c2e35974a2a77636b6a0c", func := "trishaw/trishawlaw04.StampRohrbach", spec := "stampRohrbach", unfollowed := true, recurses := true, apart := false }
def StampRohrbachSaid : Prop := stampRohrbachRow.holds Try.pinned (OpenSpec.ofChange stampRohrbachSpec)

/-- ITS FALSE NEIGHBOUR: 'it returns false'. Refute it at one input. -/
def stampRohrbachWrong : ChangeSpec := { name := "stampRohrbach", fn := fun _ => fun
  | [d] => { results := [.lit (.bool false)], args := [d] }
  | _ => none }
def StampRohrbachWrongFalsely : Prop := stampRohrbachRow.holds Try.pinned (OpenSpec.ofChange stampRohrbachWrong)

/-- 'trishawlaw04.StampFewest': WHATEVER THE INPUT: true; the input reads as it did. -/
def stampFewestSpec : ChangeSpec := { name := "stampFewest", fn := fun _ => fun
  | [d1, d2, d3] => { results := [.lit (.bool true)], args := [d1, d2, d3] }
  | _ => none }
def stampFewestRow : OpenClaim := { program := "ythbalcbibmdpnaa", sum := "ed38d2bbc72604b81d62a1db53da89e97849521e529c2e35974a2a77636b6a0c", func := "trishaw/trishawlaw04.StampFewest", spec := "stampFewest", unfollowed := true, recurses := true, apart := false }
def StampFewestSaid : Prop := stampFewestRow.holds Try.pinned (OpenSpec.ofChange stampFewestSpec)

/-- ITS FALSE NEIGHBOUR: 'it returns false'. Refute it at one input. -/
def stampFewestWrong : ChangeSpec := { name := "stampFewest", fn := fun _ => fun
  | [d1, d2, d3] => { results := [.lit (.bool false)], args := [d1, d2, d3] }
  | _ => none }
def StampFewestWrongFalsely : Prop := stampFewestRow.holds Try.pinned (OpenSpec.ofChange stampFewestWrong)

/-- 'trishawlaw04.StampMirrored': WHATEVER THE INPUT: true; the input reads as it did. -/
def stampMirroredSpec : ChangeSpec := { name := "stampMirrored", fn := fun _ => fun
  | [d1, d2] => { results := [.lit (.bool true)], args := [d1, d2] }
  | _ => none }
def stampMirroredRow : OpenClaim := { program := "ythbalcbibmdpnaa", sum := "ed38d2bbc72604b81d62a1db53da89e97849521e529c2e35974a2a77636b6a0c", func := "trishaw/trishawlaw04.StampMirrored", spec := "stampMirrored", unfollowed := true, recurses := true, apart := false }
def StampMirroredSaid : Prop := stampMirroredRow.holds Try.pinned (OpenSpec.ofChange stampMirroredSpec)

/-- ITS FALSE NEIGHBOUR: 'it returns false'. Refute it at one input. -/
def stampMirroredWrong : ChangeSpec := { name := "stampMirrored", fn := fun _ => fun
  | [d1, d2] => { results := [.lit (.bool false)], args := [d1, d2] }
  | _ => none }
def StampMirroredWrongFalsely : Prop := stampMirroredRow.holds Try.pinned (OpenSpec.ofChange stampMirroredWrong)

/-- 'trishawlaw04.StampMore': WHATEVER THE INPUT: true; the input reads as it did. -/
def stampMoreSpec : ChangeSpec := { name := "stampMore", fn := fun _ => fun
  | [d1, d2, d3] => { results := [.lit (.bool true)], args := [d1, d2, d3] }
  | _ => none }
def stampMoreRow : OpenClaim := { program := "ythbalcbibmdpnaa", sum := "ed38d2bbc72604b81d62a1db53da89e97849521e529c2e35974a2a77636b6a0c", func := "trishaw/trishawlaw04.StampMore", spec := "stampMore", unfollowed := true, recurses := true, apart := false }
def StampMoreSaid : Prop := stampMoreRow.holds Try.pinned (OpenSpec.ofChange stampMoreSpec)

/-- ITS FALSE NEIGHBOUR: 'it returns false'. Refute it at one input. -/
def stampMoreWrong : ChangeSpec := { name := "stampMore", fn := fun _ => fun
  | [d1, d2, d3] => { results := [.lit (.bool false)], args := [d1, d2, d3] }
  | _ => none }
def StampMoreWrongFalsely : Prop := stampMoreRow.holds Try.pinned (OpenSpec.ofChange stampMoreWrong)

/-- 'trishawlaw04.StampSums': WHATEVER THE INPUT: true; the input reads as it did. -/
def stampSumsSpec : ChangeSpec := { name := "stampSums", fn := fun _ => fun
  | [d1, d2, d3, d4] => { results := [.lit (.bool true)], args := [d1, d2, d3, d4] }
  | _ => none }
def stampSumsRow : OpenClaim := { program := "ythbalcbibmdpnaa", sum := "ed38d2bbc72604b81d62a1db53da89e97849521e529c2e35974a2a77636b6a0c", func := "trishaw/trishawlaw04.StampSums", spec := "stampSums", unfollowed := true, recurses := true, apart := false }
def StampSumsSaid : Prop := stampSumsRow.holds Try.pinned (OpenSpec.ofChange stampSumsSpec)

/-- ITS FALSE NEIGHBOUR: 'it returns false'. Refute it at one input. -/
def stampSumsWrong : ChangeSpec := { name := "stampSums", fn := fun _ => fun
  | [d1, d2, d3, d4] => { results := [.lit (.bool false)], args := [d1, d2, d3, d4] }
  | _ => none }
def StampSumsWrongFalsely : Prop := stampSumsRow.holds Try.pinned (OpenSpec.ofChange stampSumsWrong)

/-- 'trishawlaw04.StampRanges': WHATEVER THE INPUT: true; the input reads as it did. -/
def stampRangesSpec : ChangeSpec := { name := "stampRanges", fn := fun _ => fun
  | [d1, d2] => { results := [.lit (.bool true)], args := [d1, d2] }
  | _ => none }
def stampRangesRow : OpenClaim := { program := "ythbalcbibmdpnaa", sum := "ed38d2bbc72604b81d62a1db53da89e97849521e529c2e35974a2a77636b6a0c", func := "trishaw/trishawlaw04.StampRanges", spec := "stampRanges", unfollowed := true, recurses := true, apart := false }
def StampRangesSaid : Prop := stampRangesRow.holds Try.pinned (OpenSpec.ofChange stampRangesSpec)

/-- ITS FALSE NEIGHBOUR: 'it returns false'. Refute it at one input. -/
def stampRangesWrong : ChangeSpec := { name := "stampRanges", fn := fun _ => fun
  | [d1, d2] => { results := [.lit (.bool false)], args := [d1, d2] }
  | _ => none }
def StampRangesWrongFalsely : Prop := stampRangesRow.holds Try.pinned (OpenSpec.ofChange stampRangesWrong)

/-- 'trishawlaw04.StampPaid': WHATEVER THE INPUT: true; the input reads as it did. -/
def stampPaidSpec : ChangeSpec := { name := "stampPaid", fn := fun _ => fun
  | [d1, d2, d3] => { results := [.lit (.bool true)], args := [d1, d2, d3] }
  | _ => none }
def stampPaidRow : OpenClaim := { program := "ythbalcbibmdpnaa", sum := "ed38d2bbc72604b81d62a1db53da89e97849521e529c2e35974a2a77636b6a0c", func := "trishaw/trishawlaw04.StampPaid", spec := "stampPaid", unfollowed := true, recurses := true, apart := false }
def StampPaidSaid : Prop := stampPaidRow.holds Try.pinned (OpenSpec.ofChange stampPaidSpec)

/-- ITS FALSE NEIGHBOUR: 'it returns false'. Refute it at one input. -/
def stampPaidWrong : ChangeSpec := { name := "stampPaid", fn := fun _ => fun
  | [d1, d2, d3] => { results := [.lit (.bool false)], args := [d1, d2, d3] }
  | _ => none }
def StampPaidWrongFalsely : Prop := stampPaidRow.holds Try.pinned (OpenSpec.ofChange stampPaidWrong)

/-- 'trishawlaw04.StampGrows': WHATEVER THE INPUT: true; the input reads as it did. -/
def stampGrowsSpec : ChangeSpec := { name := "stampGrows", fn := fun _ => fun
  | [d1, d2, d3] => { results := [.lit (.bool true)], args := [d1, d2, d3] }
  | _ => none }
def stampGrowsRow : OpenClaim := { program := "ythbalcbibmdpnaa", sum := "ed38d2bbc72604b81d62a1db53da89e97849521e529c2e35974a2a77636b6a0c", func := "trishaw/trishawlaw04.StampGrows", spec := "stampGrows", inPlace := ["slices.overlaps[int]"], unfollowed := true, recurses := true, apart := false }
def StampGrowsSaid : Prop := stampGrowsRow.holds Try.pinned (OpenSpec.ofChange stampGrowsSpec)

/-- ITS FALSE NEIGHBOUR: 'it returns false'. Refute it at one input. -/
def stampGrowsWrong : ChangeSpec := { name := "stampGrows", fn := fun _ => fun
  | [d1, d2, d3] => { results := [.lit (.bool false)], args := [d1, d2, d3] }
  | _ => none }
def StampGrowsWrongFalsely : Prop := stampGrowsRow.holds Try.pinned (OpenSpec.ofChange stampGrowsWrong)

/-- 'trishawlaw04.StampNext': WHATEVER THE INPUT: true; the input reads as it did. -/
def stampNextSpec : ChangeSpec := { name := "stampNext", fn := fun _ => fun
  | [d1, d2] => { results := [.lit (.bool true)], args := [d1, d2] }
  | _ => none }
def stampNextRow : OpenClaim := { program := "ythbalcbibmdpnaa", sum := "ed38d2bbc72604b81d62a1db53da89e97849521e529c2e35974a2a77636b6a0c", func := "trishaw/trishawlaw04.StampNext", spec := "stampNext", inPlace := ["slices.overlaps[int]"], unfollowed := true, recurses := true, apart := false }
def StampNextSaid : Prop := stampNextRow.holds Try.pinned (OpenSpec.ofChange stampNextSpec)

/-- ITS FALSE NEIGHBOUR: 'it returns false'. Refute it at one input. -/
def stampNextWrong : ChangeSpec := { name := "stampNext", fn := fun _ => fun
  | [d1, d2] => { results := [.lit (.bool false)], args := [d1, d2] }
  | _ => none }
def StampNextWrongFalsely : Prop := stampNextRow.holds Try.pinned (OpenSpec.ofChange stampNextWrong)

/- THE SECOND FORM. 'bulk': how many values and letters a reading holds, each counted each time it is reached (what is shared counts as often as it is met; a slice's spare places count too). A statement '..UptoSaid' is the law's where the arguments, and the package variables that the reading takes, are together of bulk at most 1048576: NARROWER than '..Said'. Prove '..Said' where nothing that the law and all that it calls make is longer than what came in: it says more and counts as full. Else prove '..UptoSaid'. A law counts once. -/
mutual
def uptoBulk {H : Type} : DataW H → Nat
  | .lit (.string bytes) => bytes.length + 1
  | .lit _ => 1
  | .nil => 1
  | .ptr d => uptoBulk d + 1
  | .slice elems spare => uptoBulkAll elems + uptoBulkAll spare + 1
  | .agg parts => uptoBulkAll parts + 1
  | .iface _ d => uptoBulk d + 1
  | .map entries => uptoBulkEntries entries + 1
  | .held _ => 1
def uptoBulkAll {H : Type} : List (DataW H) → Nat
  | [] => 0
  | d :: r => uptoBulk d + uptoBulkAll r
def uptoBulkEntries {H : Type} : List (Lit × DataW H) → Nat
  | [] => 0
  | x :: r => uptoBulkEntry x + uptoBulkEntries r
def uptoBulkEntry {H : Type} : Lit × DataW H → Nat
  | (.string bytes, d) => bytes.length + uptoBulk d + 1
  | (_, d) => uptoBulk d + 1
 end
def uptoSmall : (H : Type) → List (DataW H) → Bool := fun _ ds => decide (uptoBulkAll ds ≤ 1048576)
def OpenSpec.upto (s : _root_.Go.ChangeSpec) : _root_.Go.OpenSpec := { _root_.Go.OpenSpec.ofChange s with cond := some uptoSmall }

/-- 'trishawlaw04.StampPays', WHERE WHAT IT READS IS OF BULK AT MOST 1048576: true; the input reads as it did. -/
def stampPaysUptoRow : OpenClaim := { program := "ythbalcbibmdpnaa", sum := "ed38d2bbc72604b81d62a1db53da89e97849521e529c2e35974a2a77636b6a0c", func := "trishaw/trishawlaw04.StampPays", spec := "stampPays", unfollowed := true, recurses := true, apart := false, narrowed := true }
def StampPaysUptoSaid : Prop := stampPaysUptoRow.holds Try.pinned (OpenSpec.upto stampPaysSpec)

/-- 'trishawlaw04.StampBest', WHERE WHAT IT READS IS OF BULK AT MOST 1048576: true; the input reads as it did. -/
def stampBestUptoRow : OpenClaim := { program := "ythbalcbibmdpnaa", sum := "ed38d2bbc72604b81d62a1db53da89e97849521e529c2e35974a2a77636b6a0c", func := "trishaw/trishawlaw04.StampBest", spec := "stampBest", unfollowed := true, recurses := true, apart := false, narrowed := true }
def StampBestUptoSaid : Prop := stampBestUptoRow.holds Try.pinned (OpenSpec.upto stampBestSpec)

/-- 'trishawlaw04.StampMirrors', WHERE WHAT IT READS IS OF BULK AT MOST 1048576: true; the input reads as it did. -/
def stampMirrorsUptoRow : OpenClaim := { program := "ythbalcbibmdpnaa", sum := "ed38d2bbc72604b81d62a1db53da89e97849521e529c2e35974a2a77636b6a0c", func := "trishaw/trishawlaw04.StampMirrors", spec := "stampMirrors", unfollowed := true, recurses := true, apart := false, narrowed := true }
def StampMirrorsUptoSaid : Prop := stampMirrorsUptoRow.holds Try.pinned (OpenSpec.upto stampMirrorsSpec)

/-- 'trishawlaw04.StampCounted', WHERE WHAT IT READS IS OF BULK AT MOST 1048576: true; the input reads as it did. -/
def stampCountedUptoRow : OpenClaim := { program := "ythbalcbibmdpnaa", sum := "ed38d2bbc72604b81d62a1db53da89e97849521e529c2e35974a2a77636b6a0c", func := "trishaw/trishawlaw04.StampCounted", spec := "stampCounted", unfollowed := true, recurses := true, apart := false, narrowed := true }
def StampCountedUptoSaid : Prop := stampCountedUptoRow.holds Try.pinned (OpenSpec.upto stampCountedSpec)

/-- 'trishawlaw04.StampRohrbach', WHERE WHAT IT READS IS OF BULK AT MOST 1048576: true; the input reads as it did. -/
def stampRohrbachUptoRow : OpenClaim := { program := "ythbalcbibmdpnaa", sum := "ed38d2bbc72604b81d62a1db53da89e97849521e529c2e35974a2a77636b6a0c", func := "trishaw/trishawlaw04.StampRohrbach", spec := "stampRohrbach", unfollowed := true, recurses := true, apart := false, narrowed := true }
def StampRohrbachUptoSaid : Prop := stampRohrbachUptoRow.holds Try.pinned (OpenSpec.upto stampRohrbachSpec)

/-- 'trishawlaw04.StampFewest', WHERE WHAT IT READS IS OF BULK AT MOST 1048576: true; the input reads as it did. -/
def stampFewestUptoRow : OpenClaim := { program := "ythbalcbibmdpnaa", sum := "ed38d2bbc72604b81d62a1db53da89e97849521e529c2e35974a2a77636b6a0c", func := "trishaw/trishawlaw04.StampFewest", spec := "stampFewest", unfollowed := true, recurses := true, apart := false, narrowed := true }
def StampFewestUptoSaid : Prop := stampFewestUptoRow.holds Try.pinned (OpenSpec.upto stampFewestSpec)

/-- 'trishawlaw04.StampMirrored', WHERE WHAT IT READS IS OF BULK AT MOST 1048576: true; the input reads as it did. -/
def stampMirroredUptoRow : OpenClaim := { program := "ythbalcbibmdpnaa", sum := "ed38d2bbc72604b81d62a1db53da89e97849521e529c2e35974a2a77636b6a0c", func := "trishaw/trishawlaw04.StampMirrored", spec := "stampMirrored", unfollowed := true, recurses := true, apart := false, narrowed := true }
def StampMirroredUptoSaid : Prop := stampMirroredUptoRow.holds Try.pinned (OpenSpec.upto stampMirroredSpec)

/-- 'trishawlaw04.StampMore', WHERE WHAT IT READS IS OF BULK AT MOST 1048576: true; the input reads as it did. -/
def stampMoreUptoRow : OpenClaim := { program := "ythbalcbibmdpnaa", sum := "ed38d2bbc72604b81d62a1db53da89e97849521e529c2e35974a2a77636b6a0c", func := "trishaw/trishawlaw04.StampMore", spec := "stampMore", unfollowed := true, recurses := true, apart := false, narrowed := true }
def StampMoreUptoSaid : Prop := stampMoreUptoRow.holds Try.pinned (OpenSpec.upto stampMoreSpec)

/-- 'trishawlaw04.StampSums', WHERE WHAT IT READS IS OF BULK AT MOST 1048576: true; the input reads as it did. -/
def stampSumsUptoRow : OpenClaim := { program := "ythbalcbibmdpnaa", sum := "ed38d2bbc72604b81d62a1db53da89e97849521e529c2e35974a2a77636b6a0c", func := "trishaw/trishawlaw04.StampSums", spec := "stampSums", unfollowed := true, recurses := true, apart := false, narrowed := true }
def StampSumsUptoSaid : Prop := stampSumsUptoRow.holds Try.pinned (OpenSpec.upto stampSumsSpec)

/-- 'trishawlaw04.StampRanges', WHERE WHAT IT READS IS OF BULK AT MOST 1048576: true; the input reads as it did. -/
def stampRangesUptoRow : OpenClaim := { program := "ythbalcbibmdpnaa", sum := "ed38d2bbc72604b81d62a1db53da89e97849521e529c2e35974a2a77636b6a0c", func := "trishaw/trishawlaw04.StampRanges", spec := "stampRanges", unfollowed := true, recurses := true, apart := false, narrowed := true }
def StampRangesUptoSaid : Prop := stampRangesUptoRow.holds Try.pinned (OpenSpec.upto stampRangesSpec)

/-- 'trishawlaw04.StampPaid', WHERE WHAT IT READS IS OF BULK AT MOST 1048576: true; the input reads as it did. -/
def stampPaidUptoRow : OpenClaim := { program := "ythbalcbibmdpnaa", sum := "ed38d2bbc72604b81d62a1db53da89e97849521e529c2e35974a2a77636b6a0c", func := "trishaw/trishawlaw04.StampPaid", spec := "stampPaid", unfollowed := true, recurses := true, apart := false, narrowed := true }
def StampPaidUptoSaid : Prop := stampPaidUptoRow.holds Try.pinned (OpenSpec.upto stampPaidSpec)

/-- 'trishawlaw04.StampGrows', WHERE WHAT IT READS IS OF BULK AT MOST 1048576: true; the input reads as it did. -/
def stampGrowsUptoRow : OpenClaim := { program := "ythbalcbibmdpnaa", sum := "ed38d2bbc72604b81d62a1db53da89e97849521e529c2e35974a2a77636b6a0c", func := "trishaw/trishawlaw04.StampGrows", spec := "stampGrows", inPlace := ["slices.overlaps[int]"], unfollowed := true, recurses := true, apart := false, narrowed := true }
def StampGrowsUptoSaid : Prop := stampGrowsUptoRow.holds Try.pinned (OpenSpec.upto stampGrowsSpec)

/-- 'trishawlaw04.StampNext', WHERE WHAT IT READS IS OF BULK AT MOST 1048576: true; the input reads as it did. -/
def stampNextUptoRow : OpenClaim := { program := "ythbalcbibmdpnaa", sum := "ed38d2bbc72604b81d62a1db53da89e97849521e529c2e35974a2a77636b6a0c", func := "trishaw/trishawlaw04.StampNext", spec := "stampNext", inPlace := ["slices.overlaps[int]"], unfollowed := true, recurses := true, apart := false, narrowed := true }
def StampNextUptoSaid : Prop := stampNextUptoRow.holds Try.pinned (OpenSpec.upto stampNextSpec)

end Rows
end Go.Proofs.Ythbalcbibmdpnaa
