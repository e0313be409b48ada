/-
  No cell of these rows narrows 'for every input' (looked for: loops, veiled, ifaces, maps, wideKeys, modest, calm, conditions, laid).
  DERIVED. THE GIVEN ROWS OF THIS SEAT. 12 by the template 'for every input the law returns true; each argument reads behind the call as it read before'; 0 by the template 'total and deterministic' (their statements: YtjbfbdanbpfplaaTotals.lean).
  GIVEN WITH THE SEED: the statements are not yours to turn. If you find one false, say at which input.
  Laid BY PROGRAM, IN A SANDBOX (cutbox-rows.mjs): the forced cells as the released guide's own fill.sh prints them over the translation 8bc4fbce8b1b08e7… (all of the seat's roots in one cut). By AI agents, Wed Nov 11 2026. No macro, syntax, notation, axiom, sorry.
-/
import Derived.Test.YtjbfbdanbpfplaaChecked
import GoSem.Claim
import GoSem.ClaimJoined
import GoSem.ClaimMapViews
import Derived.JoinedTies
import Derived.KernelRfl
namespace Go.Proofs.Ytjbfbdanbpfplaa
/- THE CELL 'sum', in the pinned program and in every row, IS THE sha256 OF THE DUMP (.gsa) THAT YtjbfbdanbpfplaaProg.lean LOADS. Nothing in Lean hashes anything: it is a label: what it is worth is what the hold of that sum in a sandbox is worth. -/
noncomputable def Try.pinned : Pinned := { name := "ytjbfbdanbpfplaa", sum := "8bc4fbce8b1b08e7d2843ed5ccb5285708ccb6faa72e72b0d44297b8a5fe4790", checked := Try.checked }
namespace Rows
def none {H : Type} : Left H := { results := [], args := [] }

/-- 'trishawlaw09.FetchApart': WHATEVER THE INPUT: true; the input reads as it did. -/
def fetchApartSpec : ChangeSpec := { name := "fetchApart", fn := fun _ => fun
  | [d1, d2] => { results := [.lit (.bool true)], args := [d1, d2] }
  | _ => none }
def fetchApartRow : OpenClaim := { program := "ytjbfbdanbpfplaa", sum := "8bc4fbce8b1b08e7d2843ed5ccb5285708ccb6faa72e72b0d44297b8a5fe4790", func := "trishaw/trishawlaw09.FetchApart", spec := "fetchApart", unfollowed := true, recurses := true, apart := false }
def FetchApartSaid : Prop := fetchApartRow.holds Try.pinned (OpenSpec.ofChange fetchApartSpec)

/-- ITS FALSE NEIGHBOUR: 'it returns false'. Refute it at one input. -/
def fetchApartWrong : ChangeSpec := { name := "fetchApart", fn := fun _ => fun
  | [d1, d2] => { results := [.lit (.bool false)], args := [d1, d2] }
  | _ => none }
def FetchApartWrongFalsely : Prop := fetchApartRow.holds Try.pinned (OpenSpec.ofChange fetchApartWrong)

/-- 'trishawlaw09.FetchMeets': WHATEVER THE INPUT: true; the input reads as it did. -/
def fetchMeetsSpec : ChangeSpec := { name := "fetchMeets", fn := fun _ => fun
  | [d1, d2, d3, d4] => { results := [.lit (.bool true)], args := [d1, d2, d3, d4] }
  | _ => none }
def fetchMeetsRow : OpenClaim := { program := "ytjbfbdanbpfplaa", sum := "8bc4fbce8b1b08e7d2843ed5ccb5285708ccb6faa72e72b0d44297b8a5fe4790", func := "trishaw/trishawlaw09.FetchMeets", spec := "fetchMeets", unfollowed := true, recurses := true, apart := false }
def FetchMeetsSaid : Prop := fetchMeetsRow.holds Try.pinned (OpenSpec.ofChange fetchMeetsSpec)

/-- ITS FALSE NEIGHBOUR: 'it returns false'. Refute it at one input. -/
def fetchMeetsWrong : ChangeSpec := { name := "fetchMeets", fn := fun _ => fun
  | [d1, d2, d3, d4] => { results := [.lit (.bool false)], args := [d1, d2, d3, d4] }
  | _ => none }
def FetchMeetsWrongFalsely : Prop := fetchMeetsRow.holds Try.pinned (OpenSpec.ofChange fetchMeetsWrong)

/-- 'trishawlaw09.FetchContracted': WHATEVER THE INPUT: true; the input reads as it did. -/
def fetchContractedSpec : ChangeSpec := { name := "fetchContracted", fn := fun _ => fun
  | [d1, d2, d3] => { results := [.lit (.bool true)], args := [d1, d2, d3] }
  | _ => none }
def fetchContractedRow : OpenClaim := { program := "ytjbfbdanbpfplaa", sum := "8bc4fbce8b1b08e7d2843ed5ccb5285708ccb6faa72e72b0d44297b8a5fe4790", func := "trishaw/trishawlaw09.FetchContracted", spec := "fetchContracted", unfollowed := true, recurses := true, apart := false }
def FetchContractedSaid : Prop := fetchContractedRow.holds Try.pinned (OpenSpec.ofChange fetchContractedSpec)

/-- ITS FALSE NEIGHBOUR: 'it returns false'. Refute it at one input. -/
def fetchContractedWrong : ChangeSpec := { name := "fetchContracted", fn := fun _ => fun
  | [d1, d2, d3] => { results := [.lit (.bool false)], args := [d1, d2, d3] }
  | _ => none }
def FetchContractedWrongFalsely : Prop := fetchContractedRow.holds Try.pinned (OpenSpec.ofChange fetchContractedWrong)

/-- 'trishawlaw09.FetchMore': WHATEVER THE INPUT: true; the input reads as it did. -/
def fetchMoreSpec : ChangeSpec := { name := "fetchMore", fn := fun _ => fun
  | [d1, d2, d3] => { results := [.lit (.bool true)], args := [d1, d2, d3] }
  | _ => none }
def fetchMoreRow : OpenClaim := { program := "ytjbfbdanbpfplaa", sum := "8bc4fbce8b1b08e7d2843ed5ccb5285708ccb6faa72e72b0d44297b8a5fe4790", func := "trishaw/trishawlaw09.FetchMore", spec := "fetchMore", unfollowed := true, recurses := true, apart := false }
def FetchMoreSaid : Prop := fetchMoreRow.holds Try.pinned (OpenSpec.ofChange fetchMoreSpec)

/-- ITS FALSE NEIGHBOUR: 'it returns false'. Refute it at one input. -/
def fetchMoreWrong : ChangeSpec := { name := "fetchMore", fn := fun _ => fun
  | [d1, d2, d3] => { results := [.lit (.bool false)], args := [d1, d2, d3] }
  | _ => none }
def FetchMoreWrongFalsely : Prop := fetchMoreRow.holds Try.pinned (OpenSpec.ofChange fetchMoreWrong)

/-- 'trishawlaw09.FetchMends': WHATEVER THE INPUT: true; the input reads as it did. -/
def fetchMendsSpec : ChangeSpec := { name := "fetchMends", fn := fun _ => fun
  | [d1, d2] => { results := [.lit (.bool true)], args := [d1, d2] }
  | _ => none }
def fetchMendsRow : OpenClaim := { program := "ytjbfbdanbpfplaa", sum := "8bc4fbce8b1b08e7d2843ed5ccb5285708ccb6faa72e72b0d44297b8a5fe4790", func := "trishaw/trishawlaw09.FetchMends", spec := "fetchMends", unfollowed := true, recurses := true, apart := false }
def FetchMendsSaid : Prop := fetchMendsRow.holds Try.pinned (OpenSpec.ofChange fetchMendsSpec)

/-- ITS FALSE NEIGHBOUR: 'it returns false'. Refute it at one input. -/
def fetchMendsWrong : ChangeSpec := { name := "fetchMends", fn := fun _ => fun
  | [d1, d2] => { results := [.lit (.bool false)], args := [d1, d2] }
  | _ => none }
def FetchMendsWrongFalsely : Prop := fetchMendsRow.holds Try.pinned (OpenSpec.ofChange fetchMendsWrong)

/-- 'trishawlaw09.FetchTurned': WHATEVER THE INPUT: true; the input reads as it did. -/
def fetchTurnedSpec : ChangeSpec := { name := "fetchTurned", fn := fun _ => fun
  | [d1, d2] => { results := [.lit (.bool true)], args := [d1, d2] }
  | _ => none }
def fetchTurnedRow : OpenClaim := { program := "ytjbfbdanbpfplaa", sum := "8bc4fbce8b1b08e7d2843ed5ccb5285708ccb6faa72e72b0d44297b8a5fe4790", func := "trishaw/trishawlaw09.FetchTurned", spec := "fetchTurned", unfollowed := true, recurses := true, apart := false }
def FetchTurnedSaid : Prop := fetchTurnedRow.holds Try.pinned (OpenSpec.ofChange fetchTurnedSpec)

/-- ITS FALSE NEIGHBOUR: 'it returns false'. Refute it at one input. -/
def fetchTurnedWrong : ChangeSpec := { name := "fetchTurned", fn := fun _ => fun
  | [d1, d2] => { results := [.lit (.bool false)], args := [d1, d2] }
  | _ => none }
def FetchTurnedWrongFalsely : Prop := fetchTurnedRow.holds Try.pinned (OpenSpec.ofChange fetchTurnedWrong)

/-- 'trishawlaw09.FetchCuts': WHATEVER THE INPUT: true; the input reads as it did. -/
def fetchCutsSpec : ChangeSpec := { name := "fetchCuts", fn := fun _ => fun
  | [d1, d2, d3] => { results := [.lit (.bool true)], args := [d1, d2, d3] }
  | _ => none }
def fetchCutsRow : OpenClaim := { program := "ytjbfbdanbpfplaa", sum := "8bc4fbce8b1b08e7d2843ed5ccb5285708ccb6faa72e72b0d44297b8a5fe4790", func := "trishaw/trishawlaw09.FetchCuts", spec := "fetchCuts", unfollowed := true, recurses := true, apart := false }
def FetchCutsSaid : Prop := fetchCutsRow.holds Try.pinned (OpenSpec.ofChange fetchCutsSpec)

/-- ITS FALSE NEIGHBOUR: 'it returns false'. Refute it at one input. -/
def fetchCutsWrong : ChangeSpec := { name := "fetchCuts", fn := fun _ => fun
  | [d1, d2, d3] => { results := [.lit (.bool false)], args := [d1, d2, d3] }
  | _ => none }
def FetchCutsWrongFalsely : Prop := fetchCutsRow.holds Try.pinned (OpenSpec.ofChange fetchCutsWrong)

/-- 'trishawlaw09.FetchCrossed': WHATEVER THE INPUT: true; the input reads as it did. -/
def fetchCrossedSpec : ChangeSpec := { name := "fetchCrossed", fn := fun _ => fun
  | [d1, d2, d3, d4] => { results := [.lit (.bool true)], args := [d1, d2, d3, d4] }
  | _ => none }
def fetchCrossedRow : OpenClaim := { program := "ytjbfbdanbpfplaa", sum := "8bc4fbce8b1b08e7d2843ed5ccb5285708ccb6faa72e72b0d44297b8a5fe4790", func := "trishaw/trishawlaw09.FetchCrossed", spec := "fetchCrossed", unfollowed := true, recurses := true, apart := false }
def FetchCrossedSaid : Prop := fetchCrossedRow.holds Try.pinned (OpenSpec.ofChange fetchCrossedSpec)

/-- ITS FALSE NEIGHBOUR: 'it returns false'. Refute it at one input. -/
def fetchCrossedWrong : ChangeSpec := { name := "fetchCrossed", fn := fun _ => fun
  | [d1, d2, d3, d4] => { results := [.lit (.bool false)], args := [d1, d2, d3, d4] }
  | _ => none }
def FetchCrossedWrongFalsely : Prop := fetchCrossedRow.holds Try.pinned (OpenSpec.ofChange fetchCrossedWrong)

/-- 'trishawlaw09.FetchIs': WHATEVER THE INPUT: true; the input reads as it did. -/
def fetchIsSpec : ChangeSpec := { name := "fetchIs", fn := fun _ => fun
  | [d1, d2, d3, d4] => { results := [.lit (.bool true)], args := [d1, d2, d3, d4] }
  | _ => none }
def fetchIsRow : OpenClaim := { program := "ytjbfbdanbpfplaa", sum := "8bc4fbce8b1b08e7d2843ed5ccb5285708ccb6faa72e72b0d44297b8a5fe4790", func := "trishaw/trishawlaw09.FetchIs", spec := "fetchIs", unfollowed := true, recurses := true, apart := false }
def FetchIsSaid : Prop := fetchIsRow.holds Try.pinned (OpenSpec.ofChange fetchIsSpec)

/-- ITS FALSE NEIGHBOUR: 'it returns false'. Refute it at one input. -/
def fetchIsWrong : ChangeSpec := { name := "fetchIs", fn := fun _ => fun
  | [d1, d2, d3, d4] => { results := [.lit (.bool false)], args := [d1, d2, d3, d4] }
  | _ => none }
def FetchIsWrongFalsely : Prop := fetchIsRow.holds Try.pinned (OpenSpec.ofChange fetchIsWrong)

/-- 'trishawlaw09.FetchLucchesi': WHATEVER THE INPUT: true; the input reads as it did. -/
def fetchLucchesiSpec : ChangeSpec := { name := "fetchLucchesi", fn := fun _ => fun
  | [d1, d2, d3, d4] => { results := [.lit (.bool true)], args := [d1, d2, d3, d4] }
  | _ => none }
def fetchLucchesiRow : OpenClaim := { program := "ytjbfbdanbpfplaa", sum := "8bc4fbce8b1b08e7d2843ed5ccb5285708ccb6faa72e72b0d44297b8a5fe4790", func := "trishaw/trishawlaw09.FetchLucchesi", spec := "fetchLucchesi", unfollowed := true, recurses := true, apart := false }
def FetchLucchesiSaid : Prop := fetchLucchesiRow.holds Try.pinned (OpenSpec.ofChange fetchLucchesiSpec)

/-- ITS FALSE NEIGHBOUR: 'it returns false'. Refute it at one input. -/
def fetchLucchesiWrong : ChangeSpec := { name := "fetchLucchesi", fn := fun _ => fun
  | [d1, d2, d3, d4] => { results := [.lit (.bool false)], args := [d1, d2, d3, d4] }
  | _ => none }
def FetchLucchesiWrongFalsely : Prop := fetchLucchesiRow.holds Try.pinned (OpenSpec.ofChange fetchLucchesiWrong)

/-- 'trishawlaw09.FetchStrong': WHATEVER THE INPUT: true; the input reads as it did. -/
def fetchStrongSpec : ChangeSpec := { name := "fetchStrong", fn := fun _ => fun
  | [d1, d2, d3] => { results := [.lit (.bool true)], args := [d1, d2, d3] }
  | _ => none }
def fetchStrongRow : OpenClaim := { program := "ytjbfbdanbpfplaa", sum := "8bc4fbce8b1b08e7d2843ed5ccb5285708ccb6faa72e72b0d44297b8a5fe4790", func := "trishaw/trishawlaw09.FetchStrong", spec := "fetchStrong", unfollowed := true, recurses := true, apart := false }
def FetchStrongSaid : Prop := fetchStrongRow.holds Try.pinned (OpenSpec.ofChange fetchStrongSpec)

/-- ITS FALSE NEIGHBOUR: 'it returns false'. Refute it at one input. -/
def fetchStrongWrong : ChangeSpec := { name := "fetchStrong", fn := fun _ => fun
  | [d1, d2, d3] => { results := [.lit (.bool false)], args := [d1, d2, d3] }
  | _ => none }
def FetchStrongWrongFalsely : Prop := fetchStrongRow.holds Try.pinned (OpenSpec.ofChange fetchStrongWrong)

/-- 'trishawlaw09.FetchMended': WHATEVER THE INPUT: true; the input reads as it did. -/
def fetchMendedSpec : ChangeSpec := { name := "fetchMended", fn := fun _ => fun
  | [d1, d2, d3] => { results := [.lit (.bool true)], args := [d1, d2, d3] }
  | _ => none }
def fetchMendedRow : OpenClaim := { program := "ytjbfbdanbpfplaa", sum := "8bc4fbce8b1b08e7d2843ed5ccb5285708ccb6faa72e72b0d44297b8a5fe4790", func := "trishaw/trishawlaw09.FetchMended", spec := "fetchMended", unfollowed := true, recurses := true, apart := false }
def FetchMendedSaid : Prop := fetchMendedRow.holds Try.pinned (OpenSpec.ofChange fetchMendedSpec)

/-- ITS FALSE NEIGHBOUR: 'it returns false'. Refute it at one input. -/
def fetchMendedWrong : ChangeSpec := { name := "fetchMended", fn := fun _ => fun
  | [d1, d2, d3] => { results := [.lit (.bool false)], args := [d1, d2, d3] }
  | _ => none }
def FetchMendedWrongFalsely : Prop := fetchMendedRow.holds Try.pinned (OpenSpec.ofChange fetchMendedWrong)

/- THE SECOND FORM. 'bulk': how many values and letters a reading holds, each counted each time it is reached (what is shared counts as often as it is met; a slice's spare places count too). A statement '..UptoSaid' is the law's where the arguments, and the package variables that the reading takes, are together of bulk at most 1048576: NARROWER than '..Said'. Prove '..Said' where nothing that the law and all that it calls make is longer than what came in: it says more and counts as full. Else prove '..UptoSaid'. A law counts once. -/
mutual
def uptoBulk {H : Type} : DataW H → Nat
  | .lit (.string bytes) => bytes.length + 1
  | .lit _ => 1
  | .nil => 1
  | .ptr d => uptoBulk d + 1
  | .slice elems spare => uptoBulkAll elems + uptoBulkAll spare + 1
  | .agg parts => uptoBulkAll parts + 1
  | .iface _ d => uptoBulk d + 1
  | .map entries => uptoBulkEntries entries + 1
  | .held _ => 1
def uptoBulkAll {H : Type} : List (DataW H) → Nat
  | [] => 0
  | d :: r => uptoBulk d + uptoBulkAll r
def uptoBulkEntries {H : Type} : List (Lit × DataW H) → Nat
  | [] => 0
  | x :: r => uptoBulkEntry x + uptoBulkEntries r
def uptoBulkEntry {H : Type} : Lit × DataW H → Nat
  | (.string bytes, d) => bytes.length + uptoBulk d + 1
  | (_, d) => uptoBulk d + 1
 end
def uptoSmall : (H : Type) → List (DataW H) → Bool := fun _ ds => decide (uptoBulkAll ds ≤ 1048576)
def OpenSpec.upto (s : _root_.Go.ChangeSpec) : _root_.Go.OpenSpec := { _root_.Go.OpenSpec.ofChange s with cond := some uptoSmall }

/-- 'trishawlaw09.FetchApart', WHERE WHAT IT READS IS OF BULK AT MOST 1048576: true; the input reads as it did. -/
def fetchApartUptoRow : OpenClaim := { program := "ytjbfbdanbpfplaa", sum := "8bc4fbce8b1b08e7d2843ed5ccb5285708ccb6faa72e72b0d44297b8a5fe4790", func := "trishaw/trishawlaw09.FetchApart", spec := "fetchApart", unfollowed := true, recurses := true, apart := false, narrowed := true }
def FetchApartUptoSaid : Prop := fetchApartUptoRow.holds Try.pinned (OpenSpec.upto fetchApartSpec)

/-- 'trishawlaw09.FetchMeets', WHERE WHAT IT READS IS OF BULK AT MOST 1048576: true; the input reads as it did. -/
def fetchMeetsUptoRow : OpenClaim := { program := "ytjbfbdanbpfplaa", sum := "8bc4fbce8b1b08e7d2843ed5ccb5285708ccb6faa72e72b0d44297b8a5fe4790", func := "trishaw/trishawlaw09.FetchMeets", spec := "fetchMeets", unfollowed := true, recurses := true, apart := false, narrowed := true }
def FetchMeetsUptoSaid : Prop := fetchMeetsUptoRow.holds Try.pinned (OpenSpec.upto fetchMeetsSpec)

/-- 'trishawlaw09.FetchContracted', WHERE WHAT IT READS IS OF BULK AT MOST 1048576: true; the input reads as it did. -/
def fetchContractedUptoRow : OpenClaim := { program := "ytjbfbdanbpfplaa", sum := "8bc4fbce8b1b08e7d2843ed5ccb5285708ccb6faa72e72b0d44297b8a5fe4790", func := "trishaw/trishawlaw09.FetchContracted", spec := "fetchContracted", unfollowed := true, recurses := true, apart := false, narrowed := true }
def FetchContractedUptoSaid : Prop := fetchContractedUptoRow.holds Try.pinned (OpenSpec.upto fetchContractedSpec)

/-- 'trishawlaw09.FetchMore', WHERE WHAT IT READS IS OF BULK AT MOST 1048576: true; the input reads as it did. -/
def fetchMoreUptoRow : OpenClaim := { program := "ytjbfbdanbpfplaa", sum := "8bc4fbce8b1b08e7d2843ed5ccb5285708ccb6faa72e72b0d44297b8a5fe4790", func := "trishaw/trishawlaw09.FetchMore", spec := "fetchMore", unfollowed := true, recurses := true, apart := false, narrowed := true }
def FetchMoreUptoSaid : Prop := fetchMoreUptoRow.holds Try.pinned (OpenSpec.upto fetchMoreSpec)

/-- 'trishawlaw09.FetchMends', WHERE WHAT IT READS IS OF BULK AT MOST 1048576: true; the input reads as it did. -/
def fetchMendsUptoRow : OpenClaim := { program := "ytjbfbdanbpfplaa", sum := "8bc4fbce8b1b08e7d2843ed5ccb5285708ccb6faa72e72b0d44297b8a5fe4790", func := "trishaw/trishawlaw09.FetchMends", spec := "fetchMends", unfollowed := true, recurses := true, apart := false, narrowed := true }
def FetchMendsUptoSaid : Prop := fetchMendsUptoRow.holds Try.pinned (OpenSpec.upto fetchMendsSpec)

/-- 'trishawlaw09.FetchTurned', WHERE WHAT IT READS IS OF BULK AT MOST 1048576: true; the input reads as it did. -/
def fetchTurnedUptoRow : OpenClaim := { program := "ytjbfbdanbpfplaa", sum := "8bc4fbce8b1b08e7d2843ed5ccb5285708ccb6faa72e72b0d44297b8a5fe4790", func := "trishaw/trishawlaw09.FetchTurned", spec := "fetchTurned", unfollowed := true, recurses := true, apart := false, narrowed := true }
def FetchTurnedUptoSaid : Prop := fetchTurnedUptoRow.holds Try.pinned (OpenSpec.upto fetchTurnedSpec)

/-- 'trishawlaw09.FetchCuts', WHERE WHAT IT READS IS OF BULK AT MOST 1048576: true; the input reads as it did. -/
def fetchCutsUptoRow : OpenClaim := { program := "ytjbfbdanbpfplaa", sum := "8bc4fbce8b1b08e7d2843ed5ccb5285708ccb6faa72e72b0d44297b8a5fe4790", func := "trishaw/trishawlaw09.FetchCuts", spec := "fetchCuts", unfollowed := true, recurses := true, apart := false, narrowed := true }
def FetchCutsUptoSaid : Prop := fetchCutsUptoRow.holds Try.pinned (OpenSpec.upto fetchCutsSpec)

/-- 'trishawlaw09.FetchCrossed', WHERE WHAT IT READS IS OF BULK AT MOST 1048576: true; the input reads as it did. -/
def fetchCrossedUptoRow : OpenClaim := { program := "ytjbfbdanbpfplaa", sum := "8bc4fbce8b1b08e7d2843ed5ccb5285708ccb6faa72e72b0d44297b8a5fe4790", func := "trishaw/trishawlaw09.FetchCrossed", spec := "fetchCrossed", unfollowed := true, recurses := true, apart := false, narrowed := true }
def FetchCrossedUptoSaid : Prop := fetchCrossedUptoRow.holds Try.pinned (OpenSpec.upto fetchCrossedSpec)

/-- 'trishawlaw09.FetchIs', WHERE WHAT IT READS IS OF BULK AT MOST 1048576: true; the input reads as it did. -/
def fetchIsUptoRow : OpenClaim := { program := "ytjbfbdanbpfplaa", sum := "8bc4fbce8b1b08e7d2843ed5ccb5285708ccb6faa72e72b0d44297b8a5fe4790", func := "trishaw/trishawlaw09.FetchIs", spec := "fetchIs", unfollowed := true, recurses := true, apart := false, narrowed := true }
def FetchIsUptoSaid : Prop := fetchIsUptoRow.holds Try.pinned (OpenSpec.upto fetchIsSpec)

/-- 'trishawlaw09.FetchLucchesi', WHERE WHAT IT READS IS OF BULK AT MOST 1048576: true; the input reads as it did. -/
def fetchLucchesiUptoRow : OpenClaim := { program := "ytjbfbdanbpfplaa", sum := "8bc4fbce8b1b08e7d2843ed5ccb5285708ccb6faa72e72b0d44297b8a5fe4790", func := "trishaw/trishawlaw09.FetchLucchesi", spec := "fetchLucchesi", unfollowed := true, recurses := true, apart := false, narrowed := true }
def FetchLucchesiUptoSaid : Prop := fetchLucchesiUptoRow.holds Try.pinned (OpenSpec.upto fetchLucchesiSpec)

/-- 'trishawlaw09.FetchStrong', WHERE WHAT IT READS IS OF BULK AT MOST 1048576: true; the input reads as it did. -/
def fetchStrongUptoRow : OpenClaim := { program := "ytjbfbdanbpfplaa", sum := "8bc4fbce8b1b08e7d2843ed5ccb5285708ccb6faa72e72b0d44297b8a5fe4790", func := "trishaw/trishawlaw09.FetchStrong", spec := "fetchStrong", unfollowed := true, recurses := true, apart := false, narrowed := true }
def FetchStrongUptoSaid : Prop := fetchStrongUptoRow.holds Try.pinned (OpenSpec.upto fetchStrongSpec)

/-- 'trishawlaw09.FetchMended', WHERE WHAT IT READS IS OF BULK AT MOST 1048576: true; the input reads as it did. -/
def fetchMendedUptoRow : OpenClaim := { program := "ytjbfbdanbpfplaa", sum := "8bc4fbce8b1b08e7d2843ed5ccb5285708ccb6faa72e72b0d44297b8a5fe4790", func := "trishaw/trishawlaw09.FetchMended", spec := "fetchMended", unfollowed := true, recurses := true, apart := false, narrowed := true }
def FetchMendedUptoSaid : Prop := fetchMendedUptoRow.holds Try.pinned (OpenSpec.upto fetchMendedSpec)

end Rows
end Go.Proofs.Ytjbfbdanbpfplaa
