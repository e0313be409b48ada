/-
  No cell of these rows narrows 'for every input' (looked for: loops, veiled, ifaces, maps, wideKeys, modest, calm, conditions, laid).
  DERIVED. THE GIVEN ROWS OF THIS SEAT. 13 by the template 'for every input the law returns true; each argument reads behind the call as it read before'; 0 by the template 'total and deterministic' (their statements: YtiafiebalibkdaaTotals.lean).
  GIVEN WITH THE SEED: the statements are not yours to turn. If you find one false, say at which input.
  Laid BY PROGRAM, IN A SANDBOX (cutbox-rows.mjs): the forced cells as the released guide's own fill.sh prints them over the translation 8def5994747af57b… (all of the seat's roots in one cut). By AI agents, Wed Nov 11 2026. No macro, syntax, notation, axiom, sorry.
-/
import Derived.Test.YtiafiebalibkdaaChecked
import GoSem.Claim
import GoSem.ClaimJoined
import GoSem.ClaimMapViews
import Derived.JoinedTies
import Derived.KernelRfl
namespace Go.Proofs.Ytiafiebalibkdaa
/- THE CELL 'sum', in the pinned program and in every row, IS THE sha256 OF THE DUMP (.gsa) THAT YtiafiebalibkdaaProg.lean LOADS. Nothing in Lean hashes anything: it is a label: what it is worth is what the hold of that sum in a sandbox is worth. -/
noncomputable def Try.pinned : Pinned := { name := "ytiafiebalibkdaa", sum := "8def5994747af57b664bf6c7fa448f641d0d20fd3f2f6dbaf5a40e606ee5d3d4", checked := Try.checked }
namespace Rows
def none {H : Type} : Left H := { results := [], args := [] }

/-- 'trishawlaw08.ShareWinners': WHATEVER THE INPUT: true; the input reads as it did. -/
def shareWinnersSpec : ChangeSpec := { name := "shareWinners", fn := fun _ => fun
  | [d1, d2] => { results := [.lit (.bool true)], args := [d1, d2] }
  | _ => none }
def shareWinnersRow : OpenClaim := { program := "ytiafiebalibkdaa", sum := "8def5994747af57b664bf6c7fa448f641d0d20fd3f2f6dbaf5a40e606ee5d3d4", func := "trishaw/trishawlaw08.ShareWinners", spec := "shareWinners", unfollowed := true, recurses := true, apart := false }
def ShareWinnersSaid : Prop := shareWinnersRow.holds Try.pinned (OpenSpec.ofChange shareWinnersSpec)

/-- ITS FALSE NEIGHBOUR: 'it returns false'. Refute it at one input. -/
def shareWinnersWrong : ChangeSpec := { name := "shareWinners", fn := fun _ => fun
  | [d1, d2] => { results := [.lit (.bool false)], args := [d1, d2] }
  | _ => none }
def ShareWinnersWrongFalsely : Prop := shareWinnersRow.holds Try.pinned (OpenSpec.ofChange shareWinnersWrong)

/-- 'trishawlaw08.ShareDivided': WHATEVER THE INPUT: true; the input reads as it did. -/
def shareDividedSpec : ChangeSpec := { name := "shareDivided", fn := fun _ => fun
  | [d1, d2, d3] => { results := [.lit (.bool true)], args := [d1, d2, d3] }
  | _ => none }
def shareDividedRow : OpenClaim := { program := "ytiafiebalibkdaa", sum := "8def5994747af57b664bf6c7fa448f641d0d20fd3f2f6dbaf5a40e606ee5d3d4", func := "trishaw/trishawlaw08.ShareDivided", spec := "shareDivided", unfollowed := true, recurses := true, apart := false }
def ShareDividedSaid : Prop := shareDividedRow.holds Try.pinned (OpenSpec.ofChange shareDividedSpec)

/-- ITS FALSE NEIGHBOUR: 'it returns false'. Refute it at one input. -/
def shareDividedWrong : ChangeSpec := { name := "shareDivided", fn := fun _ => fun
  | [d1, d2, d3] => { results := [.lit (.bool false)], args := [d1, d2, d3] }
  | _ => none }
def ShareDividedWrongFalsely : Prop := shareDividedRow.holds Try.pinned (OpenSpec.ofChange shareDividedWrong)

/-- 'trishawlaw08.ShareRenumbered': WHATEVER THE INPUT: true; the input reads as it did. -/
def shareRenumberedSpec : ChangeSpec := { name := "shareRenumbered", fn := fun _ => fun
  | [d1, d2, d3] => { results := [.lit (.bool true)], args := [d1, d2, d3] }
  | _ => none }
def shareRenumberedRow : OpenClaim := { program := "ytiafiebalibkdaa", sum := "8def5994747af57b664bf6c7fa448f641d0d20fd3f2f6dbaf5a40e606ee5d3d4", func := "trishaw/trishawlaw08.ShareRenumbered", spec := "shareRenumbered", unfollowed := true, recurses := true, apart := false }
def ShareRenumberedSaid : Prop := shareRenumberedRow.holds Try.pinned (OpenSpec.ofChange shareRenumberedSpec)

/-- ITS FALSE NEIGHBOUR: 'it returns false'. Refute it at one input. -/
def shareRenumberedWrong : ChangeSpec := { name := "shareRenumbered", fn := fun _ => fun
  | [d1, d2, d3] => { results := [.lit (.bool false)], args := [d1, d2, d3] }
  | _ => none }
def ShareRenumberedWrongFalsely : Prop := shareRenumberedRow.holds Try.pinned (OpenSpec.ofChange shareRenumberedWrong)

/-- 'trishawlaw08.ShareExchanged': WHATEVER THE INPUT: true; the input reads as it did. -/
def shareExchangedSpec : ChangeSpec := { name := "shareExchanged", fn := fun _ => fun
  | [d1, d2] => { results := [.lit (.bool true)], args := [d1, d2] }
  | _ => none }
def shareExchangedRow : OpenClaim := { program := "ytiafiebalibkdaa", sum := "8def5994747af57b664bf6c7fa448f641d0d20fd3f2f6dbaf5a40e606ee5d3d4", func := "trishaw/trishawlaw08.ShareExchanged", spec := "shareExchanged", unfollowed := true, recurses := true, apart := false }
def ShareExchangedSaid : Prop := shareExchangedRow.holds Try.pinned (OpenSpec.ofChange shareExchangedSpec)

/-- ITS FALSE NEIGHBOUR: 'it returns false'. Refute it at one input. -/
def shareExchangedWrong : ChangeSpec := { name := "shareExchanged", fn := fun _ => fun
  | [d1, d2] => { results := [.lit (.bool false)], args := [d1, d2] }
  | _ => none }
def ShareExchangedWrongFalsely : Prop := shareExchangedRow.holds Try.pinned (OpenSpec.ofChange shareExchangedWrong)

/-- 'trishawlaw08.ShareAssigns': WHATEVER THE INPUT: true; the input reads as it did. -/
def shareAssignsSpec : ChangeSpec := { name := "shareAssigns", fn := fun _ => fun
  | [d] => { results := [.lit (.bool true)], args := [d] }
  | _ => none }
def shareAssignsRow : OpenClaim := { program := "ytiafiebalibkdaa", sum := "8def5994747af57b664bf6c7fa448f641d0d20fd3f2f6dbaf5a40e606ee5d3d4", func := "trishaw/trishawlaw08.ShareAssigns", spec := "shareAssigns", unfollowed := true, recurses := true, apart := false }
def ShareAssignsSaid : Prop := shareAssignsRow.holds Try.pinned (OpenSpec.ofChange shareAssignsSpec)

/-- ITS FALSE NEIGHBOUR: 'it returns false'. Refute it at one input. -/
def shareAssignsWrong : ChangeSpec := { name := "shareAssigns", fn := fun _ => fun
  | [d] => { results := [.lit (.bool false)], args := [d] }
  | _ => none }
def ShareAssignsWrongFalsely : Prop := shareAssignsRow.holds Try.pinned (OpenSpec.ofChange shareAssignsWrong)

/-- 'trishawlaw08.ShareRents': WHATEVER THE INPUT: true; the input reads as it did. -/
def shareRentsSpec : ChangeSpec := { name := "shareRents", fn := fun _ => fun
  | [d1, d2] => { results := [.lit (.bool true)], args := [d1, d2] }
  | _ => none }
def shareRentsRow : OpenClaim := { program := "ytiafiebalibkdaa", sum := "8def5994747af57b664bf6c7fa448f641d0d20fd3f2f6dbaf5a40e606ee5d3d4", func := "trishaw/trishawlaw08.ShareRents", spec := "shareRents", unfollowed := true, recurses := true, apart := false }
def ShareRentsSaid : Prop := shareRentsRow.holds Try.pinned (OpenSpec.ofChange shareRentsSpec)

/-- ITS FALSE NEIGHBOUR: 'it returns false'. Refute it at one input. -/
def shareRentsWrong : ChangeSpec := { name := "shareRents", fn := fun _ => fun
  | [d1, d2] => { results := [.lit (.bool false)], args := [d1, d2] }
  | _ => none }
def ShareRentsWrongFalsely : Prop := shareRentsRow.holds Try.pinned (OpenSpec.ofChange shareRentsWrong)

/-- 'trishawlaw08.ShareEnvies': WHATEVER THE INPUT: true; the input reads as it did. -/
def shareEnviesSpec : ChangeSpec := { name := "shareEnvies", fn := fun _ => fun
  | [d1, d2, d3] => { results := [.lit (.bool true)], args := [d1, d2, d3] }
  | _ => none }
def shareEnviesRow : OpenClaim := { program := "ytiafiebalibkdaa", sum := "8def5994747af57b664bf6c7fa448f641d0d20fd3f2f6dbaf5a40e606ee5d3d4", func := "trishaw/trishawlaw08.ShareEnvies", spec := "shareEnvies", unfollowed := true, recurses := true, apart := false }
def ShareEnviesSaid : Prop := shareEnviesRow.holds Try.pinned (OpenSpec.ofChange shareEnviesSpec)

/-- ITS FALSE NEIGHBOUR: 'it returns false'. Refute it at one input. -/
def shareEnviesWrong : ChangeSpec := { name := "shareEnvies", fn := fun _ => fun
  | [d1, d2, d3] => { results := [.lit (.bool false)], args := [d1, d2, d3] }
  | _ => none }
def ShareEnviesWrongFalsely : Prop := shareEnviesRow.holds Try.pinned (OpenSpec.ofChange shareEnviesWrong)

/-- 'trishawlaw08.ShareContent': WHATEVER THE INPUT: true; the input reads as it did. -/
def shareContentSpec : ChangeSpec := { name := "shareContent", fn := fun _ => fun
  | [d1, d2, d3, d4] => { results := [.lit (.bool true)], args := [d1, d2, d3, d4] }
  | _ => none }
def shareContentRow : OpenClaim := { program := "ytiafiebalibkdaa", sum := "8def5994747af57b664bf6c7fa448f641d0d20fd3f2f6dbaf5a40e606ee5d3d4", func := "trishaw/trishawlaw08.ShareContent", spec := "shareContent", unfollowed := true, recurses := true, apart := false }
def ShareContentSaid : Prop := shareContentRow.holds Try.pinned (OpenSpec.ofChange shareContentSpec)

/-- ITS FALSE NEIGHBOUR: 'it returns false'. Refute it at one input. -/
def shareContentWrong : ChangeSpec := { name := "shareContent", fn := fun _ => fun
  | [d1, d2, d3, d4] => { results := [.lit (.bool false)], args := [d1, d2, d3, d4] }
  | _ => none }
def ShareContentWrongFalsely : Prop := shareContentRow.holds Try.pinned (OpenSpec.ofChange shareContentWrong)

/-- 'trishawlaw08.ShareDiffers': WHATEVER THE INPUT: true; the input reads as it did. -/
def shareDiffersSpec : ChangeSpec := { name := "shareDiffers", fn := fun _ => fun
  | [d1, d2] => { results := [.lit (.bool true)], args := [d1, d2] }
  | _ => none }
def shareDiffersRow : OpenClaim := { program := "ytiafiebalibkdaa", sum := "8def5994747af57b664bf6c7fa448f641d0d20fd3f2f6dbaf5a40e606ee5d3d4", func := "trishaw/trishawlaw08.ShareDiffers", spec := "shareDiffers", unfollowed := true, recurses := true, apart := false }
def ShareDiffersSaid : Prop := shareDiffersRow.holds Try.pinned (OpenSpec.ofChange shareDiffersSpec)

/-- ITS FALSE NEIGHBOUR: 'it returns false'. Refute it at one input. -/
def shareDiffersWrong : ChangeSpec := { name := "shareDiffers", fn := fun _ => fun
  | [d1, d2] => { results := [.lit (.bool false)], args := [d1, d2] }
  | _ => none }
def ShareDiffersWrongFalsely : Prop := shareDiffersRow.holds Try.pinned (OpenSpec.ofChange shareDiffersWrong)

/-- 'trishawlaw08.ShareScores': WHATEVER THE INPUT: true; the input reads as it did. -/
def shareScoresSpec : ChangeSpec := { name := "shareScores", fn := fun _ => fun
  | [d1, d2, d3] => { results := [.lit (.bool true)], args := [d1, d2, d3] }
  | _ => none }
def shareScoresRow : OpenClaim := { program := "ytiafiebalibkdaa", sum := "8def5994747af57b664bf6c7fa448f641d0d20fd3f2f6dbaf5a40e606ee5d3d4", func := "trishaw/trishawlaw08.ShareScores", spec := "shareScores", unfollowed := true, recurses := true, apart := false }
def ShareScoresSaid : Prop := shareScoresRow.holds Try.pinned (OpenSpec.ofChange shareScoresSpec)

/-- ITS FALSE NEIGHBOUR: 'it returns false'. Refute it at one input. -/
def shareScoresWrong : ChangeSpec := { name := "shareScores", fn := fun _ => fun
  | [d1, d2, d3] => { results := [.lit (.bool false)], args := [d1, d2, d3] }
  | _ => none }
def ShareScoresWrongFalsely : Prop := shareScoresRow.holds Try.pinned (OpenSpec.ofChange shareScoresWrong)

/-- 'trishawlaw08.ShareAdjusted': WHATEVER THE INPUT: true; the input reads as it did. -/
def shareAdjustedSpec : ChangeSpec := { name := "shareAdjusted", fn := fun _ => fun
  | [d1, d2] => { results := [.lit (.bool true)], args := [d1, d2] }
  | _ => none }
def shareAdjustedRow : OpenClaim := { program := "ytiafiebalibkdaa", sum := "8def5994747af57b664bf6c7fa448f641d0d20fd3f2f6dbaf5a40e606ee5d3d4", func := "trishaw/trishawlaw08.ShareAdjusted", spec := "shareAdjusted", unfollowed := true, recurses := true, apart := false }
def ShareAdjustedSaid : Prop := shareAdjustedRow.holds Try.pinned (OpenSpec.ofChange shareAdjustedSpec)

/-- ITS FALSE NEIGHBOUR: 'it returns false'. Refute it at one input. -/
def shareAdjustedWrong : ChangeSpec := { name := "shareAdjusted", fn := fun _ => fun
  | [d1, d2] => { results := [.lit (.bool false)], args := [d1, d2] }
  | _ => none }
def ShareAdjustedWrongFalsely : Prop := shareAdjustedRow.holds Try.pinned (OpenSpec.ofChange shareAdjustedWrong)

/-- 'trishawlaw08.ShareEfficient': WHATEVER THE INPUT: true; the input reads as it did. -/
def shareEfficientSpec : ChangeSpec := { name := "shareEfficient", fn := fun _ => fun
  | [d1, d2, d3, d4] => { results := [.lit (.bool true)], args := [d1, d2, d3, d4] }
  | _ => none }
def shareEfficientRow : OpenClaim := { program := "ytiafiebalibkdaa", sum := "8def5994747af57b664bf6c7fa448f641d0d20fd3f2f6dbaf5a40e606ee5d3d4", func := "trishaw/trishawlaw08.ShareEfficient", spec := "shareEfficient", unfollowed := true, recurses := true, apart := false }
def ShareEfficientSaid : Prop := shareEfficientRow.holds Try.pinned (OpenSpec.ofChange shareEfficientSpec)

/-- ITS FALSE NEIGHBOUR: 'it returns false'. Refute it at one input. -/
def shareEfficientWrong : ChangeSpec := { name := "shareEfficient", fn := fun _ => fun
  | [d1, d2, d3, d4] => { results := [.lit (.bool false)], args := [d1, d2, d3, d4] }
  | _ => none }
def ShareEfficientWrongFalsely : Prop := shareEfficientRow.holds Try.pinned (OpenSpec.ofChange shareEfficientWrong)

/-- 'trishawlaw08.ShareLimits': WHATEVER THE INPUT: true; the input reads as it did. -/
def shareLimitsSpec : ChangeSpec := { name := "shareLimits", fn := fun _ => fun
  | [d1, d2, d3] => { results := [.lit (.bool true)], args := [d1, d2, d3] }
  | _ => none }
def shareLimitsRow : OpenClaim := { program := "ytiafiebalibkdaa", sum := "8def5994747af57b664bf6c7fa448f641d0d20fd3f2f6dbaf5a40e606ee5d3d4", func := "trishaw/trishawlaw08.ShareLimits", spec := "shareLimits", unfollowed := true, recurses := true, apart := false }
def ShareLimitsSaid : Prop := shareLimitsRow.holds Try.pinned (OpenSpec.ofChange shareLimitsSpec)

/-- ITS FALSE NEIGHBOUR: 'it returns false'. Refute it at one input. -/
def shareLimitsWrong : ChangeSpec := { name := "shareLimits", fn := fun _ => fun
  | [d1, d2, d3] => { results := [.lit (.bool false)], args := [d1, d2, d3] }
  | _ => none }
def ShareLimitsWrongFalsely : Prop := shareLimitsRow.holds Try.pinned (OpenSpec.ofChange shareLimitsWrong)

/- THE SECOND FORM. 'bulk': how many values and letters a reading holds, each counted each time it is reached (what is shared counts as often as it is met; a slice's spare places count too). A statement '..UptoSaid' is the law's where the arguments, and the package variables that the reading takes, are together of bulk at most 1048576: NARROWER than '..Said'. Prove '..Said' where nothing that the law and all that it calls make is longer than what came in: it says more and counts as full. Else prove '..UptoSaid'. A law counts once. -/
mutual
def uptoBulk {H : Type} : DataW H → Nat
  | .lit (.string bytes) => bytes.length + 1
  | .lit _ => 1
  | .nil => 1
  | .ptr d => uptoBulk d + 1
  | .slice elems spare => uptoBulkAll elems + uptoBulkAll spare + 1
  | .agg parts => uptoBulkAll parts + 1
  | .iface _ d => uptoBulk d + 1
  | .map entries => uptoBulkEntries entries + 1
  | .held _ => 1
def uptoBulkAll {H : Type} : List (DataW H) → Nat
  | [] => 0
  | d :: r => uptoBulk d + uptoBulkAll r
def uptoBulkEntries {H : Type} : List (Lit × DataW H) → Nat
  | [] => 0
  | x :: r => uptoBulkEntry x + uptoBulkEntries r
def uptoBulkEntry {H : Type} : Lit × DataW H → Nat
  | (.string bytes, d) => bytes.length + uptoBulk d + 1
  | (_, d) => uptoBulk d + 1
 end
def uptoSmall : (H : Type) → List (DataW H) → Bool := fun _ ds => decide (uptoBulkAll ds ≤ 1048576)
def OpenSpec.upto (s : _root_.Go.ChangeSpec) : _root_.Go.OpenSpec := { _root_.Go.OpenSpec.ofChange s with cond := some uptoSmall }

/-- 'trishawlaw08.ShareWinners', WHERE WHAT IT READS IS OF BULK AT MOST 1048576: true; the input reads as it did. -/
def shareWinnersUptoRow : OpenClaim := { program := "ytiafiebalibkdaa", sum := "8def5994747af57b664bf6c7fa448f641d0d20fd3f2f6dbaf5a40e606ee5d3d4", func := "trishaw/trishawlaw08.ShareWinners", spec := "shareWinners", unfollowed := true, recurses := true, apart := false, narrowed := true }
def ShareWinnersUptoSaid : Prop := shareWinnersUptoRow.holds Try.pinned (OpenSpec.upto shareWinnersSpec)

/-- 'trishawlaw08.ShareDivided', WHERE WHAT IT READS IS OF BULK AT MOST 1048576: true; the input reads as it did. -/
def shareDividedUptoRow : OpenClaim := { program := "ytiafiebalibkdaa", sum := "8def5994747af57b664bf6c7fa448f641d0d20fd3f2f6dbaf5a40e606ee5d3d4", func := "trishaw/trishawlaw08.ShareDivided", spec := "shareDivided", unfollowed := true, recurses := true, apart := false, narrowed := true }
def ShareDividedUptoSaid : Prop := shareDividedUptoRow.holds Try.pinned (OpenSpec.upto shareDividedSpec)

/-- 'trishawlaw08.ShareRenumbered', WHERE WHAT IT READS IS OF BULK AT MOST 1048576: true; the input reads as it did. -/
def shareRenumberedUptoRow : OpenClaim := { program := "ytiafiebalibkdaa", sum := "8def5994747af57b664bf6c7fa448f641d0d20fd3f2f6dbaf5a40e606ee5d3d4", func := "trishaw/trishawlaw08.ShareRenumbered", spec := "shareRenumbered", unfollowed := true, recurses := true, apart := false, narrowed := true }
def ShareRenumberedUptoSaid : Prop := shareRenumberedUptoRow.holds Try.pinned (OpenSpec.upto shareRenumberedSpec)

/-- 'trishawlaw08.ShareExchanged', WHERE WHAT IT READS IS OF BULK AT MOST 1048576: true; the input reads as it did. -/
def shareExchangedUptoRow : OpenClaim := { program := "ytiafiebalibkdaa", sum := "8def5994747af57b664bf6c7fa448f641d0d20fd3f2f6dbaf5a40e606ee5d3d4", func := "trishaw/trishawlaw08.ShareExchanged", spec := "shareExchanged", unfollowed := true, recurses := true, apart := false, narrowed := true }
def ShareExchangedUptoSaid : Prop := shareExchangedUptoRow.holds Try.pinned (OpenSpec.upto shareExchangedSpec)

/-- 'trishawlaw08.ShareAssigns', WHERE WHAT IT READS IS OF BULK AT MOST 1048576: true; the input reads as it did. -/
def shareAssignsUptoRow : OpenClaim := { program := "ytiafiebalibkdaa", sum := "8def5994747af57b664bf6c7fa448f641d0d20fd3f2f6dbaf5a40e606ee5d3d4", func := "trishaw/trishawlaw08.ShareAssigns", spec := "shareAssigns", unfollowed := true, recurses := true, apart := false, narrowed := true }
def ShareAssignsUptoSaid : Prop := shareAssignsUptoRow.holds Try.pinned (OpenSpec.upto shareAssignsSpec)

/-- 'trishawlaw08.ShareRents', WHERE WHAT IT READS IS OF BULK AT MOST 1048576: true; the input reads as it did. -/
def shareRentsUptoRow : OpenClaim := { program := "ytiafiebalibkdaa", sum := "8def5994747af57b664bf6c7fa448f641d0d20fd3f2f6dbaf5a40e606ee5d3d4", func := "trishaw/trishawlaw08.ShareRents", spec := "shareRents", unfollowed := true, recurses := true, apart := false, narrowed := true }
def ShareRentsUptoSaid : Prop := shareRentsUptoRow.holds Try.pinned (OpenSpec.upto shareRentsSpec)

/-- 'trishawlaw08.ShareEnvies', WHERE WHAT IT READS IS OF BULK AT MOST 1048576: true; the input reads as it did. -/
def shareEnviesUptoRow : OpenClaim := { program := "ytiafiebalibkdaa", sum := "8def5994747af57b664bf6c7fa448f641d0d20fd3f2f6dbaf5a40e606ee5d3d4", func := "trishaw/trishawlaw08.ShareEnvies", spec := "shareEnvies", unfollowed := true, recurses := true, apart := false, narrowed := true }
def ShareEnviesUptoSaid : Prop := shareEnviesUptoRow.holds Try.pinned (OpenSpec.upto shareEnviesSpec)

/-- 'trishawlaw08.ShareContent', WHERE WHAT IT READS IS OF BULK AT MOST 1048576: true; the input reads as it did. -/
def shareContentUptoRow : OpenClaim := { program := "ytiafiebalibkdaa", sum := "8def5994747af57b664bf6c7fa448f641d0d20fd3f2f6dbaf5a40e606ee5d3d4", func := "trishaw/trishawlaw08.ShareContent", spec := "shareContent", unfollowed := true, recurses := true, apart := false, narrowed := true }
def ShareContentUptoSaid : Prop := shareContentUptoRow.holds Try.pinned (OpenSpec.upto shareContentSpec)

/-- 'trishawlaw08.ShareDiffers', WHERE WHAT IT READS IS OF BULK AT MOST 1048576: true; the input reads as it did. -/
def shareDiffersUptoRow : OpenClaim := { program := "ytiafiebalibkdaa", sum := "8def5994747af57b664bf6c7fa448f641d0d20fd3f2f6dbaf5a40e606ee5d3d4", func := "trishaw/trishawlaw08.ShareDiffers", spec := "shareDiffers", unfollowed := true, recurses := true, apart := false, narrowed := true }
def ShareDiffersUptoSaid : Prop := shareDiffersUptoRow.holds Try.pinned (OpenSpec.upto shareDiffersSpec)

/-- 'trishawlaw08.ShareScores', WHERE WHAT IT READS IS OF BULK AT MOST 1048576: true; the input reads as it did. -/
def shareScoresUptoRow : OpenClaim := { program := "ytiafiebalibkdaa", sum := "8def5994747af57b664bf6c7fa448f641d0d20fd3f2f6dbaf5a40e606ee5d3d4", func := "trishaw/trishawlaw08.ShareScores", spec := "shareScores", unfollowed := true, recurses := true, apart := false, narrowed := true }
def ShareScoresUptoSaid : Prop := shareScoresUptoRow.holds Try.pinned (OpenSpec.upto shareScoresSpec)

/-- 'trishawlaw08.ShareAdjusted', WHERE WHAT IT READS IS OF BULK AT MOST 1048576: true; the input reads as it did. -/
def shareAdjustedUptoRow : OpenClaim := { program := "ytiafiebalibkdaa", sum := "8def5994747af57b664bf6c7fa448f641d0d20fd3f2f6dbaf5a40e606ee5d3d4", func := "trishaw/trishawlaw08.ShareAdjusted", spec := "shareAdjusted", unfollowed := true, recurses := true, apart := false, narrowed := true }
def ShareAdjustedUptoSaid : Prop := shareAdjustedUptoRow.holds Try.pinned (OpenSpec.upto shareAdjustedSpec)

/-- 'trishawlaw08.ShareEfficient', WHERE WHAT IT READS IS OF BULK AT MOST 1048576: true; the input reads as it did. -/
def shareEfficientUptoRow : OpenClaim := { program := "ytiafiebalibkdaa", sum := "8def5994747af57b664bf6c7fa448f641d0d20fd3f2f6dbaf5a40e606ee5d3d4", func := "trishaw/trishawlaw08.ShareEfficient", spec := "shareEfficient", unfollowed := true, recurses := true, apart := false, narrowed := true }
def ShareEfficientUptoSaid : Prop := shareEfficientUptoRow.holds Try.pinned (OpenSpec.upto shareEfficientSpec)

/-- 'trishawlaw08.ShareLimits', WHERE WHAT IT READS IS OF BULK AT MOST 1048576: true; the input reads as it did. -/
def shareLimitsUptoRow : OpenClaim := { program := "ytiafiebalibkdaa", sum := "8def5994747af57b664bf6c7fa448f641d0d20fd3f2f6dbaf5a40e606ee5d3d4", func := "trishaw/trishawlaw08.ShareLimits", spec := "shareLimits", unfollowed := true, recurses := true, apart := false, narrowed := true }
def ShareLimitsUptoSaid : Prop := shareLimitsUptoRow.holds Try.pinned (OpenSpec.upto shareLimitsSpec)

end Rows
end Go.Proofs.Ytiafiebalibkdaa
