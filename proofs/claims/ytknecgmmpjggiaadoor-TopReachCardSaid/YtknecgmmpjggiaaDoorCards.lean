/-
  DERIVED. GIVEN WITH THE SEED: THE CARDS: each row of YtknecgmmpjggiaaDoorRows.lean that lists a variable, with what it lists TIED to the program's text (the seventh form; the later family's looks); each row that meets fmt, with fmt's text TOLD by the authors' own Lean function (tested against real Go, not proved from fmt's source: count such statements apart). THE CARD IS WHAT COUNTS. Prove the row's statement (the work); the ties are given (YtknecgmmpjggiaaDoorTie.lean); close each card by the builder's one call (the guide's Derived/Test/ToyasCard.lean, 'card_holds'). Laid BY PROGRAM, IN A SANDBOX (cutbox-door.mjs). By AI agents, Wed Nov 11 2026. No macro, syntax, notation, axiom, sorry.
-/
import Derived.Test.YtknecgmmpjggiaaDoorRows
import GoSem.ClaimSeven
namespace Go.Proofs.YtknecgmmpjggiaaDoor
namespace Rows

/-- THE TIED CARD OF 'trishawtop.TopReach'. -/
def topReachCard : Claim7 := { stood := { row := topReachRow, standIns := [], harness := (true, "ec8eaf8045c9461100341535c838afc0403682e3991f8ffce1f46b0d028731a5"), looks := false }, kinds := [], alts := [], laidByText := true, laidKinds := [.data, .pinned], laidTests := true, laidLooks := .later }
def TopReachCardSaid : Prop := Claim7.holds Tryd.pinned (.plain (OpenSpec.ofChange topReachSpec)) topReachCard

/-- THE TIED CARD OF 'trishawtop.TopBridge'. -/
def topBridgeCard : Claim7 := { stood := { row := topBridgeRow, standIns := [], harness := (true, "ec8eaf8045c9461100341535c838afc0403682e3991f8ffce1f46b0d028731a5"), looks := false }, kinds := [], alts := [], laidByText := true, laidKinds := [.data, .pinned], laidTests := true, laidLooks := .later }
def TopBridgeCardSaid : Prop := Claim7.holds Tryd.pinned (.plain (OpenSpec.ofChange topBridgeSpec)) topBridgeCard

/-- THE SECOND FORM's CARD OF 'trishawtop.TopReach'. -/
def topReachUptoCard : Claim7 := { stood := { row := topReachUptoRow, standIns := [], harness := (true, "ec8eaf8045c9461100341535c838afc0403682e3991f8ffce1f46b0d028731a5"), looks := false }, kinds := [], alts := [], laidByText := true, laidKinds := [.data, .pinned], laidTests := true, laidLooks := .later }
def TopReachUptoCardSaid : Prop := Claim7.holds Tryd.pinned (.plain (OpenSpec.upto topReachSpec)) topReachUptoCard

/-- THE SECOND FORM's CARD OF 'trishawtop.TopBridge'. -/
def topBridgeUptoCard : Claim7 := { stood := { row := topBridgeUptoRow, standIns := [], harness := (true, "ec8eaf8045c9461100341535c838afc0403682e3991f8ffce1f46b0d028731a5"), looks := false }, kinds := [], alts := [], laidByText := true, laidKinds := [.data, .pinned], laidTests := true, laidLooks := .later }
def TopBridgeUptoCardSaid : Prop := Claim7.holds Tryd.pinned (.plain (OpenSpec.upto topBridgeSpec)) topBridgeUptoCard
end Rows
end Go.Proofs.YtknecgmmpjggiaaDoor
