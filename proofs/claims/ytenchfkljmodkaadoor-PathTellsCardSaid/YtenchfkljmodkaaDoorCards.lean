/-
  DERIVED. GIVEN WITH THE SEED: THE CARDS: each row of YtenchfkljmodkaaDoorRows.lean that lists a variable, with what it lists TIED to the program's text (the seventh form; the later family's looks); each row that meets fmt, with fmt's text TOLD by the authors' own Lean function (tested against real Go, not proved from fmt's source: count such statements apart). THE CARD IS WHAT COUNTS. Prove the row's statement (the work); the ties are given (YtenchfkljmodkaaDoorTie.lean); close each card by the builder's one call (the guide's Derived/Test/ToyasCard.lean, 'card_holds'). Laid BY PROGRAM, IN A SANDBOX (cutbox-door.mjs). By AI agents, Wed Nov 11 2026. No macro, syntax, notation, axiom, sorry.
-/
import Derived.Test.YtenchfkljmodkaaDoorRows
import GoSem.ClaimSeven
namespace Go.Proofs.YtenchfkljmodkaaDoor
namespace Rows

/-- THE TIED CARD OF 'apostillelaw21.PathTells'. -/
def pathTellsCard : Claim7 := { stood := { row := pathTellsRow, standIns := [], harness := (true, "fa5601e72e4785f54f585b6be9a3c9a5a1451b7539af883f1a189a890f752c93"), looks := false }, kinds := [], alts := [], laidByText := true, laidKinds := [.data, .pinned], laidTests := true, laidLooks := .later }
def PathTellsCardSaid : Prop := Claim7.holds Tryd.pinned (.plain (OpenSpec.ofChange pathTellsSpec)) pathTellsCard

/-- THE TIED CARD OF 'apostillelaw21.PathJoins'. -/
def pathJoinsCard : Claim7 := { stood := { row := pathJoinsRow, standIns := [], harness := (true, "fa5601e72e4785f54f585b6be9a3c9a5a1451b7539af883f1a189a890f752c93"), looks := false }, kinds := [], alts := [], laidByText := true, laidKinds := [.data, .pinned], laidTests := true, laidLooks := .later }
def PathJoinsCardSaid : Prop := Claim7.holds Tryd.pinned (.plain (OpenSpec.ofChange pathJoinsSpec)) pathJoinsCard

/-- THE TIED CARD OF 'apostillelaw21.PathThrough'. -/
def pathThroughCard : Claim7 := { stood := { row := pathThroughRow, standIns := [], harness := (true, "fa5601e72e4785f54f585b6be9a3c9a5a1451b7539af883f1a189a890f752c93"), looks := false }, kinds := [], alts := [], laidByText := true, laidKinds := [.data, .pinned], laidTests := true, laidLooks := .later }
def PathThroughCardSaid : Prop := Claim7.holds Tryd.pinned (.plain (OpenSpec.ofChange pathThroughSpec)) pathThroughCard

/-- THE TIED CARD OF 'apostillelaw21.PathKnown'. -/
def pathKnownCard : Claim7 := { stood := { row := pathKnownRow, standIns := [], harness := (true, "fa5601e72e4785f54f585b6be9a3c9a5a1451b7539af883f1a189a890f752c93"), looks := false }, kinds := [], alts := [], laidByText := true, laidKinds := [.data, .pinned], laidTests := true, laidLooks := .later }
def PathKnownCardSaid : Prop := Claim7.holds Tryd.pinned (.plain (OpenSpec.ofChange pathKnownSpec)) pathKnownCard

/-- THE SECOND FORM's CARD OF 'apostillelaw21.PathTells'. -/
def pathTellsUptoCard : Claim7 := { stood := { row := pathTellsUptoRow, standIns := [], harness := (true, "fa5601e72e4785f54f585b6be9a3c9a5a1451b7539af883f1a189a890f752c93"), looks := false }, kinds := [], alts := [], laidByText := true, laidKinds := [.data, .pinned], laidTests := true, laidLooks := .later }
def PathTellsUptoCardSaid : Prop := Claim7.holds Tryd.pinned (.plain (OpenSpec.upto pathTellsSpec)) pathTellsUptoCard

/-- THE SECOND FORM's CARD OF 'apostillelaw21.PathJoins'. -/
def pathJoinsUptoCard : Claim7 := { stood := { row := pathJoinsUptoRow, standIns := [], harness := (true, "fa5601e72e4785f54f585b6be9a3c9a5a1451b7539af883f1a189a890f752c93"), looks := false }, kinds := [], alts := [], laidByText := true, laidKinds := [.data, .pinned], laidTests := true, laidLooks := .later }
def PathJoinsUptoCardSaid : Prop := Claim7.holds Tryd.pinned (.plain (OpenSpec.upto pathJoinsSpec)) pathJoinsUptoCard

/-- THE SECOND FORM's CARD OF 'apostillelaw21.PathThrough'. -/
def pathThroughUptoCard : Claim7 := { stood := { row := pathThroughUptoRow, standIns := [], harness := (true, "fa5601e72e4785f54f585b6be9a3c9a5a1451b7539af883f1a189a890f752c93"), looks := false }, kinds := [], alts := [], laidByText := true, laidKinds := [.data, .pinned], laidTests := true, laidLooks := .later }
def PathThroughUptoCardSaid : Prop := Claim7.holds Tryd.pinned (.plain (OpenSpec.upto pathThroughSpec)) pathThroughUptoCard

/-- THE SECOND FORM's CARD OF 'apostillelaw21.PathKnown'. -/
def pathKnownUptoCard : Claim7 := { stood := { row := pathKnownUptoRow, standIns := [], harness := (true, "fa5601e72e4785f54f585b6be9a3c9a5a1451b7539af883f1a189a890f752c93"), looks := false }, kinds := [], alts := [], laidByText := true, laidKinds := [.data, .pinned], laidTests := true, laidLooks := .later }
def PathKnownUptoCardSaid : Prop := Claim7.holds Tryd.pinned (.plain (OpenSpec.upto pathKnownSpec)) pathKnownUptoCard
end Rows
end Go.Proofs.YtenchfkljmodkaaDoor
