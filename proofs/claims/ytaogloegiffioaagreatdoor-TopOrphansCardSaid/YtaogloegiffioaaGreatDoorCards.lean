/-
  DERIVED. GIVEN WITH THE SEED: THE CARDS: each row of YtaogloegiffioaaGreatDoorRows.lean that lists a variable, with what it lists TIED to the program's text (the seventh form; the later family's looks); each row that meets fmt, with fmt's text TOLD by the authors' own Lean function (tested against real Go, not proved from fmt's source: count such statements apart). THE CARD IS WHAT COUNTS. Prove the row's statement (the work); the ties are given (YtaogloegiffioaaGreatDoorTie.lean); close each card by the builder's one call (the guide's Derived/Test/ToyasCard.lean, 'card_holds'). Laid BY PROGRAM, IN A SANDBOX (cutbox-door.mjs). By AI agents, Wed Nov 11 2026. No macro, syntax, notation, axiom, sorry.
-/
import Derived.Test.YtaogloegiffioaaGreatDoorRows
import GoSem.ClaimSeven
namespace Go.Proofs.YtaogloegiffioaaGreatDoor
namespace Rows

/-- THE TIED CARD OF 'loesstop.TopPieces'. -/
def topPiecesCard : Claim7 := { stood := { row := topPiecesRow, standIns := [], harness := (true, "c46867533242904b17ec815d7259b3476e3bc0a73c115e94763e71470fcc0da1"), looks := true }, kinds := [], alts := [], laidByText := true, laidKinds := [.data, .data, .data], laidTests := true, laidLooks := .later }
def TopPiecesCardSaid : Prop := Claim7.holds Tryz.pinned (.plain (OpenSpec.ofChange topPiecesSpec)) topPiecesCard

/-- THE TIED CARD OF 'loesstop.TopReads'. -/
def topReadsCard : Claim7 := { stood := { row := topReadsRow, standIns := [], harness := (true, "c46867533242904b17ec815d7259b3476e3bc0a73c115e94763e71470fcc0da1"), looks := true }, kinds := [], alts := [], laidByText := true, laidKinds := [.data, .data, .data], laidTests := true, laidLooks := .later }
def TopReadsCardSaid : Prop := Claim7.holds Tryz.pinned (.plain (OpenSpec.ofChange topReadsSpec)) topReadsCard

/-- THE TIED CARD OF 'loesstop.TopSame'. -/
def topSameCard : Claim7 := { stood := { row := topSameRow, standIns := [], harness := (true, "c46867533242904b17ec815d7259b3476e3bc0a73c115e94763e71470fcc0da1"), looks := true }, kinds := [], alts := [], laidByText := true, laidKinds := [.data, .data, .data], laidTests := true, laidLooks := .later }
def TopSameCardSaid : Prop := Claim7.holds Tryz.pinned (.plain (OpenSpec.ofChange topSameSpec)) topSameCard

/-- THE TIED CARD OF 'loesstop.TopNewer'. -/
def topNewerCard : Claim7 := { stood := { row := topNewerRow, standIns := [], harness := (true, "c46867533242904b17ec815d7259b3476e3bc0a73c115e94763e71470fcc0da1"), looks := true }, kinds := [], alts := [], laidByText := true, laidKinds := [.data, .data, .data], laidTests := true, laidLooks := .later }
def TopNewerCardSaid : Prop := Claim7.holds Tryz.pinned (.plain (OpenSpec.ofChange topNewerSpec)) topNewerCard

/-- THE TIED CARD OF 'loesstop.TopOrphans'. -/
def topOrphansCard : Claim7 := { stood := { row := topOrphansRow, standIns := [], harness := (true, "c46867533242904b17ec815d7259b3476e3bc0a73c115e94763e71470fcc0da1"), looks := true }, kinds := [], alts := [], laidByText := true, laidKinds := [.data, .data, .data], laidTests := true, laidLooks := .later }
def TopOrphansCardSaid : Prop := Claim7.holds Tryz.pinned (.plain (OpenSpec.ofChange topOrphansSpec)) topOrphansCard

/-- THE SECOND FORM's CARD OF 'loesstop.TopPieces'. -/
def topPiecesUptoCard : Claim7 := { stood := { row := topPiecesUptoRow, standIns := [], harness := (true, "c46867533242904b17ec815d7259b3476e3bc0a73c115e94763e71470fcc0da1"), looks := true }, kinds := [], alts := [], laidByText := true, laidKinds := [.data, .data, .data], laidTests := true, laidLooks := .later }
def TopPiecesUptoCardSaid : Prop := Claim7.holds Tryz.pinned (.plain (OpenSpec.upto topPiecesSpec)) topPiecesUptoCard

/-- THE SECOND FORM's CARD OF 'loesstop.TopReads'. -/
def topReadsUptoCard : Claim7 := { stood := { row := topReadsUptoRow, standIns := [], harness := (true, "c46867533242904b17ec815d7259b3476e3bc0a73c115e94763e71470fcc0da1"), looks := true }, kinds := [], alts := [], laidByText := true, laidKinds := [.data, .data, .data], laidTests := true, laidLooks := .later }
def TopReadsUptoCardSaid : Prop := Claim7.holds Tryz.pinned (.plain (OpenSpec.upto topReadsSpec)) topReadsUptoCard

/-- THE SECOND FORM's CARD OF 'loesstop.TopSame'. -/
def topSameUptoCard : Claim7 := { stood := { row := topSameUptoRow, standIns := [], harness := (true, "c46867533242904b17ec815d7259b3476e3bc0a73c115e94763e71470fcc0da1"), looks := true }, kinds := [], alts := [], laidByText := true, laidKinds := [.data, .data, .data], laidTests := true, laidLooks := .later }
def TopSameUptoCardSaid : Prop := Claim7.holds Tryz.pinned (.plain (OpenSpec.upto topSameSpec)) topSameUptoCard

/-- THE SECOND FORM's CARD OF 'loesstop.TopNewer'. -/
def topNewerUptoCard : Claim7 := { stood := { row := topNewerUptoRow, standIns := [], harness := (true, "c46867533242904b17ec815d7259b3476e3bc0a73c115e94763e71470fcc0da1"), looks := true }, kinds := [], alts := [], laidByText := true, laidKinds := [.data, .data, .data], laidTests := true, laidLooks := .later }
def TopNewerUptoCardSaid : Prop := Claim7.holds Tryz.pinned (.plain (OpenSpec.upto topNewerSpec)) topNewerUptoCard

/-- THE SECOND FORM's CARD OF 'loesstop.TopOrphans'. -/
def topOrphansUptoCard : Claim7 := { stood := { row := topOrphansUptoRow, standIns := [], harness := (true, "c46867533242904b17ec815d7259b3476e3bc0a73c115e94763e71470fcc0da1"), looks := true }, kinds := [], alts := [], laidByText := true, laidKinds := [.data, .data, .data], laidTests := true, laidLooks := .later }
def TopOrphansUptoCardSaid : Prop := Claim7.holds Tryz.pinned (.plain (OpenSpec.upto topOrphansSpec)) topOrphansUptoCard
end Rows
end Go.Proofs.YtaogloegiffioaaGreatDoor
