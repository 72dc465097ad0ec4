/-
  DERIVED. GIVEN WITH THE SEED: THE CARDS: each row of YtfjnohmdilmfhaaGreatDoorRows.lean that lists a variable, with what it lists TIED to the program's text (the seventh form; the later family's looks); each row that meets fmt, with fmt's text TOLD by the authors' own Lean function (tested against real Go, not proved from fmt's source: count such statements apart). THE CARD IS WHAT COUNTS. Prove the row's statement (the work); the ties are given (YtfjnohmdilmfhaaGreatDoorTie.lean); close each card by the builder's one call (the guide's Derived/Test/ToyasCard.lean, 'card_holds'). Laid BY PROGRAM, IN A SANDBOX (cutbox-door.mjs). By AI agents, Wed Nov 11 2026. No macro, syntax, notation, axiom, sorry.
-/
import Derived.Test.YtfjnohmdilmfhaaGreatDoorRows
import GoSem.ClaimSeven
namespace Go.Proofs.YtfjnohmdilmfhaaGreatDoor
namespace Rows

/-- THE TIED CARD OF 'formelaw29.ClaimMatchesReference'. -/
def claimMatchesReferenceCard : Claim7 := { stood := { row := claimMatchesReferenceRow, standIns := [], harness := (true, "ffa57932fed1e5034afcdafc2e7fb200ae17bbbffa781bb60b8086dfdabc6cc7"), looks := true }, kinds := [], alts := [], laidByText := true, laidKinds := [.data, .data, .data, .data, .sentinel, .sentinel, .pinned], laidTests := true, laidLooks := .later }
def ClaimMatchesReferenceCardSaid : Prop := Claim7.holds Tryz.pinned (.plain (OpenSpec.ofChange claimMatchesReferenceSpec)) claimMatchesReferenceCard

/-- THE TIED CARD OF 'formelaw29.ClaimLogic'. -/
def claimLogicCard : Claim7 := { stood := { row := claimLogicRow, standIns := [], harness := (true, "ffa57932fed1e5034afcdafc2e7fb200ae17bbbffa781bb60b8086dfdabc6cc7"), looks := true }, kinds := [], alts := [], laidByText := true, laidKinds := [.data, .data, .data, .data, .sentinel, .sentinel, .pinned], laidTests := true, laidLooks := .later }
def ClaimLogicCardSaid : Prop := Claim7.holds Tryz.pinned (.plain (OpenSpec.ofChange claimLogicSpec)) claimLogicCard

/-- THE TIED CARD OF 'formelaw29.ClaimTexts'. -/
def claimTextsCard : Claim7 := { stood := { row := claimTextsRow, standIns := [], harness := (true, "ffa57932fed1e5034afcdafc2e7fb200ae17bbbffa781bb60b8086dfdabc6cc7"), looks := true }, kinds := [], alts := [], laidByText := true, laidKinds := [.data, .data, .data, .data, .sentinel, .sentinel, .pinned], laidTests := true, laidLooks := .later }
def ClaimTextsCardSaid : Prop := Claim7.holds Tryz.pinned (.plain (OpenSpec.ofChange claimTextsSpec)) claimTextsCard

/-- THE TIED CARD OF 'formelaw29.ClaimBlanks'. -/
def claimBlanksCard : Claim7 := { stood := { row := claimBlanksRow, standIns := [], harness := (true, "ffa57932fed1e5034afcdafc2e7fb200ae17bbbffa781bb60b8086dfdabc6cc7"), looks := true }, kinds := [], alts := [], laidByText := true, laidKinds := [.data, .data, .data, .data, .sentinel, .sentinel, .pinned], laidTests := true, laidLooks := .later }
def ClaimBlanksCardSaid : Prop := Claim7.holds Tryz.pinned (.plain (OpenSpec.ofChange claimBlanksSpec)) claimBlanksCard

/-- THE TIED CARD OF 'formelaw29.ClaimNumbers'. -/
def claimNumbersCard : Claim7 := { stood := { row := claimNumbersRow, standIns := [], harness := (true, "ffa57932fed1e5034afcdafc2e7fb200ae17bbbffa781bb60b8086dfdabc6cc7"), looks := true }, kinds := [], alts := [], laidByText := true, laidKinds := [.data, .data, .data, .data, .sentinel, .sentinel, .pinned], laidTests := true, laidLooks := .later }
def ClaimNumbersCardSaid : Prop := Claim7.holds Tryz.pinned (.plain (OpenSpec.ofChange claimNumbersSpec)) claimNumbersCard

/-- THE TIED CARD OF 'formelaw29.ClaimOwn'. -/
def claimOwnCard : Claim7 := { stood := { row := claimOwnRow, standIns := [], harness := (true, "ffa57932fed1e5034afcdafc2e7fb200ae17bbbffa781bb60b8086dfdabc6cc7"), looks := true }, kinds := [], alts := [], laidByText := true, laidKinds := [.data, .data, .data, .data, .sentinel, .sentinel, .pinned], laidTests := true, laidLooks := .later }
def ClaimOwnCardSaid : Prop := Claim7.holds Tryz.pinned (.plain (OpenSpec.ofChange claimOwnSpec)) claimOwnCard

/-- THE TIED CARD OF 'formelaw29.ClaimMoves'. -/
def claimMovesCard : Claim7 := { stood := { row := claimMovesRow, standIns := [], harness := (true, "ffa57932fed1e5034afcdafc2e7fb200ae17bbbffa781bb60b8086dfdabc6cc7"), looks := true }, kinds := [], alts := [], laidByText := true, laidKinds := [.data, .data, .data, .data, .sentinel, .sentinel, .pinned], laidTests := true, laidLooks := .later }
def ClaimMovesCardSaid : Prop := Claim7.holds Tryz.pinned (.plain (OpenSpec.ofChange claimMovesSpec)) claimMovesCard

/-- THE SECOND FORM's CARD OF 'formelaw29.ClaimMatchesReference'. -/
def claimMatchesReferenceUptoCard : Claim7 := { stood := { row := claimMatchesReferenceUptoRow, standIns := [], harness := (true, "ffa57932fed1e5034afcdafc2e7fb200ae17bbbffa781bb60b8086dfdabc6cc7"), looks := true }, kinds := [], alts := [], laidByText := true, laidKinds := [.data, .data, .data, .data, .sentinel, .sentinel, .pinned], laidTests := true, laidLooks := .later }
def ClaimMatchesReferenceUptoCardSaid : Prop := Claim7.holds Tryz.pinned (.plain (OpenSpec.upto claimMatchesReferenceSpec)) claimMatchesReferenceUptoCard

/-- THE SECOND FORM's CARD OF 'formelaw29.ClaimLogic'. -/
def claimLogicUptoCard : Claim7 := { stood := { row := claimLogicUptoRow, standIns := [], harness := (true, "ffa57932fed1e5034afcdafc2e7fb200ae17bbbffa781bb60b8086dfdabc6cc7"), looks := true }, kinds := [], alts := [], laidByText := true, laidKinds := [.data, .data, .data, .data, .sentinel, .sentinel, .pinned], laidTests := true, laidLooks := .later }
def ClaimLogicUptoCardSaid : Prop := Claim7.holds Tryz.pinned (.plain (OpenSpec.upto claimLogicSpec)) claimLogicUptoCard

/-- THE SECOND FORM's CARD OF 'formelaw29.ClaimTexts'. -/
def claimTextsUptoCard : Claim7 := { stood := { row := claimTextsUptoRow, standIns := [], harness := (true, "ffa57932fed1e5034afcdafc2e7fb200ae17bbbffa781bb60b8086dfdabc6cc7"), looks := true }, kinds := [], alts := [], laidByText := true, laidKinds := [.data, .data, .data, .data, .sentinel, .sentinel, .pinned], laidTests := true, laidLooks := .later }
def ClaimTextsUptoCardSaid : Prop := Claim7.holds Tryz.pinned (.plain (OpenSpec.upto claimTextsSpec)) claimTextsUptoCard

/-- THE SECOND FORM's CARD OF 'formelaw29.ClaimBlanks'. -/
def claimBlanksUptoCard : Claim7 := { stood := { row := claimBlanksUptoRow, standIns := [], harness := (true, "ffa57932fed1e5034afcdafc2e7fb200ae17bbbffa781bb60b8086dfdabc6cc7"), looks := true }, kinds := [], alts := [], laidByText := true, laidKinds := [.data, .data, .data, .data, .sentinel, .sentinel, .pinned], laidTests := true, laidLooks := .later }
def ClaimBlanksUptoCardSaid : Prop := Claim7.holds Tryz.pinned (.plain (OpenSpec.upto claimBlanksSpec)) claimBlanksUptoCard

/-- THE SECOND FORM's CARD OF 'formelaw29.ClaimNumbers'. -/
def claimNumbersUptoCard : Claim7 := { stood := { row := claimNumbersUptoRow, standIns := [], harness := (true, "ffa57932fed1e5034afcdafc2e7fb200ae17bbbffa781bb60b8086dfdabc6cc7"), looks := true }, kinds := [], alts := [], laidByText := true, laidKinds := [.data, .data, .data, .data, .sentinel, .sentinel, .pinned], laidTests := true, laidLooks := .later }
def ClaimNumbersUptoCardSaid : Prop := Claim7.holds Tryz.pinned (.plain (OpenSpec.upto claimNumbersSpec)) claimNumbersUptoCard

/-- THE SECOND FORM's CARD OF 'formelaw29.ClaimOwn'. -/
def claimOwnUptoCard : Claim7 := { stood := { row := claimOwnUptoRow, standIns := [], harness := (true, "ffa57932fed1e5034afcdafc2e7fb200ae17bbbffa781bb60b8086dfdabc6cc7"), looks := true }, kinds := [], alts := [], laidByText := true, laidKinds := [.data, .data, .data, .data, .sentinel, .sentinel, .pinned], laidTests := true, laidLooks := .later }
def ClaimOwnUptoCardSaid : Prop := Claim7.holds Tryz.pinned (.plain (OpenSpec.upto claimOwnSpec)) claimOwnUptoCard

/-- THE SECOND FORM's CARD OF 'formelaw29.ClaimMoves'. -/
def claimMovesUptoCard : Claim7 := { stood := { row := claimMovesUptoRow, standIns := [], harness := (true, "ffa57932fed1e5034afcdafc2e7fb200ae17bbbffa781bb60b8086dfdabc6cc7"), looks := true }, kinds := [], alts := [], laidByText := true, laidKinds := [.data, .data, .data, .data, .sentinel, .sentinel, .pinned], laidTests := true, laidLooks := .later }
def ClaimMovesUptoCardSaid : Prop := Claim7.holds Tryz.pinned (.plain (OpenSpec.upto claimMovesSpec)) claimMovesUptoCard
end Rows
end Go.Proofs.YtfjnohmdilmfhaaGreatDoor
