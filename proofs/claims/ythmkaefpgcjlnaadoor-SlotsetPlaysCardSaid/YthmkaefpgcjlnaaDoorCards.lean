/-
  DERIVED. GIVEN WITH THE SEED: THE CARDS: each row of YthmkaefpgcjlnaaDoorRows.lean that lists a variable, with what it lists TIED to the program's text (the seventh form; the later family's looks); each row that meets fmt, with fmt's text TOLD by the authors' own Lean function (tested against real Go, not proved from fmt's source: count such statements apart). THE CARD IS WHAT COUNTS. Prove the row's statement (the work); the ties are given (YthmkaefpgcjlnaaDoorTie.lean); close each card by the builder's one call (the guide's Derived/Test/ToyasCard.lean, 'card_holds'). Laid BY PROGRAM, IN A SANDBOX (cutbox-door.mjs). By AI agents, Wed Nov 11 2026. No macro, syntax, notation, axiom, sorry.
-/
import Derived.Test.YthmkaefpgcjlnaaDoorRows
import GoSem.ClaimSeven
namespace Go.Proofs.YthmkaefpgcjlnaaDoor
namespace Rows

/-- THE TIED CARD OF 'drumlinlaw08.SlotsetHas'. -/
def slotsetHasCard : Claim7 := { stood := { row := slotsetHasRow, standIns := [], harness := (true, "044724cad0cb7c6e479b4ed0203e8f1fe03f47a4c2ab9b7822da7e6e1210fbca"), looks := false }, kinds := [], alts := [], laidByText := true, laidKinds := [.data], laidTests := true, laidLooks := .later }
def SlotsetHasCardSaid : Prop := Claim7.holds Tryd.pinned (.plain (OpenSpec.ofChange slotsetHasSpec)) slotsetHasCard

/-- THE TIED CARD OF 'drumlinlaw08.SlotsetNext'. -/
def slotsetNextCard : Claim7 := { stood := { row := slotsetNextRow, standIns := [], harness := (true, "044724cad0cb7c6e479b4ed0203e8f1fe03f47a4c2ab9b7822da7e6e1210fbca"), looks := false }, kinds := [], alts := [], laidByText := true, laidKinds := [.data], laidTests := true, laidLooks := .later }
def SlotsetNextCardSaid : Prop := Claim7.holds Tryd.pinned (.plain (OpenSpec.ofChange slotsetNextSpec)) slotsetNextCard

/-- THE TIED CARD OF 'drumlinlaw08.SlotsetUnion'. -/
def slotsetUnionCard : Claim7 := { stood := { row := slotsetUnionRow, standIns := [], harness := (true, "044724cad0cb7c6e479b4ed0203e8f1fe03f47a4c2ab9b7822da7e6e1210fbca"), looks := false }, kinds := [], alts := [], laidByText := true, laidKinds := [.data], laidTests := true, laidLooks := .later }
def SlotsetUnionCardSaid : Prop := Claim7.holds Tryd.pinned (.plain (OpenSpec.ofChange slotsetUnionSpec)) slotsetUnionCard

/-- THE TIED CARD OF 'drumlinlaw08.SlotsetRefuses'. -/
def slotsetRefusesCard : Claim7 := { stood := { row := slotsetRefusesRow, standIns := [], harness := (true, "044724cad0cb7c6e479b4ed0203e8f1fe03f47a4c2ab9b7822da7e6e1210fbca"), looks := false }, kinds := [], alts := [], laidByText := true, laidKinds := [.data], laidTests := true, laidLooks := .later }
def SlotsetRefusesCardSaid : Prop := Claim7.holds Tryd.pinned (.plain (OpenSpec.ofChange slotsetRefusesSpec)) slotsetRefusesCard

/-- THE TIED CARD OF 'drumlinlaw08.SlotsetLoops'. -/
def slotsetLoopsCard : Claim7 := { stood := { row := slotsetLoopsRow, standIns := [], harness := (true, "044724cad0cb7c6e479b4ed0203e8f1fe03f47a4c2ab9b7822da7e6e1210fbca"), looks := false }, kinds := [], alts := [], laidByText := true, laidKinds := [.data], laidTests := true, laidLooks := .later }
def SlotsetLoopsCardSaid : Prop := Claim7.holds Tryd.pinned (.plain (OpenSpec.ofChange slotsetLoopsSpec)) slotsetLoopsCard

/-- THE TIED CARD OF 'drumlinlaw08.SlotsetKnown'. -/
def slotsetKnownCard : Claim7 := { stood := { row := slotsetKnownRow, standIns := [], harness := (true, "044724cad0cb7c6e479b4ed0203e8f1fe03f47a4c2ab9b7822da7e6e1210fbca"), looks := false }, kinds := [], alts := [], laidByText := true, laidKinds := [.data], laidTests := true, laidLooks := .later }
def SlotsetKnownCardSaid : Prop := Claim7.holds Tryd.pinned (.plain (OpenSpec.ofChange slotsetKnownSpec)) slotsetKnownCard

/-- THE TIED CARD OF 'drumlinlaw08.SlotsetPlays'. -/
def slotsetPlaysCard : Claim7 := { stood := { row := slotsetPlaysRow, standIns := [], harness := (true, "044724cad0cb7c6e479b4ed0203e8f1fe03f47a4c2ab9b7822da7e6e1210fbca"), looks := false }, kinds := [], alts := [], laidByText := true, laidKinds := [.data], laidTests := true, laidLooks := .later }
def SlotsetPlaysCardSaid : Prop := Claim7.holds Tryd.pinned (.plain (OpenSpec.ofChange slotsetPlaysSpec)) slotsetPlaysCard

/-- THE TIED CARD OF 'drumlinlaw08.SlotsetNil'. -/
def slotsetNilCard : Claim7 := { stood := { row := slotsetNilRow, standIns := [], harness := (true, "044724cad0cb7c6e479b4ed0203e8f1fe03f47a4c2ab9b7822da7e6e1210fbca"), looks := false }, kinds := [], alts := [], laidByText := true, laidKinds := [.data], laidTests := true, laidLooks := .later }
def SlotsetNilCardSaid : Prop := Claim7.holds Tryd.pinned (.plain (OpenSpec.ofChange slotsetNilSpec)) slotsetNilCard

/-- THE TIED CARD OF 'drumlinlaw08.SlotsetCopies'. -/
def slotsetCopiesCard : Claim7 := { stood := { row := slotsetCopiesRow, standIns := [], harness := (true, "044724cad0cb7c6e479b4ed0203e8f1fe03f47a4c2ab9b7822da7e6e1210fbca"), looks := false }, kinds := [], alts := [], laidByText := true, laidKinds := [.data], laidTests := true, laidLooks := .later }
def SlotsetCopiesCardSaid : Prop := Claim7.holds Tryd.pinned (.plain (OpenSpec.ofChange slotsetCopiesSpec)) slotsetCopiesCard

/-- THE SECOND FORM's CARD OF 'drumlinlaw08.SlotsetHas'. -/
def slotsetHasUptoCard : Claim7 := { stood := { row := slotsetHasUptoRow, standIns := [], harness := (true, "044724cad0cb7c6e479b4ed0203e8f1fe03f47a4c2ab9b7822da7e6e1210fbca"), looks := false }, kinds := [], alts := [], laidByText := true, laidKinds := [.data], laidTests := true, laidLooks := .later }
def SlotsetHasUptoCardSaid : Prop := Claim7.holds Tryd.pinned (.plain (OpenSpec.upto slotsetHasSpec)) slotsetHasUptoCard

/-- THE SECOND FORM's CARD OF 'drumlinlaw08.SlotsetNext'. -/
def slotsetNextUptoCard : Claim7 := { stood := { row := slotsetNextUptoRow, standIns := [], harness := (true, "044724cad0cb7c6e479b4ed0203e8f1fe03f47a4c2ab9b7822da7e6e1210fbca"), looks := false }, kinds := [], alts := [], laidByText := true, laidKinds := [.data], laidTests := true, laidLooks := .later }
def SlotsetNextUptoCardSaid : Prop := Claim7.holds Tryd.pinned (.plain (OpenSpec.upto slotsetNextSpec)) slotsetNextUptoCard

/-- THE SECOND FORM's CARD OF 'drumlinlaw08.SlotsetUnion'. -/
def slotsetUnionUptoCard : Claim7 := { stood := { row := slotsetUnionUptoRow, standIns := [], harness := (true, "044724cad0cb7c6e479b4ed0203e8f1fe03f47a4c2ab9b7822da7e6e1210fbca"), looks := false }, kinds := [], alts := [], laidByText := true, laidKinds := [.data], laidTests := true, laidLooks := .later }
def SlotsetUnionUptoCardSaid : Prop := Claim7.holds Tryd.pinned (.plain (OpenSpec.upto slotsetUnionSpec)) slotsetUnionUptoCard

/-- THE SECOND FORM's CARD OF 'drumlinlaw08.SlotsetRefuses'. -/
def slotsetRefusesUptoCard : Claim7 := { stood := { row := slotsetRefusesUptoRow, standIns := [], harness := (true, "044724cad0cb7c6e479b4ed0203e8f1fe03f47a4c2ab9b7822da7e6e1210fbca"), looks := false }, kinds := [], alts := [], laidByText := true, laidKinds := [.data], laidTests := true, laidLooks := .later }
def SlotsetRefusesUptoCardSaid : Prop := Claim7.holds Tryd.pinned (.plain (OpenSpec.upto slotsetRefusesSpec)) slotsetRefusesUptoCard

/-- THE SECOND FORM's CARD OF 'drumlinlaw08.SlotsetLoops'. -/
def slotsetLoopsUptoCard : Claim7 := { stood := { row := slotsetLoopsUptoRow, standIns := [], harness := (true, "044724cad0cb7c6e479b4ed0203e8f1fe03f47a4c2ab9b7822da7e6e1210fbca"), looks := false }, kinds := [], alts := [], laidByText := true, laidKinds := [.data], laidTests := true, laidLooks := .later }
def SlotsetLoopsUptoCardSaid : Prop := Claim7.holds Tryd.pinned (.plain (OpenSpec.upto slotsetLoopsSpec)) slotsetLoopsUptoCard

/-- THE SECOND FORM's CARD OF 'drumlinlaw08.SlotsetKnown'. -/
def slotsetKnownUptoCard : Claim7 := { stood := { row := slotsetKnownUptoRow, standIns := [], harness := (true, "044724cad0cb7c6e479b4ed0203e8f1fe03f47a4c2ab9b7822da7e6e1210fbca"), looks := false }, kinds := [], alts := [], laidByText := true, laidKinds := [.data], laidTests := true, laidLooks := .later }
def SlotsetKnownUptoCardSaid : Prop := Claim7.holds Tryd.pinned (.plain (OpenSpec.upto slotsetKnownSpec)) slotsetKnownUptoCard

/-- THE SECOND FORM's CARD OF 'drumlinlaw08.SlotsetPlays'. -/
def slotsetPlaysUptoCard : Claim7 := { stood := { row := slotsetPlaysUptoRow, standIns := [], harness := (true, "044724cad0cb7c6e479b4ed0203e8f1fe03f47a4c2ab9b7822da7e6e1210fbca"), looks := false }, kinds := [], alts := [], laidByText := true, laidKinds := [.data], laidTests := true, laidLooks := .later }
def SlotsetPlaysUptoCardSaid : Prop := Claim7.holds Tryd.pinned (.plain (OpenSpec.upto slotsetPlaysSpec)) slotsetPlaysUptoCard

/-- THE SECOND FORM's CARD OF 'drumlinlaw08.SlotsetNil'. -/
def slotsetNilUptoCard : Claim7 := { stood := { row := slotsetNilUptoRow, standIns := [], harness := (true, "044724cad0cb7c6e479b4ed0203e8f1fe03f47a4c2ab9b7822da7e6e1210fbca"), looks := false }, kinds := [], alts := [], laidByText := true, laidKinds := [.data], laidTests := true, laidLooks := .later }
def SlotsetNilUptoCardSaid : Prop := Claim7.holds Tryd.pinned (.plain (OpenSpec.upto slotsetNilSpec)) slotsetNilUptoCard

/-- THE SECOND FORM's CARD OF 'drumlinlaw08.SlotsetCopies'. -/
def slotsetCopiesUptoCard : Claim7 := { stood := { row := slotsetCopiesUptoRow, standIns := [], harness := (true, "044724cad0cb7c6e479b4ed0203e8f1fe03f47a4c2ab9b7822da7e6e1210fbca"), looks := false }, kinds := [], alts := [], laidByText := true, laidKinds := [.data], laidTests := true, laidLooks := .later }
def SlotsetCopiesUptoCardSaid : Prop := Claim7.holds Tryd.pinned (.plain (OpenSpec.upto slotsetCopiesSpec)) slotsetCopiesUptoCard
end Rows
end Go.Proofs.YthmkaefpgcjlnaaDoor
