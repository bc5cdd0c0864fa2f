/-
  DERIVED. GIVEN WITH THE SEED: THE CARDS: each row of YtalonikiljcpfaaDoorRows.lean that lists a variable, with what it lists TIED to the program's text (the seventh form; the later family's looks); each row that meets fmt, with fmt's text TOLD by the authors' own Lean function (tested against real Go, not proved from fmt's source: count such statements apart). THE CARD IS WHAT COUNTS. Prove the row's statement (the work); the ties are given (YtalonikiljcpfaaDoorTie.lean); close each card by the builder's one call (the guide's Derived/Test/ToyasCard.lean, 'card_holds'). Laid BY PROGRAM, IN A SANDBOX (cutbox-door.mjs). By AI agents, Wed Nov 11 2026. No macro, syntax, notation, axiom, sorry.
-/
import Derived.Test.YtalonikiljcpfaaDoorRows
import GoSem.ClaimSeven
namespace Go.Proofs.YtalonikiljcpfaaDoor
namespace Rows

/-- THE TIED CARD OF 'drumlinlaw20.SlotsOne'. -/
def slotsOneCard : Claim7 := { stood := { row := slotsOneRow, standIns := [], harness := (true, "96024d5166ef05cfa04af87d4e607c448d93a4603b5cc1e2f9b9c901592f4871"), looks := false }, kinds := [], alts := [], laidByText := true, laidKinds := [.data, .data, .data, .data, .data], laidTests := true, laidLooks := .later }
def SlotsOneCardSaid : Prop := Claim7.holds Tryd.pinned (.plain (OpenSpec.ofChange slotsOneSpec)) slotsOneCard

/-- THE TIED CARD OF 'drumlinlaw20.SlotsRefuses'. -/
def slotsRefusesCard : Claim7 := { stood := { row := slotsRefusesRow, standIns := [], harness := (true, "96024d5166ef05cfa04af87d4e607c448d93a4603b5cc1e2f9b9c901592f4871"), looks := false }, kinds := [], alts := [], laidByText := true, laidKinds := [.data, .data, .data, .data, .data], laidTests := true, laidLooks := .later }
def SlotsRefusesCardSaid : Prop := Claim7.holds Tryd.pinned (.plain (OpenSpec.ofChange slotsRefusesSpec)) slotsRefusesCard

/-- THE TIED CARD OF 'drumlinlaw20.SlotsKnown'. -/
def slotsKnownCard : Claim7 := { stood := { row := slotsKnownRow, standIns := [], harness := (true, "96024d5166ef05cfa04af87d4e607c448d93a4603b5cc1e2f9b9c901592f4871"), looks := false }, kinds := [], alts := [], laidByText := true, laidKinds := [.data, .data, .data, .data, .data], laidTests := true, laidLooks := .later }
def SlotsKnownCardSaid : Prop := Claim7.holds Tryd.pinned (.plain (OpenSpec.ofChange slotsKnownSpec)) slotsKnownCard

/-- THE TIED CARD OF 'drumlinlaw20.SlotsCopies'. -/
def slotsCopiesCard : Claim7 := { stood := { row := slotsCopiesRow, standIns := [], harness := (true, "96024d5166ef05cfa04af87d4e607c448d93a4603b5cc1e2f9b9c901592f4871"), looks := false }, kinds := [], alts := [], laidByText := true, laidKinds := [.data, .data, .data, .data, .data], laidTests := true, laidLooks := .later }
def SlotsCopiesCardSaid : Prop := Claim7.holds Tryd.pinned (.plain (OpenSpec.ofChange slotsCopiesSpec)) slotsCopiesCard

/-- THE TIED CARD OF 'drumlinlaw20.SlotsReserve'. -/
def slotsReserveCard : Claim7 := { stood := { row := slotsReserveRow, standIns := [], harness := (true, "96024d5166ef05cfa04af87d4e607c448d93a4603b5cc1e2f9b9c901592f4871"), looks := false }, kinds := [], alts := [], laidByText := true, laidKinds := [.data, .data, .data, .data, .data], laidTests := true, laidLooks := .later }
def SlotsReserveCardSaid : Prop := Claim7.holds Tryd.pinned (.plain (OpenSpec.ofChange slotsReserveSpec)) slotsReserveCard

/-- THE TIED CARD OF 'drumlinlaw20.SlotsParts'. -/
def slotsPartsCard : Claim7 := { stood := { row := slotsPartsRow, standIns := [], harness := (true, "96024d5166ef05cfa04af87d4e607c448d93a4603b5cc1e2f9b9c901592f4871"), looks := false }, kinds := [], alts := [], laidByText := true, laidKinds := [.data, .data, .data, .data, .data], laidTests := true, laidLooks := .later }
def SlotsPartsCardSaid : Prop := Claim7.holds Tryd.pinned (.plain (OpenSpec.ofChange slotsPartsSpec)) slotsPartsCard

/-- THE TIED CARD OF 'drumlinlaw20.SlotsPlays'. -/
def slotsPlaysCard : Claim7 := { stood := { row := slotsPlaysRow, standIns := [], harness := (true, "96024d5166ef05cfa04af87d4e607c448d93a4603b5cc1e2f9b9c901592f4871"), looks := false }, kinds := [], alts := [], laidByText := true, laidKinds := [.data, .data, .data, .data, .data], laidTests := true, laidLooks := .later }
def SlotsPlaysCardSaid : Prop := Claim7.holds Tryd.pinned (.plain (OpenSpec.ofChange slotsPlaysSpec)) slotsPlaysCard

/-- THE TIED CARD OF 'drumlinlaw20.SlotsNil'. -/
def slotsNilCard : Claim7 := { stood := { row := slotsNilRow, standIns := [], harness := (true, "96024d5166ef05cfa04af87d4e607c448d93a4603b5cc1e2f9b9c901592f4871"), looks := false }, kinds := [], alts := [], laidByText := true, laidKinds := [.data, .data, .data, .data, .data], laidTests := true, laidLooks := .later }
def SlotsNilCardSaid : Prop := Claim7.holds Tryd.pinned (.plain (OpenSpec.ofChange slotsNilSpec)) slotsNilCard

/-- THE SECOND FORM's CARD OF 'drumlinlaw20.SlotsOne'. -/
def slotsOneUptoCard : Claim7 := { stood := { row := slotsOneUptoRow, standIns := [], harness := (true, "96024d5166ef05cfa04af87d4e607c448d93a4603b5cc1e2f9b9c901592f4871"), looks := false }, kinds := [], alts := [], laidByText := true, laidKinds := [.data, .data, .data, .data, .data], laidTests := true, laidLooks := .later }
def SlotsOneUptoCardSaid : Prop := Claim7.holds Tryd.pinned (.plain (OpenSpec.upto slotsOneSpec)) slotsOneUptoCard

/-- THE SECOND FORM's CARD OF 'drumlinlaw20.SlotsRefuses'. -/
def slotsRefusesUptoCard : Claim7 := { stood := { row := slotsRefusesUptoRow, standIns := [], harness := (true, "96024d5166ef05cfa04af87d4e607c448d93a4603b5cc1e2f9b9c901592f4871"), looks := false }, kinds := [], alts := [], laidByText := true, laidKinds := [.data, .data, .data, .data, .data], laidTests := true, laidLooks := .later }
def SlotsRefusesUptoCardSaid : Prop := Claim7.holds Tryd.pinned (.plain (OpenSpec.upto slotsRefusesSpec)) slotsRefusesUptoCard

/-- THE SECOND FORM's CARD OF 'drumlinlaw20.SlotsKnown'. -/
def slotsKnownUptoCard : Claim7 := { stood := { row := slotsKnownUptoRow, standIns := [], harness := (true, "96024d5166ef05cfa04af87d4e607c448d93a4603b5cc1e2f9b9c901592f4871"), looks := false }, kinds := [], alts := [], laidByText := true, laidKinds := [.data, .data, .data, .data, .data], laidTests := true, laidLooks := .later }
def SlotsKnownUptoCardSaid : Prop := Claim7.holds Tryd.pinned (.plain (OpenSpec.upto slotsKnownSpec)) slotsKnownUptoCard

/-- THE SECOND FORM's CARD OF 'drumlinlaw20.SlotsCopies'. -/
def slotsCopiesUptoCard : Claim7 := { stood := { row := slotsCopiesUptoRow, standIns := [], harness := (true, "96024d5166ef05cfa04af87d4e607c448d93a4603b5cc1e2f9b9c901592f4871"), looks := false }, kinds := [], alts := [], laidByText := true, laidKinds := [.data, .data, .data, .data, .data], laidTests := true, laidLooks := .later }
def SlotsCopiesUptoCardSaid : Prop := Claim7.holds Tryd.pinned (.plain (OpenSpec.upto slotsCopiesSpec)) slotsCopiesUptoCard

/-- THE SECOND FORM's CARD OF 'drumlinlaw20.SlotsReserve'. -/
def slotsReserveUptoCard : Claim7 := { stood := { row := slotsReserveUptoRow, standIns := [], harness := (true, "96024d5166ef05cfa04af87d4e607c448d93a4603b5cc1e2f9b9c901592f4871"), looks := false }, kinds := [], alts := [], laidByText := true, laidKinds := [.data, .data, .data, .data, .data], laidTests := true, laidLooks := .later }
def SlotsReserveUptoCardSaid : Prop := Claim7.holds Tryd.pinned (.plain (OpenSpec.upto slotsReserveSpec)) slotsReserveUptoCard

/-- THE SECOND FORM's CARD OF 'drumlinlaw20.SlotsParts'. -/
def slotsPartsUptoCard : Claim7 := { stood := { row := slotsPartsUptoRow, standIns := [], harness := (true, "96024d5166ef05cfa04af87d4e607c448d93a4603b5cc1e2f9b9c901592f4871"), looks := false }, kinds := [], alts := [], laidByText := true, laidKinds := [.data, .data, .data, .data, .data], laidTests := true, laidLooks := .later }
def SlotsPartsUptoCardSaid : Prop := Claim7.holds Tryd.pinned (.plain (OpenSpec.upto slotsPartsSpec)) slotsPartsUptoCard

/-- THE SECOND FORM's CARD OF 'drumlinlaw20.SlotsPlays'. -/
def slotsPlaysUptoCard : Claim7 := { stood := { row := slotsPlaysUptoRow, standIns := [], harness := (true, "96024d5166ef05cfa04af87d4e607c448d93a4603b5cc1e2f9b9c901592f4871"), looks := false }, kinds := [], alts := [], laidByText := true, laidKinds := [.data, .data, .data, .data, .data], laidTests := true, laidLooks := .later }
def SlotsPlaysUptoCardSaid : Prop := Claim7.holds Tryd.pinned (.plain (OpenSpec.upto slotsPlaysSpec)) slotsPlaysUptoCard

/-- THE SECOND FORM's CARD OF 'drumlinlaw20.SlotsNil'. -/
def slotsNilUptoCard : Claim7 := { stood := { row := slotsNilUptoRow, standIns := [], harness := (true, "96024d5166ef05cfa04af87d4e607c448d93a4603b5cc1e2f9b9c901592f4871"), looks := false }, kinds := [], alts := [], laidByText := true, laidKinds := [.data, .data, .data, .data, .data], laidTests := true, laidLooks := .later }
def SlotsNilUptoCardSaid : Prop := Claim7.holds Tryd.pinned (.plain (OpenSpec.upto slotsNilSpec)) slotsNilUptoCard
end Rows
end Go.Proofs.YtalonikiljcpfaaDoor
