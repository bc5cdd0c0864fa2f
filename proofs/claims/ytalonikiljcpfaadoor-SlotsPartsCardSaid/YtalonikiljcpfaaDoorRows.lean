/-
  NARROWER THAN 'FOR EVERY INPUT', by the rows' own cells (each row's printed sentence says how): SlotsOne: laid · SlotsRefuses: laid · SlotsKnown: laid · SlotsCopies: laid · SlotsReserve: laid · SlotsParts: laid · SlotsPlays: laid · SlotsNil: laid.
  DERIVED. THE GIVEN ROWS OF THIS SEAT. 8 by the template 'for every input the law returns true; each argument reads behind the call as it read before'; 0 by the template 'total and deterministic' (their statements: YtalonikiljcpfaaDoorTotals.lean).
  GIVEN WITH THE SEED: the statements are not yours to turn. If you find one false, say at which input.
  Laid BY PROGRAM, IN A SANDBOX (cutbox-rows.mjs): the forced cells as the released guide's own fill.sh prints them over the translation 5b6fbc17ef5d8e82… (all of the seat's roots in one cut). By AI agents, Wed Nov 11 2026. No macro, syntax, notation, axiom, sorry.
-/
import Derived.Test.YtalonikiljcpfaaDoorChecked
import GoSem.Claim
import GoSem.ClaimJoined
import GoSem.ClaimMapViews
import Derived.JoinedTies
import Derived.KernelRfl
namespace Go.Proofs.YtalonikiljcpfaaDoor
/- THE CELL 'sum', in the pinned program and in every row, IS THE sha256 OF THE DUMP (.gsa) THAT YtalonikiljcpfaaDoorProg.lean LOADS. Nothing in Lean hashes anything: it is a label: what it is worth is what the hold of that sum in a sandbox is worth. -/
noncomputable def Tryd.pinned : Pinned := { name := "ytalonikiljcpfaadoor", sum := "5b6fbc17ef5d8e8215f1b6bd58a60d38a70b40c8560dd787c7d49e7c3dd144d6", checked := Tryd.checked }
namespace Rows
def none {H : Type} : Left H := { results := [], args := [] }

/- WHAT THE LISTED PACKAGE-LEVEL VARIABLES READ AS WHEN THE CALL BEGINS. Each datum BY PROGRAM (the guide's laid-datum.mjs) off the statement by which the dump's own 'gosem.cut.vars' lays the variable. In a bare row this is a premise. The card (YtalonikiljcpfaaDoorCards.lean) ties it to the program's text. -/
def laid_math_bits_deBruijn64tab {H : Type} : DataW H := .agg [.lit (.int .u8 0), .lit (.int .u8 1), .lit (.int .u8 56), .lit (.int .u8 2), .lit (.int .u8 57), .lit (.int .u8 49), .lit (.int .u8 28), .lit (.int .u8 3), .lit (.int .u8 61), .lit (.int .u8 58), .lit (.int .u8 42), .lit (.int .u8 50), .lit (.int .u8 38), .lit (.int .u8 29), .lit (.int .u8 17), .lit (.int .u8 4), .lit (.int .u8 62), .lit (.int .u8 47), .lit (.int .u8 59), .lit (.int .u8 36), .lit (.int .u8 45), .lit (.int .u8 43), .lit (.int .u8 51), .lit (.int .u8 22), .lit (.int .u8 53), .lit (.int .u8 39), .lit (.int .u8 33), .lit (.int .u8 30), .lit (.int .u8 24), .lit (.int .u8 18), .lit (.int .u8 12), .lit (.int .u8 5), .lit (.int .u8 63), .lit (.int .u8 55), .lit (.int .u8 48), .lit (.int .u8 27), .lit (.int .u8 60), .lit (.int .u8 41), .lit (.int .u8 37), .lit (.int .u8 16), .lit (.int .u8 46), .lit (.int .u8 35), .lit (.int .u8 44), .lit (.int .u8 21), .lit (.int .u8 52), .lit (.int .u8 32), .lit (.int .u8 23), .lit (.int .u8 11), .lit (.int .u8 54), .lit (.int .u8 26), .lit (.int .u8 40), .lit (.int .u8 15), .lit (.int .u8 34), .lit (.int .u8 20), .lit (.int .u8 31), .lit (.int .u8 10), .lit (.int .u8 25), .lit (.int .u8 14), .lit (.int .u8 19), .lit (.int .u8 9), .lit (.int .u8 13), .lit (.int .u8 8), .lit (.int .u8 7), .lit (.int .u8 6)]
def laid_drumlin_slots_sealing {H : Type} : DataW H := .agg [.agg [.lit (.bool false), .lit (.bool true), .lit (.bool false), .lit (.bool false), .lit (.bool true)], .lit (.int .i64 2)]
def laid_drumlin_slots_choosing {H : Type} : DataW H := .agg [.agg [.lit (.bool false), .lit (.bool false), .lit (.bool true), .lit (.bool false), .lit (.bool false)], .lit (.int .i64 3)]
def laid_drumlin_slots_dropping {H : Type} : DataW H := .agg [.agg [.lit (.bool false), .lit (.bool false), .lit (.bool true), .lit (.bool true), .lit (.bool false)], .lit (.int .i64 0)]
def laid_drumlin_slots_loading {H : Type} : DataW H := .agg [.agg [.lit (.bool true), .lit (.bool false), .lit (.bool false), .lit (.bool false), .lit (.bool false)], .lit (.int .i64 2)]

/-- 'drumlinlaw20.SlotsOne': WHATEVER THE INPUT: true; the input reads as it did. -/
def slotsOneSpec : ChangeSpec := { name := "slotsOne", fn := fun _ => fun
  | [d1, d2, d3] => { results := [.lit (.bool true)], args := [d1, d2, d3] }
  | _ => none }
def slotsOneRow : OpenClaim := { program := "ytalonikiljcpfaadoor", sum := "5b6fbc17ef5d8e8215f1b6bd58a60d38a70b40c8560dd787c7d49e7c3dd144d6", func := "drumlin/drumlinlaw20.SlotsOne", spec := "slotsOne", named := ["math/bits.deBruijn64tab", "drumlin/slots.sealing", "drumlin/slots.choosing", "drumlin/slots.dropping", "drumlin/slots.loading"], apart := false, laid := [("math/bits.deBruijn64tab", laid_math_bits_deBruijn64tab), ("drumlin/slots.sealing", laid_drumlin_slots_sealing), ("drumlin/slots.choosing", laid_drumlin_slots_choosing), ("drumlin/slots.dropping", laid_drumlin_slots_dropping), ("drumlin/slots.loading", laid_drumlin_slots_loading)] }
def SlotsOneSaid : Prop := slotsOneRow.holds Tryd.pinned (OpenSpec.ofChange slotsOneSpec)

/-- ITS FALSE NEIGHBOUR: 'it returns false'. Refute it at one input. -/
def slotsOneWrong : ChangeSpec := { name := "slotsOne", fn := fun _ => fun
  | [d1, d2, d3] => { results := [.lit (.bool false)], args := [d1, d2, d3] }
  | _ => none }
def SlotsOneWrongFalsely : Prop := slotsOneRow.holds Tryd.pinned (OpenSpec.ofChange slotsOneWrong)

/-- 'drumlinlaw20.SlotsRefuses': WHATEVER THE INPUT: true; the input reads as it did. -/
def slotsRefusesSpec : ChangeSpec := { name := "slotsRefuses", fn := fun _ => fun
  | [d1, d2, d3, d4] => { results := [.lit (.bool true)], args := [d1, d2, d3, d4] }
  | _ => none }
def slotsRefusesRow : OpenClaim := { program := "ytalonikiljcpfaadoor", sum := "5b6fbc17ef5d8e8215f1b6bd58a60d38a70b40c8560dd787c7d49e7c3dd144d6", func := "drumlin/drumlinlaw20.SlotsRefuses", spec := "slotsRefuses", named := ["math/bits.deBruijn64tab", "drumlin/slots.sealing", "drumlin/slots.choosing", "drumlin/slots.dropping", "drumlin/slots.loading"], apart := false, laid := [("math/bits.deBruijn64tab", laid_math_bits_deBruijn64tab), ("drumlin/slots.sealing", laid_drumlin_slots_sealing), ("drumlin/slots.choosing", laid_drumlin_slots_choosing), ("drumlin/slots.dropping", laid_drumlin_slots_dropping), ("drumlin/slots.loading", laid_drumlin_slots_loading)] }
def SlotsRefusesSaid : Prop := slotsRefusesRow.holds Tryd.pinned (OpenSpec.ofChange slotsRefusesSpec)

/-- ITS FALSE NEIGHBOUR: 'it returns false'. Refute it at one input. -/
def slotsRefusesWrong : ChangeSpec := { name := "slotsRefuses", fn := fun _ => fun
  | [d1, d2, d3, d4] => { results := [.lit (.bool false)], args := [d1, d2, d3, d4] }
  | _ => none }
def SlotsRefusesWrongFalsely : Prop := slotsRefusesRow.holds Tryd.pinned (OpenSpec.ofChange slotsRefusesWrong)

/-- 'drumlinlaw20.SlotsKnown': WHATEVER THE INPUT: true; the input reads as it did. -/
def slotsKnownSpec : ChangeSpec := { name := "slotsKnown", fn := fun _ => fun
  | [] => { results := [.lit (.bool true)], args := [] }
  | _ => none }
def slotsKnownRow : OpenClaim := { program := "ytalonikiljcpfaadoor", sum := "5b6fbc17ef5d8e8215f1b6bd58a60d38a70b40c8560dd787c7d49e7c3dd144d6", func := "drumlin/drumlinlaw20.SlotsKnown", spec := "slotsKnown", named := ["math/bits.deBruijn64tab", "drumlin/slots.sealing", "drumlin/slots.choosing", "drumlin/slots.dropping", "drumlin/slots.loading"], apart := false, laid := [("math/bits.deBruijn64tab", laid_math_bits_deBruijn64tab), ("drumlin/slots.sealing", laid_drumlin_slots_sealing), ("drumlin/slots.choosing", laid_drumlin_slots_choosing), ("drumlin/slots.dropping", laid_drumlin_slots_dropping), ("drumlin/slots.loading", laid_drumlin_slots_loading)] }
def SlotsKnownSaid : Prop := slotsKnownRow.holds Tryd.pinned (OpenSpec.ofChange slotsKnownSpec)

/-- ITS FALSE NEIGHBOUR: 'it returns false'. Refute it at one input. -/
def slotsKnownWrong : ChangeSpec := { name := "slotsKnown", fn := fun _ => fun
  | [] => { results := [.lit (.bool false)], args := [] }
  | _ => none }
def SlotsKnownWrongFalsely : Prop := slotsKnownRow.holds Tryd.pinned (OpenSpec.ofChange slotsKnownWrong)

/-- 'drumlinlaw20.SlotsCopies': WHATEVER THE INPUT: true; the input reads as it did. -/
def slotsCopiesSpec : ChangeSpec := { name := "slotsCopies", fn := fun _ => fun
  | [d1, d2, d3, d4] => { results := [.lit (.bool true)], args := [d1, d2, d3, d4] }
  | _ => none }
def slotsCopiesRow : OpenClaim := { program := "ytalonikiljcpfaadoor", sum := "5b6fbc17ef5d8e8215f1b6bd58a60d38a70b40c8560dd787c7d49e7c3dd144d6", func := "drumlin/drumlinlaw20.SlotsCopies", spec := "slotsCopies", named := ["math/bits.deBruijn64tab", "drumlin/slots.sealing", "drumlin/slots.choosing", "drumlin/slots.dropping", "drumlin/slots.loading"], apart := false, laid := [("math/bits.deBruijn64tab", laid_math_bits_deBruijn64tab), ("drumlin/slots.sealing", laid_drumlin_slots_sealing), ("drumlin/slots.choosing", laid_drumlin_slots_choosing), ("drumlin/slots.dropping", laid_drumlin_slots_dropping), ("drumlin/slots.loading", laid_drumlin_slots_loading)] }
def SlotsCopiesSaid : Prop := slotsCopiesRow.holds Tryd.pinned (OpenSpec.ofChange slotsCopiesSpec)

/-- ITS FALSE NEIGHBOUR: 'it returns false'. Refute it at one input. -/
def slotsCopiesWrong : ChangeSpec := { name := "slotsCopies", fn := fun _ => fun
  | [d1, d2, d3, d4] => { results := [.lit (.bool false)], args := [d1, d2, d3, d4] }
  | _ => none }
def SlotsCopiesWrongFalsely : Prop := slotsCopiesRow.holds Tryd.pinned (OpenSpec.ofChange slotsCopiesWrong)

/-- 'drumlinlaw20.SlotsReserve': WHATEVER THE INPUT: true; the input reads as it did. -/
def slotsReserveSpec : ChangeSpec := { name := "slotsReserve", fn := fun _ => fun
  | [d1, d2, d3] => { results := [.lit (.bool true)], args := [d1, d2, d3] }
  | _ => none }
def slotsReserveRow : OpenClaim := { program := "ytalonikiljcpfaadoor", sum := "5b6fbc17ef5d8e8215f1b6bd58a60d38a70b40c8560dd787c7d49e7c3dd144d6", func := "drumlin/drumlinlaw20.SlotsReserve", spec := "slotsReserve", unfollowed := true, recurses := true, named := ["math/bits.deBruijn64tab", "drumlin/slots.sealing", "drumlin/slots.choosing", "drumlin/slots.dropping", "drumlin/slots.loading"], apart := false, laid := [("math/bits.deBruijn64tab", laid_math_bits_deBruijn64tab), ("drumlin/slots.sealing", laid_drumlin_slots_sealing), ("drumlin/slots.choosing", laid_drumlin_slots_choosing), ("drumlin/slots.dropping", laid_drumlin_slots_dropping), ("drumlin/slots.loading", laid_drumlin_slots_loading)] }
def SlotsReserveSaid : Prop := slotsReserveRow.holds Tryd.pinned (OpenSpec.ofChange slotsReserveSpec)

/-- ITS FALSE NEIGHBOUR: 'it returns false'. Refute it at one input. -/
def slotsReserveWrong : ChangeSpec := { name := "slotsReserve", fn := fun _ => fun
  | [d1, d2, d3] => { results := [.lit (.bool false)], args := [d1, d2, d3] }
  | _ => none }
def SlotsReserveWrongFalsely : Prop := slotsReserveRow.holds Tryd.pinned (OpenSpec.ofChange slotsReserveWrong)

/-- 'drumlinlaw20.SlotsParts': WHATEVER THE INPUT: true; the input reads as it did. -/
def slotsPartsSpec : ChangeSpec := { name := "slotsParts", fn := fun _ => fun
  | [d1, d2, d3, d4] => { results := [.lit (.bool true)], args := [d1, d2, d3, d4] }
  | _ => none }
def slotsPartsRow : OpenClaim := { program := "ytalonikiljcpfaadoor", sum := "5b6fbc17ef5d8e8215f1b6bd58a60d38a70b40c8560dd787c7d49e7c3dd144d6", func := "drumlin/drumlinlaw20.SlotsParts", spec := "slotsParts", unfollowed := true, recurses := true, named := ["math/bits.deBruijn64tab", "drumlin/slots.sealing", "drumlin/slots.choosing", "drumlin/slots.dropping", "drumlin/slots.loading"], apart := false, laid := [("math/bits.deBruijn64tab", laid_math_bits_deBruijn64tab), ("drumlin/slots.sealing", laid_drumlin_slots_sealing), ("drumlin/slots.choosing", laid_drumlin_slots_choosing), ("drumlin/slots.dropping", laid_drumlin_slots_dropping), ("drumlin/slots.loading", laid_drumlin_slots_loading)] }
def SlotsPartsSaid : Prop := slotsPartsRow.holds Tryd.pinned (OpenSpec.ofChange slotsPartsSpec)

/-- ITS FALSE NEIGHBOUR: 'it returns false'. Refute it at one input. -/
def slotsPartsWrong : ChangeSpec := { name := "slotsParts", fn := fun _ => fun
  | [d1, d2, d3, d4] => { results := [.lit (.bool false)], args := [d1, d2, d3, d4] }
  | _ => none }
def SlotsPartsWrongFalsely : Prop := slotsPartsRow.holds Tryd.pinned (OpenSpec.ofChange slotsPartsWrong)

/-- 'drumlinlaw20.SlotsPlays': WHATEVER THE INPUT: true; the input reads as it did. -/
def slotsPlaysSpec : ChangeSpec := { name := "slotsPlays", fn := fun _ => fun
  | [d1, d2, d3, d4] => { results := [.lit (.bool true)], args := [d1, d2, d3, d4] }
  | _ => none }
def slotsPlaysRow : OpenClaim := { program := "ytalonikiljcpfaadoor", sum := "5b6fbc17ef5d8e8215f1b6bd58a60d38a70b40c8560dd787c7d49e7c3dd144d6", func := "drumlin/drumlinlaw20.SlotsPlays", spec := "slotsPlays", unfollowed := true, recurses := true, named := ["math/bits.deBruijn64tab", "drumlin/slots.sealing", "drumlin/slots.choosing", "drumlin/slots.dropping", "drumlin/slots.loading"], apart := false, laid := [("math/bits.deBruijn64tab", laid_math_bits_deBruijn64tab), ("drumlin/slots.sealing", laid_drumlin_slots_sealing), ("drumlin/slots.choosing", laid_drumlin_slots_choosing), ("drumlin/slots.dropping", laid_drumlin_slots_dropping), ("drumlin/slots.loading", laid_drumlin_slots_loading)] }
def SlotsPlaysSaid : Prop := slotsPlaysRow.holds Tryd.pinned (OpenSpec.ofChange slotsPlaysSpec)

/-- ITS FALSE NEIGHBOUR: 'it returns false'. Refute it at one input. -/
def slotsPlaysWrong : ChangeSpec := { name := "slotsPlays", fn := fun _ => fun
  | [d1, d2, d3, d4] => { results := [.lit (.bool false)], args := [d1, d2, d3, d4] }
  | _ => none }
def SlotsPlaysWrongFalsely : Prop := slotsPlaysRow.holds Tryd.pinned (OpenSpec.ofChange slotsPlaysWrong)

/-- 'drumlinlaw20.SlotsNil': WHATEVER THE INPUT: true; the input reads as it did. -/
def slotsNilSpec : ChangeSpec := { name := "slotsNil", fn := fun _ => fun
  | [d1, d2] => { results := [.lit (.bool true)], args := [d1, d2] }
  | _ => none }
def slotsNilRow : OpenClaim := { program := "ytalonikiljcpfaadoor", sum := "5b6fbc17ef5d8e8215f1b6bd58a60d38a70b40c8560dd787c7d49e7c3dd144d6", func := "drumlin/drumlinlaw20.SlotsNil", spec := "slotsNil", unfollowed := true, recurses := true, named := ["math/bits.deBruijn64tab", "drumlin/slots.sealing", "drumlin/slots.choosing", "drumlin/slots.dropping", "drumlin/slots.loading"], apart := false, laid := [("math/bits.deBruijn64tab", laid_math_bits_deBruijn64tab), ("drumlin/slots.sealing", laid_drumlin_slots_sealing), ("drumlin/slots.choosing", laid_drumlin_slots_choosing), ("drumlin/slots.dropping", laid_drumlin_slots_dropping), ("drumlin/slots.loading", laid_drumlin_slots_loading)] }
def SlotsNilSaid : Prop := slotsNilRow.holds Tryd.pinned (OpenSpec.ofChange slotsNilSpec)

/-- ITS FALSE NEIGHBOUR: 'it returns false'. Refute it at one input. -/
def slotsNilWrong : ChangeSpec := { name := "slotsNil", fn := fun _ => fun
  | [d1, d2] => { results := [.lit (.bool false)], args := [d1, d2] }
  | _ => none }
def SlotsNilWrongFalsely : Prop := slotsNilRow.holds Tryd.pinned (OpenSpec.ofChange slotsNilWrong)

/- THE SECOND FORM. 'bulk': how many values and letters a reading holds, each counted each time it is reached (what is shared counts as often as it is met; a slice's spare places count too). A statement '..UptoSaid' is the law's where the arguments, and the package variables that the reading takes, are together of bulk at most 1048576: NARROWER than '..Said'. Prove '..Said' where nothing that the law and all that it calls make is longer than what came in: it says more and counts as full. Else prove '..UptoSaid'. A law counts once. -/
mutual
def uptoBulk {H : Type} : DataW H → Nat
  | .lit (.string bytes) => bytes.length + 1
  | .lit _ => 1
  | .nil => 1
  | .ptr d => uptoBulk d + 1
  | .slice elems spare => uptoBulkAll elems + uptoBulkAll spare + 1
  | .agg parts => uptoBulkAll parts + 1
  | .iface _ d => uptoBulk d + 1
  | .map entries => uptoBulkEntries entries + 1
  | .held _ => 1
def uptoBulkAll {H : Type} : List (DataW H) → Nat
  | [] => 0
  | d :: r => uptoBulk d + uptoBulkAll r
def uptoBulkEntries {H : Type} : List (Lit × DataW H) → Nat
  | [] => 0
  | x :: r => uptoBulkEntry x + uptoBulkEntries r
def uptoBulkEntry {H : Type} : Lit × DataW H → Nat
  | (.string bytes, d) => bytes.length + uptoBulk d + 1
  | (_, d) => uptoBulk d + 1
 end
def uptoSmall : (H : Type) → List (DataW H) → Bool := fun _ ds => decide (uptoBulkAll ds ≤ 1048576)
def OpenSpec.upto (s : _root_.Go.ChangeSpec) : _root_.Go.OpenSpec := { _root_.Go.OpenSpec.ofChange s with cond := some uptoSmall }

/-- 'drumlinlaw20.SlotsOne', WHERE WHAT IT READS IS OF BULK AT MOST 1048576: true; the input reads as it did. -/
def slotsOneUptoRow : OpenClaim := { program := "ytalonikiljcpfaadoor", sum := "5b6fbc17ef5d8e8215f1b6bd58a60d38a70b40c8560dd787c7d49e7c3dd144d6", func := "drumlin/drumlinlaw20.SlotsOne", spec := "slotsOne", named := ["math/bits.deBruijn64tab", "drumlin/slots.sealing", "drumlin/slots.choosing", "drumlin/slots.dropping", "drumlin/slots.loading"], apart := false, laid := [("math/bits.deBruijn64tab", laid_math_bits_deBruijn64tab), ("drumlin/slots.sealing", laid_drumlin_slots_sealing), ("drumlin/slots.choosing", laid_drumlin_slots_choosing), ("drumlin/slots.dropping", laid_drumlin_slots_dropping), ("drumlin/slots.loading", laid_drumlin_slots_loading)], narrowed := true }
def SlotsOneUptoSaid : Prop := slotsOneUptoRow.holds Tryd.pinned (OpenSpec.upto slotsOneSpec)

/-- 'drumlinlaw20.SlotsRefuses', WHERE WHAT IT READS IS OF BULK AT MOST 1048576: true; the input reads as it did. -/
def slotsRefusesUptoRow : OpenClaim := { program := "ytalonikiljcpfaadoor", sum := "5b6fbc17ef5d8e8215f1b6bd58a60d38a70b40c8560dd787c7d49e7c3dd144d6", func := "drumlin/drumlinlaw20.SlotsRefuses", spec := "slotsRefuses", named := ["math/bits.deBruijn64tab", "drumlin/slots.sealing", "drumlin/slots.choosing", "drumlin/slots.dropping", "drumlin/slots.loading"], apart := false, laid := [("math/bits.deBruijn64tab", laid_math_bits_deBruijn64tab), ("drumlin/slots.sealing", laid_drumlin_slots_sealing), ("drumlin/slots.choosing", laid_drumlin_slots_choosing), ("drumlin/slots.dropping", laid_drumlin_slots_dropping), ("drumlin/slots.loading", laid_drumlin_slots_loading)], narrowed := true }
def SlotsRefusesUptoSaid : Prop := slotsRefusesUptoRow.holds Tryd.pinned (OpenSpec.upto slotsRefusesSpec)

/-- 'drumlinlaw20.SlotsKnown', WHERE WHAT IT READS IS OF BULK AT MOST 1048576: true; the input reads as it did. -/
def slotsKnownUptoRow : OpenClaim := { program := "ytalonikiljcpfaadoor", sum := "5b6fbc17ef5d8e8215f1b6bd58a60d38a70b40c8560dd787c7d49e7c3dd144d6", func := "drumlin/drumlinlaw20.SlotsKnown", spec := "slotsKnown", named := ["math/bits.deBruijn64tab", "drumlin/slots.sealing", "drumlin/slots.choosing", "drumlin/slots.dropping", "drumlin/slots.loading"], apart := false, laid := [("math/bits.deBruijn64tab", laid_math_bits_deBruijn64tab), ("drumlin/slots.sealing", laid_drumlin_slots_sealing), ("drumlin/slots.choosing", laid_drumlin_slots_choosing), ("drumlin/slots.dropping", laid_drumlin_slots_dropping), ("drumlin/slots.loading", laid_drumlin_slots_loading)], narrowed := true }
def SlotsKnownUptoSaid : Prop := slotsKnownUptoRow.holds Tryd.pinned (OpenSpec.upto slotsKnownSpec)

/-- 'drumlinlaw20.SlotsCopies', WHERE WHAT IT READS IS OF BULK AT MOST 1048576: true; the input reads as it did. -/
def slotsCopiesUptoRow : OpenClaim := { program := "ytalonikiljcpfaadoor", sum := "5b6fbc17ef5d8e8215f1b6bd58a60d38a70b40c8560dd787c7d49e7c3dd144d6", func := "drumlin/drumlinlaw20.SlotsCopies", spec := "slotsCopies", named := ["math/bits.deBruijn64tab", "drumlin/slots.sealing", "drumlin/slots.choosing", "drumlin/slots.dropping", "drumlin/slots.loading"], apart := false, laid := [("math/bits.deBruijn64tab", laid_math_bits_deBruijn64tab), ("drumlin/slots.sealing", laid_drumlin_slots_sealing), ("drumlin/slots.choosing", laid_drumlin_slots_choosing), ("drumlin/slots.dropping", laid_drumlin_slots_dropping), ("drumlin/slots.loading", laid_drumlin_slots_loading)], narrowed := true }
def SlotsCopiesUptoSaid : Prop := slotsCopiesUptoRow.holds Tryd.pinned (OpenSpec.upto slotsCopiesSpec)

/-- 'drumlinlaw20.SlotsReserve', WHERE WHAT IT READS IS OF BULK AT MOST 1048576: true; the input reads as it did. -/
def slotsReserveUptoRow : OpenClaim := { program := "ytalonikiljcpfaadoor", sum := "5b6fbc17ef5d8e8215f1b6bd58a60d38a70b40c8560dd787c7d49e7c3dd144d6", func := "drumlin/drumlinlaw20.SlotsReserve", spec := "slotsReserve", unfollowed := true, recurses := true, named := ["math/bits.deBruijn64tab", "drumlin/slots.sealing", "drumlin/slots.choosing", "drumlin/slots.dropping", "drumlin/slots.loading"], apart := false, laid := [("math/bits.deBruijn64tab", laid_math_bits_deBruijn64tab), ("drumlin/slots.sealing", laid_drumlin_slots_sealing), ("drumlin/slots.choosing", laid_drumlin_slots_choosing), ("drumlin/slots.dropping", laid_drumlin_slots_dropping), ("drumlin/slots.loading", laid_drumlin_slots_loading)], narrowed := true }
def SlotsReserveUptoSaid : Prop := slotsReserveUptoRow.holds Tryd.pinned (OpenSpec.upto slotsReserveSpec)

/-- 'drumlinlaw20.SlotsParts', WHERE WHAT IT READS IS OF BULK AT MOST 1048576: true; the input reads as it did. -/
def slotsPartsUptoRow : OpenClaim := { program := "ytalonikiljcpfaadoor", sum := "5b6fbc17ef5d8e8215f1b6bd58a60d38a70b40c8560dd787c7d49e7c3dd144d6", func := "drumlin/drumlinlaw20.SlotsParts", spec := "slotsParts", unfollowed := true, recurses := true, named := ["math/bits.deBruijn64tab", "drumlin/slots.sealing", "drumlin/slots.choosing", "drumlin/slots.dropping", "drumlin/slots.loading"], apart := false, laid := [("math/bits.deBruijn64tab", laid_math_bits_deBruijn64tab), ("drumlin/slots.sealing", laid_drumlin_slots_sealing), ("drumlin/slots.choosing", laid_drumlin_slots_choosing), ("drumlin/slots.dropping", laid_drumlin_slots_dropping), ("drumlin/slots.loading", laid_drumlin_slots_loading)], narrowed := true }
def SlotsPartsUptoSaid : Prop := slotsPartsUptoRow.holds Tryd.pinned (OpenSpec.upto slotsPartsSpec)

/-- 'drumlinlaw20.SlotsPlays', WHERE WHAT IT READS IS OF BULK AT MOST 1048576: true; the input reads as it did. -/
def slotsPlaysUptoRow : OpenClaim := { program := "ytalonikiljcpfaadoor", sum := "5b6fbc17ef5d8e8215f1b6bd58a60d38a70b40c8560dd787c7d49e7c3dd144d6", func := "drumlin/drumlinlaw20.SlotsPlays", spec := "slotsPlays", unfollowed := true, recurses := true, named := ["math/bits.deBruijn64tab", "drumlin/slots.sealing", "drumlin/slots.choosing", "drumlin/slots.dropping", "drumlin/slots.loading"], apart := false, laid := [("math/bits.deBruijn64tab", laid_math_bits_deBruijn64tab), ("drumlin/slots.sealing", laid_drumlin_slots_sealing), ("drumlin/slots.choosing", laid_drumlin_slots_choosing), ("drumlin/slots.dropping", laid_drumlin_slots_dropping), ("drumlin/slots.loading", laid_drumlin_slots_loading)], narrowed := true }
def SlotsPlaysUptoSaid : Prop := slotsPlaysUptoRow.holds Tryd.pinned (OpenSpec.upto slotsPlaysSpec)

/-- 'drumlinlaw20.SlotsNil', WHERE WHAT IT READS IS OF BULK AT MOST 1048576: true; the input reads as it did. -/
def slotsNilUptoRow : OpenClaim := { program := "ytalonikiljcpfaadoor", sum := "5b6fbc17ef5d8e8215f1b6bd58a60d38a70b40c8560dd787c7d49e7c3dd144d6", func := "drumlin/drumlinlaw20.SlotsNil", spec := "slotsNil", unfollowed := true, recurses := true, named := ["math/bits.deBruijn64tab", "drumlin/slots.sealing", "drumlin/slots.choosing", "drumlin/slots.dropping", "drumlin/slots.loading"], apart := false, laid := [("math/bits.deBruijn64tab", laid_math_bits_deBruijn64tab), ("drumlin/slots.sealing", laid_drumlin_slots_sealing), ("drumlin/slots.choosing", laid_drumlin_slots_choosing), ("drumlin/slots.dropping", laid_drumlin_slots_dropping), ("drumlin/slots.loading", laid_drumlin_slots_loading)], narrowed := true }
def SlotsNilUptoSaid : Prop := slotsNilUptoRow.holds Tryd.pinned (OpenSpec.upto slotsNilSpec)

end Rows
end Go.Proofs.YtalonikiljcpfaaDoor
