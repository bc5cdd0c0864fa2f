/-
  NARROWER THAN 'FOR EVERY INPUT', by the rows' own cells (each row's printed sentence says how): SlotsetHas: laid · SlotsetNext: laid · SlotsetUnion: laid · SlotsetRefuses: laid · SlotsetLoops: laid · SlotsetKnown: laid · SlotsetPlays: laid · SlotsetNil: laid · SlotsetCopies: laid.
  DERIVED. THE GIVEN ROWS OF THIS SEAT. 9 by the template 'for every input the law returns true; each argument reads behind the call as it read before'; 0 by the template 'total and deterministic' (their statements: YthmkaefpgcjlnaaDoorTotals.lean).
  GIVEN WITH THE SEED: the statements are not yours to turn. If you find one false, say at which input.
  Laid BY PROGRAM, IN A SANDBOX (cutbox-rows.mjs): the forced cells as the released guide's own fill.sh prints them over the translation b5ca71ae364c9caa… (all of the seat's roots in one cut). By AI agents, Wed Nov 11 2026. No macro, syntax, notation, axiom, sorry.
-/
import Derived.Test.YthmkaefpgcjlnaaDoorChecked
import GoSem.Claim
import GoSem.ClaimJoined
import GoSem.ClaimMapViews
import Derived.JoinedTies
import Derived.KernelRfl
namespace Go.Proofs.YthmkaefpgcjlnaaDoor
/- THE CELL 'sum', in the pinned program and in every row, IS THE sha256 OF THE DUMP (.gsa) THAT YthmkaefpgcjlnaaDoorProg.lean LOADS. Nothing in Lean hashes anything: it is a label: what it is worth is what the hold of that sum in a sandbox is worth. -/
noncomputable def Tryd.pinned : Pinned := { name := "ythmkaefpgcjlnaadoor", sum := "b5ca71ae364c9caadb22557ad1a76b17023d4930c47a05b6bb799832a4d4b203", checked := Tryd.checked }
namespace Rows
def none {H : Type} : Left H := { results := [], args := [] }

/- WHAT THE LISTED PACKAGE-LEVEL VARIABLES READ AS WHEN THE CALL BEGINS. Each datum BY PROGRAM (the guide's laid-datum.mjs) off the statement by which the dump's own 'gosem.cut.vars' lays the variable. In a bare row this is a premise. The card (YthmkaefpgcjlnaaDoorCards.lean) ties it to the program's text. -/
def laid_math_bits_deBruijn64tab {H : Type} : DataW H := .agg [.lit (.int .u8 0), .lit (.int .u8 1), .lit (.int .u8 56), .lit (.int .u8 2), .lit (.int .u8 57), .lit (.int .u8 49), .lit (.int .u8 28), .lit (.int .u8 3), .lit (.int .u8 61), .lit (.int .u8 58), .lit (.int .u8 42), .lit (.int .u8 50), .lit (.int .u8 38), .lit (.int .u8 29), .lit (.int .u8 17), .lit (.int .u8 4), .lit (.int .u8 62), .lit (.int .u8 47), .lit (.int .u8 59), .lit (.int .u8 36), .lit (.int .u8 45), .lit (.int .u8 43), .lit (.int .u8 51), .lit (.int .u8 22), .lit (.int .u8 53), .lit (.int .u8 39), .lit (.int .u8 33), .lit (.int .u8 30), .lit (.int .u8 24), .lit (.int .u8 18), .lit (.int .u8 12), .lit (.int .u8 5), .lit (.int .u8 63), .lit (.int .u8 55), .lit (.int .u8 48), .lit (.int .u8 27), .lit (.int .u8 60), .lit (.int .u8 41), .lit (.int .u8 37), .lit (.int .u8 16), .lit (.int .u8 46), .lit (.int .u8 35), .lit (.int .u8 44), .lit (.int .u8 21), .lit (.int .u8 52), .lit (.int .u8 32), .lit (.int .u8 23), .lit (.int .u8 11), .lit (.int .u8 54), .lit (.int .u8 26), .lit (.int .u8 40), .lit (.int .u8 15), .lit (.int .u8 34), .lit (.int .u8 20), .lit (.int .u8 31), .lit (.int .u8 10), .lit (.int .u8 25), .lit (.int .u8 14), .lit (.int .u8 19), .lit (.int .u8 9), .lit (.int .u8 13), .lit (.int .u8 8), .lit (.int .u8 7), .lit (.int .u8 6)]

/-- 'drumlinlaw08.SlotsetHas': WHATEVER THE INPUT: true; the input reads as it did. -/
def slotsetHasSpec : ChangeSpec := { name := "slotsetHas", fn := fun _ => fun
  | [d1, d2, d3] => { results := [.lit (.bool true)], args := [d1, d2, d3] }
  | _ => none }
def slotsetHasRow : OpenClaim := { program := "ythmkaefpgcjlnaadoor", sum := "b5ca71ae364c9caadb22557ad1a76b17023d4930c47a05b6bb799832a4d4b203", func := "drumlin/drumlinlaw08.SlotsetHas", spec := "slotsetHas", unfollowed := true, recurses := true, named := ["math/bits.deBruijn64tab"], apart := false, laid := [("math/bits.deBruijn64tab", laid_math_bits_deBruijn64tab)] }
def SlotsetHasSaid : Prop := slotsetHasRow.holds Tryd.pinned (OpenSpec.ofChange slotsetHasSpec)

/-- ITS FALSE NEIGHBOUR: 'it returns false'. Refute it at one input. -/
def slotsetHasWrong : ChangeSpec := { name := "slotsetHas", fn := fun _ => fun
  | [d1, d2, d3] => { results := [.lit (.bool false)], args := [d1, d2, d3] }
  | _ => none }
def SlotsetHasWrongFalsely : Prop := slotsetHasRow.holds Tryd.pinned (OpenSpec.ofChange slotsetHasWrong)

/-- 'drumlinlaw08.SlotsetNext': WHATEVER THE INPUT: true; the input reads as it did. -/
def slotsetNextSpec : ChangeSpec := { name := "slotsetNext", fn := fun _ => fun
  | [d1, d2] => { results := [.lit (.bool true)], args := [d1, d2] }
  | _ => none }
def slotsetNextRow : OpenClaim := { program := "ythmkaefpgcjlnaadoor", sum := "b5ca71ae364c9caadb22557ad1a76b17023d4930c47a05b6bb799832a4d4b203", func := "drumlin/drumlinlaw08.SlotsetNext", spec := "slotsetNext", unfollowed := true, recurses := true, named := ["math/bits.deBruijn64tab"], apart := false, laid := [("math/bits.deBruijn64tab", laid_math_bits_deBruijn64tab)] }
def SlotsetNextSaid : Prop := slotsetNextRow.holds Tryd.pinned (OpenSpec.ofChange slotsetNextSpec)

/-- ITS FALSE NEIGHBOUR: 'it returns false'. Refute it at one input. -/
def slotsetNextWrong : ChangeSpec := { name := "slotsetNext", fn := fun _ => fun
  | [d1, d2] => { results := [.lit (.bool false)], args := [d1, d2] }
  | _ => none }
def SlotsetNextWrongFalsely : Prop := slotsetNextRow.holds Tryd.pinned (OpenSpec.ofChange slotsetNextWrong)

/-- 'drumlinlaw08.SlotsetUnion': WHATEVER THE INPUT: true; the input reads as it did. -/
def slotsetUnionSpec : ChangeSpec := { name := "slotsetUnion", fn := fun _ => fun
  | [d1, d2, d3] => { results := [.lit (.bool true)], args := [d1, d2, d3] }
  | _ => none }
def slotsetUnionRow : OpenClaim := { program := "ythmkaefpgcjlnaadoor", sum := "b5ca71ae364c9caadb22557ad1a76b17023d4930c47a05b6bb799832a4d4b203", func := "drumlin/drumlinlaw08.SlotsetUnion", spec := "slotsetUnion", unfollowed := true, recurses := true, named := ["math/bits.deBruijn64tab"], apart := false, laid := [("math/bits.deBruijn64tab", laid_math_bits_deBruijn64tab)] }
def SlotsetUnionSaid : Prop := slotsetUnionRow.holds Tryd.pinned (OpenSpec.ofChange slotsetUnionSpec)

/-- ITS FALSE NEIGHBOUR: 'it returns false'. Refute it at one input. -/
def slotsetUnionWrong : ChangeSpec := { name := "slotsetUnion", fn := fun _ => fun
  | [d1, d2, d3] => { results := [.lit (.bool false)], args := [d1, d2, d3] }
  | _ => none }
def SlotsetUnionWrongFalsely : Prop := slotsetUnionRow.holds Tryd.pinned (OpenSpec.ofChange slotsetUnionWrong)

/-- 'drumlinlaw08.SlotsetRefuses': WHATEVER THE INPUT: true; the input reads as it did. -/
def slotsetRefusesSpec : ChangeSpec := { name := "slotsetRefuses", fn := fun _ => fun
  | [d1, d2, d3] => { results := [.lit (.bool true)], args := [d1, d2, d3] }
  | _ => none }
def slotsetRefusesRow : OpenClaim := { program := "ythmkaefpgcjlnaadoor", sum := "b5ca71ae364c9caadb22557ad1a76b17023d4930c47a05b6bb799832a4d4b203", func := "drumlin/drumlinlaw08.SlotsetRefuses", spec := "slotsetRefuses", unfollowed := true, recurses := true, named := ["math/bits.deBruijn64tab"], apart := false, laid := [("math/bits.deBruijn64tab", laid_math_bits_deBruijn64tab)] }
def SlotsetRefusesSaid : Prop := slotsetRefusesRow.holds Tryd.pinned (OpenSpec.ofChange slotsetRefusesSpec)

/-- ITS FALSE NEIGHBOUR: 'it returns false'. Refute it at one input. -/
def slotsetRefusesWrong : ChangeSpec := { name := "slotsetRefuses", fn := fun _ => fun
  | [d1, d2, d3] => { results := [.lit (.bool false)], args := [d1, d2, d3] }
  | _ => none }
def SlotsetRefusesWrongFalsely : Prop := slotsetRefusesRow.holds Tryd.pinned (OpenSpec.ofChange slotsetRefusesWrong)

/-- 'drumlinlaw08.SlotsetLoops': WHATEVER THE INPUT: true; the input reads as it did. -/
def slotsetLoopsSpec : ChangeSpec := { name := "slotsetLoops", fn := fun _ => fun
  | [d1, d2, d3] => { results := [.lit (.bool true)], args := [d1, d2, d3] }
  | _ => none }
def slotsetLoopsRow : OpenClaim := { program := "ythmkaefpgcjlnaadoor", sum := "b5ca71ae364c9caadb22557ad1a76b17023d4930c47a05b6bb799832a4d4b203", func := "drumlin/drumlinlaw08.SlotsetLoops", spec := "slotsetLoops", unfollowed := true, recurses := true, named := ["math/bits.deBruijn64tab"], apart := false, laid := [("math/bits.deBruijn64tab", laid_math_bits_deBruijn64tab)] }
def SlotsetLoopsSaid : Prop := slotsetLoopsRow.holds Tryd.pinned (OpenSpec.ofChange slotsetLoopsSpec)

/-- ITS FALSE NEIGHBOUR: 'it returns false'. Refute it at one input. -/
def slotsetLoopsWrong : ChangeSpec := { name := "slotsetLoops", fn := fun _ => fun
  | [d1, d2, d3] => { results := [.lit (.bool false)], args := [d1, d2, d3] }
  | _ => none }
def SlotsetLoopsWrongFalsely : Prop := slotsetLoopsRow.holds Tryd.pinned (OpenSpec.ofChange slotsetLoopsWrong)

/-- 'drumlinlaw08.SlotsetKnown': WHATEVER THE INPUT: true; the input reads as it did. -/
def slotsetKnownSpec : ChangeSpec := { name := "slotsetKnown", fn := fun _ => fun
  | [] => { results := [.lit (.bool true)], args := [] }
  | _ => none }
def slotsetKnownRow : OpenClaim := { program := "ythmkaefpgcjlnaadoor", sum := "b5ca71ae364c9caadb22557ad1a76b17023d4930c47a05b6bb799832a4d4b203", func := "drumlin/drumlinlaw08.SlotsetKnown", spec := "slotsetKnown", unfollowed := true, recurses := true, named := ["math/bits.deBruijn64tab"], apart := false, laid := [("math/bits.deBruijn64tab", laid_math_bits_deBruijn64tab)] }
def SlotsetKnownSaid : Prop := slotsetKnownRow.holds Tryd.pinned (OpenSpec.ofChange slotsetKnownSpec)

/-- ITS FALSE NEIGHBOUR: 'it returns false'. Refute it at one input. -/
def slotsetKnownWrong : ChangeSpec := { name := "slotsetKnown", fn := fun _ => fun
  | [] => { results := [.lit (.bool false)], args := [] }
  | _ => none }
def SlotsetKnownWrongFalsely : Prop := slotsetKnownRow.holds Tryd.pinned (OpenSpec.ofChange slotsetKnownWrong)

/-- 'drumlinlaw08.SlotsetPlays': WHATEVER THE INPUT: true; the input reads as it did. -/
def slotsetPlaysSpec : ChangeSpec := { name := "slotsetPlays", fn := fun _ => fun
  | [d1, d2, d3, d4] => { results := [.lit (.bool true)], args := [d1, d2, d3, d4] }
  | _ => none }
def slotsetPlaysRow : OpenClaim := { program := "ythmkaefpgcjlnaadoor", sum := "b5ca71ae364c9caadb22557ad1a76b17023d4930c47a05b6bb799832a4d4b203", func := "drumlin/drumlinlaw08.SlotsetPlays", spec := "slotsetPlays", unfollowed := true, recurses := true, named := ["math/bits.deBruijn64tab"], apart := false, laid := [("math/bits.deBruijn64tab", laid_math_bits_deBruijn64tab)] }
def SlotsetPlaysSaid : Prop := slotsetPlaysRow.holds Tryd.pinned (OpenSpec.ofChange slotsetPlaysSpec)

/-- ITS FALSE NEIGHBOUR: 'it returns false'. Refute it at one input. -/
def slotsetPlaysWrong : ChangeSpec := { name := "slotsetPlays", fn := fun _ => fun
  | [d1, d2, d3, d4] => { results := [.lit (.bool false)], args := [d1, d2, d3, d4] }
  | _ => none }
def SlotsetPlaysWrongFalsely : Prop := slotsetPlaysRow.holds Tryd.pinned (OpenSpec.ofChange slotsetPlaysWrong)

/-- 'drumlinlaw08.SlotsetNil': WHATEVER THE INPUT: true; the input reads as it did. -/
def slotsetNilSpec : ChangeSpec := { name := "slotsetNil", fn := fun _ => fun
  | [d] => { results := [.lit (.bool true)], args := [d] }
  | _ => none }
def slotsetNilRow : OpenClaim := { program := "ythmkaefpgcjlnaadoor", sum := "b5ca71ae364c9caadb22557ad1a76b17023d4930c47a05b6bb799832a4d4b203", func := "drumlin/drumlinlaw08.SlotsetNil", spec := "slotsetNil", unfollowed := true, recurses := true, named := ["math/bits.deBruijn64tab"], apart := false, laid := [("math/bits.deBruijn64tab", laid_math_bits_deBruijn64tab)] }
def SlotsetNilSaid : Prop := slotsetNilRow.holds Tryd.pinned (OpenSpec.ofChange slotsetNilSpec)

/-- ITS FALSE NEIGHBOUR: 'it returns false'. Refute it at one input. -/
def slotsetNilWrong : ChangeSpec := { name := "slotsetNil", fn := fun _ => fun
  | [d] => { results := [.lit (.bool false)], args := [d] }
  | _ => none }
def SlotsetNilWrongFalsely : Prop := slotsetNilRow.holds Tryd.pinned (OpenSpec.ofChange slotsetNilWrong)

/-- 'drumlinlaw08.SlotsetCopies': WHATEVER THE INPUT: true; the input reads as it did. -/
def slotsetCopiesSpec : ChangeSpec := { name := "slotsetCopies", fn := fun _ => fun
  | [d1, d2, d3] => { results := [.lit (.bool true)], args := [d1, d2, d3] }
  | _ => none }
def slotsetCopiesRow : OpenClaim := { program := "ythmkaefpgcjlnaadoor", sum := "b5ca71ae364c9caadb22557ad1a76b17023d4930c47a05b6bb799832a4d4b203", func := "drumlin/drumlinlaw08.SlotsetCopies", spec := "slotsetCopies", unfollowed := true, recurses := true, named := ["math/bits.deBruijn64tab"], apart := false, laid := [("math/bits.deBruijn64tab", laid_math_bits_deBruijn64tab)] }
def SlotsetCopiesSaid : Prop := slotsetCopiesRow.holds Tryd.pinned (OpenSpec.ofChange slotsetCopiesSpec)

/-- ITS FALSE NEIGHBOUR: 'it returns false'. Refute it at one input. -/
def slotsetCopiesWrong : ChangeSpec := { name := "slotsetCopies", fn := fun _ => fun
  | [d1, d2, d3] => { results := [.lit (.bool false)], args := [d1, d2, d3] }
  | _ => none }
def SlotsetCopiesWrongFalsely : Prop := slotsetCopiesRow.holds Tryd.pinned (OpenSpec.ofChange slotsetCopiesWrong)

/- THE SECOND FORM. 'bulk': how many values and letters a reading holds, each counted each time it is reached (what is shared counts as often as it is met; a slice's spare places count too). A statement '..UptoSaid' is the law's where the arguments, and the package variables that the reading takes, are together of bulk at most 1048576: NARROWER than '..Said'. Prove '..Said' where nothing that the law and all that it calls make is longer than what came in: it says more and counts as full. Else prove '..UptoSaid'. A law counts once. -/
mutual
def uptoBulk {H : Type} : DataW H → Nat
  | .lit (.string bytes) => bytes.length + 1
  | .lit _ => 1
  | .nil => 1
  | .ptr d => uptoBulk d + 1
  | .slice elems spare => uptoBulkAll elems + uptoBulkAll spare + 1
  | .agg parts => uptoBulkAll parts + 1
  | .iface _ d => uptoBulk d + 1
  | .map entries => uptoBulkEntries entries + 1
  | .held _ => 1
def uptoBulkAll {H : Type} : List (DataW H) → Nat
  | [] => 0
  | d :: r => uptoBulk d + uptoBulkAll r
def uptoBulkEntries {H : Type} : List (Lit × DataW H) → Nat
  | [] => 0
  | x :: r => uptoBulkEntry x + uptoBulkEntries r
def uptoBulkEntry {H : Type} : Lit × DataW H → Nat
  | (.string bytes, d) => bytes.length + uptoBulk d + 1
  | (_, d) => uptoBulk d + 1
 end
def uptoSmall : (H : Type) → List (DataW H) → Bool := fun _ ds => decide (uptoBulkAll ds ≤ 1048576)
def OpenSpec.upto (s : _root_.Go.ChangeSpec) : _root_.Go.OpenSpec := { _root_.Go.OpenSpec.ofChange s with cond := some uptoSmall }

/-- 'drumlinlaw08.SlotsetHas', WHERE WHAT IT READS IS OF BULK AT MOST 1048576: true; the input reads as it did. -/
def slotsetHasUptoRow : OpenClaim := { program := "ythmkaefpgcjlnaadoor", sum := "b5ca71ae364c9caadb22557ad1a76b17023d4930c47a05b6bb799832a4d4b203", func := "drumlin/drumlinlaw08.SlotsetHas", spec := "slotsetHas", unfollowed := true, recurses := true, named := ["math/bits.deBruijn64tab"], apart := false, laid := [("math/bits.deBruijn64tab", laid_math_bits_deBruijn64tab)], narrowed := true }
def SlotsetHasUptoSaid : Prop := slotsetHasUptoRow.holds Tryd.pinned (OpenSpec.upto slotsetHasSpec)

/-- 'drumlinlaw08.SlotsetNext', WHERE WHAT IT READS IS OF BULK AT MOST 1048576: true; the input reads as it did. -/
def slotsetNextUptoRow : OpenClaim := { program := "ythmkaefpgcjlnaadoor", sum := "b5ca71ae364c9caadb22557ad1a76b17023d4930c47a05b6bb799832a4d4b203", func := "drumlin/drumlinlaw08.SlotsetNext", spec := "slotsetNext", unfollowed := true, recurses := true, named := ["math/bits.deBruijn64tab"], apart := false, laid := [("math/bits.deBruijn64tab", laid_math_bits_deBruijn64tab)], narrowed := true }
def SlotsetNextUptoSaid : Prop := slotsetNextUptoRow.holds Tryd.pinned (OpenSpec.upto slotsetNextSpec)

/-- 'drumlinlaw08.SlotsetUnion', WHERE WHAT IT READS IS OF BULK AT MOST 1048576: true; the input reads as it did. -/
def slotsetUnionUptoRow : OpenClaim := { program := "ythmkaefpgcjlnaadoor", sum := "b5ca71ae364c9caadb22557ad1a76b17023d4930c47a05b6bb799832a4d4b203", func := "drumlin/drumlinlaw08.SlotsetUnion", spec := "slotsetUnion", unfollowed := true, recurses := true, named := ["math/bits.deBruijn64tab"], apart := false, laid := [("math/bits.deBruijn64tab", laid_math_bits_deBruijn64tab)], narrowed := true }
def SlotsetUnionUptoSaid : Prop := slotsetUnionUptoRow.holds Tryd.pinned (OpenSpec.upto slotsetUnionSpec)

/-- 'drumlinlaw08.SlotsetRefuses', WHERE WHAT IT READS IS OF BULK AT MOST 1048576: true; the input reads as it did. -/
def slotsetRefusesUptoRow : OpenClaim := { program := "ythmkaefpgcjlnaadoor", sum := "b5ca71ae364c9caadb22557ad1a76b17023d4930c47a05b6bb799832a4d4b203", func := "drumlin/drumlinlaw08.SlotsetRefuses", spec := "slotsetRefuses", unfollowed := true, recurses := true, named := ["math/bits.deBruijn64tab"], apart := false, laid := [("math/bits.deBruijn64tab", laid_math_bits_deBruijn64tab)], narrowed := true }
def SlotsetRefusesUptoSaid : Prop := slotsetRefusesUptoRow.holds Tryd.pinned (OpenSpec.upto slotsetRefusesSpec)

/-- 'drumlinlaw08.SlotsetLoops', WHERE WHAT IT READS IS OF BULK AT MOST 1048576: true; the input reads as it did. -/
def slotsetLoopsUptoRow : OpenClaim := { program := "ythmkaefpgcjlnaadoor", sum := "b5ca71ae364c9caadb22557ad1a76b17023d4930c47a05b6bb799832a4d4b203", func := "drumlin/drumlinlaw08.SlotsetLoops", spec := "slotsetLoops", unfollowed := true, recurses := true, named := ["math/bits.deBruijn64tab"], apart := false, laid := [("math/bits.deBruijn64tab", laid_math_bits_deBruijn64tab)], narrowed := true }
def SlotsetLoopsUptoSaid : Prop := slotsetLoopsUptoRow.holds Tryd.pinned (OpenSpec.upto slotsetLoopsSpec)

/-- 'drumlinlaw08.SlotsetKnown', WHERE WHAT IT READS IS OF BULK AT MOST 1048576: true; the input reads as it did. -/
def slotsetKnownUptoRow : OpenClaim := { program := "ythmkaefpgcjlnaadoor", sum := "b5ca71ae364c9caadb22557ad1a76b17023d4930c47a05b6bb799832a4d4b203", func := "drumlin/drumlinlaw08.SlotsetKnown", spec := "slotsetKnown", unfollowed := true, recurses := true, named := ["math/bits.deBruijn64tab"], apart := false, laid := [("math/bits.deBruijn64tab", laid_math_bits_deBruijn64tab)], narrowed := true }
def SlotsetKnownUptoSaid : Prop := slotsetKnownUptoRow.holds Tryd.pinned (OpenSpec.upto slotsetKnownSpec)

/-- 'drumlinlaw08.SlotsetPlays', WHERE WHAT IT READS IS OF BULK AT MOST 1048576: true; the input reads as it did. -/
def slotsetPlaysUptoRow : OpenClaim := { program := "ythmkaefpgcjlnaadoor", sum := "b5ca71ae364c9caadb22557ad1a76b17023d4930c47a05b6bb799832a4d4b203", func := "drumlin/drumlinlaw08.SlotsetPlays", spec := "slotsetPlays", unfollowed := true, recurses := true, named := ["math/bits.deBruijn64tab"], apart := false, laid := [("math/bits.deBruijn64tab", laid_math_bits_deBruijn64tab)], narrowed := true }
def SlotsetPlaysUptoSaid : Prop := slotsetPlaysUptoRow.holds Tryd.pinned (OpenSpec.upto slotsetPlaysSpec)

/-- 'drumlinlaw08.SlotsetNil', WHERE WHAT IT READS IS OF BULK AT MOST 1048576: true; the input reads as it did. -/
def slotsetNilUptoRow : OpenClaim := { program := "ythmkaefpgcjlnaadoor", sum := "b5ca71ae364c9caadb22557ad1a76b17023d4930c47a05b6bb799832a4d4b203", func := "drumlin/drumlinlaw08.SlotsetNil", spec := "slotsetNil", unfollowed := true, recurses := true, named := ["math/bits.deBruijn64tab"], apart := false, laid := [("math/bits.deBruijn64tab", laid_math_bits_deBruijn64tab)], narrowed := true }
def SlotsetNilUptoSaid : Prop := slotsetNilUptoRow.holds Tryd.pinned (OpenSpec.upto slotsetNilSpec)

/-- 'drumlinlaw08.SlotsetCopies', WHERE WHAT IT READS IS OF BULK AT MOST 1048576: true; the input reads as it did. -/
def slotsetCopiesUptoRow : OpenClaim := { program := "ythmkaefpgcjlnaadoor", sum := "b5ca71ae364c9caadb22557ad1a76b17023d4930c47a05b6bb799832a4d4b203", func := "drumlin/drumlinlaw08.SlotsetCopies", spec := "slotsetCopies", unfollowed := true, recurses := true, named := ["math/bits.deBruijn64tab"], apart := false, laid := [("math/bits.deBruijn64tab", laid_math_bits_deBruijn64tab)], narrowed := true }
def SlotsetCopiesUptoSaid : Prop := slotsetCopiesUptoRow.holds Tryd.pinned (OpenSpec.upto slotsetCopiesSpec)

end Rows
end Go.Proofs.YthmkaefpgcjlnaaDoor
