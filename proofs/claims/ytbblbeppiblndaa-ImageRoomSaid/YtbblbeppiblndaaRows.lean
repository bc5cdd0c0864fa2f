/-
  No cell of these rows narrows 'for every input' (looked for: loops, veiled, ifaces, maps, wideKeys, modest, calm, conditions, laid).
  DERIVED. THE GIVEN ROWS OF THIS SEAT. 7 by the template 'for every input the law returns true; each argument reads behind the call as it read before'; 0 by the template 'total and deterministic' (their statements: YtbblbeppiblndaaTotals.lean).
  GIVEN WITH THE SEED: the statements are not yours to turn. If you find one false, say at which input.
  Laid BY PROGRAM, IN A SANDBOX (cutbox-rows.mjs): the forced cells as the released guide's own fill.sh prints them over the translation 1c337ffadcea364c… (all of the seat's roots in one cut). By AI agents, Wed Nov 11 2026. No macro, syntax, notation, axiom, sorry.
-/
import Derived.Test.YtbblbeppiblndaaChecked
import GoSem.Claim
import GoSem.ClaimJoined
import GoSem.ClaimMapViews
import Derived.JoinedTies
import Derived.KernelRfl
namespace Go.Proofs.Ytbblbeppiblndaa
/- THE CELL 'sum', in the pinned program and in every row, IS THE sha256 OF THE DUMP (.gsa) THAT YtbblbeppiblndaaProg.lean LOADS. Nothing in Lean hashes anything: it is a label: what it is worth is what the hold of that sum in a sandbox is worth. -/
noncomputable def Try.pinned : Pinned := { name := "ytbblbeppiblndaa", sum := "1c337ffadcea364ce333ef16d9e7f9308f175bd860d51de9896527ec50cdd949", checked := Try.checked }
namespace Rows
def none {H : Type} : Left H := { results := [], args := [] }

/-- 'drumlinlaw09.ImagePrefix': WHATEVER THE INPUT: true; the input reads as it did. -/
def imagePrefixSpec : ChangeSpec := { name := "imagePrefix", fn := fun _ => fun
  | [d1, d2, d3] => { results := [.lit (.bool true)], args := [d1, d2, d3] }
  | _ => none }
def imagePrefixRow : OpenClaim := { program := "ytbblbeppiblndaa", sum := "1c337ffadcea364ce333ef16d9e7f9308f175bd860d51de9896527ec50cdd949", func := "drumlin/drumlinlaw09.ImagePrefix", spec := "imagePrefix", apart := false }
def ImagePrefixSaid : Prop := imagePrefixRow.holds Try.pinned (OpenSpec.ofChange imagePrefixSpec)

/-- ITS FALSE NEIGHBOUR: 'it returns false'. Refute it at one input. -/
def imagePrefixWrong : ChangeSpec := { name := "imagePrefix", fn := fun _ => fun
  | [d1, d2, d3] => { results := [.lit (.bool false)], args := [d1, d2, d3] }
  | _ => none }
def ImagePrefixWrongFalsely : Prop := imagePrefixRow.holds Try.pinned (OpenSpec.ofChange imagePrefixWrong)

/-- 'drumlinlaw09.ImageParts': WHATEVER THE INPUT: true; the input reads as it did. -/
def imagePartsSpec : ChangeSpec := { name := "imageParts", fn := fun _ => fun
  | [d1, d2, d3] => { results := [.lit (.bool true)], args := [d1, d2, d3] }
  | _ => none }
def imagePartsRow : OpenClaim := { program := "ytbblbeppiblndaa", sum := "1c337ffadcea364ce333ef16d9e7f9308f175bd860d51de9896527ec50cdd949", func := "drumlin/drumlinlaw09.ImageParts", spec := "imageParts", apart := false }
def ImagePartsSaid : Prop := imagePartsRow.holds Try.pinned (OpenSpec.ofChange imagePartsSpec)

/-- ITS FALSE NEIGHBOUR: 'it returns false'. Refute it at one input. -/
def imagePartsWrong : ChangeSpec := { name := "imageParts", fn := fun _ => fun
  | [d1, d2, d3] => { results := [.lit (.bool false)], args := [d1, d2, d3] }
  | _ => none }
def ImagePartsWrongFalsely : Prop := imagePartsRow.holds Try.pinned (OpenSpec.ofChange imagePartsWrong)

/-- 'drumlinlaw09.ImageRefuses': WHATEVER THE INPUT: true; the input reads as it did. -/
def imageRefusesSpec : ChangeSpec := { name := "imageRefuses", fn := fun _ => fun
  | [d1, d2] => { results := [.lit (.bool true)], args := [d1, d2] }
  | _ => none }
def imageRefusesRow : OpenClaim := { program := "ytbblbeppiblndaa", sum := "1c337ffadcea364ce333ef16d9e7f9308f175bd860d51de9896527ec50cdd949", func := "drumlin/drumlinlaw09.ImageRefuses", spec := "imageRefuses", apart := false }
def ImageRefusesSaid : Prop := imageRefusesRow.holds Try.pinned (OpenSpec.ofChange imageRefusesSpec)

/-- ITS FALSE NEIGHBOUR: 'it returns false'. Refute it at one input. -/
def imageRefusesWrong : ChangeSpec := { name := "imageRefuses", fn := fun _ => fun
  | [d1, d2] => { results := [.lit (.bool false)], args := [d1, d2] }
  | _ => none }
def ImageRefusesWrongFalsely : Prop := imageRefusesRow.holds Try.pinned (OpenSpec.ofChange imageRefusesWrong)

/-- 'drumlinlaw09.ImagePlays': WHATEVER THE INPUT: true; the input reads as it did. -/
def imagePlaysSpec : ChangeSpec := { name := "imagePlays", fn := fun _ => fun
  | [d1, d2, d3, d4] => { results := [.lit (.bool true)], args := [d1, d2, d3, d4] }
  | _ => none }
def imagePlaysRow : OpenClaim := { program := "ytbblbeppiblndaa", sum := "1c337ffadcea364ce333ef16d9e7f9308f175bd860d51de9896527ec50cdd949", func := "drumlin/drumlinlaw09.ImagePlays", spec := "imagePlays", apart := false }
def ImagePlaysSaid : Prop := imagePlaysRow.holds Try.pinned (OpenSpec.ofChange imagePlaysSpec)

/-- ITS FALSE NEIGHBOUR: 'it returns false'. Refute it at one input. -/
def imagePlaysWrong : ChangeSpec := { name := "imagePlays", fn := fun _ => fun
  | [d1, d2, d3, d4] => { results := [.lit (.bool false)], args := [d1, d2, d3, d4] }
  | _ => none }
def ImagePlaysWrongFalsely : Prop := imagePlaysRow.holds Try.pinned (OpenSpec.ofChange imagePlaysWrong)

/-- 'drumlinlaw09.ImageApart': WHATEVER THE INPUT: true; the input reads as it did. -/
def imageApartSpec : ChangeSpec := { name := "imageApart", fn := fun _ => fun
  | [d1, d2] => { results := [.lit (.bool true)], args := [d1, d2] }
  | _ => none }
def imageApartRow : OpenClaim := { program := "ytbblbeppiblndaa", sum := "1c337ffadcea364ce333ef16d9e7f9308f175bd860d51de9896527ec50cdd949", func := "drumlin/drumlinlaw09.ImageApart", spec := "imageApart", apart := false }
def ImageApartSaid : Prop := imageApartRow.holds Try.pinned (OpenSpec.ofChange imageApartSpec)

/-- ITS FALSE NEIGHBOUR: 'it returns false'. Refute it at one input. -/
def imageApartWrong : ChangeSpec := { name := "imageApart", fn := fun _ => fun
  | [d1, d2] => { results := [.lit (.bool false)], args := [d1, d2] }
  | _ => none }
def ImageApartWrongFalsely : Prop := imageApartRow.holds Try.pinned (OpenSpec.ofChange imageApartWrong)

/-- 'drumlinlaw09.ImageNil': WHATEVER THE INPUT: true; the input reads as it did. -/
def imageNilSpec : ChangeSpec := { name := "imageNil", fn := fun _ => fun
  | [d1, d2] => { results := [.lit (.bool true)], args := [d1, d2] }
  | _ => none }
def imageNilRow : OpenClaim := { program := "ytbblbeppiblndaa", sum := "1c337ffadcea364ce333ef16d9e7f9308f175bd860d51de9896527ec50cdd949", func := "drumlin/drumlinlaw09.ImageNil", spec := "imageNil", apart := false }
def ImageNilSaid : Prop := imageNilRow.holds Try.pinned (OpenSpec.ofChange imageNilSpec)

/-- ITS FALSE NEIGHBOUR: 'it returns false'. Refute it at one input. -/
def imageNilWrong : ChangeSpec := { name := "imageNil", fn := fun _ => fun
  | [d1, d2] => { results := [.lit (.bool false)], args := [d1, d2] }
  | _ => none }
def ImageNilWrongFalsely : Prop := imageNilRow.holds Try.pinned (OpenSpec.ofChange imageNilWrong)

/-- 'drumlinlaw09.ImageRoom': WHATEVER THE INPUT: true; the input reads as it did. -/
def imageRoomSpec : ChangeSpec := { name := "imageRoom", fn := fun _ => fun
  | [d1, d2] => { results := [.lit (.bool true)], args := [d1, d2] }
  | _ => none }
def imageRoomRow : OpenClaim := { program := "ytbblbeppiblndaa", sum := "1c337ffadcea364ce333ef16d9e7f9308f175bd860d51de9896527ec50cdd949", func := "drumlin/drumlinlaw09.ImageRoom", spec := "imageRoom", inPlace := ["internal/bytealg.MakeNoZero"], apart := false }
def ImageRoomSaid : Prop := imageRoomRow.holds Try.pinned (OpenSpec.ofChange imageRoomSpec)

/-- ITS FALSE NEIGHBOUR: 'it returns false'. Refute it at one input. -/
def imageRoomWrong : ChangeSpec := { name := "imageRoom", fn := fun _ => fun
  | [d1, d2] => { results := [.lit (.bool false)], args := [d1, d2] }
  | _ => none }
def ImageRoomWrongFalsely : Prop := imageRoomRow.holds Try.pinned (OpenSpec.ofChange imageRoomWrong)

/- THE SECOND FORM. 'bulk': how many values and letters a reading holds, each counted each time it is reached (what is shared counts as often as it is met; a slice's spare places count too). A statement '..UptoSaid' is the law's where the arguments, and the package variables that the reading takes, are together of bulk at most 1048576: NARROWER than '..Said'. Prove '..Said' where nothing that the law and all that it calls make is longer than what came in: it says more and counts as full. Else prove '..UptoSaid'. A law counts once. -/
mutual
def uptoBulk {H : Type} : DataW H → Nat
  | .lit (.string bytes) => bytes.length + 1
  | .lit _ => 1
  | .nil => 1
  | .ptr d => uptoBulk d + 1
  | .slice elems spare => uptoBulkAll elems + uptoBulkAll spare + 1
  | .agg parts => uptoBulkAll parts + 1
  | .iface _ d => uptoBulk d + 1
  | .map entries => uptoBulkEntries entries + 1
  | .held _ => 1
def uptoBulkAll {H : Type} : List (DataW H) → Nat
  | [] => 0
  | d :: r => uptoBulk d + uptoBulkAll r
def uptoBulkEntries {H : Type} : List (Lit × DataW H) → Nat
  | [] => 0
  | x :: r => uptoBulkEntry x + uptoBulkEntries r
def uptoBulkEntry {H : Type} : Lit × DataW H → Nat
  | (.string bytes, d) => bytes.length + uptoBulk d + 1
  | (_, d) => uptoBulk d + 1
 end
def uptoSmall : (H : Type) → List (DataW H) → Bool := fun _ ds => decide (uptoBulkAll ds ≤ 1048576)
def OpenSpec.upto (s : _root_.Go.ChangeSpec) : _root_.Go.OpenSpec := { _root_.Go.OpenSpec.ofChange s with cond := some uptoSmall }

/-- 'drumlinlaw09.ImagePrefix', WHERE WHAT IT READS IS OF BULK AT MOST 1048576: true; the input reads as it did. -/
def imagePrefixUptoRow : OpenClaim := { program := "ytbblbeppiblndaa", sum := "1c337ffadcea364ce333ef16d9e7f9308f175bd860d51de9896527ec50cdd949", func := "drumlin/drumlinlaw09.ImagePrefix", spec := "imagePrefix", apart := false, narrowed := true }
def ImagePrefixUptoSaid : Prop := imagePrefixUptoRow.holds Try.pinned (OpenSpec.upto imagePrefixSpec)

/-- 'drumlinlaw09.ImageParts', WHERE WHAT IT READS IS OF BULK AT MOST 1048576: true; the input reads as it did. -/
def imagePartsUptoRow : OpenClaim := { program := "ytbblbeppiblndaa", sum := "1c337ffadcea364ce333ef16d9e7f9308f175bd860d51de9896527ec50cdd949", func := "drumlin/drumlinlaw09.ImageParts", spec := "imageParts", apart := false, narrowed := true }
def ImagePartsUptoSaid : Prop := imagePartsUptoRow.holds Try.pinned (OpenSpec.upto imagePartsSpec)

/-- 'drumlinlaw09.ImageRefuses', WHERE WHAT IT READS IS OF BULK AT MOST 1048576: true; the input reads as it did. -/
def imageRefusesUptoRow : OpenClaim := { program := "ytbblbeppiblndaa", sum := "1c337ffadcea364ce333ef16d9e7f9308f175bd860d51de9896527ec50cdd949", func := "drumlin/drumlinlaw09.ImageRefuses", spec := "imageRefuses", apart := false, narrowed := true }
def ImageRefusesUptoSaid : Prop := imageRefusesUptoRow.holds Try.pinned (OpenSpec.upto imageRefusesSpec)

/-- 'drumlinlaw09.ImagePlays', WHERE WHAT IT READS IS OF BULK AT MOST 1048576: true; the input reads as it did. -/
def imagePlaysUptoRow : OpenClaim := { program := "ytbblbeppiblndaa", sum := "1c337ffadcea364ce333ef16d9e7f9308f175bd860d51de9896527ec50cdd949", func := "drumlin/drumlinlaw09.ImagePlays", spec := "imagePlays", apart := false, narrowed := true }
def ImagePlaysUptoSaid : Prop := imagePlaysUptoRow.holds Try.pinned (OpenSpec.upto imagePlaysSpec)

/-- 'drumlinlaw09.ImageApart', WHERE WHAT IT READS IS OF BULK AT MOST 1048576: true; the input reads as it did. -/
def imageApartUptoRow : OpenClaim := { program := "ytbblbeppiblndaa", sum := "1c337ffadcea364ce333ef16d9e7f9308f175bd860d51de9896527ec50cdd949", func := "drumlin/drumlinlaw09.ImageApart", spec := "imageApart", apart := false, narrowed := true }
def ImageApartUptoSaid : Prop := imageApartUptoRow.holds Try.pinned (OpenSpec.upto imageApartSpec)

/-- 'drumlinlaw09.ImageNil', WHERE WHAT IT READS IS OF BULK AT MOST 1048576: true; the input reads as it did. -/
def imageNilUptoRow : OpenClaim := { program := "ytbblbeppiblndaa", sum := "1c337ffadcea364ce333ef16d9e7f9308f175bd860d51de9896527ec50cdd949", func := "drumlin/drumlinlaw09.ImageNil", spec := "imageNil", apart := false, narrowed := true }
def ImageNilUptoSaid : Prop := imageNilUptoRow.holds Try.pinned (OpenSpec.upto imageNilSpec)

/-- 'drumlinlaw09.ImageRoom', WHERE WHAT IT READS IS OF BULK AT MOST 1048576: true; the input reads as it did. -/
def imageRoomUptoRow : OpenClaim := { program := "ytbblbeppiblndaa", sum := "1c337ffadcea364ce333ef16d9e7f9308f175bd860d51de9896527ec50cdd949", func := "drumlin/drumlinlaw09.ImageRoom", spec := "imageRoom", inPlace := ["internal/bytealg.MakeNoZero"], apart := false, narrowed := true }
def ImageRoomUptoSaid : Prop := imageRoomUptoRow.holds Try.pinned (OpenSpec.upto imageRoomSpec)

end Rows
end Go.Proofs.Ytbblbeppiblndaa
