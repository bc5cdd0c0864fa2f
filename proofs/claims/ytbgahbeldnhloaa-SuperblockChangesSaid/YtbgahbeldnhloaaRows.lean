/-
  No cell of these rows narrows 'for every input' (looked for: loops, veiled, ifaces, maps, wideKeys, modest, calm, conditions, laid).
  DERIVED. THE GIVEN ROWS OF THIS SEAT. 8 by the template 'for every input the law returns true; each argument reads behind the call as it read before'; 0 by the template 'total and deterministic' (their statements: YtbgahbeldnhloaaTotals.lean).
  GIVEN WITH THE SEED: the statements are not yours to turn. If you find one false, say at which input.
  Laid BY PROGRAM, IN A SANDBOX (cutbox-rows.mjs): the forced cells as the released guide's own fill.sh prints them over the translation 9c820e2c42011112… (all of the seat's roots in one cut). By AI agents, Wed Nov 11 2026. No macro, syntax, notation, axiom, sorry.
-/
import Derived.Test.YtbgahbeldnhloaaChecked
import GoSem.Claim
import GoSem.ClaimJoined
import GoSem.ClaimMapViews
import Derived.JoinedTies
import Derived.KernelRfl
namespace Go.Proofs.Ytbgahbeldnhloaa
/- THE CELL 'sum', in the pinned program and in every row, IS THE sha256 OF THE DUMP (.gsa) THAT YtbgahbeldnhloaaProg.lean LOADS. Nothing in Lean hashes anything: it is a label: what it is worth is what the hold of that sum in a sandbox is worth. -/
noncomputable def Try.pinned : Pinned := { name := "ytbgahbeldnhloaa", sum := "9c820e2c420111125832f01363063f6d25ccd48329ce97cc643d8ad1157fa0d0", checked := Try.checked }
namespace Rows
def none {H : Type} : Left H := { results := [], args := [] }

/-- 'drumlinlaw18.SuperblockEncodes': WHATEVER THE INPUT: true; the input reads as it did. -/
def superblockEncodesSpec : ChangeSpec := { name := "superblockEncodes", fn := fun _ => fun
  | [d] => { results := [.lit (.bool true)], args := [d] }
  | _ => none }
def superblockEncodesRow : OpenClaim := { program := "ytbgahbeldnhloaa", sum := "9c820e2c420111125832f01363063f6d25ccd48329ce97cc643d8ad1157fa0d0", func := "drumlin/drumlinlaw18.SuperblockEncodes", spec := "superblockEncodes", unfollowed := true, recurses := true, apart := false }
def SuperblockEncodesSaid : Prop := superblockEncodesRow.holds Try.pinned (OpenSpec.ofChange superblockEncodesSpec)

/-- ITS FALSE NEIGHBOUR: 'it returns false'. Refute it at one input. -/
def superblockEncodesWrong : ChangeSpec := { name := "superblockEncodes", fn := fun _ => fun
  | [d] => { results := [.lit (.bool false)], args := [d] }
  | _ => none }
def SuperblockEncodesWrongFalsely : Prop := superblockEncodesRow.holds Try.pinned (OpenSpec.ofChange superblockEncodesWrong)

/-- 'drumlinlaw18.SuperblockDecodes': WHATEVER THE INPUT: true; the input reads as it did. -/
def superblockDecodesSpec : ChangeSpec := { name := "superblockDecodes", fn := fun _ => fun
  | [d] => { results := [.lit (.bool true)], args := [d] }
  | _ => none }
def superblockDecodesRow : OpenClaim := { program := "ytbgahbeldnhloaa", sum := "9c820e2c420111125832f01363063f6d25ccd48329ce97cc643d8ad1157fa0d0", func := "drumlin/drumlinlaw18.SuperblockDecodes", spec := "superblockDecodes", unfollowed := true, recurses := true, apart := false }
def SuperblockDecodesSaid : Prop := superblockDecodesRow.holds Try.pinned (OpenSpec.ofChange superblockDecodesSpec)

/-- ITS FALSE NEIGHBOUR: 'it returns false'. Refute it at one input. -/
def superblockDecodesWrong : ChangeSpec := { name := "superblockDecodes", fn := fun _ => fun
  | [d] => { results := [.lit (.bool false)], args := [d] }
  | _ => none }
def SuperblockDecodesWrongFalsely : Prop := superblockDecodesRow.holds Try.pinned (OpenSpec.ofChange superblockDecodesWrong)

/-- 'drumlinlaw18.SuperblockNexts': WHATEVER THE INPUT: true; the input reads as it did. -/
def superblockNextsSpec : ChangeSpec := { name := "superblockNexts", fn := fun _ => fun
  | [d1, d2] => { results := [.lit (.bool true)], args := [d1, d2] }
  | _ => none }
def superblockNextsRow : OpenClaim := { program := "ytbgahbeldnhloaa", sum := "9c820e2c420111125832f01363063f6d25ccd48329ce97cc643d8ad1157fa0d0", func := "drumlin/drumlinlaw18.SuperblockNexts", spec := "superblockNexts", unfollowed := true, recurses := true, apart := false }
def SuperblockNextsSaid : Prop := superblockNextsRow.holds Try.pinned (OpenSpec.ofChange superblockNextsSpec)

/-- ITS FALSE NEIGHBOUR: 'it returns false'. Refute it at one input. -/
def superblockNextsWrong : ChangeSpec := { name := "superblockNexts", fn := fun _ => fun
  | [d1, d2] => { results := [.lit (.bool false)], args := [d1, d2] }
  | _ => none }
def SuperblockNextsWrongFalsely : Prop := superblockNextsRow.holds Try.pinned (OpenSpec.ofChange superblockNextsWrong)

/-- 'drumlinlaw18.SuperblockBack': WHATEVER THE INPUT: true; the input reads as it did. -/
def superblockBackSpec : ChangeSpec := { name := "superblockBack", fn := fun _ => fun
  | [d1, d2] => { results := [.lit (.bool true)], args := [d1, d2] }
  | _ => none }
def superblockBackRow : OpenClaim := { program := "ytbgahbeldnhloaa", sum := "9c820e2c420111125832f01363063f6d25ccd48329ce97cc643d8ad1157fa0d0", func := "drumlin/drumlinlaw18.SuperblockBack", spec := "superblockBack", unfollowed := true, recurses := true, apart := false }
def SuperblockBackSaid : Prop := superblockBackRow.holds Try.pinned (OpenSpec.ofChange superblockBackSpec)

/-- ITS FALSE NEIGHBOUR: 'it returns false'. Refute it at one input. -/
def superblockBackWrong : ChangeSpec := { name := "superblockBack", fn := fun _ => fun
  | [d1, d2] => { results := [.lit (.bool false)], args := [d1, d2] }
  | _ => none }
def SuperblockBackWrongFalsely : Prop := superblockBackRow.holds Try.pinned (OpenSpec.ofChange superblockBackWrong)

/-- 'drumlinlaw18.SuperblockReads': WHATEVER THE INPUT: true; the input reads as it did. -/
def superblockReadsSpec : ChangeSpec := { name := "superblockReads", fn := fun _ => fun
  | [d] => { results := [.lit (.bool true)], args := [d] }
  | _ => none }
def superblockReadsRow : OpenClaim := { program := "ytbgahbeldnhloaa", sum := "9c820e2c420111125832f01363063f6d25ccd48329ce97cc643d8ad1157fa0d0", func := "drumlin/drumlinlaw18.SuperblockReads", spec := "superblockReads", unfollowed := true, recurses := true, apart := false }
def SuperblockReadsSaid : Prop := superblockReadsRow.holds Try.pinned (OpenSpec.ofChange superblockReadsSpec)

/-- ITS FALSE NEIGHBOUR: 'it returns false'. Refute it at one input. -/
def superblockReadsWrong : ChangeSpec := { name := "superblockReads", fn := fun _ => fun
  | [d] => { results := [.lit (.bool false)], args := [d] }
  | _ => none }
def SuperblockReadsWrongFalsely : Prop := superblockReadsRow.holds Try.pinned (OpenSpec.ofChange superblockReadsWrong)

/-- 'drumlinlaw18.SuperblockChanges': WHATEVER THE INPUT: true; the input reads as it did. -/
def superblockChangesSpec : ChangeSpec := { name := "superblockChanges", fn := fun _ => fun
  | [d1, d2, d3] => { results := [.lit (.bool true)], args := [d1, d2, d3] }
  | _ => none }
def superblockChangesRow : OpenClaim := { program := "ytbgahbeldnhloaa", sum := "9c820e2c420111125832f01363063f6d25ccd48329ce97cc643d8ad1157fa0d0", func := "drumlin/drumlinlaw18.SuperblockChanges", spec := "superblockChanges", unfollowed := true, recurses := true, apart := false }
def SuperblockChangesSaid : Prop := superblockChangesRow.holds Try.pinned (OpenSpec.ofChange superblockChangesSpec)

/-- ITS FALSE NEIGHBOUR: 'it returns false'. Refute it at one input. -/
def superblockChangesWrong : ChangeSpec := { name := "superblockChanges", fn := fun _ => fun
  | [d1, d2, d3] => { results := [.lit (.bool false)], args := [d1, d2, d3] }
  | _ => none }
def SuperblockChangesWrongFalsely : Prop := superblockChangesRow.holds Try.pinned (OpenSpec.ofChange superblockChangesWrong)

/-- 'drumlinlaw18.SuperblockEpochs': WHATEVER THE INPUT: true; the input reads as it did. -/
def superblockEpochsSpec : ChangeSpec := { name := "superblockEpochs", fn := fun _ => fun
  | [d1, d2] => { results := [.lit (.bool true)], args := [d1, d2] }
  | _ => none }
def superblockEpochsRow : OpenClaim := { program := "ytbgahbeldnhloaa", sum := "9c820e2c420111125832f01363063f6d25ccd48329ce97cc643d8ad1157fa0d0", func := "drumlin/drumlinlaw18.SuperblockEpochs", spec := "superblockEpochs", unfollowed := true, recurses := true, apart := false }
def SuperblockEpochsSaid : Prop := superblockEpochsRow.holds Try.pinned (OpenSpec.ofChange superblockEpochsSpec)

/-- ITS FALSE NEIGHBOUR: 'it returns false'. Refute it at one input. -/
def superblockEpochsWrong : ChangeSpec := { name := "superblockEpochs", fn := fun _ => fun
  | [d1, d2] => { results := [.lit (.bool false)], args := [d1, d2] }
  | _ => none }
def SuperblockEpochsWrongFalsely : Prop := superblockEpochsRow.holds Try.pinned (OpenSpec.ofChange superblockEpochsWrong)

/-- 'drumlinlaw18.SuperblockRefuses': WHATEVER THE INPUT: true; the input reads as it did. -/
def superblockRefusesSpec : ChangeSpec := { name := "superblockRefuses", fn := fun _ => fun
  | [d1, d2, d3] => { results := [.lit (.bool true)], args := [d1, d2, d3] }
  | _ => none }
def superblockRefusesRow : OpenClaim := { program := "ytbgahbeldnhloaa", sum := "9c820e2c420111125832f01363063f6d25ccd48329ce97cc643d8ad1157fa0d0", func := "drumlin/drumlinlaw18.SuperblockRefuses", spec := "superblockRefuses", unfollowed := true, recurses := true, apart := false }
def SuperblockRefusesSaid : Prop := superblockRefusesRow.holds Try.pinned (OpenSpec.ofChange superblockRefusesSpec)

/-- ITS FALSE NEIGHBOUR: 'it returns false'. Refute it at one input. -/
def superblockRefusesWrong : ChangeSpec := { name := "superblockRefuses", fn := fun _ => fun
  | [d1, d2, d3] => { results := [.lit (.bool false)], args := [d1, d2, d3] }
  | _ => none }
def SuperblockRefusesWrongFalsely : Prop := superblockRefusesRow.holds Try.pinned (OpenSpec.ofChange superblockRefusesWrong)

/- THE SECOND FORM. 'bulk': how many values and letters a reading holds, each counted each time it is reached (what is shared counts as often as it is met; a slice's spare places count too). A statement '..UptoSaid' is the law's where the arguments, and the package variables that the reading takes, are together of bulk at most 1048576: NARROWER than '..Said'. Prove '..Said' where nothing that the law and all that it calls make is longer than what came in: it says more and counts as full. Else prove '..UptoSaid'. A law counts once. -/
mutual
def uptoBulk {H : Type} : DataW H → Nat
  | .lit (.string bytes) => bytes.length + 1
  | .lit _ => 1
  | .nil => 1
  | .ptr d => uptoBulk d + 1
  | .slice elems spare => uptoBulkAll elems + uptoBulkAll spare + 1
  | .agg parts => uptoBulkAll parts + 1
  | .iface _ d => uptoBulk d + 1
  | .map entries => uptoBulkEntries entries + 1
  | .held _ => 1
def uptoBulkAll {H : Type} : List (DataW H) → Nat
  | [] => 0
  | d :: r => uptoBulk d + uptoBulkAll r
def uptoBulkEntries {H : Type} : List (Lit × DataW H) → Nat
  | [] => 0
  | x :: r => uptoBulkEntry x + uptoBulkEntries r
def uptoBulkEntry {H : Type} : Lit × DataW H → Nat
  | (.string bytes, d) => bytes.length + uptoBulk d + 1
  | (_, d) => uptoBulk d + 1
 end
def uptoSmall : (H : Type) → List (DataW H) → Bool := fun _ ds => decide (uptoBulkAll ds ≤ 1048576)
def OpenSpec.upto (s : _root_.Go.ChangeSpec) : _root_.Go.OpenSpec := { _root_.Go.OpenSpec.ofChange s with cond := some uptoSmall }

/-- 'drumlinlaw18.SuperblockEncodes', WHERE WHAT IT READS IS OF BULK AT MOST 1048576: true; the input reads as it did. -/
def superblockEncodesUptoRow : OpenClaim := { program := "ytbgahbeldnhloaa", sum := "9c820e2c420111125832f01363063f6d25ccd48329ce97cc643d8ad1157fa0d0", func := "drumlin/drumlinlaw18.SuperblockEncodes", spec := "superblockEncodes", unfollowed := true, recurses := true, apart := false, narrowed := true }
def SuperblockEncodesUptoSaid : Prop := superblockEncodesUptoRow.holds Try.pinned (OpenSpec.upto superblockEncodesSpec)

/-- 'drumlinlaw18.SuperblockDecodes', WHERE WHAT IT READS IS OF BULK AT MOST 1048576: true; the input reads as it did. -/
def superblockDecodesUptoRow : OpenClaim := { program := "ytbgahbeldnhloaa", sum := "9c820e2c420111125832f01363063f6d25ccd48329ce97cc643d8ad1157fa0d0", func := "drumlin/drumlinlaw18.SuperblockDecodes", spec := "superblockDecodes", unfollowed := true, recurses := true, apart := false, narrowed := true }
def SuperblockDecodesUptoSaid : Prop := superblockDecodesUptoRow.holds Try.pinned (OpenSpec.upto superblockDecodesSpec)

/-- 'drumlinlaw18.SuperblockNexts', WHERE WHAT IT READS IS OF BULK AT MOST 1048576: true; the input reads as it did. -/
def superblockNextsUptoRow : OpenClaim := { program := "ytbgahbeldnhloaa", sum := "9c820e2c420111125832f01363063f6d25ccd48329ce97cc643d8ad1157fa0d0", func := "drumlin/drumlinlaw18.SuperblockNexts", spec := "superblockNexts", unfollowed := true, recurses := true, apart := false, narrowed := true }
def SuperblockNextsUptoSaid : Prop := superblockNextsUptoRow.holds Try.pinned (OpenSpec.upto superblockNextsSpec)

/-- 'drumlinlaw18.SuperblockBack', WHERE WHAT IT READS IS OF BULK AT MOST 1048576: true; the input reads as it did. -/
def superblockBackUptoRow : OpenClaim := { program := "ytbgahbeldnhloaa", sum := "9c820e2c420111125832f01363063f6d25ccd48329ce97cc643d8ad1157fa0d0", func := "drumlin/drumlinlaw18.SuperblockBack", spec := "superblockBack", unfollowed := true, recurses := true, apart := false, narrowed := true }
def SuperblockBackUptoSaid : Prop := superblockBackUptoRow.holds Try.pinned (OpenSpec.upto superblockBackSpec)

/-- 'drumlinlaw18.SuperblockReads', WHERE WHAT IT READS IS OF BULK AT MOST 1048576: true; the input reads as it did. -/
def superblockReadsUptoRow : OpenClaim := { program := "ytbgahbeldnhloaa", sum := "9c820e2c420111125832f01363063f6d25ccd48329ce97cc643d8ad1157fa0d0", func := "drumlin/drumlinlaw18.SuperblockReads", spec := "superblockReads", unfollowed := true, recurses := true, apart := false, narrowed := true }
def SuperblockReadsUptoSaid : Prop := superblockReadsUptoRow.holds Try.pinned (OpenSpec.upto superblockReadsSpec)

/-- 'drumlinlaw18.SuperblockChanges', WHERE WHAT IT READS IS OF BULK AT MOST 1048576: true; the input reads as it did. -/
def superblockChangesUptoRow : OpenClaim := { program := "ytbgahbeldnhloaa", sum := "9c820e2c420111125832f01363063f6d25ccd48329ce97cc643d8ad1157fa0d0", func := "drumlin/drumlinlaw18.SuperblockChanges", spec := "superblockChanges", unfollowed := true, recurses := true, apart := false, narrowed := true }
def SuperblockChangesUptoSaid : Prop := superblockChangesUptoRow.holds Try.pinned (OpenSpec.upto superblockChangesSpec)

/-- 'drumlinlaw18.SuperblockEpochs', WHERE WHAT IT READS IS OF BULK AT MOST 1048576: true; the input reads as it did. -/
def superblockEpochsUptoRow : OpenClaim := { program := "ytbgahbeldnhloaa", sum := "9c820e2c420111125832f01363063f6d25ccd48329ce97cc643d8ad1157fa0d0", func := "drumlin/drumlinlaw18.SuperblockEpochs", spec := "superblockEpochs", unfollowed := true, recurses := true, apart := false, narrowed := true }
def SuperblockEpochsUptoSaid : Prop := superblockEpochsUptoRow.holds Try.pinned (OpenSpec.upto superblockEpochsSpec)

/-- 'drumlinlaw18.SuperblockRefuses', WHERE WHAT IT READS IS OF BULK AT MOST 1048576: true; the input reads as it did. -/
def superblockRefusesUptoRow : OpenClaim := { program := "ytbgahbeldnhloaa", sum := "9c820e2c420111125832f01363063f6d25ccd48329ce97cc643d8ad1157fa0d0", func := "drumlin/drumlinlaw18.SuperblockRefuses", spec := "superblockRefuses", unfollowed := true, recurses := true, apart := false, narrowed := true }
def SuperblockRefusesUptoSaid : Prop := superblockRefusesUptoRow.holds Try.pinned (OpenSpec.upto superblockRefusesSpec)

end Rows
end Go.Proofs.Ytbgahbeldnhloaa
