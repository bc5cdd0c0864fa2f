/-
  No cell of these rows narrows 'for every input' (looked for: loops, veiled, ifaces, maps, wideKeys, modest, calm, conditions, laid).
  DERIVED. THE GIVEN ROWS OF THIS SEAT. 7 by the template 'for every input the law returns true; each argument reads behind the call as it read before'; 0 by the template 'total and deterministic' (their statements: YteglaedkhopbgaaTotals.lean).
  GIVEN WITH THE SEED: the statements are not yours to turn. If you find one false, say at which input.
  Laid BY PROGRAM, IN A SANDBOX (cutbox-rows.mjs): the forced cells as the released guide's own fill.sh prints them over the translation 0cd1d232c88f019d… (all of the seat's roots in one cut). By AI agents, Wed Nov 11 2026. No macro, syntax, notation, axiom, sorry.
-/
import Derived.Test.YteglaedkhopbgaaChecked
import GoSem.Claim
import GoSem.ClaimJoined
import GoSem.ClaimMapViews
import Derived.JoinedTies
import Derived.KernelRfl
namespace Go.Proofs.Yteglaedkhopbgaa
/- THE CELL 'sum', in the pinned program and in every row, IS THE sha256 OF THE DUMP (.gsa) THAT YteglaedkhopbgaaProg.lean LOADS. Nothing in Lean hashes anything: it is a label: what it is worth is what the hold of that sum in a sandbox is worth. -/
noncomputable def Try.pinned : Pinned := { name := "yteglaedkhopbgaa", sum := "0cd1d232c88f019d90c112cc392c7573e8e1f6e43c61ba23c5cf1558e0223033", checked := Try.checked }
namespace Rows
def none {H : Type} : Left H := { results := [], args := [] }

/-- 'drumlinlaw12.DeviceKnown': WHATEVER THE INPUT: true; the input reads as it did. -/
def deviceKnownSpec : ChangeSpec := { name := "deviceKnown", fn := fun _ => fun
  | [] => { results := [.lit (.bool true)], args := [] }
  | _ => none }
def deviceKnownRow : OpenClaim := { program := "yteglaedkhopbgaa", sum := "0cd1d232c88f019d90c112cc392c7573e8e1f6e43c61ba23c5cf1558e0223033", func := "drumlin/drumlinlaw12.DeviceKnown", spec := "deviceKnown", unfollowed := true, recurses := true, apart := false }
def DeviceKnownSaid : Prop := deviceKnownRow.holds Try.pinned (OpenSpec.ofChange deviceKnownSpec)

/-- ITS FALSE NEIGHBOUR: 'it returns false'. Refute it at one input. -/
def deviceKnownWrong : ChangeSpec := { name := "deviceKnown", fn := fun _ => fun
  | [] => { results := [.lit (.bool false)], args := [] }
  | _ => none }
def DeviceKnownWrongFalsely : Prop := deviceKnownRow.holds Try.pinned (OpenSpec.ofChange deviceKnownWrong)

/-- 'drumlinlaw12.DeviceReads': WHATEVER THE INPUT: true; the input reads as it did. -/
def deviceReadsSpec : ChangeSpec := { name := "deviceReads", fn := fun _ => fun
  | [d1, d2, d3] => { results := [.lit (.bool true)], args := [d1, d2, d3] }
  | _ => none }
def deviceReadsRow : OpenClaim := { program := "yteglaedkhopbgaa", sum := "0cd1d232c88f019d90c112cc392c7573e8e1f6e43c61ba23c5cf1558e0223033", func := "drumlin/drumlinlaw12.DeviceReads", spec := "deviceReads", unfollowed := true, recurses := true, apart := false }
def DeviceReadsSaid : Prop := deviceReadsRow.holds Try.pinned (OpenSpec.ofChange deviceReadsSpec)

/-- ITS FALSE NEIGHBOUR: 'it returns false'. Refute it at one input. -/
def deviceReadsWrong : ChangeSpec := { name := "deviceReads", fn := fun _ => fun
  | [d1, d2, d3] => { results := [.lit (.bool false)], args := [d1, d2, d3] }
  | _ => none }
def DeviceReadsWrongFalsely : Prop := deviceReadsRow.holds Try.pinned (OpenSpec.ofChange deviceReadsWrong)

/-- 'drumlinlaw12.DeviceCounts': WHATEVER THE INPUT: true; the input reads as it did. -/
def deviceCountsSpec : ChangeSpec := { name := "deviceCounts", fn := fun _ => fun
  | [d1, d2, d3, d4] => { results := [.lit (.bool true)], args := [d1, d2, d3, d4] }
  | _ => none }
def deviceCountsRow : OpenClaim := { program := "yteglaedkhopbgaa", sum := "0cd1d232c88f019d90c112cc392c7573e8e1f6e43c61ba23c5cf1558e0223033", func := "drumlin/drumlinlaw12.DeviceCounts", spec := "deviceCounts", unfollowed := true, recurses := true, apart := false }
def DeviceCountsSaid : Prop := deviceCountsRow.holds Try.pinned (OpenSpec.ofChange deviceCountsSpec)

/-- ITS FALSE NEIGHBOUR: 'it returns false'. Refute it at one input. -/
def deviceCountsWrong : ChangeSpec := { name := "deviceCounts", fn := fun _ => fun
  | [d1, d2, d3, d4] => { results := [.lit (.bool false)], args := [d1, d2, d3, d4] }
  | _ => none }
def DeviceCountsWrongFalsely : Prop := deviceCountsRow.holds Try.pinned (OpenSpec.ofChange deviceCountsWrong)

/-- 'drumlinlaw12.DeviceRefuses': WHATEVER THE INPUT: true; the input reads as it did. -/
def deviceRefusesSpec : ChangeSpec := { name := "deviceRefuses", fn := fun _ => fun
  | [d1, d2, d3, d4] => { results := [.lit (.bool true)], args := [d1, d2, d3, d4] }
  | _ => none }
def deviceRefusesRow : OpenClaim := { program := "yteglaedkhopbgaa", sum := "0cd1d232c88f019d90c112cc392c7573e8e1f6e43c61ba23c5cf1558e0223033", func := "drumlin/drumlinlaw12.DeviceRefuses", spec := "deviceRefuses", unfollowed := true, recurses := true, apart := false }
def DeviceRefusesSaid : Prop := deviceRefusesRow.holds Try.pinned (OpenSpec.ofChange deviceRefusesSpec)

/-- ITS FALSE NEIGHBOUR: 'it returns false'. Refute it at one input. -/
def deviceRefusesWrong : ChangeSpec := { name := "deviceRefuses", fn := fun _ => fun
  | [d1, d2, d3, d4] => { results := [.lit (.bool false)], args := [d1, d2, d3, d4] }
  | _ => none }
def DeviceRefusesWrongFalsely : Prop := deviceRefusesRow.holds Try.pinned (OpenSpec.ofChange deviceRefusesWrong)

/-- 'drumlinlaw12.DeviceCrash': WHATEVER THE INPUT: true; the input reads as it did. -/
def deviceCrashSpec : ChangeSpec := { name := "deviceCrash", fn := fun _ => fun
  | [d1, d2, d3, d4, d5, d6] => { results := [.lit (.bool true)], args := [d1, d2, d3, d4, d5, d6] }
  | _ => none }
def deviceCrashRow : OpenClaim := { program := "yteglaedkhopbgaa", sum := "0cd1d232c88f019d90c112cc392c7573e8e1f6e43c61ba23c5cf1558e0223033", func := "drumlin/drumlinlaw12.DeviceCrash", spec := "deviceCrash", unfollowed := true, recurses := true, apart := false }
def DeviceCrashSaid : Prop := deviceCrashRow.holds Try.pinned (OpenSpec.ofChange deviceCrashSpec)

/-- ITS FALSE NEIGHBOUR: 'it returns false'. Refute it at one input. -/
def deviceCrashWrong : ChangeSpec := { name := "deviceCrash", fn := fun _ => fun
  | [d1, d2, d3, d4, d5, d6] => { results := [.lit (.bool false)], args := [d1, d2, d3, d4, d5, d6] }
  | _ => none }
def DeviceCrashWrongFalsely : Prop := deviceCrashRow.holds Try.pinned (OpenSpec.ofChange deviceCrashWrong)

/-- 'drumlinlaw12.DeviceCopies': WHATEVER THE INPUT: true; the input reads as it did. -/
def deviceCopiesSpec : ChangeSpec := { name := "deviceCopies", fn := fun _ => fun
  | [d1, d2, d3, d4, d5] => { results := [.lit (.bool true)], args := [d1, d2, d3, d4, d5] }
  | _ => none }
def deviceCopiesRow : OpenClaim := { program := "yteglaedkhopbgaa", sum := "0cd1d232c88f019d90c112cc392c7573e8e1f6e43c61ba23c5cf1558e0223033", func := "drumlin/drumlinlaw12.DeviceCopies", spec := "deviceCopies", unfollowed := true, recurses := true, apart := false }
def DeviceCopiesSaid : Prop := deviceCopiesRow.holds Try.pinned (OpenSpec.ofChange deviceCopiesSpec)

/-- ITS FALSE NEIGHBOUR: 'it returns false'. Refute it at one input. -/
def deviceCopiesWrong : ChangeSpec := { name := "deviceCopies", fn := fun _ => fun
  | [d1, d2, d3, d4, d5] => { results := [.lit (.bool false)], args := [d1, d2, d3, d4, d5] }
  | _ => none }
def DeviceCopiesWrongFalsely : Prop := deviceCopiesRow.holds Try.pinned (OpenSpec.ofChange deviceCopiesWrong)

/-- 'drumlinlaw12.DeviceNil': WHATEVER THE INPUT: true; the input reads as it did. -/
def deviceNilSpec : ChangeSpec := { name := "deviceNil", fn := fun _ => fun
  | [d] => { results := [.lit (.bool true)], args := [d] }
  | _ => none }
def deviceNilRow : OpenClaim := { program := "yteglaedkhopbgaa", sum := "0cd1d232c88f019d90c112cc392c7573e8e1f6e43c61ba23c5cf1558e0223033", func := "drumlin/drumlinlaw12.DeviceNil", spec := "deviceNil", unfollowed := true, recurses := true, apart := false }
def DeviceNilSaid : Prop := deviceNilRow.holds Try.pinned (OpenSpec.ofChange deviceNilSpec)

/-- ITS FALSE NEIGHBOUR: 'it returns false'. Refute it at one input. -/
def deviceNilWrong : ChangeSpec := { name := "deviceNil", fn := fun _ => fun
  | [d] => { results := [.lit (.bool false)], args := [d] }
  | _ => none }
def DeviceNilWrongFalsely : Prop := deviceNilRow.holds Try.pinned (OpenSpec.ofChange deviceNilWrong)

/- THE SECOND FORM. 'bulk': how many values and letters a reading holds, each counted each time it is reached (what is shared counts as often as it is met; a slice's spare places count too). A statement '..UptoSaid' is the law's where the arguments, and the package variables that the reading takes, are together of bulk at most 1048576: NARROWER than '..Said'. Prove '..Said' where nothing that the law and all that it calls make is longer than what came in: it says more and counts as full. Else prove '..UptoSaid'. A law counts once. -/
mutual
def uptoBulk {H : Type} : DataW H → Nat
  | .lit (.string bytes) => bytes.length + 1
  | .lit _ => 1
  | .nil => 1
  | .ptr d => uptoBulk d + 1
  | .slice elems spare => uptoBulkAll elems + uptoBulkAll spare + 1
  | .agg parts => uptoBulkAll parts + 1
  | .iface _ d => uptoBulk d + 1
  | .map entries => uptoBulkEntries entries + 1
  | .held _ => 1
def uptoBulkAll {H : Type} : List (DataW H) → Nat
  | [] => 0
  | d :: r => uptoBulk d + uptoBulkAll r
def uptoBulkEntries {H : Type} : List (Lit × DataW H) → Nat
  | [] => 0
  | x :: r => uptoBulkEntry x + uptoBulkEntries r
def uptoBulkEntry {H : Type} : Lit × DataW H → Nat
  | (.string bytes, d) => bytes.length + uptoBulk d + 1
  | (_, d) => uptoBulk d + 1
 end
def uptoSmall : (H : Type) → List (DataW H) → Bool := fun _ ds => decide (uptoBulkAll ds ≤ 1048576)
def OpenSpec.upto (s : _root_.Go.ChangeSpec) : _root_.Go.OpenSpec := { _root_.Go.OpenSpec.ofChange s with cond := some uptoSmall }

/-- 'drumlinlaw12.DeviceKnown', WHERE WHAT IT READS IS OF BULK AT MOST 1048576: true; the input reads as it did. -/
def deviceKnownUptoRow : OpenClaim := { program := "yteglaedkhopbgaa", sum := "0cd1d232c88f019d90c112cc392c7573e8e1f6e43c61ba23c5cf1558e0223033", func := "drumlin/drumlinlaw12.DeviceKnown", spec := "deviceKnown", unfollowed := true, recurses := true, apart := false, narrowed := true }
def DeviceKnownUptoSaid : Prop := deviceKnownUptoRow.holds Try.pinned (OpenSpec.upto deviceKnownSpec)

/-- 'drumlinlaw12.DeviceReads', WHERE WHAT IT READS IS OF BULK AT MOST 1048576: true; the input reads as it did. -/
def deviceReadsUptoRow : OpenClaim := { program := "yteglaedkhopbgaa", sum := "0cd1d232c88f019d90c112cc392c7573e8e1f6e43c61ba23c5cf1558e0223033", func := "drumlin/drumlinlaw12.DeviceReads", spec := "deviceReads", unfollowed := true, recurses := true, apart := false, narrowed := true }
def DeviceReadsUptoSaid : Prop := deviceReadsUptoRow.holds Try.pinned (OpenSpec.upto deviceReadsSpec)

/-- 'drumlinlaw12.DeviceCounts', WHERE WHAT IT READS IS OF BULK AT MOST 1048576: true; the input reads as it did. -/
def deviceCountsUptoRow : OpenClaim := { program := "yteglaedkhopbgaa", sum := "0cd1d232c88f019d90c112cc392c7573e8e1f6e43c61ba23c5cf1558e0223033", func := "drumlin/drumlinlaw12.DeviceCounts", spec := "deviceCounts", unfollowed := true, recurses := true, apart := false, narrowed := true }
def DeviceCountsUptoSaid : Prop := deviceCountsUptoRow.holds Try.pinned (OpenSpec.upto deviceCountsSpec)

/-- 'drumlinlaw12.DeviceRefuses', WHERE WHAT IT READS IS OF BULK AT MOST 1048576: true; the input reads as it did. -/
def deviceRefusesUptoRow : OpenClaim := { program := "yteglaedkhopbgaa", sum := "0cd1d232c88f019d90c112cc392c7573e8e1f6e43c61ba23c5cf1558e0223033", func := "drumlin/drumlinlaw12.DeviceRefuses", spec := "deviceRefuses", unfollowed := true, recurses := true, apart := false, narrowed := true }
def DeviceRefusesUptoSaid : Prop := deviceRefusesUptoRow.holds Try.pinned (OpenSpec.upto deviceRefusesSpec)

/-- 'drumlinlaw12.DeviceCrash', WHERE WHAT IT READS IS OF BULK AT MOST 1048576: true; the input reads as it did. -/
def deviceCrashUptoRow : OpenClaim := { program := "yteglaedkhopbgaa", sum := "0cd1d232c88f019d90c112cc392c7573e8e1f6e43c61ba23c5cf1558e0223033", func := "drumlin/drumlinlaw12.DeviceCrash", spec := "deviceCrash", unfollowed := true, recurses := true, apart := false, narrowed := true }
def DeviceCrashUptoSaid : Prop := deviceCrashUptoRow.holds Try.pinned (OpenSpec.upto deviceCrashSpec)

/-- 'drumlinlaw12.DeviceCopies', WHERE WHAT IT READS IS OF BULK AT MOST 1048576: true; the input reads as it did. -/
def deviceCopiesUptoRow : OpenClaim := { program := "yteglaedkhopbgaa", sum := "0cd1d232c88f019d90c112cc392c7573e8e1f6e43c61ba23c5cf1558e0223033", func := "drumlin/drumlinlaw12.DeviceCopies", spec := "deviceCopies", unfollowed := true, recurses := true, apart := false, narrowed := true }
def DeviceCopiesUptoSaid : Prop := deviceCopiesUptoRow.holds Try.pinned (OpenSpec.upto deviceCopiesSpec)

/-- 'drumlinlaw12.DeviceNil', WHERE WHAT IT READS IS OF BULK AT MOST 1048576: true; the input reads as it did. -/
def deviceNilUptoRow : OpenClaim := { program := "yteglaedkhopbgaa", sum := "0cd1d232c88f019d90c112cc392c7573e8e1f6e43c61ba23c5cf1558e0223033", func := "drumlin/drumlinlaw12.DeviceNil", spec := "deviceNil", unfollowed := true, recurses := true, apart := false, narrowed := true }
def DeviceNilUptoSaid : Prop := deviceNilUptoRow.holds Try.pinned (OpenSpec.upto deviceNilSpec)

end Rows
end Go.Proofs.Yteglaedkhopbgaa
