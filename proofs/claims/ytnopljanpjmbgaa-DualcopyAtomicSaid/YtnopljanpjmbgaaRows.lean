/-
  No cell of these rows narrows 'for every input' (looked for: loops, veiled, ifaces, maps, wideKeys, modest, calm, conditions, laid).
  DERIVED. THE GIVEN ROWS OF THIS SEAT. 4 by the template 'for every input the law returns true; each argument reads behind the call as it read before'; 0 by the template 'total and deterministic' (their statements: YtnopljanpjmbgaaTotals.lean).
  GIVEN WITH THE SEED: the statements are not yours to turn. If you find one false, say at which input.
  Laid BY PROGRAM, IN A SANDBOX (cutbox-rows.mjs): the forced cells as the released guide's own fill.sh prints them over the translation 373fe71c799d9a31… (all of the seat's roots in one cut). By AI agents, Wed Nov 11 2026. No macro, syntax, notation, axiom, sorry.
-/
import Derived.Test.YtnopljanpjmbgaaChecked
import GoSem.Claim
import GoSem.ClaimJoined
import GoSem.ClaimMapViews
import Derived.JoinedTies
import Derived.KernelRfl
namespace Go.Proofs.Ytnopljanpjmbgaa
/- THE CELL 'sum', in the pinned program and in every row, IS THE sha256 OF THE DUMP (.gsa) THAT YtnopljanpjmbgaaProg.lean LOADS. Nothing in Lean hashes anything: it is a label: what it is worth is what the hold of that sum in a sandbox is worth. -/
noncomputable def Try.pinned : Pinned := { name := "ytnopljanpjmbgaa", sum := "373fe71c799d9a3172114366d3bb763afebeb505e7f4a2d94c15fbf4bb2777b2", checked := Try.checked }
namespace Rows
def none {H : Type} : Left H := { results := [], args := [] }

/-- 'drumlinlaw19.DualcopyRefuses': WHATEVER THE INPUT: true; the input reads as it did. -/
def dualcopyRefusesSpec : ChangeSpec := { name := "dualcopyRefuses", fn := fun _ => fun
  | [d1, d2, d3] => { results := [.lit (.bool true)], args := [d1, d2, d3] }
  | _ => none }
def dualcopyRefusesRow : OpenClaim := { program := "ytnopljanpjmbgaa", sum := "373fe71c799d9a3172114366d3bb763afebeb505e7f4a2d94c15fbf4bb2777b2", func := "drumlin/drumlinlaw19.DualcopyRefuses", spec := "dualcopyRefuses", unfollowed := true, recurses := true, apart := false }
def DualcopyRefusesSaid : Prop := dualcopyRefusesRow.holds Try.pinned (OpenSpec.ofChange dualcopyRefusesSpec)

/-- ITS FALSE NEIGHBOUR: 'it returns false'. Refute it at one input. -/
def dualcopyRefusesWrong : ChangeSpec := { name := "dualcopyRefuses", fn := fun _ => fun
  | [d1, d2, d3] => { results := [.lit (.bool false)], args := [d1, d2, d3] }
  | _ => none }
def DualcopyRefusesWrongFalsely : Prop := dualcopyRefusesRow.holds Try.pinned (OpenSpec.ofChange dualcopyRefusesWrong)

/-- 'drumlinlaw19.DualcopyNil': WHATEVER THE INPUT: true; the input reads as it did. -/
def dualcopyNilSpec : ChangeSpec := { name := "dualcopyNil", fn := fun _ => fun
  | [d1, d2, d3] => { results := [.lit (.bool true)], args := [d1, d2, d3] }
  | _ => none }
def dualcopyNilRow : OpenClaim := { program := "ytnopljanpjmbgaa", sum := "373fe71c799d9a3172114366d3bb763afebeb505e7f4a2d94c15fbf4bb2777b2", func := "drumlin/drumlinlaw19.DualcopyNil", spec := "dualcopyNil", unfollowed := true, recurses := true, apart := false }
def DualcopyNilSaid : Prop := dualcopyNilRow.holds Try.pinned (OpenSpec.ofChange dualcopyNilSpec)

/-- ITS FALSE NEIGHBOUR: 'it returns false'. Refute it at one input. -/
def dualcopyNilWrong : ChangeSpec := { name := "dualcopyNil", fn := fun _ => fun
  | [d1, d2, d3] => { results := [.lit (.bool false)], args := [d1, d2, d3] }
  | _ => none }
def DualcopyNilWrongFalsely : Prop := dualcopyNilRow.holds Try.pinned (OpenSpec.ofChange dualcopyNilWrong)

/-- 'drumlinlaw19.DualcopyAtomic': WHATEVER THE INPUT: true; the input reads as it did. -/
def dualcopyAtomicSpec : ChangeSpec := { name := "dualcopyAtomic", fn := fun _ => fun
  | [d1, d2, d3, d4] => { results := [.lit (.bool true)], args := [d1, d2, d3, d4] }
  | _ => none }
def dualcopyAtomicRow : OpenClaim := { program := "ytnopljanpjmbgaa", sum := "373fe71c799d9a3172114366d3bb763afebeb505e7f4a2d94c15fbf4bb2777b2", func := "drumlin/drumlinlaw19.DualcopyAtomic", spec := "dualcopyAtomic", unfollowed := true, recurses := true, apart := false }
def DualcopyAtomicSaid : Prop := dualcopyAtomicRow.holds Try.pinned (OpenSpec.ofChange dualcopyAtomicSpec)

/-- ITS FALSE NEIGHBOUR: 'it returns false'. Refute it at one input. -/
def dualcopyAtomicWrong : ChangeSpec := { name := "dualcopyAtomic", fn := fun _ => fun
  | [d1, d2, d3, d4] => { results := [.lit (.bool false)], args := [d1, d2, d3, d4] }
  | _ => none }
def DualcopyAtomicWrongFalsely : Prop := dualcopyAtomicRow.holds Try.pinned (OpenSpec.ofChange dualcopyAtomicWrong)

/-- 'drumlinlaw19.DualcopyReads': WHATEVER THE INPUT: true; the input reads as it did. -/
def dualcopyReadsSpec : ChangeSpec := { name := "dualcopyReads", fn := fun _ => fun
  | [d1, d2, d3, d4, d5] => { results := [.lit (.bool true)], args := [d1, d2, d3, d4, d5] }
  | _ => none }
def dualcopyReadsRow : OpenClaim := { program := "ytnopljanpjmbgaa", sum := "373fe71c799d9a3172114366d3bb763afebeb505e7f4a2d94c15fbf4bb2777b2", func := "drumlin/drumlinlaw19.DualcopyReads", spec := "dualcopyReads", unfollowed := true, recurses := true, apart := false }
def DualcopyReadsSaid : Prop := dualcopyReadsRow.holds Try.pinned (OpenSpec.ofChange dualcopyReadsSpec)

/-- ITS FALSE NEIGHBOUR: 'it returns false'. Refute it at one input. -/
def dualcopyReadsWrong : ChangeSpec := { name := "dualcopyReads", fn := fun _ => fun
  | [d1, d2, d3, d4, d5] => { results := [.lit (.bool false)], args := [d1, d2, d3, d4, d5] }
  | _ => none }
def DualcopyReadsWrongFalsely : Prop := dualcopyReadsRow.holds Try.pinned (OpenSpec.ofChange dualcopyReadsWrong)

/- THE SECOND FORM. 'bulk': how many values and letters a reading holds, each counted each time it is reached (what is shared counts as often as it is met; a slice's spare places count too). A statement '..UptoSaid' is the law's where the arguments, and the package variables that the reading takes, are together of bulk at most 1048576: NARROWER than '..Said'. Prove '..Said' where nothing that the law and all that it calls make is longer than what came in: it says more and counts as full. Else prove '..UptoSaid'. A law counts once. -/
mutual
def uptoBulk {H : Type} : DataW H → Nat
  | .lit (.string bytes) => bytes.length + 1
  | .lit _ => 1
  | .nil => 1
  | .ptr d => uptoBulk d + 1
  | .slice elems spare => uptoBulkAll elems + uptoBulkAll spare + 1
  | .agg parts => uptoBulkAll parts + 1
  | .iface _ d => uptoBulk d + 1
  | .map entries => uptoBulkEntries entries + 1
  | .held _ => 1
def uptoBulkAll {H : Type} : List (DataW H) → Nat
  | [] => 0
  | d :: r => uptoBulk d + uptoBulkAll r
def uptoBulkEntries {H : Type} : List (Lit × DataW H) → Nat
  | [] => 0
  | x :: r => uptoBulkEntry x + uptoBulkEntries r
def uptoBulkEntry {H : Type} : Lit × DataW H → Nat
  | (.string bytes, d) => bytes.length + uptoBulk d + 1
  | (_, d) => uptoBulk d + 1
 end
def uptoSmall : (H : Type) → List (DataW H) → Bool := fun _ ds => decide (uptoBulkAll ds ≤ 1048576)
def OpenSpec.upto (s : _root_.Go.ChangeSpec) : _root_.Go.OpenSpec := { _root_.Go.OpenSpec.ofChange s with cond := some uptoSmall }

/-- 'drumlinlaw19.DualcopyRefuses', WHERE WHAT IT READS IS OF BULK AT MOST 1048576: true; the input reads as it did. -/
def dualcopyRefusesUptoRow : OpenClaim := { program := "ytnopljanpjmbgaa", sum := "373fe71c799d9a3172114366d3bb763afebeb505e7f4a2d94c15fbf4bb2777b2", func := "drumlin/drumlinlaw19.DualcopyRefuses", spec := "dualcopyRefuses", unfollowed := true, recurses := true, apart := false, narrowed := true }
def DualcopyRefusesUptoSaid : Prop := dualcopyRefusesUptoRow.holds Try.pinned (OpenSpec.upto dualcopyRefusesSpec)

/-- 'drumlinlaw19.DualcopyNil', WHERE WHAT IT READS IS OF BULK AT MOST 1048576: true; the input reads as it did. -/
def dualcopyNilUptoRow : OpenClaim := { program := "ytnopljanpjmbgaa", sum := "373fe71c799d9a3172114366d3bb763afebeb505e7f4a2d94c15fbf4bb2777b2", func := "drumlin/drumlinlaw19.DualcopyNil", spec := "dualcopyNil", unfollowed := true, recurses := true, apart := false, narrowed := true }
def DualcopyNilUptoSaid : Prop := dualcopyNilUptoRow.holds Try.pinned (OpenSpec.upto dualcopyNilSpec)

/-- 'drumlinlaw19.DualcopyAtomic', WHERE WHAT IT READS IS OF BULK AT MOST 1048576: true; the input reads as it did. -/
def dualcopyAtomicUptoRow : OpenClaim := { program := "ytnopljanpjmbgaa", sum := "373fe71c799d9a3172114366d3bb763afebeb505e7f4a2d94c15fbf4bb2777b2", func := "drumlin/drumlinlaw19.DualcopyAtomic", spec := "dualcopyAtomic", unfollowed := true, recurses := true, apart := false, narrowed := true }
def DualcopyAtomicUptoSaid : Prop := dualcopyAtomicUptoRow.holds Try.pinned (OpenSpec.upto dualcopyAtomicSpec)

/-- 'drumlinlaw19.DualcopyReads', WHERE WHAT IT READS IS OF BULK AT MOST 1048576: true; the input reads as it did. -/
def dualcopyReadsUptoRow : OpenClaim := { program := "ytnopljanpjmbgaa", sum := "373fe71c799d9a3172114366d3bb763afebeb505e7f4a2d94c15fbf4bb2777b2", func := "drumlin/drumlinlaw19.DualcopyReads", spec := "dualcopyReads", unfollowed := true, recurses := true, apart := false, narrowed := true }
def DualcopyReadsUptoSaid : Prop := dualcopyReadsUptoRow.holds Try.pinned (OpenSpec.upto dualcopyReadsSpec)

end Rows
end Go.Proofs.Ytnopljanpjmbgaa
