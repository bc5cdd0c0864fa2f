/-
  The walk of the slot set laws' filled: a set, and a list of truth values that says the same. Condition: the bytes can be read.
-/
import Derived.Test.YtalonikiljcpfaaDoorSetFill
namespace Go.Proofs.YtalonikiljcpfaaDoor
open Go.RowKit Go.Shelf
set_option linter.unusedVariables false
def bvOb (bi : Nat) (L : List Bool) : Ob := blkOb bi 4 (bvals L).toArray
theorem make_bools (k : Nat) (hk : k ≤ 65536) (W : World) : (Instr.makeSlice 53 (.int .i64 (k : Int)) (.int .i64 (k : Int))).run Tryd.prog W = .ok (.slice (some ⟨W.heap.size, 0, none⟩) k k) (W.alloc (.cells (bvals (List.replicate k false)).toArray 4)) := by
  rw [run_make_row' 53 4 (.bool false) 1 Tryd.underlying53 bool_info rfl .i64 .i64 k (by omega) (by omega)]
  have e : madeCells #[Value.bool false] k = (bvals (List.replicate k false)).toArray := by
    apply Array.toList_inj.1
    rw [toList_madeCells_one]
    simp [bvals]
  rw [e]
theorem bvals_set (L : List Bool) (k : Nat) (v : Bool) : (bvals L).toArray.setIfInBounds k (.bool v) = (bvals (L.set k v)).toArray := by
  simp [bvals, List.map_set]
theorem bv_reads {w : World} {bi : Nat} {L : List Bool} (h : (bvOb bi L).P w) (n : Nat) (hn : n = L.length) : Reads w w.heap.size 1 (some ⟨bi, 0, none⟩) n (bvals L) := by
  subst hn
  have h' : Blk w bi 4 (bvals L).toArray := h
  refine ⟨by rw [bvals_length]; omega, fun _ => ⟨_, rfl, Blk.lt h', fun j u hu => ?_⟩⟩
  rw [add_zero_addr, Blk.cell h']
  simpa using hu
end Go.Proofs.YtalonikiljcpfaaDoor
