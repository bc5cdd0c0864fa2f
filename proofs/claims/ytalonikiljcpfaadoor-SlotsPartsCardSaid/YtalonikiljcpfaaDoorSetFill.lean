/-
  The walks of the slot set laws' helpers: set, slots, filled; a set's Copy. Conditions: sizes from 1 to 34; what is read can be read.
-/
import Derived.Test.YtalonikiljcpfaaDoorSetOps2
import Derived.Laws.MakeOwn
import Derived.Deep.OwnRows
namespace Go.Proofs.YtalonikiljcpfaaDoor
open Go.RowKit Go.Shelf
set_option linter.unusedVariables false
theorem hbase {w w' : World} (h : Below w.heap.size w w') : w.heap.size ≤ w'.heap.size := h.size
/-- A number in a set's range is added or removed. -/
def setAt (L : List Bool) (j : Int) (v : Bool) : List Bool := if 0 ≤ j ∧ j < L.length then L.set j.toNat v else L
def errAt (L : List Bool) (j : Int) : Int := if 0 ≤ j ∧ j < L.length then 0 else 3
theorem setAt_length (L : List Bool) (j : Int) (v : Bool) : (setAt L j v).length = L.length := by unfold setAt; split <;> simp
def addAll (L : List Bool) (is : List Int) : List Bool := is.foldl (fun L i => setAt L i true) L
theorem addAll_length (L : List Bool) (is : List Int) : (addAll L is).length = L.length := by
  induction is generalizing L with
  | nil => rfl
  | cons i is ih => show (addAll (setAt L i true) is).length = _; rw [ih, setAt_length]
theorem addAll_snoc (L : List Bool) (is : List Int) (i : Int) : addAll L (is ++ [i]) = setAt (addAll L is) i true := by simp [addAll, List.foldl_append]
section
variable {w : World} {g t : Nat} {L M : List Bool}
theorem add_any (h : HasSet w g L) (j : Int) :
    Calls Tryd.prog 43 #[.pointer (some ⟨g, 0, none⟩), .int .i64 j] w fun e w' => e = .returned (.int .i64 (errAt L j)) ∧ HasSet w' g (setAt L j true) ∧ Chg (fun k => k = g) w w' := by
  unfold errAt setAt
  by_cases hj : 0 ≤ j ∧ j < L.length
  · obtain ⟨k, rfl⟩ := Int.eq_ofNat_of_zero_le hj.1
    rw [if_pos hj, if_pos hj]
    exact add_of h k (by omega)
  · rw [if_neg hj, if_neg hj]
    refine (add_out h j (by omega)).mono ?_
    rintro e w' ⟨rfl, rfl⟩
    exact ⟨rfl, h, Chg.refl _ _⟩
theorem remove_any (h : HasSet w g L) (j : Int) :
    Calls Tryd.prog 65 #[.pointer (some ⟨g, 0, none⟩), .int .i64 j] w fun e w' => e = .returned (.int .i64 (errAt L j)) ∧ HasSet w' g (setAt L j false) ∧ Chg (fun k => k = g) w w' := by
  unfold errAt setAt
  by_cases hj : 0 ≤ j ∧ j < L.length
  · obtain ⟨k, rfl⟩ := Int.eq_ofNat_of_zero_le hj.1
    rw [if_pos hj, if_pos hj]
    exact remove_of h k (by omega)
  · rw [if_neg hj, if_neg hj]
    refine (remove_out h j (by omega)).mono ?_
    rintro e w' ⟨rfl, rfl⟩
    exact ⟨rfl, h, Chg.refl _ _⟩
def hasAt (L : List Bool) (j : Int) : Bool := decide (0 ≤ j) && inL L j.toNat
theorem has_any (h : HasSet w g L) (j : Int) :
    Calls Tryd.prog 40 #[.pointer (some ⟨g, 0, none⟩), .int .i64 j] w fun e w' => e = .returned (.bool (hasAt L j)) ∧ w = w' := by
  unfold hasAt
  by_cases hj : 0 ≤ j
  · obtain ⟨k, rfl⟩ := Int.eq_ofNat_of_zero_le hj
    rw [decide_eq_true hj, Bool.true_and, Int.toNat_natCast]
    by_cases hk : k < L.length
    · exact has_of h k hk
    · rw [inL_ge (by omega)]
      exact has_out h k (.inr (by omega))
  · rw [decide_eq_false hj, Bool.false_and]
    exact has_out h j (.inl (by omega))
set_option maxHeartbeats 1000000 in
theorem copy_of (h : HasSet w g L) :
    Calls Tryd.prog 45 #[.pointer (some ⟨g, 0, none⟩)] w fun e w' => e = .returned (.pointer (some ⟨w.heap.size, 0, none⟩)) ∧ HasSet w' w.heap.size L ∧ Below w.heap.size w w' := by
  have hv := valid_of h
  have hg := h.lt
  obtain ⟨b, h⟩ := h
  have q0 : w.cell? ⟨g, 0, none⟩ = some (.int .i64 (L.length : Int)) := h.blk.cell 0
  have q1 : w.cell? ⟨g, 1, none⟩ = some (.int .u64 (n64 b)) := h.blk.cell 1
  have H := Lib.hid hv
  have H2 := Lib.hid h
  clear h hv
  go_enter Tryd.func45, Tryd.ntmps45
  go_wp2_with fail
  refine H.out.mono ?_
  rintro e w' ⟨rfl, rfl⟩
  go_wp2_with fail
  go_ret
  refine ⟨rfl, ⟨b, ?_, H2.out.pos, H2.out.le, H2.out.bits⟩, by go_grown⟩
  exact Blk.new w 90 #[.int .i64 (L.length : Int), .int .u64 (n64 b)]
end
/-! ### lists of numbers -/
def ints (l : List Int) : List Value := l.map (Value.int .i64)
theorem ints_length (l : List Int) : (ints l).length = l.length := by simp [ints]
def nats (l : List Nat) : List Value := l.map fun (i : Nat) => Value.int .i64 (i : Int)
theorem nats_length (l : List Nat) : (nats l).length = l.length := by simp [nats]
theorem nats_one (l : List Nat) : ∀ u ∈ nats l, u.oneCell' = true := by
  intro u hu
  simp only [nats, List.mem_map] at hu
  obtain ⟨b, _, rfl⟩ := hu
  rfl
theorem int_info : (Tryd.prog.info? 3).map (fun i => (i.zero, i.size, i.bytes)) = some (some (.int .i64 0), 1, 8) := by kernel_rfl
theorem bool_info : (Tryd.prog.info? 4).map (fun i => (i.zero, i.size, i.bytes)) = some (some (.bool false), 1, 1) := by kernel_rfl
theorem reads_news (W : World) (t : TypeId) (cs : Array Value) (fr : Nat × Nat) (n : Nat) (hn : n = cs.size) :
    Reads (W.alloc (.cells cs t fr)) (W.heap.size + 1) 1 (some ⟨W.heap.size, 0, none⟩) n cs.toList := by
  subst hn
  refine ⟨by simp, fun _ => ⟨_, rfl, by simp, fun j u hu => ?_⟩⟩
  rw [add_zero_addr, cell_of_row _ _ j _ t fr (heap_alloc_new W _)]
  simpa using hu
theorem slots_to (L : List Bool) (j : Nat) : ((List.range (j + 1)).filter fun i => inL L i) = if inL L j then ((List.range j).filter fun i => inL L i) ++ [j] else ((List.range j).filter fun i => inL L i) := by
  rw [List.range_succ, List.filter_append]
  by_cases h : inL L j = true
  · simp [h]
  · simp [h]
def slotsTo (L : List Bool) (j : Nat) : List Nat := (List.range j).filter fun i => inL L i
theorem slotsTo_le (L : List Bool) (j : Nat) : (slotsTo L j).length ≤ j := by
  unfold slotsTo
  exact Nat.le_trans (List.length_filter_le _ _) (by simp)
def bvals (L : List Bool) : List Value := L.map Value.bool
theorem bvals_length (L : List Bool) : (bvals L).length = L.length := by simp [bvals]
theorem bvals_at {L : List Bool} {k : Nat} (hk : k < L.length) : (bvals L)[k]? = some (.bool (inL L k)) := by
  simp [bvals, inL, hk]
end Go.Proofs.YtalonikiljcpfaaDoor
