/-
  The law's same: whether a set has just these slots, in order; here: it has. Conditions: the set is as New makes it; the slots' list can be read.
-/
import Derived.Test.YtalonikiljcpfaaDoorSetIter
import Derived.Deep.RegionHeld3
namespace Go.Proofs.YtalonikiljcpfaaDoor
open Go.RowKit Go.Shelf
set_option linter.unusedVariables false
set_option maxHeartbeats 400000 in
theorem check_in {w : World} {g size : Nat} {b : W64} (h : IsSet w g size b) (hs : 0 < size) (hs34 : size ≤ 34) (j : Nat) (hj : j < size) :
    Calls Tryd.prog 60 #[.pointer (some ⟨g, 0, none⟩), .int .i64 (j : Int)] w fun e w' => e = .returned (.int .i64 0) ∧ w = w' := by
  have q0 : w.cell? ⟨g, 0, none⟩ = some (.int .i64 (size : Int)) := h.cell 0
  have H := Lib.hid h
  clear h
  go_enter Tryd.func60, Tryd.ntmps60
  go_wp2_with fail
  refine (valid_set H.out hs).mono ?_
  rintro e w' ⟨rfl, rfl⟩
  go_wp2_with fail
  go_ret
  exact ⟨rfl, rfl⟩
set_option maxHeartbeats 400000 in
theorem has_in {w : World} {g size : Nat} {b : W64} (h : IsSet w g size b) (hs : 0 < size) (hs34 : size ≤ 34) (j : Nat) (hj : j < size) (v : Bool) (hv : b.getLsbD j = v) :
    Calls Tryd.prog 40 #[.pointer (some ⟨g, 0, none⟩), .int .i64 (j : Int)] w fun e w' => e = .returned (.bool v) ∧ w = w' := by
  have q1 : w.cell? ⟨g, 1, none⟩ = some (.int .u64 (n64 b)) := h.cell 1
  have H := Lib.hid h
  have hbit := bit_u64 b j
  rw [hv] at hbit
  have hj64 : j < 64 := by omega
  clear h hv
  cases v
  all_goals
    go_enter Tryd.func40, Tryd.ntmps40
    go_wp2_with fail
    refine (check_in H.out hs hs34 j hj).mono ?_
    rintro e w' ⟨rfl, rfl⟩
    go_wp2_with fail
    go_ret
    exact ⟨rfl, rfl⟩
/-- What Len says of a set. -/
def LenSays : Prop := ∀ (w : World) (g size : Nat) (b : W64), IsSet w g size b → 0 < size → size ≤ 34 → (∀ i, size ≤ i → b.getLsbD i = false) →
  Calls Tryd.prog 39 #[.pointer (some ⟨g, 0, none⟩)] w fun e w' => e = .returned (.int .i64 ((elems b size).length : Int)) ∧ w = w'
attribute [local go_sem] Oper.semAt_some
theorem cell_of_box {W : World} {B : Nat} {v : Value} {t : TypeId} (h : Blk W B t #[v]) : W.cell? ⟨B, 0, none⟩ = some v ∧ W.frozen? ⟨B, 0, none⟩ = false := ⟨h.cell 0, h.frozen 0⟩
theorem pre_snoc {E pre : List Nat} {y : Nat} (h : pre <+: E) (hy : E[pre.length]? = some y) : pre ++ [y] <+: E := by
  obtain ⟨t, rfl⟩ := h
  cases t with
  | nil => simp at hy
  | cons z t =>
    have : z = y := by simpa using hy
    exact ⟨t, by rw [this]; simp⟩
theorem pre_not {E pre : List Nat} {x y : Nat} (hy : E[pre.length]? = some y) (hx : ¬ x = y) : ¬ (pre ++ [x] <+: E) := by
  rintro ⟨t, rfl⟩
  simp at hy
  exact hx hy
end Go.Proofs.YtalonikiljcpfaaDoor
