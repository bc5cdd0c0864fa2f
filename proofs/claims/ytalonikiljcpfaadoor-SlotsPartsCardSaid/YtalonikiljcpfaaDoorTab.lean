/-
  A table of slots in memory: its block and its five sets; what the calls' own changes leave. No condition.
-/
import Derived.Test.YtalonikiljcpfaaDoorSetHelp
import Derived.Test.YtalonikiljcpfaaDoorCells
import Derived.Test.YtalonikiljcpfaaDoorSetAll
import Derived.Test.YtalonikiljcpfaaDoorSetNo
namespace Go.Proofs.YtalonikiljcpfaaDoor
open Go.RowKit
set_option linter.unusedVariables false
/-- The slots in state s, as truth values. -/
def memb (T : List Nat) (s : Nat) : List Bool := T.map fun x => decide (x = s)
theorem memb_length (T : List Nat) (s : Nat) : (memb T s).length = T.length := by simp [memb]
theorem memb_at {T : List Nat} {s i : Nat} (h : i < T.length) : inL (memb T s) i = decide (T[i] = s) := by
  unfold inL memb
  simp [List.getD_eq_getElem?_getD, h]
theorem memb_out {T : List Nat} {s i : Nat} (h : T.length ≤ i) : inL (memb T s) i = false := inL_ge (by rw [memb_length]; exact h)
/-- A slot's new state, in the new state's set. -/
theorem memb_to {T : List Nat} {i to : Nat} : memb (T.set i to) to = (memb T to).set i true := by
  unfold memb
  rw [List.map_set]
  simp
/-- .. in another's. -/
theorem memb_from {T : List Nat} {i to s : Nat} (h : s ≠ to) : memb (T.set i to) s = (memb T s).set i false := by
  unfold memb
  rw [List.map_set]
  have : decide (to = s) = false := by simp; omega
  rw [this]
theorem memb_same {T : List Nat} {i to s : Nat} (h : s ≠ to) (hi : i < T.length) (h2 : T[i] ≠ s) : memb (T.set i to) s = memb T s := by
  rw [memb_from h]
  apply List.ext_getElem?
  intro j
  rw [List.getElem?_set]
  by_cases e : i = j
  · subst e
    rw [if_pos rfl, if_pos (by rw [memb_length]; exact hi)]
    unfold memb
    simp [hi, h2]
  · rw [if_neg e]
def ptrV (g : Nat) : Value := .pointer (some ⟨g, 0, none⟩)
structure IsTab (w : World) (g : Nat) (p : Nat → Nat) (r : Nat) (T : List Nat) : Prop where
  blk : Blk w g 68 #[.int .i64 (T.length : Int), .int .i64 (r : Int), ptrV (p 0), ptrV (p 1), ptrV (p 2), ptrV (p 3), ptrV (p 4)]
  set : ∀ s, s < 5 → HasSet w (p s) (memb T s)
  off : ∀ s, s < 5 → p s ≠ g
  apart : ∀ s t, s < 5 → t < 5 → s ≠ t → p s ≠ p t
  pos : 1 ≤ T.length
  le : T.length ≤ 32
  res : r ≤ T.length
  all : ∀ x, x ∈ T → x < 5
def tfoot (g : Nat) (p : Nat → Nat) : Nat → Prop := fun k => k = g ∨ ∃ s, s < 5 ∧ k = p s
section
variable {w w' : World} {g : Nat} {p : Nat → Nat} {r : Nat} {T : List Nat}
theorem IsTab.chg {F : Nat → Prop} (h : IsTab w g p r T) (hc : Chg F w w') (hF : ∀ k, tfoot g p k → ¬ F k) : IsTab w' g p r T :=
  ⟨h.blk.chg hc (hF _ (.inl rfl)), fun s hs => (h.set s hs).keep hc (hF _ (.inr ⟨s, hs, rfl⟩)), h.off, h.apart, h.pos, h.le, h.res, h.all⟩
theorem IsTab.lt (h : IsTab w g p r T) : ∀ k, tfoot g p k → k < w.heap.size := by
  rintro k (rfl | ⟨s, hs, rfl⟩)
  · exact h.blk.lt
  · exact (h.set s hs).lt
theorem IsTab.below (h : IsTab w g p r T) (hb : Below w.heap.size w w') : IsTab w' g p r T := h.chg (F := fun _ => False) (Chg.of_below hb) (fun _ _ h => h)
theorem IsTab.drew (h : IsTab w g p r T) : IsTab w.drew g p r T := h.below ((Below.refl _ _).drew)
theorem IsTab.drewN (h : IsTab w g p r T) (n : Nat) : IsTab (w.drewN n) g p r T := h.below ⟨rfl, rfl, rfl, Nat.le_refl _, fun _ _ => rfl⟩
/-- The cells. -/
theorem IsTab.cell0 (h : IsTab w g p r T) : w.cell? ⟨g, 0, none⟩ = some (.int .i64 (T.length : Int)) := h.blk.cell 0
theorem IsTab.cell1 (h : IsTab w g p r T) : w.cell? ⟨g, 1, none⟩ = some (.int .i64 (r : Int)) := h.blk.cell 1
theorem IsTab.cellP (h : IsTab w g p r T) (s : Nat) (hs : s < 5) : w.cell? ⟨g, 2 + s, none⟩ = some (.pointer (some ⟨p s, 0, none⟩)) := by
  have : s = 0 ∨ s = 1 ∨ s = 2 ∨ s = 3 ∨ s = 4 := by omega
  rcases this with rfl | rfl | rfl | rfl | rfl
  · exact h.blk.cell 2
  · exact h.blk.cell 3
  · exact h.blk.cell 4
  · exact h.blk.cell 5
  · exact h.blk.cell 6
theorem tab_cells (h : IsTab w g p r T) : ∀ k, tfoot g p k → ∃ ob, w.heap[k]? = some ob ∧ ob.isCells = true := by
  rintro k (rfl | ⟨s, hs, rfl⟩)
  · exact ⟨_, h.blk, rfl⟩
  · exact cellOb_set (p s) (memb T s) w (h.set s hs) _ rfl
/-- The table as an object among others. -/
def tabOb (g : Nat) (p : Nat → Nat) (r : Nat) (T : List Nat) : Ob where
  P w := IsTab w g p r T
  F := tfoot g p
  keep := fun hc hd h => h.chg hc hd
  lt := fun h k hk => h.lt k hk
theorem cellOb_tab (g : Nat) (p : Nat → Nat) (r : Nat) (T : List Nat) : CellOb (tabOb g p r T) := fun w h k hk => tab_cells h k hk
/-- A slot has another state. -/
def moved (T : List Nat) (i to : Nat) : List Nat := T.set i to
theorem moved_length (T : List Nat) (i to : Nat) : (moved T i to).length = T.length := by simp [moved]
end
end Go.Proofs.YtalonikiljcpfaaDoor
