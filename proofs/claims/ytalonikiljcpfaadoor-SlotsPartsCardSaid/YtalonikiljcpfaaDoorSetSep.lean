/-
  A set's methods among objects that lie apart from each other. Conditions: they lie apart; the library's table holds what its text lists.
-/
import Derived.Test.YtalonikiljcpfaaDoorSetFill2
import Derived.Test.YtalonikiljcpfaaDoorSetLaid
namespace Go.Proofs.YtalonikiljcpfaaDoor
open Go.RowKit Go.Shelf
set_option linter.unusedVariables false
/-- The list of truth values of a size that has these slots. -/
def bs (n : Nat) (l : List Nat) : List Bool := (List.range n).map fun i => decide (i ∈ l)
section
variable {B : Nat} {w0 w : World} {os : List Ob} {g t : Nat} {L M : List Bool}
theorem Sep.tab (h : Sep B w0 w os) (ht : TabIn w0) (hB : 4 < B) : TabIn w := ht.below h.bel hB
theorem Sep.set (h : Sep B w0 w (setOb g L :: os)) : HasSet w g L := h.get (.head _)
theorem reads_ints (W : World) (t : TypeId) (cs : Array Value) (is : List Int) (n : Nat) (hcs : cs.toList = ints is) (hn : n = cs.size) :
    Reads (W.alloc (.cells cs t)) (W.alloc (.cells cs t)).heap.size 1 (some ⟨W.heap.size, 0, none⟩) n (ints is) := by
  have := reads_news W t cs (0, 0) n hn
  rw [hcs] at this
  simpa using this
theorem reads_nats (W : World) (t : TypeId) (cs : Array Value) (is : List Nat) (n : Nat) (hcs : cs.toList = nats is) (hn : n = cs.size) :
    Reads (W.alloc (.cells cs t)) (W.alloc (.cells cs t)).heap.size 1 (some ⟨W.heap.size, 0, none⟩) n (nats is) := by
  have := reads_news W t cs (0, 0) n hn
  rw [hcs] at this
  simpa using this
theorem sep_add (h : Sep B w0 w (setOb g L :: os)) (j r : Int) (L' : List Bool) (hr : errAt L j = r) (hL : setAt L j true = L') :
    Calls Tryd.prog 43 #[.pointer (some ⟨g, 0, none⟩), .int .i64 j] w fun e w' => e = .returned (.int .i64 r) ∧ Sep B w0 w' (setOb g L' :: os) := by
  subst hr hL
  exact (add_any h.set j).mono fun e w' ⟨h1, h2, h3⟩ => ⟨h1, h.step (a' := setOb g _) h3 h2 (fun _ h => .inl h)⟩
theorem sep_remove (h : Sep B w0 w (setOb g L :: os)) (j r : Int) (L' : List Bool) (hr : errAt L j = r) (hL : setAt L j false = L') :
    Calls Tryd.prog 65 #[.pointer (some ⟨g, 0, none⟩), .int .i64 j] w fun e w' => e = .returned (.int .i64 r) ∧ Sep B w0 w' (setOb g L' :: os) := by
  subst hr hL
  exact (remove_any h.set j).mono fun e w' ⟨h1, h2, h3⟩ => ⟨h1, h.step (a' := setOb g _) h3 h2 (fun _ h => .inl h)⟩
theorem sep_copy (h : Sep B w0 w os) (hg : HasSet w g L) :
    Calls Tryd.prog 45 #[.pointer (some ⟨g, 0, none⟩)] w fun e w' => ∃ g', e = .returned (.pointer (some ⟨g', 0, none⟩)) ∧ Sep B w0 w' (setOb g' L :: os) :=
  (copy_of hg).mono fun e w' ⟨h1, h2, h3⟩ => ⟨_, h1, h.add (a := setOb w.heap.size L) h3 h2 (fun k hk => by have : k = w.heap.size := hk; omega)⟩
end
theorem next6 : NextIs (bs 8 [2, 5]) 6 0 false := by
  refine .inr ⟨rfl, rfl, fun i hi => ?_⟩
  by_cases h8 : i < 8
  · have e : i = 6 ∨ i = 7 := by omega
    rcases e with rfl | rfl <;> decide
  · exact inL_ge (by show 8 ≤ i; omega)
end Go.Proofs.YtalonikiljcpfaaDoor
