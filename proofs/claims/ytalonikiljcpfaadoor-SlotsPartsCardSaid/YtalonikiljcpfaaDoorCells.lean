/-
  Objects made of cells alone, and what a range over a function asks of them. No condition.
-/
import Derived.RangeFuncNested
import Derived.RangeFuncBound
import Derived.RangeFuncCalls
import Derived.RangeFuncLeaves
import Derived.RangeFuncFrom
import Derived.Test.YtalonikiljcpfaaDoorSep
namespace Go.Proofs.YtalonikiljcpfaaDoor
open Go.RowKit
set_option linter.unusedVariables false
/-- An object made of cells alone. -/
def CellOb (o : Ob) : Prop := ∀ w, o.P w → ∀ k, o.F k → ∃ ob, w.heap[k]? = some ob ∧ ob.isCells = true
theorem cellOb_blk (g : Nat) (t : TypeId) (cs : Array Value) : CellOb (blkOb g t cs) := fun w h k hk => by
  have hk' : k = g := hk
  subst hk'
  exact ⟨_, h, rfl⟩
theorem cellOb_row (e : TypeId) (size : Nat) (v : Value) (n : Nat) (xs : List Value) : CellOb (rowOb e size v n xs) := fun w h k hk => by
  have h' : w.ownsRow 0 e size v n xs := h
  have hk' : v.ownBlock = some k := hk
  rcases h'.2 with ⟨rfl, _⟩ | ⟨g, cap, cur, rfl, _, hh, _⟩
  · simp [Value.ownBlock] at hk'
  · have : g = k := by simpa [Value.ownBlock] using hk'
    subst this
    exact ⟨_, hh, rfl⟩
/-- All of these objects are made of cells alone. -/
def AllCells (os : List Ob) : Prop := ∀ o, o ∈ os → CellOb o
theorem AllCells.nil : AllCells [] := fun o h => by cases h
theorem AllCells.cons {a : Ob} {os : List Ob} (h : CellOb a) (k : AllCells os) : AllCells (a :: os) := fun o ho => by
  rcases List.mem_cons.1 ho with rfl | ho
  · exact h
  · exact k o ho
theorem Sep.others {B : Nat} {w0 w w' : World} {os : List Ob} {row : Option Nat} (hC : AllCells os) (h : Sep B w0 w os) (hg : w.grownBy w' row)
    (hr : ∀ r, row = some r → B ≤ r ∧ ∃ o : Obj, w.heap[r]? = some o ∧ o.isCells = false) : Sep B w0 w' os := by
  have hb : Below B w w' := (Below.refl B w).grown hg h.big (fun k e => (hr k e).1)
  refine ⟨h.bel.trans hb, Nat.le_trans h.big hb.size, fun o ho => ⟨o.keep (G := fun k => row = some k) ((Chg.refl _ w).grown hg (fun q hq => .inl hq)) (fun k hk hrow => ?_) (h.all o ho).1, (h.all o ho).2⟩, h.apart⟩
  obtain ⟨ob, h1, h2⟩ := hC o ho w (h.all o ho).1 k hk
  obtain ⟨_, ob', h3, h4⟩ := hr k hrow
  rw [h1] at h3
  injection h3 with h3
  subst h3
  rw [h2] at h4
  cases h4
theorem ownFrom_sep {β : Type} {B B' : Nat} {w0 : World} {os : β → List Ob} (hB : B ≤ B') (hC : ∀ s, AllCells (os s)) : OwnFrom B' (fun (s : β) W => Sep B w0 W (os s)) :=
  fun s W W' row h hg hr => h.others (hC s) hg (fun r e => ⟨by have := (hr r e).1; omega, (hr r e).2⟩)
theorem ownFrom_true {β : Type} {B : Nat} {p : β → Prop} : OwnFrom B (fun (s : β) (_ : World) => p s) := fun _ _ _ _ h _ _ => h
theorem keepsOthers_chg {F : Nat → Prop} {W W' : World} (h : Chg F W W') (hF : ∀ k, F k → ∃ ob, W.heap[k]? = some ob ∧ ob.isCells = true) : KeepsOthers W W' :=
  ⟨h.size, fun k o hk ho => by
    have hlt : k < W.heap.size := (Array.getElem?_eq_some_iff.1 hk).1
    rw [h.block k hlt (fun e => by
      obtain ⟨ob, h1, h2⟩ := hF k e
      rw [h1] at hk
      injection hk with hk
      subst hk
      rw [h2] at ho
      cases ho)]
    exact hk⟩
theorem keepsOthers_below {W W' : World} (h : Below W.heap.size W W') : KeepsOthers W W' :=
  keepsOthers_chg (F := fun _ => False) (Chg.of_below h) (fun _ e => e.elim)
theorem KeepsOthers.step {B : Nat} {w0 W W' : World} {a : Ob} {os : List Ob} (h : Sep B w0 W os) (ha : a ∈ os) (hC : CellOb a) (hc : Chg a.F W W') : KeepsOthers W W' :=
  keepsOthers_chg hc (fun k hk => hC W (h.get ha) k hk)
end Go.Proofs.YtalonikiljcpfaaDoor
