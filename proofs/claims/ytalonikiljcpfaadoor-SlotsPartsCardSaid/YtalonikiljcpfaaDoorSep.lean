/-
  Objects that lie apart from each other in memory: each a statement about the world and the blocks it is about; a change of one leaves the others. No condition.
-/
import Derived.Test.YtalonikiljcpfaaDoorBytes
namespace Go.Proofs.YtalonikiljcpfaaDoor
open Go.RowKit
set_option linter.unusedVariables false
/-- A statement about the world that is about some blocks alone. -/
structure Ob where
  P : World → Prop
  F : Nat → Prop
  keep : ∀ {w w' : World} {G : Nat → Prop}, Chg G w w' → (∀ k, F k → ¬ G k) → P w → P w'
  lt : ∀ {w : World}, P w → ∀ k, F k → k < w.heap.size
/-- Objects of a call's own, apart from each other; what was there ahead of w0's block B is as it was. -/
structure Sep (B : Nat) (w0 w : World) (os : List Ob) : Prop where
  bel : Below B w0 w
  big : B ≤ w.heap.size
  all : ∀ o, o ∈ os → o.P w ∧ ∀ k, o.F k → B ≤ k
  apart : os.Pairwise (fun a b => ∀ k, a.F k → ¬ b.F k)
section
variable {B : Nat} {w0 w w' : World} {os : List Ob}
theorem Sep.start (w : World) : Sep w.heap.size w w [] := ⟨Below.refl _ _, Nat.le_refl _, (fun o ho => by cases ho), List.Pairwise.nil⟩
theorem Sep.get (h : Sep B w0 w os) {o : Ob} (ho : o ∈ os) : o.P w := (h.all o ho).1
theorem Sep.below (h : Sep B w0 w os) (hb : Below w.heap.size w w') : Sep B w0 w' os :=
  ⟨h.bel.trans (hb.mono h.big), Nat.le_trans h.big hb.size, fun o ho => ⟨o.keep (Chg.of_below (F := fun _ => False) hb) (fun _ _ h => h) (h.all o ho).1, (h.all o ho).2⟩, h.apart⟩
theorem Sep.drewN (h : Sep B w0 w os) (n : Nat) : Sep B w0 (w.drewN n) os := h.below ⟨rfl, rfl, rfl, Nat.le_refl _, fun _ _ => rfl⟩
theorem Sep.drew (h : Sep B w0 w os) : Sep B w0 w.drew os := h.below ⟨rfl, rfl, rfl, Nat.le_refl _, fun _ _ => rfl⟩
theorem Sep.alloc (h : Sep B w0 w os) (o : Obj) : Sep B w0 (w.alloc o) os := h.below ((Below.refl _ _).alloc (Nat.le_refl _) o)
theorem Sep.sub (h : Sep B w0 w os) {os' : List Ob} (hs : os'.Sublist os) : Sep B w0 w os' :=
  ⟨h.bel, h.big, fun o ho => h.all o (hs.subset ho), h.apart.sublist hs⟩
theorem Sep.perm (h : Sep B w0 w os) {os' : List Ob} (hs : os.Perm os') : Sep B w0 w os' :=
  ⟨h.bel, h.big, fun o ho => h.all o (hs.mem_iff.2 ho), h.apart.perm hs (fun hab k hb ha => hab k ha hb)⟩
/-- A new object. -/
theorem Sep.add (h : Sep B w0 w os) {a : Ob} (hb : Below w.heap.size w w') (ha : a.P w') (hF : ∀ k, a.F k → w.heap.size ≤ k) : Sep B w0 w' (a :: os) := by
  have h' := h.below hb
  refine ⟨h'.bel, h'.big, fun o ho => ?_, .cons (fun o ho k hk hk2 => ?_) h'.apart⟩
  · rcases List.mem_cons.1 ho with rfl | ho
    · exact ⟨ha, fun k hk => Nat.le_trans h.big (hF k hk)⟩
    · exact h'.all o ho
  · have h1 := hF k hk
    have h2 := o.lt (h.all o ho).1 k hk2
    omega
/-- The first object has turned. -/
theorem Sep.step {a a' : Ob} (h : Sep B w0 w (a :: os)) (hc : Chg a.F w w') (ha : a'.P w') (hF : ∀ k, a'.F k → a.F k ∨ w.heap.size ≤ k) : Sep B w0 w' (a' :: os) := by
  obtain ⟨hd, ht⟩ := List.pairwise_cons.1 h.apart
  have hbase : ∀ k, a.F k → B ≤ k := (h.all a (.head _)).2
  refine ⟨h.bel.trans ⟨hc.os, hc.tape, hc.output, hc.size, fun k hk => hc.block k (by have := h.big; omega) (fun e => by have := hbase k e; omega)⟩, Nat.le_trans h.big hc.size, fun o ho => ?_, .cons (fun o ho k hk hk2 => ?_) ht⟩
  · rcases List.mem_cons.1 ho with rfl | ho
    · exact ⟨ha, fun k hk => by
        rcases hF k hk with e | e
        · exact hbase k e
        · have := h.big; omega⟩
    · exact ⟨o.keep hc (fun k hk hk2 => hd o ho k hk2 hk) (h.all o (.tail _ ho)).1, (h.all o (.tail _ ho)).2⟩
  · rcases hF k hk with e | e
    · exact hd o ho k e hk2
    · have := o.lt (h.all o (.tail _ ho)).1 k hk2; omega
theorem Sep.step1 {x a a' : Ob} (h : Sep B w0 w (x :: a :: os)) (hc : Chg a.F w w') (ha : a'.P w') (hF : ∀ k, a'.F k → a.F k ∨ w.heap.size ≤ k) : Sep B w0 w' (x :: a' :: os) :=
  ((h.perm (.swap _ _ _)).step hc ha hF).perm (.swap _ _ _)
theorem Sep.step2 {x y a a' : Ob} (h : Sep B w0 w (x :: y :: a :: os)) (hc : Chg a.F w w') (ha : a'.P w') (hF : ∀ k, a'.F k → a.F k ∨ w.heap.size ≤ k) : Sep B w0 w' (x :: y :: a' :: os) :=
  ((h.perm (((List.Perm.swap _ _ _).cons x).trans (.swap _ _ _))).step hc ha hF).perm (((List.Perm.swap _ _ _)).trans (((List.Perm.swap _ _ _)).cons _))
end
/-- A block. -/
def blkOb (g : Nat) (t : TypeId) (cs : Array Value) : Ob where
  P w := Blk w g t cs
  F k := k = g
  keep hc hF h := h.chg hc (hF _ rfl)
  lt h k hk := by subst hk; exact h.lt
theorem Sep.newBlk {B : Nat} {w0 w : World} {os : List Ob} (h : Sep B w0 w os) (g : Nat) (t : TypeId) (cs : Array Value) (hg : g = w.heap.size) : Sep B w0 (w.alloc (.cells cs t)) (blkOb g t cs :: os) := by
  subst hg
  exact h.add (a := blkOb w.heap.size t cs) ((Below.refl _ _).alloc (Nat.le_refl _) _) (Blk.new w t cs) (fun k hk => by have : k = w.heap.size := hk; omega)
theorem Sep.setBlk {B : Nat} {w0 w : World} {os : List Ob} {g : Nat} {t : TypeId} {cs : Array Value} (h : Sep B w0 w (blkOb g t cs :: os)) (i : Nat) (u : Value) : Sep B w0 (w.setCell ⟨g, i, none⟩ u) (blkOb g t (cs.setIfInBounds i u) :: os) :=
  h.step (a' := blkOb g t (cs.setIfInBounds i u)) (Chg.setCell (Chg.refl (blkOb g t cs).F w) (p := ⟨g, i, none⟩) (.inl rfl) u) (Blk.set_ (show Blk w g t cs from h.get (.head _)) i u) (fun _ h => .inl h)
/-- A row of a call's own. -/
def rowOb (e : TypeId) (size : Nat) (v : Value) (n : Nat) (xs : List Value) : Ob where
  P w := w.ownsRow 0 e size v n xs
  F k := v.ownBlock = some k
  keep hc hF h := own_chg h hc hF
  lt h k hk := (h.lt k hk).2
end Go.Proofs.YtalonikiljcpfaaDoor
