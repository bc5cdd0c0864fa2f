/-
  The slot set laws' helpers among objects that lie apart; bytes that came in. Condition: what is read can be read.
-/
import Derived.Test.YtalonikiljcpfaaDoorSetSep
namespace Go.Proofs.YtalonikiljcpfaaDoor
open Go.RowKit Go.Shelf
set_option linter.unusedVariables false
theorem Sep.join {B : Nat} {w0 w w' : World} {os os' : List Ob} (h : Sep B w0 w os) (k : Sep w.heap.size w w' os') : Sep B w0 w' (os' ++ os) := by
  have h' := h.below k.bel
  refine ⟨h'.bel, h'.big, fun o ho => ?_, List.pairwise_append.2 ⟨k.apart, h'.apart, fun a ha b hb q hq hq2 => ?_⟩⟩
  · rcases List.mem_append.1 ho with ho | ho
    · exact ⟨(k.all o ho).1, fun q hq => Nat.le_trans h.big ((k.all o ho).2 q hq)⟩
    · exact h'.all o ho
  · have h1 := (k.all a ha).2 q hq
    have h2 := b.lt (h.all b hb).1 q hq2
    omega
theorem ne_nil (g : Nat) : True := trivial
section
variable {B : Nat} {w0 w : World} {os : List Ob} {g t bi : Nat} {L M : List Bool}
theorem Sep.bv (h : Sep B w0 w (setOb g L :: bvOb bi L :: os)) (n : Nat) (hn : n = L.length) : Reads w w.heap.size 1 (some ⟨bi, 0, none⟩) n (bvals L) := bv_reads (h.get (.tail _ (.head _))) n hn
theorem Sep.len (h : Sep B w0 w (setOb g L :: os)) : 0 < L.length ∧ L.length ≤ 34 := by
  obtain ⟨b, hb⟩ := h.set
  exact ⟨hb.pos, hb.le⟩
theorem slotsOf_le (L : List Bool) : (slotsOf L).length ≤ L.length := slotsTo_le L L.length
end
end Go.Proofs.YtalonikiljcpfaaDoor
