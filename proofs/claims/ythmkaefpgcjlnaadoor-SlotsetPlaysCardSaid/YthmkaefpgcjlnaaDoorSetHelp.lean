/-
  The slot set laws' helpers among objects that lie apart; bytes that came in. Condition: what is read can be read.
-/
import Derived.Test.YthmkaefpgcjlnaaDoorSetSep
namespace Go.Proofs.YthmkaefpgcjlnaaDoor
open Go.RowKit Go.Shelf
set_option linter.unusedVariables false
theorem Sep.join {B : Nat} {w0 w w' : World} {os os' : List Ob} (h : Sep B w0 w os) (k : Sep w.heap.size w w' os') : Sep B w0 w' (os' ++ os) := by
  have h' := h.below k.bel
  refine ⟨h'.bel, h'.big, fun o ho => ?_, List.pairwise_append.2 ⟨k.apart, h'.apart, fun a ha b hb q hq hq2 => ?_⟩⟩
  · rcases List.mem_append.1 ho with ho | ho
    · exact ⟨(k.all o ho).1, fun q hq => Nat.le_trans h.big ((k.all o ho).2 q hq)⟩
    · exact h'.all o ho
  · have h1 := (k.all a ha).2 q hq
    have h2 := b.lt (h.all b hb).1 q hq2
    omega
theorem ne_nil (g : Nat) : True := trivial
/-- Bytes that came in. -/
theorem ArgIn.bytes {w : World} {v : Value} (h : ArgIn Tryd.prog w 22 v) : ∃ (A : Option Addr) (n c : Nat) (l : List (BitVec 8)), v = .slice A n c ∧ n = l.length ∧ n ≤ maxLen ∧ Reads w w.heap.size 1 A n (u8s l) := by
  obtain ⟨A, n, c, zs, rfl, hr⟩ := h.row (k := .u8) Tryd.underlying22 Tryd.underlying5 (by kernel_rfl)
  obtain ⟨l, h1, h2, h3, h4, h5⟩ := hr.bytes
  exact ⟨A, n, c, l, rfl, h1, h2, h5⟩
section
variable {B : Nat} {w0 w : World} {os : List Ob} {g t bi : Nat} {L M : List Bool}
theorem sep_filled (h : Sep B w0 w os) (sz : BitVec 8) (A : Option Addr) (m c : Nat) (l : List (BitVec 8)) (hr : Reads w w.heap.size 1 A m (u8s l)) (hm : m ≤ 65536) :
    Calls Tryd.prog 13 #[.int .u8 (n8 sz), .slice A m c] w fun e w' => ∃ (g bi n : Nat) (L : List Bool), e = .returned (.tuple #[.pointer (some ⟨g, 0, none⟩), .slice (some ⟨bi, 0, none⟩) n n]) ∧ n = L.length ∧ 1 + n8 sz % 34 = (n : Int) ∧ Sep B w0 w' (setOb g L :: bvOb bi L :: os) ∧ Below w.heap.size w w' :=
  (filled_any sz A m c l w hr hm).mono fun e w' ⟨g, bi, n, L, h1, h2, h3, h4⟩ => ⟨g, bi, n, L, h1, h2, h3, h.join h4, h4.bel⟩
theorem sep_slots (h : Sep B w0 w os) (A : Option Addr) (n c : Nat) (hL : L.length ≤ 65536) (hr : Reads w w.heap.size 1 A n (bvals L)) (k : Nat) (hk : (slotsOf L).length = k) :
    Calls Tryd.prog 15 #[.slice A n c] w fun e w' => ∃ A' c', e = .returned (.slice A' k c') ∧ Sep B w0 w' os ∧ Below w.heap.size w w' ∧ Reads w' w'.heap.size 1 A' k (nats (slotsOf L)) := by
  subst hk
  refine (slots_any L hL A n c w hr).mono ?_
  rintro e w' ⟨v, rfl, h1, h2⟩
  obtain ⟨A', c', rfl, _, _, h3⟩ := own_slice h1
  exact ⟨A', c', rfl, h.below h2, h2, h3⟩
theorem Sep.bv (h : Sep B w0 w (setOb g L :: bvOb bi L :: os)) (n : Nat) (hn : n = L.length) : Reads w w.heap.size 1 (some ⟨bi, 0, none⟩) n (bvals L) := bv_reads (h.get (.tail _ (.head _))) n hn
theorem Sep.len (h : Sep B w0 w (setOb g L :: os)) : 0 < L.length ∧ L.length ≤ 34 := by
  obtain ⟨b, hb⟩ := h.set
  exact ⟨hb.pos, hb.le⟩
theorem slotsOf_le (L : List Bool) : (slotsOf L).length ≤ L.length := slotsTo_le L L.length
end
end Go.Proofs.YthmkaefpgcjlnaaDoor
