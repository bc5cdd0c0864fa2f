/-
  A set's methods among objects that lie apart from each other. Conditions: they lie apart; the library's table holds what its text lists.
-/
import Derived.Test.YthmkaefpgcjlnaaDoorSetFill2
import Derived.Test.YthmkaefpgcjlnaaDoorSetLaid
namespace Go.Proofs.YthmkaefpgcjlnaaDoor
open Go.RowKit Go.Shelf
set_option linter.unusedVariables false
/-- The list of truth values of a size that has these slots. -/
def bs (n : Nat) (l : List Nat) : List Bool := (List.range n).map fun i => decide (i ∈ l)
section
variable {B : Nat} {w0 w : World} {os : List Ob} {g t : Nat} {L M : List Bool}
theorem Sep.tab (h : Sep B w0 w os) (ht : TabIn w0) (hB : 0 < B) : TabIn w := ht.below h.bel hB
theorem Sep.set (h : Sep B w0 w (setOb g L :: os)) : HasSet w g L := h.get (.head _)
theorem reads_ints (W : World) (t : TypeId) (cs : Array Value) (is : List Int) (n : Nat) (hcs : cs.toList = ints is) (hn : n = cs.size) :
    Reads (W.alloc (.cells cs t)) (W.alloc (.cells cs t)).heap.size 1 (some ⟨W.heap.size, 0, none⟩) n (ints is) := by
  have := reads_news W t cs (0, 0) n hn
  rw [hcs] at this
  simpa using this
theorem reads_nats (W : World) (t : TypeId) (cs : Array Value) (is : List Nat) (n : Nat) (hcs : cs.toList = nats is) (hn : n = cs.size) :
    Reads (W.alloc (.cells cs t)) (W.alloc (.cells cs t)).heap.size 1 (some ⟨W.heap.size, 0, none⟩) n (nats is) := by
  have := reads_news W t cs (0, 0) n hn
  rw [hcs] at this
  simpa using this
theorem sep_set (h : Sep B w0 w os) (n : Nat) (h1 : 1 ≤ n) (h2 : n ≤ 34) (A : Option Addr) (m c : Nat) (is : List Int) (hr : Reads w w.heap.size 1 A m (ints is)) (hm : m ≤ 65536) (L' : List Bool) (hL : addAll (List.replicate n false) is = L') :
    Calls Tryd.prog 22 #[.int .i64 (n : Int), .slice A m c] w fun e w' => ∃ g, e = .returned (.pointer (some ⟨g, 0, none⟩)) ∧ Sep B w0 w' (setOb g L' :: os) := by
  subst hL
  exact (set_any n h1 h2 A m c is w hr hm).mono fun e w' ⟨g, h1, h2, h3, h4⟩ => ⟨g, h1, h.add (a := setOb g _) h4 h2 (fun k hk => by have : k = g := hk; omega)⟩
theorem sep_add (h : Sep B w0 w (setOb g L :: os)) (j r : Int) (L' : List Bool) (hr : errAt L j = r) (hL : setAt L j true = L') :
    Calls Tryd.prog 25 #[.pointer (some ⟨g, 0, none⟩), .int .i64 j] w fun e w' => e = .returned (.int .i64 r) ∧ Sep B w0 w' (setOb g L' :: os) := by
  subst hr hL
  exact (add_any h.set j).mono fun e w' ⟨h1, h2, h3⟩ => ⟨h1, h.step (a' := setOb g _) h3 h2 (fun _ h => .inl h)⟩
theorem sep_remove (h : Sep B w0 w (setOb g L :: os)) (j r : Int) (L' : List Bool) (hr : errAt L j = r) (hL : setAt L j false = L') :
    Calls Tryd.prog 26 #[.pointer (some ⟨g, 0, none⟩), .int .i64 j] w fun e w' => e = .returned (.int .i64 r) ∧ Sep B w0 w' (setOb g L' :: os) := by
  subst hr hL
  exact (remove_any h.set j).mono fun e w' ⟨h1, h2, h3⟩ => ⟨h1, h.step (a' := setOb g _) h3 h2 (fun _ h => .inl h)⟩
theorem sep_same (h : Sep B w0 w os) (hs : HasSet w g L) (A : Option Addr) (n c : Nat) (l : List Nat) (hl : slotsOf L = l) (hr : Reads w w.heap.size 1 A n (nats l)) :
    Calls Tryd.prog 14 #[.pointer (some ⟨g, 0, none⟩), .slice A n c] w fun e w' => e = .returned (.bool true) ∧ Sep B w0 w' os ∧ Below w.heap.size w w' := by
  subst hl
  have hn : n = (slotsOf L).length := by have := hr.1; rw [nats_length] at this; omega
  exact (same_of hs A n c w.heap.size hn hr (Nat.le_refl _)).mono fun e w' ⟨h1, h2⟩ => ⟨h1, h.below h2, h2⟩
/-- Union, or Minus, of the first object into the second. -/
theorem sep_union (h : Sep B w0 w (setOb t M :: setOb g L :: os)) (hl : L.length = M.length) (L' : List Bool) (hL : orL L M = L') :
    Calls Tryd.prog 19 #[.pointer (some ⟨g, 0, none⟩), .pointer (some ⟨t, 0, none⟩)] w fun e w' => e = .returned (.int .i64 0) ∧ Sep B w0 w' (setOb t M :: setOb g L' :: os) := by
  subst hL
  exact (union_of (show HasSet w g L from h.get (.tail _ (.head _))) h.set hl).mono fun e w' ⟨h1, h2, h3⟩ => ⟨h1, h.step1 (a' := setOb g _) h3 h2 (fun _ h => .inl h)⟩
theorem sep_minus (h : Sep B w0 w (setOb t M :: setOb g L :: os)) (hl : L.length = M.length) (L' : List Bool) (hL : notL L M = L') :
    Calls Tryd.prog 20 #[.pointer (some ⟨g, 0, none⟩), .pointer (some ⟨t, 0, none⟩)] w fun e w' => e = .returned (.int .i64 0) ∧ Sep B w0 w' (setOb t M :: setOb g L' :: os) := by
  subst hL
  exact (minus_of (show HasSet w g L from h.get (.tail _ (.head _))) h.set hl).mono fun e w' ⟨h1, h2, h3⟩ => ⟨h1, h.step1 (a' := setOb g _) h3 h2 (fun _ h => .inl h)⟩
theorem sep_union_bad (h : Sep B w0 w os) (hg : HasSet w g L) (ht : HasSet w t M) (hl : L.length ≠ M.length) :
    Calls Tryd.prog 19 #[.pointer (some ⟨g, 0, none⟩), .pointer (some ⟨t, 0, none⟩)] w fun e w' => e = .returned (.int .i64 2) ∧ Sep B w0 w' os := by
  refine (union_bad hg ht hl).mono ?_
  rintro e w' ⟨rfl, rfl⟩
  exact ⟨rfl, h.drewN 1⟩
theorem sep_minus_bad (h : Sep B w0 w os) (hg : HasSet w g L) (ht : HasSet w t M) (hl : L.length ≠ M.length) :
    Calls Tryd.prog 20 #[.pointer (some ⟨g, 0, none⟩), .pointer (some ⟨t, 0, none⟩)] w fun e w' => e = .returned (.int .i64 2) ∧ Sep B w0 w' os := by
  refine (minus_bad hg ht hl).mono ?_
  rintro e w' ⟨rfl, rfl⟩
  exact ⟨rfl, h.drewN 1⟩
theorem sep_copy (h : Sep B w0 w os) (hg : HasSet w g L) :
    Calls Tryd.prog 33 #[.pointer (some ⟨g, 0, none⟩)] w fun e w' => ∃ g', e = .returned (.pointer (some ⟨g', 0, none⟩)) ∧ Sep B w0 w' (setOb g' L :: os) :=
  (copy_of hg).mono fun e w' ⟨h1, h2, h3⟩ => ⟨_, h1, h.add (a := setOb w.heap.size L) h3 h2 (fun k hk => by have : k = w.heap.size := hk; omega)⟩
end
theorem next6 : NextIs (bs 8 [2, 5]) 6 0 false := by
  refine .inr ⟨rfl, rfl, fun i hi => ?_⟩
  by_cases h8 : i < 8
  · have e : i = 6 ∨ i = 7 := by omega
    rcases e with rfl | rfl <;> decide
  · exact inL_ge (by show 8 ≤ i; omega)
set_option maxHeartbeats 4000000 in
set_option maxRecDepth 100000 in
/-- The law's examples. -/
theorem works_any (w : World) (ht : TabIn w) :
    Calls Tryd.prog 12 #[] w fun e w' => e = .returned (.bool true) ∧ Below w.heap.size w w' := by
  have HT := Lib.hid ht
  have hp := ht.pos
  clear ht
  go_enter Tryd.func12, Tryd.ntmps12
  go_wp2_with fail
  refine (sep_set (Sep.start w) 8 (by omega) (by omega) none 0 0 [] Reads.none_ (by omega) (bs 8 []) (by decide)).mono ?_
  rintro e w1 ⟨g, rfl, hs⟩
  have H := Lib.hid hs
  clear hs
  go_wp2_with fail
  refine (sep_add H.out 5 0 (bs 8 [5]) (by decide) (by decide)).mono ?_
  rintro e w2 ⟨rfl, hs⟩
  have H := Lib.hid hs
  clear hs
  go_wp2_with fail
  refine (sep_add H.out 2 0 (bs 8 [2, 5]) (by decide) (by decide)).mono ?_
  rintro e w3 ⟨rfl, hs⟩
  have H := Lib.hid hs
  clear hs
  go_wp2_with fail
  refine (sep_add H.out 5 0 (bs 8 [2, 5]) (by decide) (by decide)).mono ?_
  rintro e w4 ⟨rfl, hs⟩
  have H := Lib.hid hs
  clear hs
  go_wp2_with fail
  refine (sep_add H.out 8 3 (bs 8 [2, 5]) (by decide) (by decide)).mono ?_
  rintro e w5 ⟨rfl, hs⟩
  have H := Lib.hid hs
  clear hs
  go_wp2_with fail
  have H' := Lib.hid (H.out.alloc (.cells #[Value.int .i64 2, .int .i64 5] 3))
  refine (sep_same H'.out H'.out.set _ 2 2 [2, 5] (by decide) (reads_nats w5 3 #[Value.int .i64 2, .int .i64 5] [2, 5] 2 rfl rfl)).mono ?_
  rintro e w6 ⟨rfl, hs, _⟩
  have H := Lib.hid hs
  clear hs
  go_wp2_with fail
  refine (next_of H.out.set (H.out.tab HT.out hp) 3 (by omega) 5 true (.inl ⟨rfl, by decide, by omega, by decide⟩)).mono ?_
  rintro e w' ⟨rfl, rfl⟩
  go_wp2_with fail
  refine (next_of H.out.set (H.out.tab HT.out hp) 6 (by omega) 0 false next6).mono ?_
  rintro e w' ⟨rfl, rfl⟩
  go_wp2_with fail
  refine (lowest_of H.out.set (H.out.tab HT.out hp) 2 true (.inl ⟨rfl, by decide, by omega, by decide⟩)).mono ?_
  rintro e w' ⟨rfl, rfl⟩
  go_wp2_with fail
  refine (sep_remove H.out 2 0 (bs 8 [5]) (by decide) (by decide)).mono ?_
  rintro e w7 ⟨rfl, hs⟩
  have H := Lib.hid hs
  clear hs
  go_wp2_with fail
  have H' := Lib.hid (H.out.alloc (.cells #[Value.int .i64 0, .int .i64 5] 3))
  refine (sep_set H'.out 8 (by omega) (by omega) _ 2 2 [0, 5] (reads_ints w7 3 #[Value.int .i64 0, .int .i64 5] [0, 5] 2 rfl rfl) (by omega) (bs 8 [0, 5]) (by decide)).mono ?_
  rintro e w8 ⟨g2, rfl, hs⟩
  have H := Lib.hid hs
  clear hs
  go_wp2_with fail
  refine (sep_union H.out rfl (bs 8 [0, 5]) (by decide)).mono ?_
  rintro e w9 ⟨rfl, hs⟩
  have H := Lib.hid (hs.sub (List.sublist_cons_self _ _))
  clear hs
  go_wp2_with fail
  have H' := Lib.hid (H.out.alloc (.cells #[Value.int .i64 0, .int .i64 5] 3))
  refine (sep_same H'.out H'.out.set _ 2 2 [0, 5] (by decide) (reads_nats w9 3 #[Value.int .i64 0, .int .i64 5] [0, 5] 2 rfl rfl)).mono ?_
  rintro e w10 ⟨rfl, hs, _⟩
  have H := Lib.hid hs
  clear hs
  go_wp2_with fail
  have H' := Lib.hid (H.out.alloc (.cells #[Value.int .i64 5, .int .i64 7] 3))
  refine (sep_set H'.out 8 (by omega) (by omega) _ 2 2 [5, 7] (reads_ints w10 3 #[Value.int .i64 5, .int .i64 7] [5, 7] 2 rfl rfl) (by omega) (bs 8 [5, 7]) (by decide)).mono ?_
  rintro e w11 ⟨g3, rfl, hs⟩
  have H := Lib.hid hs
  clear hs
  go_wp2_with fail
  refine (sep_minus H.out rfl (bs 8 [0]) (by decide)).mono ?_
  rintro e w12 ⟨rfl, hs⟩
  have H := Lib.hid (hs.sub (List.sublist_cons_self _ _))
  clear hs
  go_wp2_with fail
  have H' := Lib.hid (H.out.alloc (.cells #[Value.int .i64 0] 3))
  refine (sep_same H'.out H'.out.set _ 1 1 [0] (by decide) (reads_nats w12 3 #[Value.int .i64 0] [0] 1 rfl rfl)).mono ?_
  rintro e w13 ⟨rfl, hs, _⟩
  have H := Lib.hid hs
  clear hs
  go_wp2_with fail
  refine (sep_set H.out 9 (by omega) (by omega) none 0 0 [] Reads.none_ (by omega) (bs 9 []) (by decide)).mono ?_
  rintro e w14 ⟨g4, rfl, hs⟩
  have H := Lib.hid hs
  clear hs
  go_wp2_with fail
  refine (sep_union_bad H.out (H.out.get (.tail _ (.head _))) H.out.set (by decide)).mono ?_
  rintro e w15 ⟨rfl, hs⟩
  have H := Lib.hid hs
  clear hs
  go_wp2_with fail
  refine (size_of (show HasSet w15 g (bs 8 [0]) from H.out.get (.tail _ (.head _)))).mono ?_
  rintro e w' ⟨rfl, rfl⟩
  go_wp2_with fail
  go_ret
  exact ⟨rfl, H.out.bel⟩
end Go.Proofs.YthmkaefpgcjlnaaDoor
