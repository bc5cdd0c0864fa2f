/-
  The walk of the law SlotsetKnown: it returns true and writes nothing that was there. Condition: the library's table holds what its text lists.
-/
import Derived.Test.YthmkaefpgcjlnaaDoorSetSep
namespace Go.Proofs.YthmkaefpgcjlnaaDoor
open Go.RowKit Go.Shelf
set_option linter.unusedVariables false
theorem next18 : NextIs (bs 34 [0, 17, 33]) 18 33 true := .inl ⟨rfl, by decide +kernel, by omega, by decide +kernel⟩
theorem next34 : NextIs (bs 34 [0, 17, 33]) 34 0 false := .inr ⟨rfl, rfl, fun i hi => inL_ge (by show 34 ≤ i; omega)⟩
theorem nextLow : NextIs (bs 34 [0, 17, 33]) (-9223372036854775808) 0 true := .inl ⟨rfl, by decide +kernel, by omega, fun i hi => by omega⟩
set_option maxHeartbeats 4000000 in
set_option maxRecDepth 100000 in
theorem SlotsetKnown_walk (w : World) (ht : TabIn w) :
    Calls Tryd.prog 8 #[] w fun e w' => e = .returned (.bool true) ∧ Below w.heap.size w w' := by
  have HT := Lib.hid ht
  have hp := ht.pos
  have e34 : addAll (List.replicate 34 false) [0, 33, 17] = bs 34 [0, 17, 33] := by decide +kernel
  have E34 := Lib.hid e34
  clear ht e34
  go_enter Tryd.func8, Tryd.ntmps8
  go_wp2_with fail
  have H' := Lib.hid ((Sep.start w).alloc (.cells #[Value.int .i64 0, .int .i64 33, .int .i64 17] 3))
  refine (sep_set H'.out 34 (by omega) (by omega) _ 3 3 [0, 33, 17] (reads_ints w 3 #[Value.int .i64 0, .int .i64 33, .int .i64 17] [0, 33, 17] 3 rfl rfl) (by omega) (bs 34 [0, 17, 33]) E34.out).mono ?_
  rintro e w1 ⟨g, rfl, hs⟩
  have H := Lib.hid hs
  clear hs
  go_wp2_with fail
  refine (new_set_bad 0 _ (by omega)).mono ?_
  rintro e w' ⟨rfl, rfl⟩
  go_wp2_with fail
  refine (new_set_bad 35 _ (by omega)).mono ?_
  rintro e w' ⟨rfl, rfl⟩
  go_wp2_with fail
  refine (sep_set H.out 1 (by omega) (by omega) none 0 0 [] Reads.none_ (by omega) (bs 1 []) (by decide)).mono ?_
  rintro e w2 ⟨g2, rfl, hs⟩
  have H : Hid (Sep w.heap.size w w2 [setOb g (bs 34 [0, 17, 33]), setOb g2 (bs 1 [])]) := hs.perm (List.Perm.swap _ _ _)
  clear hs
  go_wp2_with fail
  have H' := Lib.hid (H.out.alloc (.cells #[Value.int .i64 0, .int .i64 17, .int .i64 33] 3))
  refine (sep_same H'.out H'.out.set _ 3 3 [0, 17, 33] (by decide +kernel) (reads_nats w2 3 #[Value.int .i64 0, .int .i64 17, .int .i64 33] [0, 17, 33] 3 rfl rfl)).mono ?_
  rintro e w6 ⟨rfl, hs, _⟩
  have H := Lib.hid hs
  clear hs
  go_wp2_with fail
  refine (sep_add H.out 34 3 (bs 34 [0, 17, 33]) (by decide +kernel) (by decide +kernel)).mono ?_
  rintro e w7 ⟨rfl, hs⟩
  have H := Lib.hid hs
  clear hs
  go_wp2_with fail
  refine (sep_add H.out (-1) 3 (bs 34 [0, 17, 33]) (by decide +kernel) (by decide +kernel)).mono ?_
  rintro e w8 ⟨rfl, hs⟩
  have H := Lib.hid hs
  clear hs
  go_wp2_with fail
  refine (next_of H.out.set (H.out.tab HT.out hp) 18 (by omega) 33 true next18).mono ?_
  rintro e w' ⟨rfl, rfl⟩
  go_wp2_with fail
  refine (next_of H.out.set (H.out.tab HT.out hp) 34 (by omega) 0 false next34).mono ?_
  rintro e w' ⟨rfl, rfl⟩
  go_wp2_with fail
  refine (next_of H.out.set (H.out.tab HT.out hp) (-9223372036854775808) (by omega) 0 true nextLow).mono ?_
  rintro e w' ⟨rfl, rfl⟩
  have H : Hid (Sep w.heap.size w w8 [setOb g2 (bs 1 []), setOb g (bs 34 [0, 17, 33])]) := H.out.perm (List.Perm.swap _ _ _)
  go_wp2_with fail
  refine (sep_add H.out 0 0 (bs 1 [0]) (by decide +kernel) (by decide +kernel)).mono ?_
  rintro e w9 ⟨rfl, hs⟩
  have H := Lib.hid hs
  clear hs
  go_wp2_with fail
  refine (sep_add H.out 1 3 (bs 1 [0]) (by decide +kernel) (by decide +kernel)).mono ?_
  rintro e w10 ⟨rfl, hs⟩
  have H := Lib.hid hs
  clear hs
  go_wp2_with fail
  have H' := Lib.hid (H.out.alloc (.cells #[Value.int .i64 0] 3))
  refine (sep_same H'.out H'.out.set _ 1 1 [0] (by decide +kernel) (reads_nats w10 3 #[Value.int .i64 0] [0] 1 rfl rfl)).mono ?_
  rintro e w11 ⟨rfl, hs, _⟩
  have H := Lib.hid hs
  clear hs
  go_wp2_with fail
  refine (works_any _ (H.out.tab HT.out hp)).mono ?_
  rintro e w12 ⟨rfl, hb⟩
  go_wp2_with fail
  go_ret
  exact ⟨rfl, bt H.out.bel hb⟩
end Go.Proofs.YthmkaefpgcjlnaaDoor
