/-
  The walk of the law SlotsetNil: it returns true and writes nothing that was there. Condition: the library's table holds what its text lists.
-/
import Derived.Test.YthmkaefpgcjlnaaDoorSetNo
namespace Go.Proofs.YthmkaefpgcjlnaaDoor
open Go.RowKit Go.Shelf
set_option linter.unusedVariables false
set_option maxHeartbeats 4000000 in
set_option maxRecDepth 100000 in
theorem SlotsetNil_w (i : Int) (w : World) (ht : TabIn w) :
    Calls Tryd.prog 10 #[.int .i64 i] w fun e w' => e = .returned (.bool true) ∧ Below w.heap.size w w' := by
  have HT := Lib.hid ht
  have hp := ht.pos
  clear ht
  go_enter Tryd.func10, Tryd.ntmps10
  go_wp2_with fail
  have H' := Lib.hid ((Sep.start w).alloc (.cells #[Value.int .i64 3] 3))
  refine (sep_set H'.out 8 (by omega) (by omega) _ 1 1 [3] (reads_ints w 3 #[Value.int .i64 3] [3] 1 rfl rfl) (by omega) (bs 8 [3]) (by decide)).mono ?_
  rintro e w1 ⟨g, rfl, hs⟩
  have H := Lib.hid hs
  clear hs
  go_wp2_with fail
  have H2 : Hid (Sep w.heap.size w ((w1.alloc (.cells #[.int .i64 0, .int .u64 0] 64)).alloc (.cells #[.pointer none, .pointer (some ⟨w1.heap.size, 0, none⟩)] 24)) [setOb g (bs 8 [3]), blkOb w1.heap.size 64 #[.int .i64 0, .int .u64 0], blkOb (w1.heap.size + 1) 24 #[.pointer none, .pointer (some ⟨w1.heap.size, 0, none⟩)]]) := by
    have h1 := H.out.add (a := blkOb w1.heap.size 64 #[.int .i64 0, .int .u64 0]) ((Below.refl _ _).alloc (Nat.le_refl _) _) (Blk.new w1 _ _) (fun k hk => by have : k = w1.heap.size := hk; omega)
    have h2 := h1.add (a := blkOb (w1.heap.size + 1) 24 #[.pointer none, .pointer (some ⟨w1.heap.size, 0, none⟩)]) ((Below.refl _ _).alloc (Nat.le_refl _) (.cells #[.pointer none, .pointer (some ⟨w1.heap.size, 0, none⟩)] 24)) (by
      have := Blk.new (w1.alloc (.cells #[.int .i64 0, .int .u64 0] 64)) 24 #[.pointer none, .pointer (some ⟨w1.heap.size, 0, none⟩)]
      rw [World.size_alloc] at this
      exact this) (fun k hk => by have : k = w1.heap.size + 1 := hk; simp; omega)
    exact (h2.perm (List.Perm.trans ((List.Perm.swap _ _ _).cons _) (List.Perm.trans (List.Perm.swap _ _ _) ((List.Perm.swap _ _ _).cons _))))
  go_loopg [6, 7, 8, 9, 10, 11] 2 (fun q v6 v7 v8 v9 v10 v11 wr => ∃ j : Nat, j + q = 2 ∧ v6 = .int .i64 j ∧ Sep w.heap.size w wr [setOb g (bs 8 [3]), blkOb w1.heap.size 64 #[.int .i64 0, .int .u64 0], blkOb (w1.heap.size + 1) 24 #[.pointer none, .pointer (some ⟨w1.heap.size, 0, none⟩)]])
  case atStart => exact ⟨0, by omega, rfl, H2.out⟩
  case round =>
    obtain ⟨j, hj, rfl, hs⟩ := hrel
    have HJ := Lib.hid hj
    have H3 := Lib.hid hs
    by_cases hlt : j < 2
    · obtain ⟨p, hv, hcell⟩ : ∃ p, NoSet wr p ∧ wr.cell? ⟨w1.heap.size + 1, j, none⟩ = some (.pointer p) := by
        have hB : Blk wr (w1.heap.size + 1) 24 #[.pointer none, .pointer (some ⟨w1.heap.size, 0, none⟩)] := hs.get (.tail _ (.tail _ (.head _)))
        have hA : Blk wr w1.heap.size 64 #[.int .i64 0, .int .u64 0] := hs.get (.tail _ (.head _))
        rw [hB.cell]
        rcases (by omega : j = 0 ∨ j = 1) with rfl | rfl
        · exact ⟨_, .inl rfl, rfl⟩
        · exact ⟨_, .inr ⟨_, rfl, hA.cell 0⟩, rfl⟩
      have HV := Lib.hid hv
      clear hj hs hv
      go_wp2_with fail
      refine (no_next HV.out i).mono ?_
      rintro e w' ⟨rfl, rfl⟩
      go_wp2_with fail
      refine (no_lowest HV.out).mono ?_
      rintro e w' ⟨rfl, rfl⟩
      go_wp2_with fail
      refine (no_add HV.out i).mono ?_
      rintro e w' ⟨rfl, rfl⟩
      go_wp2_with fail
      refine (no_remove HV.out i).mono ?_
      rintro e w' ⟨rfl, rfl⟩
      go_wp2_with fail
      refine (no_has HV.out i).mono ?_
      rintro e w' ⟨rfl, rfl⟩
      go_wp2_with fail
      refine (no_len HV.out).mono ?_
      rintro e w' ⟨rfl, rfl⟩
      go_wp2_with fail
      refine (no_size HV.out).mono ?_
      rintro e w' ⟨rfl, rfl⟩
      go_wp2_with fail
      refine (no_copy HV.out).mono ?_
      rintro e w' ⟨rfl, rfl⟩
      go_wp2_with fail
      refine (same_no HV.out).mono ?_
      rintro e w2 ⟨rfl, hb⟩
      have H3 := Lib.hid (H3.out.below hb)
      have HV := Lib.hid (HV.out.below hb)
      clear hb
      go_wp2_with fail
      refine (no_union1 HV.out _).mono ?_
      rintro e w' ⟨rfl, rfl⟩
      go_wp2_with fail
      refine (no_union2 H3.out.set HV.out).mono ?_
      rintro e w' ⟨rfl, rfl⟩
      go_wp2_with fail
      refine (no_minus1 HV.out _).mono ?_
      rintro e w' ⟨rfl, rfl⟩
      go_wp2_with fail
      refine (no_minus2 H3.out.set HV.out).mono ?_
      rintro e w' ⟨rfl, rfl⟩
      go_wp2_with fail
      go_roundg (gk - 1)
      case measure => have := HJ.out; omega
      case rel => exact ⟨j + 1, by have := HJ.out; omega, by go_num, H3.out⟩
    · clear hj hs
      go_wp2_with fail
      have H' := Lib.hid (H3.out.alloc (.cells #[Value.int .i64 3] 3))
      refine (sep_same H'.out H'.out.set _ 1 1 [3] (by decide) (reads_nats wr 3 #[Value.int .i64 3] [3] 1 rfl rfl)).mono ?_
      rintro e w3 ⟨rfl, hs, _⟩
      have H4 := Lib.hid hs
      clear hs
      go_wp2_with fail
      refine (works_any _ (H4.out.tab HT.out hp)).mono ?_
      rintro e w15 ⟨rfl, hb⟩
      go_wp2
      go_ret
      exact ⟨rfl, bt H4.out.bel hb⟩
theorem SlotsetNil_walk (v0 : Value) (w : World) (ht : TabIn w) (h0 : ArgIn Tryd.prog w 3 v0) :
    Calls Tryd.prog 10 #[v0] w fun e w' => e = .returned (.bool true) ∧ Below w.heap.size w w' := by
  obtain ⟨n, rfl, w2⟩ := h0.int Tryd.underlying3
  exact SlotsetNil_w n w ht
end Go.Proofs.YthmkaefpgcjlnaaDoor
