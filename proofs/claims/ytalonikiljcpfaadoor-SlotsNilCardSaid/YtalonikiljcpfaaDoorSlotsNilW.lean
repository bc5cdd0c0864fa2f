/-
  The walk of the law SlotsNil: it returns true and writes nothing that was there. Condition: the variables hold what their texts list.
-/
import Derived.Test.YtalonikiljcpfaaDoorTabNo
import Derived.Test.YtalonikiljcpfaaDoorSlotLaid
namespace Go.Proofs.YtalonikiljcpfaaDoor
open Go.RowKit
set_option linter.unusedVariables false
set_option maxHeartbeats 8000000 in
set_option maxRecDepth 100000 in
theorem SlotsNil_w (slot st : Int) (w : World) (hl : LaidIn w) :
    Calls Tryd.prog 10 #[.int .i64 slot, .int .i64 st] w fun e w' => e = .returned (.bool true) ∧ Below w.heap.size w w' := by
  have HL := Lib.hid hl
  have hB := hl.big
  clear hl
  go_enter Tryd.func10, Tryd.ntmps10
  go_wp2_with fail
  obtain ⟨W1, hW1⟩ : ∃ W1, W1 = (w.alloc (.cells #[.int .i64 0, .int .i64 0, .pointer none, .pointer none, .pointer none, .pointer none, .pointer none] 68)).alloc (.cells #[.pointer none, .pointer (some ⟨w.heap.size, 0, none⟩)] 24) := ⟨_, rfl⟩
  rw [← hW1]
  have hb1 : Below w.heap.size w W1 := by rw [hW1]; exact ((Below.refl _ _).alloc (Nat.le_refl _) _).alloc (by simp) _
  have m1 : Blk W1 w.heap.size 68 #[.int .i64 0, .int .i64 0, .pointer none, .pointer none, .pointer none, .pointer none, .pointer none] := by rw [hW1]; exact (Blk.new w _ _).alloc _
  have m2 : Blk W1 (w.heap.size + 1) 24 #[.pointer none, .pointer (some ⟨w.heap.size, 0, none⟩)] := by
    rw [hW1]
    have := Blk.new (w.alloc (.cells #[.int .i64 0, .int .i64 0, .pointer none, .pointer none, .pointer none, .pointer none, .pointer none] 68)) 24 #[.pointer none, .pointer (some ⟨w.heap.size, 0, none⟩)]
    rwa [World.size_alloc] at this
  have HP : Hid (∀ W, Below W1.heap.size W1 W → ∀ i, i < 2 → ∃ p, W.cell? ⟨w.heap.size + 1, i, none⟩ = some (.pointer p) ∧ NoTab W p) := fun W hW i hi => by
    have k2 := m2.below hW m2.lt
    have k1 := m1.below hW m1.lt
    have e : i = 0 ∨ i = 1 := by omega
    rcases e with rfl | rfl
    · exact ⟨_, k2.cell 0, .inl rfl⟩
    · exact ⟨_, k2.cell 1, .inr ⟨_, rfl, k1.cell 0⟩⟩
  have HB1 := Lib.hid hb1
  have HLL : Hid (∀ W, Below W1.heap.size W1 W → LaidIn W) := fun W hW => (HL.out.below hb1 hB).below hW (by have := hb1.size; omega)
  obtain ⟨nb, hnb⟩ : ∃ nb, nb = w.heap.size + 1 := ⟨_, rfl⟩
  rw [← hnb] at HP ⊢
  clear hW1 m1 m2 hb1 hnb
  go_loopg [7] 2 (fun q v7 wr => ∃ (j : Nat), j + q = 2 ∧ v7 = .int .i64 j ∧ Below W1.heap.size W1 wr)
  case atStart => exact ⟨0, by omega, rfl, Below.refl _ _⟩
  case round =>
    obtain ⟨j, hj, rfl, hb⟩ := hrel
    have HJ := Lib.hid hj
    have hj' : j ≤ 2 := by omega
    have HB2 := Lib.hid hb
    by_cases hlt : j < 2
    · obtain ⟨p, qp, hp⟩ := HP.out _ hb j hlt
      have HN := Lib.hid hp
      have hnil : ∀ W, Calls Tryd.prog 11 #[] W (fun _ _ => True) → True := fun _ _ => trivial
      clear hj hb hp hnil
      go_wp2_with fail
      refine (noactive HN.out).mono ?_
      rintro e w' ⟨rfl, rfl⟩
      go_wp2_with fail
      refine (nooutput HN.out).mono ?_
      rintro e w' ⟨rfl, rfl⟩
      go_wp2_with fail
      refine (nostate HN.out slot).mono ?_
      rintro e w' ⟨rfl, rfl⟩
      go_wp2_with fail
      refine (noonly HN.out st).mono ?_
      rintro e w' ⟨rfl, rfl⟩
      go_wp2_with fail
      refine (nosizes HN.out).mono ?_
      rintro e w' ⟨rfl, rfl⟩
      go_wp2_with fail
      refine (nofree HN.out).mono ?_
      rintro e w' ⟨rfl, rfl⟩
      go_wp2_with fail
      refine (nocopy HN.out).mono ?_
      rintro e w' ⟨rfl, rfl⟩
      go_wp2_with fail
      refine (nosame HN.out st).mono ?_
      rintro e w3 ⟨rfl, hb⟩
      have HN3 := Lib.hid (HN.out.below hb)
      have HB3 := Lib.hid (HB2.out.trans (hb.mono HB2.out.size))
      clear hb
      go_wp2_with fail
      refine (noseal HN3.out (HLL.out _ HB3.out) slot).mono ?_
      rintro e w4 ⟨rfl, hb⟩
      have HN4 := Lib.hid (HN3.out.below hb)
      have HB4 := Lib.hid (HB3.out.trans (hb.mono HB3.out.size))
      clear hb
      go_wp2_with fail
      refine (nochoose HN4.out (HLL.out _ HB4.out) slot).mono ?_
      rintro e w5 ⟨rfl, hb⟩
      have HN5 := Lib.hid (HN4.out.below hb)
      have HB5 := Lib.hid (HB4.out.trans (hb.mono HB4.out.size))
      clear hb
      go_wp2_with fail
      refine (nodrop HN5.out (HLL.out _ HB5.out) slot).mono ?_
      rintro e w6 ⟨rfl, hb⟩
      have HN6 := Lib.hid (HN5.out.below hb)
      have HB6 := Lib.hid (HB5.out.trans (hb.mono HB5.out.size))
      clear hb
      go_wp2_with fail
      refine (noload HN6.out (HLL.out _ HB6.out) slot).mono ?_
      rintro e w7 ⟨rfl, hb⟩
      have HN7 := Lib.hid (HN6.out.below hb)
      have HB7 := Lib.hid (HB6.out.trans (hb.mono HB6.out.size))
      clear hb
      go_wp2_with fail
      go_roundg (gk - 1)
      case measure => have := HJ.out; omega
      case rel => exact ⟨j + 1, by have := HJ.out; omega, by go_num, HB7.out⟩
    · clear hj hb
      go_wp2_with fail
      refine (works_any _ (HLL.out _ HB2.out)).mono ?_
      rintro e w17 ⟨rfl, hb⟩
      have HB17 := Lib.hid hb
      clear hb
      go_wp2_with fail
      go_ret
      exact ⟨rfl, (HB1.out.trans (HB2.out.mono HB1.out.size)).trans (HB17.out.mono (Nat.le_trans HB1.out.size HB2.out.size))⟩
theorem SlotsNil_walk (v0 v1 : Value) (w : World) (hl : LaidIn w) (h0 : ArgIn Tryd.prog w 3 v0) (h1 : ArgIn Tryd.prog w 3 v1) :
    Calls Tryd.prog 10 #[v0, v1] w fun e w' => e = .returned (.bool true) ∧ Below w.heap.size w w' := by
  obtain ⟨m0, rfl, e0⟩ := h0.int (k := .i64) Tryd.underlying3
  obtain ⟨m1, rfl, e1⟩ := h1.int (k := .i64) Tryd.underlying3
  exact SlotsNil_w m0 m1 w hl
end Go.Proofs.YtalonikiljcpfaaDoor
