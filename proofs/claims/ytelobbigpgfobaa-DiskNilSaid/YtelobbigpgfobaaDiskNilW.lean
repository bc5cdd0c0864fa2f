/-
  The walk of the law DiskNil: it returns true and writes nothing that was there. No condition.
-/
import Derived.Test.YtelobbigpgfobaaDstep
import Derived.Test.YtelobbigpgfobaaDworks
import Derived.Test.YtelobbigpgfobaaUsed
namespace Go.Proofs.Ytelobbigpgfobaa
open Go.RowKit
set_option linter.unusedVariables false
set_option maxRecDepth 100000 in
set_option maxHeartbeats 8000000 in
theorem DiskNil_w (st : DStep) (v4 v5 : Value) (w : World) (hok : st.Ok w v4 v5) :
    Calls Try.prog 7 #[.agg (st.cells v4 v5)] w fun e w' => e = .returned (.bool true) ∧ Below w.heap.size w w' := by
  obtain ⟨W1, hW1⟩ : ∃ W1 : World, W1 = (w.alloc (.cells (st.cells v4 v5) 56)).alloc (.cells (st.cells v4 v5) 56) := ⟨_, rfl⟩
  have hb1 : Below w.heap.size w W1 := by rw [hW1]; exact ((Below.refl _ _).alloc (Nat.le_refl _) _).alloc (by simp) _
  have hB1 : Blk W1 w.heap.size 56 (st.cells v4 v5) := by rw [hW1]; exact (Blk.new w _ _).alloc _
  have hs1 : W1.heap.size = w.heap.size + 2 := by rw [hW1]; simp
  have hbb : Blk W1 (w.heap.size + 1) 56 (st.cells v4 v5) := by
    rw [hW1]
    have := Blk.new (w.alloc (.cells (st.cells v4 v5) 56)) 56 (st.cells v4 v5)
    rwa [World.size_alloc] at this
  have hsts : StepsAt W1 W1.heap.size (some ⟨w.heap.size + 1, 0, none⟩) 1 (fun _ => st) := fun i hi => by
    have : i = 0 := by omega
    subst this
    refine ⟨_, v4, v5, rfl, hbb.lt, ?_, ?_, ?_, ?_, ?_, ?_, ⟨hok.hv.below hb1, hok.hk.below hb1⟩⟩
    · rw [Nat.zero_mul, add_zero_addr]; exact (hbb.cell 0).trans rfl
    · rw [Nat.zero_mul, add_zero_addr]; exact (hbb.cell 1).trans rfl
    · rw [Nat.zero_mul, add_zero_addr]; exact (hbb.cell 2).trans rfl
    · rw [Nat.zero_mul, add_zero_addr]; exact (hbb.cell 3).trans rfl
    · rw [Nat.zero_mul, add_zero_addr]; exact (hbb.cell 4).trans rfl
    · rw [Nat.zero_mul, add_zero_addr]; exact (hbb.cell 5).trans rfl
  have HSH := Lib.hid (short_any (some ⟨w.heap.size + 1, 0, none⟩) 1 1 (fun _ => st) 1 W1 hsts (by omega) (by unfold maxLen; omega))
  obtain ⟨A4, n4, c4, rfl, e4, h41, h42, _⟩ := hok.hv
  obtain ⟨⟨A5, n5, c5, rfl, e5, h51, h52, _⟩, _⟩ := hok.hk
  have HBB := Lib.hid hb1
  have HB1 := Lib.hid hB1
  have HW1 := Lib.hid hW1
  have HS1 := Lib.hid hs1
  unfold maxLen at h42 h52
  obtain ⟨d0, d1, d2, d3, db, dk⟩ := st
  unfold DStep.cells at HB1 HW1 ⊢
  clear hok hsts hbb hb1 hB1 e4 e5 hW1 hs1
  have HE : Hid (w.heap.size + 1 = w.heap.size + 1) := rfl
  go_enter Try.func7, Try.ntmps7
  go_wp2_with fail
  rw [← HW1.out]
  refine HSH.out.mono ?_
  rintro e wx ⟨r, rfl, _, rfl⟩
  cases r with
  | false =>
    go_wp2_with fail
    refine (works_any _).mono ?_
    rintro e w9 ⟨rfl, hb⟩
    have HB := Lib.hid (bt HBB.out hb)
    clear hb
    go_wp2_with fail
    go_ret
    exact ⟨rfl, HB.out⟩
  | true =>
    obtain ⟨W2, hW2⟩ : ∃ W2 : World, W2 = (W1.alloc (.cells #[.slice none 0 0] 64)).alloc (.cells #[.pointer none, .pointer (some ⟨W1.heap.size, 0, none⟩)] 30) := ⟨_, rfl⟩
    have hb2 : Below W1.heap.size W1 W2 := by rw [hW2]; exact ((Below.refl _ _).alloc (Nat.le_refl _) _).alloc (by simp) _
    have hs2 : W2.heap.size = W1.heap.size + 2 := by rw [hW2]; simp
    have hd2 : Blk W2 W1.heap.size 64 #[.slice none 0 0] := by rw [hW2]; exact (Blk.new W1 _ _).alloc _
    have hp2 : Blk W2 (W1.heap.size + 1) 30 #[.pointer none, .pointer (some ⟨W1.heap.size, 0, none⟩)] := by
      rw [hW2]
      have := Blk.new (W1.alloc (.cells #[.slice none 0 0] 64)) 30 #[.pointer none, .pointer (some ⟨W1.heap.size, 0, none⟩)]
      rwa [World.size_alloc] at this
    have HST : Hid (∀ W, Below W2.heap.size W2 W → W.cell? ⟨w.heap.size, 1, none⟩ = some (.int .i64 d1) ∧ W.cell? ⟨w.heap.size, 2, none⟩ = some (.int .i64 d2) ∧ W.cell? ⟨w.heap.size, 3, none⟩ = some (.int .i64 d3) ∧ W.cell? ⟨w.heap.size, 4, none⟩ = some (.slice A4 n4 c4) ∧ W.cell? ⟨w.heap.size, 5, none⟩ = some (.slice A5 n5 c5)) := fun W hW => by
      have := HB1.out.below (bt hb2 hW) HB1.out.lt
      exact ⟨this.cell 1, this.cell 2, this.cell 3, this.cell 4, this.cell 5⟩
    have HPT : Hid (∀ W, Below W2.heap.size W2 W → ∀ j, j < 2 → ∃ p, W.cell? ⟨W1.heap.size + 1, j, none⟩ = some (.pointer p) ∧ ∀ W', Below W2.heap.size W2 W' → NoDisk W' p) := fun W hW j hj => by
      have h1 := hp2.below hW hp2.lt
      have hj' : j = 0 ∨ j = 1 := by omega
      rcases hj' with rfl | rfl
      · exact ⟨none, h1.cell 0, fun W' _ => .inl rfl⟩
      · exact ⟨some ⟨W1.heap.size, 0, none⟩, h1.cell 1, fun W' hW' => .inr ⟨_, rfl, (hd2.below hW' hd2.lt).cell 0⟩⟩
    have HB2 := Lib.hid (bt HBB.out hb2)
    have HW2 := Lib.hid hW2
    clear hW2 hb2 hs2 hd2 hp2
    go_wp2_with fail
    rw [← HW2.out]
    go_loopg [24] 2 (fun q v24 wr => ∃ (j : Nat), j + q = 2 ∧ v24 = .int .i64 j ∧ Below W2.heap.size W2 wr)
    case atStart => exact ⟨0, by omega, rfl, Below.refl _ _⟩
    case round =>
      obtain ⟨j, hj, rfl, hb⟩ := hrel
      have HJ := Lib.hid hj
      have hj' : j ≤ 2 := by omega
      by_cases hlt : j < 2
      · obtain ⟨p, kp, hnp⟩ := HPT.out wr hb j hlt
        obtain ⟨k1, k2, k3, k4, k5⟩ := HST.out wr hb
        have HNP := Lib.hid hnp
        have HB3 := Lib.hid hb
        clear hj hb hnp
        go_wp2_with fail
        refine (disk_read_no (HNP.out _ HB3.out) d1 d2 d3).mono ?_
        rintro e u4 ⟨rfl, hb⟩
        have HB4 := Lib.hid (bt HB3.out hb)
        clear hb k1 k2 k3 k4 k5
        obtain ⟨k1, k2, k3, k4, k5⟩ := HST.out u4 HB4.out
        go_wp2_with fail
        refine (disk_len_no (HNP.out _ HB4.out) d1).mono ?_
        rintro e u5 ⟨rfl, hb⟩
        have HB5 := Lib.hid (bt HB4.out hb)
        clear hb k1 k2 k3 k4 k5
        obtain ⟨k1, k2, k3, k4, k5⟩ := HST.out u5 HB5.out
        go_wp2_with fail
        refine (disk_durable_no (HNP.out _ HB5.out) d1).mono ?_
        rintro e u6 ⟨rfl, hb⟩
        have HB6 := Lib.hid (bt HB5.out hb)
        clear hb k1 k2 k3 k4 k5
        obtain ⟨k1, k2, k3, k4, k5⟩ := HST.out u6 HB6.out
        go_wp2_with fail
        refine (disk_room_no (HNP.out _ HB6.out) d1).mono ?_
        rintro e u7 ⟨rfl, hb⟩
        have HB7 := Lib.hid (bt HB6.out hb)
        clear hb k1 k2 k3 k4 k5
        obtain ⟨k1, k2, k3, k4, k5⟩ := HST.out u7 HB7.out
        go_wp2_with fail
        refine (disk_append_no (HNP.out _ HB7.out) d1 A4 n4 c4).mono ?_
        rintro e u8 ⟨rfl, hb⟩
        have HB8 := Lib.hid (bt HB7.out hb)
        clear hb k1 k2 k3 k4 k5
        obtain ⟨k1, k2, k3, k4, k5⟩ := HST.out u8 HB8.out
        go_wp2_with fail
        refine (disk_sync_no (HNP.out _ HB8.out) d1).mono ?_
        rintro e wx ⟨rfl, rfl⟩
        go_wp2_with fail
        refine (disk_erase_no (HNP.out _ HB8.out) d1).mono ?_
        rintro e wx ⟨rfl, rfl⟩
        go_wp2_with fail
        refine (crashdisk_no (HNP.out _ HB8.out) A5 n5 c5).mono ?_
        rintro e u9 ⟨rfl, hb⟩
        have HB9 := Lib.hid (bt HB8.out hb)
        clear hb k1 k2 k3 k4 k5
        obtain ⟨k1, k2, k3, k4, k5⟩ := HST.out u9 HB9.out
        go_wp2_with fail
        refine (slots_nodisk (HNP.out _ HB9.out)).mono ?_
        rintro e wx ⟨rfl, rfl⟩
        go_wp2_with fail
        refine (used_law_no p _ (HNP.out _ HB9.out)).mono ?_
        rintro e u10 ⟨A9, c9, rfl, hc9, hb⟩
        have HB10 := Lib.hid (bt HB9.out hb)
        unfold maxLen at hc9
        clear hb
        go_wp2_with fail
        refine (copy_nodisk (HNP.out _ HB10.out)).mono ?_
        rintro e wx ⟨rfl, rfl⟩
        go_wp2_with fail
        go_roundg (gk - 1)
        case measure => have := HJ.out; omega
        case rel => exact ⟨j + 1, by have := HJ.out; omega, by go_num, HB10.out⟩
      · have e8 : j = 2 := by omega
        subst e8
        have HB3 := Lib.hid hb
        clear hj hb
        go_wp2_with fail
        refine (works_any _).mono ?_
        rintro e w9 ⟨rfl, hb⟩
        have HB := Lib.hid (bt HB2.out (bt HB3.out hb))
        clear hb
        go_wp2_with fail
        go_ret
        exact ⟨rfl, HB.out⟩
theorem DiskNil_walk (v0 : Value) (w : World) (h0 : ArgIn Try.prog w 56 v0) :
    Calls Try.prog 7 #[v0] w fun e w' => e = .returned (.bool true) ∧ Below w.heap.size w w' := by
  obtain ⟨st, v4, v5, rfl, hok⟩ := step_arg h0
  exact DiskNil_w st v4 v5 w hok
end Go.Proofs.Ytelobbigpgfobaa
