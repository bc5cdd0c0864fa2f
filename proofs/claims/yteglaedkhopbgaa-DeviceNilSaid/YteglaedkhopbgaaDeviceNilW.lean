/-
  The walk of the law DeviceNil: it returns true and writes nothing that was there. Condition: the step can be read.
-/
import Derived.Test.YteglaedkhopbgaaMM
namespace Go.Proofs.Yteglaedkhopbgaa
open Go.RowKit Go.Shelf
set_option linter.unusedVariables false
set_option maxHeartbeats 16000000 in
set_option maxRecDepth 100000 in
theorem DeviceNil_w (st : VStep) (v4 v7 : Value) (w : World) (hok : st.Ok w v4 v7) :
    Calls Try.prog 9 #[.agg (st.cells v4 v7)] w fun e w' => e = .returned (.bool true) ∧ Below w.heap.size w w' := by
  obtain ⟨A4, n4, c4, rfl, e4, h41, h42, h43⟩ := hok.hv
  obtain ⟨⟨A7, n7, c7, rfl, e7, h71, h72, h73⟩, h74⟩ := hok.hk
  obtain ⟨W1, hW1⟩ : ∃ W1, W1 = w.alloc (.cells (st.cells (.slice A4 n4 c4) (.slice A7 n7 c7)) 61) := ⟨_, rfl⟩
  obtain ⟨W2, hW2⟩ : ∃ W2, W2 = W1.alloc (.cells (st.cells (.slice A4 n4 c4) (.slice A7 n7 c7)) 61) := ⟨_, rfl⟩
  have hs1 : W1.heap.size = w.heap.size + 1 := by rw [hW1]; simp
  have hs2 : W2.heap.size = w.heap.size + 1 + 1 := by rw [hW2]; simp [hs1]
  have b1 : Blk W1 w.heap.size 61 (st.cells (.slice A4 n4 c4) (.slice A7 n7 c7)) := by rw [hW1]; exact Blk.new _ _ _
  have b2 : Blk W2 (w.heap.size + 1) 61 (st.cells (.slice A4 n4 c4) (.slice A7 n7 c7)) := by rw [hW2, ← hs1]; exact Blk.new _ _ _
  have hB1 : Below w.heap.size w W1 := by rw [hW1]; exact (Below.refl _ _).alloc (Nat.le_refl _) _
  have hB2 : Below w.heap.size w W2 := by rw [hW2]; exact hB1.alloc hB1.size _
  have hsa : VStepsAt W2 W2.heap.size (some ⟨w.heap.size + 1, 0, none⟩) 1 (fun _ => st) := fun i hi => by
    obtain rfl : i = 0 := by omega
    refine ⟨_, _, _, rfl, b2.lt, ?_, ?_, ?_, ?_, ?_, ?_, ?_, ?_, ⟨hok.hv.below hB2, hok.hk.below hB2, hok.ha⟩⟩
    · rw [add_zero_addr]; exact b2.cell 0
    · rw [add_zero_addr]; exact b2.cell 1
    · rw [add_zero_addr]; exact b2.cell 2
    · rw [add_zero_addr]; exact b2.cell 3
    · rw [add_zero_addr]; exact b2.cell 4
    · rw [add_zero_addr]; exact b2.cell 5
    · rw [add_zero_addr]; exact b2.cell 6
    · rw [add_zero_addr]; exact b2.cell 7
  have HSH := Lib.hid (vshort_any (some ⟨w.heap.size + 1, 0, none⟩) 1 1 (fun _ => st) 1 W2 hsa (Nat.le_refl _) (by unfold maxLen; omega))
  have k0 : W1.cell? ⟨w.heap.size, 0, none⟩ = some (.int .i64 st.what) := b1.cell 0
  have k1 : W1.cell? ⟨w.heap.size, 1, none⟩ = some (.int .i64 st.slot) := b1.cell 1
  have k2 : W1.cell? ⟨w.heap.size, 2, none⟩ = some (.int .i64 st.off) := b1.cell 2
  have k3 : W1.cell? ⟨w.heap.size, 3, none⟩ = some (.int .i64 st.n) := b1.cell 3
  have k4 : W1.cell? ⟨w.heap.size, 4, none⟩ = some (.slice A4 n4 c4) := b1.cell 4
  have k5 : W1.cell? ⟨w.heap.size, 5, none⟩ = some (.int .i64 st.at_) := b1.cell 5
  have k6 : W1.cell? ⟨w.heap.size, 6, none⟩ = some (.bool st.dn) := b1.cell 6
  have k7 : W1.cell? ⟨w.heap.size, 7, none⟩ = some (.slice A7 n7 c7) := b1.cell 7
  obtain ⟨W3, hW3⟩ : ∃ W3, W3 = W2.alloc (.cells #[.pointer none, .pointer none, .int .i64 0, .int .i64 0, .bool false] 68) := ⟨_, rfl⟩
  obtain ⟨W5, hW5⟩ : ∃ W5, W5 = W3.alloc (.cells #[.pointer none, .pointer (some ⟨W2.heap.size, 0, none⟩)] 22) := ⟨_, rfl⟩
  have hs3 : W3.heap.size = W2.heap.size + 1 := by rw [hW3]; simp
  have hB3 : Below W2.heap.size W2 W3 := by rw [hW3]; exact (Below.refl _ _).alloc (Nat.le_refl _) _
  have hB5 : Below W2.heap.size W2 W5 := by rw [hW5]; exact hB3.alloc hB3.size _
  have d3 : Blk W5 W2.heap.size 68 #[.pointer none, .pointer none, .int .i64 0, .int .i64 0, .bool false] := by rw [hW5, hW3]; exact (Blk.new _ _ _).alloc _
  have d5 : Blk W5 W3.heap.size 22 #[.pointer none, .pointer (some ⟨W2.heap.size, 0, none⟩)] := by rw [hW5]; exact Blk.new _ _ _
  have d1 : Blk W5 w.heap.size 61 (st.cells (.slice A4 n4 c4) (.slice A7 n7 c7)) := by
    have := (b1.alloc (.cells (st.cells (.slice A4 n4 c4) (.slice A7 n7 c7)) 61))
    rw [← hW2] at this
    exact this.below hB5 this.lt
  have HB5 : Hid (Below w.heap.size w W5) := hB2.trans (hB5.mono hB2.size)
  have HFF : Hid (∀ W, Below W5.heap.size W5 W → W.cell? ⟨w.heap.size, 1, none⟩ = some (.int .i64 st.slot) ∧ W.cell? ⟨w.heap.size, 2, none⟩ = some (.int .i64 st.off) ∧ W.cell? ⟨w.heap.size, 3, none⟩ = some (.int .i64 st.n) ∧ W.cell? ⟨w.heap.size, 4, none⟩ = some (.slice A4 n4 c4) ∧ W.cell? ⟨w.heap.size, 5, none⟩ = some (.int .i64 st.at_) ∧ W.cell? ⟨w.heap.size, 6, none⟩ = some (.bool st.dn) ∧ W.cell? ⟨w.heap.size, 7, none⟩ = some (.slice A7 n7 c7) ∧
      W.cell? ⟨W3.heap.size, 0, none⟩ = some (.pointer none) ∧ W.cell? ⟨W3.heap.size, 1, none⟩ = some (.pointer (some ⟨W2.heap.size, 0, none⟩)) ∧ W.cell? ⟨W2.heap.size, 2, none⟩ = some (.int .i64 0)) := fun W hW => by
    have e1 := d1.below hW d1.lt
    have e3 := d3.below hW d3.lt
    have e5 := d5.below hW d5.lt
    exact ⟨e1.cell 1, e1.cell 2, e1.cell 3, e1.cell 4, e1.cell 5, e1.cell 6, e1.cell 7, e5.cell 0, e5.cell 1, e3.cell 2⟩
  have HW1 := Lib.hid hW1
  have HW2 := Lib.hid hW2
  have HW3 := Lib.hid hW3
  have HW5 := Lib.hid hW5
  have HB2 := Lib.hid hB2
  unfold maxLen at h42 h72
  unfold VStep.cells at HW1 HW2
  unfold VStep.cells
  clear hok e4 h43 e7 h73 h74 hs1 hs2 b1 b2 hB1 hB2 hsa hs3 hB3 hB5 d3 d5 d1 hW2 hW3 hW5 hW1
  go_enter Try.func9, Try.ntmps9
  rw [HW1.out] at k0 k1 k2 k3 k4 k5 k6 k7
  go_wp2_with fail
  rw [← HW1.out, ← HW2.out]
  refine HSH.out.mono ?_
  rintro e w' ⟨r, rfl, hr, rfl⟩
  clear hr k0 k1 k2 k3 k4 k5 k6 k7
  cases r with
  | false =>
    go_wp2_with fail
    refine (works_any _).mono ?_
    rintro e w9 ⟨rfl, hb⟩
    have HB : Hid (Below w.heap.size w w9) := HB2.out.trans (hb.mono HB2.out.size)
    clear hb
    go_wp2_with fail
    go_ret
    exact ⟨rfl, HB.out⟩
  | true =>
    go_wp2_with fail
    rw [← HW3.out, ← HW5.out]
    obtain ⟨b3, hb3⟩ : ∃ b3, W3.heap.size = b3 := ⟨_, rfl⟩
    have HB3S : Hid (W2.heap.size + 1 = b3) := by show _ = _; rw [← hb3, HW3.out]; simp
    rw [hb3] at HFF
    try rw [HB3S.out]
    clear hb3
    go_loopg [5] 2 (fun q v5 wr => ∃ (j : Nat), j + q = 2 ∧ v5 = .int .i64 j ∧ Below W5.heap.size W5 wr)
    case atStart => exact ⟨0, by omega, rfl, Below.refl _ _⟩
    case round =>
      obtain ⟨j, hj, rfl, hbr⟩ := hrel
      have HJ := Lib.hid hj
      have HBR := Lib.hid hbr
      have hj2 : j ≤ 2 := by omega
      clear hj hbr
      by_cases hlt : j < 2
      · obtain ⟨p, HF, qj⟩ : ∃ p : Option Addr, Hid (∀ W, Below W5.heap.size W5 W → NoDev W p ∧ W.cell? ⟨w.heap.size, 1, none⟩ = some (.int .i64 st.slot) ∧ W.cell? ⟨w.heap.size, 2, none⟩ = some (.int .i64 st.off) ∧ W.cell? ⟨w.heap.size, 3, none⟩ = some (.int .i64 st.n) ∧ W.cell? ⟨w.heap.size, 4, none⟩ = some (.slice A4 n4 c4) ∧ W.cell? ⟨w.heap.size, 5, none⟩ = some (.int .i64 st.at_) ∧ W.cell? ⟨w.heap.size, 6, none⟩ = some (.bool st.dn) ∧ W.cell? ⟨w.heap.size, 7, none⟩ = some (.slice A7 n7 c7)) ∧ wr.cell? ⟨b3, j, none⟩ = some (.pointer p) := by
          obtain ⟨_, _, _, _, _, _, _, f8, f9, f10⟩ := HFF.out wr HBR.out
          have e : j = 0 ∨ j = 1 := by omega
          rcases e with rfl | rfl
          · refine ⟨none, fun W hW => ?_, f8⟩
            obtain ⟨g1, g2, g3, g4, g5, g6, g7, _⟩ := HFF.out W hW
            exact ⟨.inl rfl, g1, g2, g3, g4, g5, g6, g7⟩
          · refine ⟨some ⟨W2.heap.size, 0, none⟩, fun W hW => ?_, f9⟩
            obtain ⟨g1, g2, g3, g4, g5, g6, g7, _, _, g10⟩ := HFF.out W hW
            exact ⟨.inr ⟨_, rfl, g10⟩, g1, g2, g3, g4, g5, g6, g7⟩
        obtain ⟨hp, c1, c2, c3, c4', c5, c6, c7'⟩ := HF.out wr HBR.out
        have HP := Lib.hid hp
        clear hp
        go_wp2_with fail
        refine (read_nodev HP.out st.slot st.off st.n).mono ?_
        rintro e x1 ⟨rfl, hb⟩
        have HX1 : Hid (Below W5.heap.size W5 x1) := HBR.out.trans (hb.mono HBR.out.size)
        clear hb HP c1 c2 c3 c4' c5 c6 c7'
        obtain ⟨hp, c1, c2, c3, c4', c5, c6, c7'⟩ := HF.out x1 HX1.out
        have HP := Lib.hid hp
        clear hp
        go_wp2_with fail
        refine (len_nodev HP.out st.slot).mono ?_
        rintro e x2 ⟨rfl, hb⟩
        have HX2 : Hid (Below W5.heap.size W5 x2) := HX1.out.trans (hb.mono HX1.out.size)
        clear hb HP c1 c2 c3 c4' c5 c6 c7'
        obtain ⟨hp, c1, c2, c3, c4', c5, c6, c7'⟩ := HF.out x2 HX2.out
        have HP := Lib.hid hp
        clear hp
        go_wp2_with fail
        refine (uns_nodev HP.out st.slot).mono ?_
        rintro e x3 ⟨rfl, hb⟩
        have HX3 : Hid (Below W5.heap.size W5 x3) := HX2.out.trans (hb.mono HX2.out.size)
        clear hb HP c1 c2 c3 c4' c5 c6 c7'
        obtain ⟨hp, c1, c2, c3, c4', c5, c6, c7'⟩ := HF.out x3 HX3.out
        have HP := Lib.hid hp
        clear hp
        go_wp2_with fail
        refine (room_nodev HP.out st.slot).mono ?_
        rintro e x4 ⟨rfl, hb⟩
        have HX4 : Hid (Below W5.heap.size W5 x4) := HX3.out.trans (hb.mono HX3.out.size)
        clear hb HP c1 c2 c3 c4' c5 c6 c7'
        obtain ⟨hp, c1, c2, c3, c4', c5, c6, c7'⟩ := HF.out x4 HX4.out
        have HP := Lib.hid hp
        clear hp
        go_wp2_with fail
        refine (append_nodev HP.out st.slot A4 n4 c4).mono ?_
        rintro e x5 ⟨rfl, hb⟩
        have HX5 : Hid (Below W5.heap.size W5 x5) := HX4.out.trans (hb.mono HX4.out.size)
        clear hb HP c1 c2 c3 c4' c5 c6 c7'
        obtain ⟨hp, c1, c2, c3, c4', c5, c6, c7'⟩ := HF.out x5 HX5.out
        have HP := Lib.hid hp
        clear hp
        go_wp2_with fail
        refine (sync_nodev HP.out st.slot).mono ?_
        rintro e x6 ⟨rfl, hb⟩
        have HX6 : Hid (Below W5.heap.size W5 x6) := HX5.out.trans (hb.mono HX5.out.size)
        clear hb HP c1 c2 c3 c4' c5 c6 c7'
        obtain ⟨hp, c1, c2, c3, c4', c5, c6, c7'⟩ := HF.out x6 HX6.out
        have HP := Lib.hid hp
        clear hp
        go_wp2_with fail
        refine (erase_nodev HP.out st.slot).mono ?_
        rintro e x7 ⟨rfl, hb⟩
        have HX7 : Hid (Below W5.heap.size W5 x7) := HX6.out.trans (hb.mono HX6.out.size)
        clear hb HP c1 c2 c3 c4' c5 c6 c7'
        obtain ⟨hp, c1, c2, c3, c4', c5, c6, c7'⟩ := HF.out x7 HX7.out
        have HP := Lib.hid hp
        clear hp
        go_wp2_with fail
        refine (arm_nodev HP.out st.at_ st.dn A7 n7 c7).mono ?_
        rintro e x8 ⟨rfl, hb⟩
        have HX8 : Hid (Below W5.heap.size W5 x8) := HX7.out.trans (hb.mono HX7.out.size)
        clear hb HP c1 c2 c3 c4' c5 c6 c7'
        obtain ⟨hp, c1, c2, c3, c4', c5, c6, c7'⟩ := HF.out x8 HX8.out
        have HP := Lib.hid hp
        clear hp
        go_wp2_with fail
        refine (restart_nodev HP.out).mono ?_
        rintro e x9 ⟨rfl, hb⟩
        have HX9 : Hid (Below W5.heap.size W5 x9) := HX8.out.trans (hb.mono HX8.out.size)
        clear hb HP c1 c2 c3 c4' c5 c6 c7'
        obtain ⟨hp, c1, c2, c3, c4', c5, c6, c7'⟩ := HF.out x9 HX9.out
        have HP := Lib.hid hp
        clear hp
        go_wp2_with fail
        refine (down_nodev HP.out).mono ?_
        rintro e x10 ⟨rfl, hb⟩
        have HX10 : Hid (Below W5.heap.size W5 x10) := HX9.out.trans (hb.mono HX9.out.size)
        clear hb HP c1 c2 c3 c4' c5 c6 c7'
        obtain ⟨hp, c1, c2, c3, c4', c5, c6, c7'⟩ := HF.out x10 HX10.out
        have HP := Lib.hid hp
        clear hp
        go_wp2_with fail
        refine (ops_nodev HP.out).mono ?_
        rintro e x11 ⟨rfl, hb⟩
        have HX11 : Hid (Below W5.heap.size W5 x11) := HX10.out.trans (hb.mono HX10.out.size)
        clear hb HP c1 c2 c3 c4' c5 c6 c7'
        obtain ⟨hp, c1, c2, c3, c4', c5, c6, c7'⟩ := HF.out x11 HX11.out
        have HP := Lib.hid hp
        clear hp
        go_wp2_with fail
        refine (slots_nodev HP.out).mono ?_
        rintro e x12 ⟨rfl, hb⟩
        have HX12 : Hid (Below W5.heap.size W5 x12) := HX11.out.trans (hb.mono HX11.out.size)
        clear hb HP c1 c2 c3 c4' c5 c6 c7'
        obtain ⟨hp, c1, c2, c3, c4', c5, c6, c7'⟩ := HF.out x12 HX12.out
        have HP := Lib.hid hp
        clear hp
        go_wp2_with fail
        refine (disk_nodev HP.out).mono ?_
        rintro e x13 ⟨rfl, hb⟩
        have HX13 : Hid (Below W5.heap.size W5 x13) := HX12.out.trans (hb.mono HX12.out.size)
        clear hb HP c1 c2 c3 c4' c5 c6 c7'
        obtain ⟨hp, c1, c2, c3, c4', c5, c6, c7'⟩ := HF.out x13 HX13.out
        have HP := Lib.hid hp
        clear hp
        go_wp2_with fail
        refine (copy_nodev HP.out).mono ?_
        rintro e x14 ⟨rfl, hb⟩
        have HX14 : Hid (Below W5.heap.size W5 x14) := HX13.out.trans (hb.mono HX13.out.size)
        clear hb HP c1 c2 c3 c4' c5 c6 c7'
        obtain ⟨hp, c1, c2, c3, c4', c5, c6, c7'⟩ := HF.out x14 HX14.out
        have HP := Lib.hid hp
        clear hp
        go_wp2_with fail
        go_roundg (gk - 1)
        case measure => have := HJ.out; omega
        case rel => exact ⟨j + 1, by have := HJ.out; omega, by go_num, HX14.out⟩
      · have e8 : j = 2 := by omega
        subst e8
        go_wp2_with fail
        refine (works_any _).mono ?_
        rintro e w9 ⟨rfl, hb⟩
        have HB : Hid (Below w.heap.size w w9) := (HB5.out.trans (HBR.out.mono HB5.out.size)).trans (hb.mono (HB5.out.trans (HBR.out.mono HB5.out.size)).size)
        clear hb
        go_wp2_with fail
        go_ret
        exact ⟨rfl, HB.out⟩
theorem DeviceNil_walk (v0 : Value) (w : World) (a0 : ArgIn Try.prog w 61 v0) :
    Calls Try.prog 9 #[v0] w fun e w' => e = .returned (.bool true) ∧ Below w.heap.size w w' := by
  obtain ⟨st, v4, v7, rfl, hok⟩ := vstep_arg a0
  exact DeviceNil_w st v4 v7 w hok
end Go.Proofs.Yteglaedkhopbgaa
