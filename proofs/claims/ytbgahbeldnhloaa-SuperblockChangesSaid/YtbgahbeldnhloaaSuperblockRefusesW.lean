/-
  The walk of the law SuperblockRefuses: it returns true and writes nothing that was there. No condition.
-/
import Derived.Test.YtbgahbeldnhloaaSuperblockDecodesW
namespace Go.Proofs.Ytbgahbeldnhloaa
open Go.RowKit Drum
set_option linter.unusedVariables false
theorem dr_ex (d : Dr) : ∃ (x0 x1 x2 x3 x4 x5 x6 x7 : Int), d.bk = ⟨x0, ⟨x1, x2, x3, x4, x5, x6, x7⟩⟩ := ⟨_, _, _, _, _, _, _, _, rfl⟩
theorem block_x {d : Dr} {x0 x1 x2 x3 x4 x5 x6 x7 : Int} (h : d.bk = ⟨x0, ⟨x1, x2, x3, x4, x5, x6, x7⟩⟩) (hd : d.wf) (w : World) :
    Calls Try.prog 22 #[.agg (drv d)] w fun e w' => e = .returned (.agg #[.int .i64 x0, .int .i64 x1, .int .i64 x2, .int .i64 x3, .int .i64 x4, .int .i64 x5, .int .i64 x6, .int .i64 x7]) ∧ Below w.heap.size w w' := by
  have h1 := block_any d hd w
  rw [h] at h1
  exact h1
theorem bk_bounds {x0 x1 x2 x3 x4 x5 x6 x7 : Int} (h : Bk.ok ⟨x0, ⟨x1, x2, x3, x4, x5, x6, x7⟩⟩) : (1 ≤ x0 ∧ x0 ≤ 1099511627776) ∧ (0 ≤ x1 ∧ x1 ≤ 65536) ∧ (0 ≤ x2 ∧ x2 ≤ 65536) ∧ (0 ≤ x3 ∧ x3 ≤ 65536) ∧ (0 ≤ x4 ∧ x4 ≤ 65536) ∧ (0 ≤ x5 ∧ x5 ≤ 65536) ∧ (0 ≤ x6 ∧ x6 ≤ 65536) ∧ (0 ≤ x7 ∧ x7 ≤ 65536) := by
  have hn := Cf.ok_nums h.2
  simp only [Cf.nums, List.mem_cons, List.not_mem_nil, or_false, forall_eq_or_imp, forall_eq] at hn
  exact ⟨h.1, hn⟩
theorem next_z (b : Bk) (hw : b.wf) (p : Int) (h : ¬ (b.ok ∧ (p = 1 ∨ p = 2))) (w : World) :
    Calls Try.prog 20 #[.agg (bkv b), .int .i64 p] w fun e w' => e = .returned (.tuple #[.agg #[.int .i64 0, .int .i64 0, .int .i64 0, .int .i64 0, .int .i64 0, .int .i64 0, .int .i64 0, .int .i64 0], .int .i64 2]) ∧ Below w.heap.size w w' := by
  have h1 := next_any b hw p w
  rw [nextOf_bad h] at h1
  exact h1
theorem wf_of {x0 x1 x2 x3 x4 x5 x6 x7 : Int} (h : (-2199023255552 ≤ x0 ∧ x0 ≤ 2199023255552) ∧ (-1099511627776 ≤ x1 ∧ x1 ≤ 1099511627776) ∧ (-1099511627776 ≤ x2 ∧ x2 ≤ 1099511627776) ∧ (-1099511627776 ≤ x3 ∧ x3 ≤ 1099511627776) ∧ (-1099511627776 ≤ x4 ∧ x4 ≤ 1099511627776) ∧ (-1099511627776 ≤ x5 ∧ x5 ≤ 1099511627776) ∧ (-1099511627776 ≤ x6 ∧ x6 ≤ 1099511627776) ∧ (-1099511627776 ≤ x7 ∧ x7 ≤ 1099511627776)) : Bk.wf ⟨x0, ⟨x1, x2, x3, x4, x5, x6, x7⟩⟩ := by
  refine ⟨⟨by simp only; omega, by simp only; omega⟩, fun m hm => ?_⟩
  simp only [Cf.nums, List.mem_cons, List.not_mem_nil, or_false] at hm
  rcases hm with rfl | rfl | rfl | rfl | rfl | rfl | rfl <;> omega

set_option maxHeartbeats 40000000 in
theorem SuperblockRefuses_w (d : Dr) (hd : d.wf) (what : BitVec 8) (n : Nat) (hn : n < 65536) (w : World) :
    Calls Try.prog 10 #[.agg (drv d), .int .u8 (n8 what), .int .u16 (n : Int)] w fun ed w' => ed = .returned (.bool true) ∧ Below w.heap.size w w' := by
  obtain ⟨x0, x1, x2, x3, x4, x5, x6, x7, hX⟩ := dr_ex d
  have hok := d.bk_ok
  rw [hX] at hok
  obtain ⟨b0, b1, b2, b3, b4, b5, b6, b7⟩ := bk_bounds hok
  have HBL := Lib.hid (fun W => block_x hX hd W)
  obtain ⟨e, s, z, r, ww, k, v, p⟩ := d
  unfold drv at HBL ⊢
  have HWF : Hid (Bk.wf ⟨x0, ⟨x1, x2, x3, x4, x5, x6, x7⟩⟩) := wf_of (by omega)
  obtain ⟨kk, hkk, hk9⟩ : ∃ kk : Nat, (n8 what).tmod 9 = (kk : Int) ∧ kk < 9 := ⟨what.toNat % 9, by rw [n8_nat]; rfl, by omega⟩
  have HKK := Lib.hid hkk
  clear hX hd hok hkk
  go_enter Try.func10, Try.ntmps10
  go_wp2_with fail
  refine (HBL.out _).mono ?_
  rintro ed w1 ⟨rfl, hb1⟩
  have HB1 := Lib.hid (ba (ba (bt (ba (Below.refl w.heap.size w) (.cells (drv ⟨e, s, z, r, ww, k, v, p⟩) 49)) hb1) (.cells #[.int .i64 x0, .int .i64 x1, .int .i64 x2, .int .i64 x3, .int .i64 x4, .int .i64 x5, .int .i64 x6, .int .i64 x7] 25)) (.cells #[.int .i64 0, .int .i64 (-1 - (n : Int)), .int .i64 (3 + (n : Int))] 3))
  have HX1 := Lib.hid ((Blk.new w1 25 #[.int .i64 x0, .int .i64 x1, .int .i64 x2, .int .i64 x3, .int .i64 x4, .int .i64 x5, .int .i64 x6, .int .i64 x7]).alloc (.cells #[.int .i64 0, .int .i64 (-1 - (n : Int)), .int .i64 (3 + (n : Int))] 3))
  have HT1 := Lib.hid (blk2 w1 #[.int .i64 x0, .int .i64 x1, .int .i64 x2, .int .i64 x3, .int .i64 x4, .int .i64 x5, .int .i64 x6, .int .i64 x7] #[.int .i64 0, .int .i64 (-1 - (n : Int)), .int .i64 (3 + (n : Int))] 25 3)
  have hw1 : w.heap.size < w1.heap.size := by have := hb1.size; simp at this; omega
  clear hb1
  go_wp2_with fail
  go_loopg [27] 3 (fun q v27 wr => ∃ j : Nat, j + q = 3 ∧ v27 = .int .i64 j ∧ Below w.heap.size w wr ∧ Blk wr w1.heap.size 25 #[.int .i64 x0, .int .i64 x1, .int .i64 x2, .int .i64 x3, .int .i64 x4, .int .i64 x5, .int .i64 x6, .int .i64 x7] ∧ Blk wr (w1.heap.size + 1) 3 #[.int .i64 0, .int .i64 (-1 - (n : Int)), .int .i64 (3 + (n : Int))])
  case atStart => exact ⟨0, rfl, rfl, HB1.out, HX1.out, HT1.out⟩
  case round =>
    obtain ⟨j, hj, rfl, hb, hx, ht⟩ := hrel
    have HJ := Lib.hid hj
    have HB := Lib.hid hb
    have HX := Lib.hid hx
    have HT := Lib.hid ht
    have hj3 : j ≤ 3 := by omega
    clear hj hb hx ht HB1 HX1 HT1
    have q0 : wr.cell? ⟨w1.heap.size, 0, none⟩ = some (.int .i64 x0) := HX.out.cell 0
    have q1 : wr.cell? ⟨w1.heap.size, 1, none⟩ = some (.int .i64 x1) := HX.out.cell 1
    have q2 : wr.cell? ⟨w1.heap.size, 2, none⟩ = some (.int .i64 x2) := HX.out.cell 2
    have q3 : wr.cell? ⟨w1.heap.size, 3, none⟩ = some (.int .i64 x3) := HX.out.cell 3
    have q4 : wr.cell? ⟨w1.heap.size, 4, none⟩ = some (.int .i64 x4) := HX.out.cell 4
    have q5 : wr.cell? ⟨w1.heap.size, 5, none⟩ = some (.int .i64 x5) := HX.out.cell 5
    have q6 : wr.cell? ⟨w1.heap.size, 6, none⟩ = some (.int .i64 x6) := HX.out.cell 6
    have q7 : wr.cell? ⟨w1.heap.size, 7, none⟩ = some (.int .i64 x7) := HX.out.cell 7
    by_cases hlt : j < 3
    · have r0 : wr.cell? ⟨w1.heap.size + 1, 0, none⟩ = some (.int .i64 0) := HT.out.cell 0
      have r1 : wr.cell? ⟨w1.heap.size + 1, 1, none⟩ = some (.int .i64 (-1 - (n : Int))) := HT.out.cell 1
      have r2 : wr.cell? ⟨w1.heap.size + 1, 2, none⟩ = some (.int .i64 (3 + (n : Int))) := HT.out.cell 2
      rcases (show j = 0 ∨ j = 1 ∨ j = 2 by omega) with rfl | rfl | rfl
      · go_wp2_with fail
        refine (next_z ⟨x0, ⟨x1, x2, x3, x4, x5, x6, x7⟩⟩ HWF.out _ (fun h => by have := h.2; omega) wr).mono ?_
        rintro ed w2 ⟨rfl, hb2⟩
        have HB2 := Lib.hid (ba (bt HB.out hb2) (.cells #[.int .i64 0, .int .i64 0, .int .i64 0, .int .i64 0, .int .i64 0, .int .i64 0, .int .i64 0, .int .i64 0] 25))
        have HX2 := Lib.hid ((HX.out.below hb2 HX.out.lt).alloc (.cells #[.int .i64 0, .int .i64 0, .int .i64 0, .int .i64 0, .int .i64 0, .int .i64 0, .int .i64 0, .int .i64 0] 25))
        have HT2 := Lib.hid ((HT.out.below hb2 HT.out.lt).alloc (.cells #[.int .i64 0, .int .i64 0, .int .i64 0, .int .i64 0, .int .i64 0, .int .i64 0, .int .i64 0, .int .i64 0] 25))
        clear hb2
        go_wp2_with fail
        go_roundg (gk - 1)
        case measure => have := HJ.out; omega
        case rel => exact ⟨1, by have := HJ.out; omega, by go_num, HB2.out, HX2.out, HT2.out⟩
      · go_wp2_with fail
        refine (next_z ⟨x0, ⟨x1, x2, x3, x4, x5, x6, x7⟩⟩ HWF.out _ (fun h => by have := h.2; omega) wr).mono ?_
        rintro ed w2 ⟨rfl, hb2⟩
        have HB2 := Lib.hid (ba (bt HB.out hb2) (.cells #[.int .i64 0, .int .i64 0, .int .i64 0, .int .i64 0, .int .i64 0, .int .i64 0, .int .i64 0, .int .i64 0] 25))
        have HX2 := Lib.hid ((HX.out.below hb2 HX.out.lt).alloc (.cells #[.int .i64 0, .int .i64 0, .int .i64 0, .int .i64 0, .int .i64 0, .int .i64 0, .int .i64 0, .int .i64 0] 25))
        have HT2 := Lib.hid ((HT.out.below hb2 HT.out.lt).alloc (.cells #[.int .i64 0, .int .i64 0, .int .i64 0, .int .i64 0, .int .i64 0, .int .i64 0, .int .i64 0, .int .i64 0] 25))
        clear hb2
        go_wp2_with fail
        go_roundg (gk - 1)
        case measure => have := HJ.out; omega
        case rel => exact ⟨2, by have := HJ.out; omega, by go_num, HB2.out, HX2.out, HT2.out⟩
      · go_wp2_with fail
        refine (next_z ⟨x0, ⟨x1, x2, x3, x4, x5, x6, x7⟩⟩ HWF.out _ (fun h => by have := h.2; omega) wr).mono ?_
        rintro ed w2 ⟨rfl, hb2⟩
        have HB2 := Lib.hid (ba (bt HB.out hb2) (.cells #[.int .i64 0, .int .i64 0, .int .i64 0, .int .i64 0, .int .i64 0, .int .i64 0, .int .i64 0, .int .i64 0] 25))
        have HX2 := Lib.hid ((HX.out.below hb2 HX.out.lt).alloc (.cells #[.int .i64 0, .int .i64 0, .int .i64 0, .int .i64 0, .int .i64 0, .int .i64 0, .int .i64 0, .int .i64 0] 25))
        have HT2 := Lib.hid ((HT.out.below hb2 HT.out.lt).alloc (.cells #[.int .i64 0, .int .i64 0, .int .i64 0, .int .i64 0, .int .i64 0, .int .i64 0, .int .i64 0, .int .i64 0] 25))
        clear hb2
        go_wp2_with fail
        go_roundg (gk - 1)
        case measure => have := HJ.out; omega
        case rel => exact ⟨3, by have := HJ.out; omega, by go_num, HB2.out, HX2.out, HT2.out⟩
    · have hj3 : j = 3 := by omega
      subst hj3
      clear hlt HT
      rcases (show kk = 0 ∨ kk = 1 ∨ kk = 2 ∨ kk = 3 ∨ kk = 4 ∨ kk = 5 ∨ kk = 6 ∨ kk = 7 ∨ kk = 8 by omega) with rfl | rfl | rfl | rfl | rfl | rfl | rfl | rfl | rfl
      · have hk : (n8 what).tmod 9 = 0 := HKK.out
        have f0 : wr.frozen? ⟨w1.heap.size, 0, none⟩ = false := HX.out.frozen 0
        have HWF2 : Hid (Bk.wf ⟨(-(n : Int)), ⟨x1, x2, x3, x4, x5, x6, x7⟩⟩) := wf_of (by omega)
        have HNO : Hid (¬ Bk.ok ⟨(-(n : Int)), ⟨x1, x2, x3, x4, x5, x6, x7⟩⟩) := fun h => by
          have h1 := h.1
          have h2 := h.2
          unfold Cf.ok at h2
          simp only at h1 h2
          omega
        have HX2 : Hid (Blk (wr.setCell ⟨w1.heap.size, 0, none⟩ (.int .i64 (-(n : Int)))) w1.heap.size 25 #[.int .i64 (-(n : Int)), .int .i64 x1, .int .i64 x2, .int .i64 x3, .int .i64 x4, .int .i64 x5, .int .i64 x6, .int .i64 x7]) := HX.out.set_ 0 _
        have HB2 := Lib.hid (HB.out.setCell (p := ⟨w1.heap.size, 0, none⟩) (by simp; omega) (.int .i64 (-(n : Int))))
        go_wp2_with fail
        refine (encode_bad ⟨(-(n : Int)), ⟨x1, x2, x3, x4, x5, x6, x7⟩⟩ HWF2.out HNO.out _).mono ?_
        rintro ed w2 ⟨rfl, hb2⟩
        have HB3 := Lib.hid (bt HB2.out hb2)
        have HX3 := Lib.hid (HX2.out.below hb2 HX2.out.lt)
        clear q0 q1 q2 q3 q4 q5 q6 q7 hb2
        have q0 : w2.cell? ⟨w1.heap.size, 0, none⟩ = some (.int .i64 (-(n : Int))) := HX3.out.cell 0
        have q1 : w2.cell? ⟨w1.heap.size, 1, none⟩ = some (.int .i64 x1) := HX3.out.cell 1
        have q2 : w2.cell? ⟨w1.heap.size, 2, none⟩ = some (.int .i64 x2) := HX3.out.cell 2
        have q3 : w2.cell? ⟨w1.heap.size, 3, none⟩ = some (.int .i64 x3) := HX3.out.cell 3
        have q4 : w2.cell? ⟨w1.heap.size, 4, none⟩ = some (.int .i64 x4) := HX3.out.cell 4
        have q5 : w2.cell? ⟨w1.heap.size, 5, none⟩ = some (.int .i64 x5) := HX3.out.cell 5
        have q6 : w2.cell? ⟨w1.heap.size, 6, none⟩ = some (.int .i64 x6) := HX3.out.cell 6
        have q7 : w2.cell? ⟨w1.heap.size, 7, none⟩ = some (.int .i64 x7) := HX3.out.cell 7
        go_wp2_with fail
        refine (next_z ⟨(-(n : Int)), ⟨x1, x2, x3, x4, x5, x6, x7⟩⟩ HWF2.out _ (fun h => HNO.out h.1) w2).mono ?_
        rintro ed w3 ⟨rfl, hb3⟩
        have HB4 := Lib.hid (ba (bt HB3.out hb3) (.cells #[.int .i64 0, .int .i64 0, .int .i64 0, .int .i64 0, .int .i64 0, .int .i64 0, .int .i64 0, .int .i64 0] 25))
        have HX4 := Lib.hid ((HX3.out.below hb3 HX3.out.lt).alloc (.cells #[.int .i64 0, .int .i64 0, .int .i64 0, .int .i64 0, .int .i64 0, .int .i64 0, .int .i64 0, .int .i64 0] 25))
        clear q0 q1 q2 q3 q4 q5 q6 q7 hb3
        have q0 : (w3.alloc (.cells #[.int .i64 0, .int .i64 0, .int .i64 0, .int .i64 0, .int .i64 0, .int .i64 0, .int .i64 0, .int .i64 0] 25)).cell? ⟨w1.heap.size, 0, none⟩ = some (.int .i64 (-(n : Int))) := HX4.out.cell 0
        have q1 : (w3.alloc (.cells #[.int .i64 0, .int .i64 0, .int .i64 0, .int .i64 0, .int .i64 0, .int .i64 0, .int .i64 0, .int .i64 0] 25)).cell? ⟨w1.heap.size, 1, none⟩ = some (.int .i64 x1) := HX4.out.cell 1
        have q2 : (w3.alloc (.cells #[.int .i64 0, .int .i64 0, .int .i64 0, .int .i64 0, .int .i64 0, .int .i64 0, .int .i64 0, .int .i64 0] 25)).cell? ⟨w1.heap.size, 2, none⟩ = some (.int .i64 x2) := HX4.out.cell 2
        have q3 : (w3.alloc (.cells #[.int .i64 0, .int .i64 0, .int .i64 0, .int .i64 0, .int .i64 0, .int .i64 0, .int .i64 0, .int .i64 0] 25)).cell? ⟨w1.heap.size, 3, none⟩ = some (.int .i64 x3) := HX4.out.cell 3
        have q4 : (w3.alloc (.cells #[.int .i64 0, .int .i64 0, .int .i64 0, .int .i64 0, .int .i64 0, .int .i64 0, .int .i64 0, .int .i64 0] 25)).cell? ⟨w1.heap.size, 4, none⟩ = some (.int .i64 x4) := HX4.out.cell 4
        have q5 : (w3.alloc (.cells #[.int .i64 0, .int .i64 0, .int .i64 0, .int .i64 0, .int .i64 0, .int .i64 0, .int .i64 0, .int .i64 0] 25)).cell? ⟨w1.heap.size, 5, none⟩ = some (.int .i64 x5) := HX4.out.cell 5
        have q6 : (w3.alloc (.cells #[.int .i64 0, .int .i64 0, .int .i64 0, .int .i64 0, .int .i64 0, .int .i64 0, .int .i64 0, .int .i64 0] 25)).cell? ⟨w1.heap.size, 6, none⟩ = some (.int .i64 x6) := HX4.out.cell 6
        have q7 : (w3.alloc (.cells #[.int .i64 0, .int .i64 0, .int .i64 0, .int .i64 0, .int .i64 0, .int .i64 0, .int .i64 0, .int .i64 0] 25)).cell? ⟨w1.heap.size, 7, none⟩ = some (.int .i64 x7) := HX4.out.cell 7
        have HCK := Lib.hid (check_any ⟨(-(n : Int)), ⟨x1, x2, x3, x4, x5, x6, x7⟩⟩ HWF2.out (w3.alloc (.cells #[.int .i64 0, .int .i64 0, .int .i64 0, .int .i64 0, .int .i64 0, .int .i64 0, .int .i64 0, .int .i64 0] 25)))
        rw [okN_no HNO.out] at HCK
        go_wp2_with fail
        refine HCK.out.mono ?_
        rintro ed w4 ⟨rfl, hb4⟩
        have HB5 := Lib.hid (bt HB4.out hb4)
        clear q0 q1 q2 q3 q4 q5 q6 q7 hb4
        go_wp2_with fail
        refine (works_any _).mono ?_
        rintro ed w5 ⟨rfl, hb5⟩
        have HB6 := Lib.hid (bt HB5.out hb5)
        clear hb5
        go_wp2_with fail
        go_ret
        exact ⟨rfl, HB6.out⟩
      · have hk : (n8 what).tmod 9 = 1 := HKK.out
        have f0 : wr.frozen? ⟨w1.heap.size, 0, none⟩ = false := HX.out.frozen 0
        have HWF2 : Hid (Bk.wf ⟨(1099511627777 + (n : Int)), ⟨x1, x2, x3, x4, x5, x6, x7⟩⟩) := wf_of (by omega)
        have HNO : Hid (¬ Bk.ok ⟨(1099511627777 + (n : Int)), ⟨x1, x2, x3, x4, x5, x6, x7⟩⟩) := fun h => by
          have h1 := h.1
          have h2 := h.2
          unfold Cf.ok at h2
          simp only at h1 h2
          omega
        have HX2 : Hid (Blk (wr.setCell ⟨w1.heap.size, 0, none⟩ (.int .i64 (1099511627777 + (n : Int)))) w1.heap.size 25 #[.int .i64 (1099511627777 + (n : Int)), .int .i64 x1, .int .i64 x2, .int .i64 x3, .int .i64 x4, .int .i64 x5, .int .i64 x6, .int .i64 x7]) := HX.out.set_ 0 _
        have HB2 := Lib.hid (HB.out.setCell (p := ⟨w1.heap.size, 0, none⟩) (by simp; omega) (.int .i64 (1099511627777 + (n : Int))))
        go_wp2_with fail
        refine (encode_bad ⟨(1099511627777 + (n : Int)), ⟨x1, x2, x3, x4, x5, x6, x7⟩⟩ HWF2.out HNO.out _).mono ?_
        rintro ed w2 ⟨rfl, hb2⟩
        have HB3 := Lib.hid (bt HB2.out hb2)
        have HX3 := Lib.hid (HX2.out.below hb2 HX2.out.lt)
        clear q0 q1 q2 q3 q4 q5 q6 q7 hb2
        have q0 : w2.cell? ⟨w1.heap.size, 0, none⟩ = some (.int .i64 (1099511627777 + (n : Int))) := HX3.out.cell 0
        have q1 : w2.cell? ⟨w1.heap.size, 1, none⟩ = some (.int .i64 x1) := HX3.out.cell 1
        have q2 : w2.cell? ⟨w1.heap.size, 2, none⟩ = some (.int .i64 x2) := HX3.out.cell 2
        have q3 : w2.cell? ⟨w1.heap.size, 3, none⟩ = some (.int .i64 x3) := HX3.out.cell 3
        have q4 : w2.cell? ⟨w1.heap.size, 4, none⟩ = some (.int .i64 x4) := HX3.out.cell 4
        have q5 : w2.cell? ⟨w1.heap.size, 5, none⟩ = some (.int .i64 x5) := HX3.out.cell 5
        have q6 : w2.cell? ⟨w1.heap.size, 6, none⟩ = some (.int .i64 x6) := HX3.out.cell 6
        have q7 : w2.cell? ⟨w1.heap.size, 7, none⟩ = some (.int .i64 x7) := HX3.out.cell 7
        go_wp2_with fail
        refine (next_z ⟨(1099511627777 + (n : Int)), ⟨x1, x2, x3, x4, x5, x6, x7⟩⟩ HWF2.out _ (fun h => HNO.out h.1) w2).mono ?_
        rintro ed w3 ⟨rfl, hb3⟩
        have HB4 := Lib.hid (ba (bt HB3.out hb3) (.cells #[.int .i64 0, .int .i64 0, .int .i64 0, .int .i64 0, .int .i64 0, .int .i64 0, .int .i64 0, .int .i64 0] 25))
        have HX4 := Lib.hid ((HX3.out.below hb3 HX3.out.lt).alloc (.cells #[.int .i64 0, .int .i64 0, .int .i64 0, .int .i64 0, .int .i64 0, .int .i64 0, .int .i64 0, .int .i64 0] 25))
        clear q0 q1 q2 q3 q4 q5 q6 q7 hb3
        have q0 : (w3.alloc (.cells #[.int .i64 0, .int .i64 0, .int .i64 0, .int .i64 0, .int .i64 0, .int .i64 0, .int .i64 0, .int .i64 0] 25)).cell? ⟨w1.heap.size, 0, none⟩ = some (.int .i64 (1099511627777 + (n : Int))) := HX4.out.cell 0
        have q1 : (w3.alloc (.cells #[.int .i64 0, .int .i64 0, .int .i64 0, .int .i64 0, .int .i64 0, .int .i64 0, .int .i64 0, .int .i64 0] 25)).cell? ⟨w1.heap.size, 1, none⟩ = some (.int .i64 x1) := HX4.out.cell 1
        have q2 : (w3.alloc (.cells #[.int .i64 0, .int .i64 0, .int .i64 0, .int .i64 0, .int .i64 0, .int .i64 0, .int .i64 0, .int .i64 0] 25)).cell? ⟨w1.heap.size, 2, none⟩ = some (.int .i64 x2) := HX4.out.cell 2
        have q3 : (w3.alloc (.cells #[.int .i64 0, .int .i64 0, .int .i64 0, .int .i64 0, .int .i64 0, .int .i64 0, .int .i64 0, .int .i64 0] 25)).cell? ⟨w1.heap.size, 3, none⟩ = some (.int .i64 x3) := HX4.out.cell 3
        have q4 : (w3.alloc (.cells #[.int .i64 0, .int .i64 0, .int .i64 0, .int .i64 0, .int .i64 0, .int .i64 0, .int .i64 0, .int .i64 0] 25)).cell? ⟨w1.heap.size, 4, none⟩ = some (.int .i64 x4) := HX4.out.cell 4
        have q5 : (w3.alloc (.cells #[.int .i64 0, .int .i64 0, .int .i64 0, .int .i64 0, .int .i64 0, .int .i64 0, .int .i64 0, .int .i64 0] 25)).cell? ⟨w1.heap.size, 5, none⟩ = some (.int .i64 x5) := HX4.out.cell 5
        have q6 : (w3.alloc (.cells #[.int .i64 0, .int .i64 0, .int .i64 0, .int .i64 0, .int .i64 0, .int .i64 0, .int .i64 0, .int .i64 0] 25)).cell? ⟨w1.heap.size, 6, none⟩ = some (.int .i64 x6) := HX4.out.cell 6
        have q7 : (w3.alloc (.cells #[.int .i64 0, .int .i64 0, .int .i64 0, .int .i64 0, .int .i64 0, .int .i64 0, .int .i64 0, .int .i64 0] 25)).cell? ⟨w1.heap.size, 7, none⟩ = some (.int .i64 x7) := HX4.out.cell 7
        have HCK := Lib.hid (check_any ⟨(1099511627777 + (n : Int)), ⟨x1, x2, x3, x4, x5, x6, x7⟩⟩ HWF2.out (w3.alloc (.cells #[.int .i64 0, .int .i64 0, .int .i64 0, .int .i64 0, .int .i64 0, .int .i64 0, .int .i64 0, .int .i64 0] 25)))
        rw [okN_no HNO.out] at HCK
        go_wp2_with fail
        refine HCK.out.mono ?_
        rintro ed w4 ⟨rfl, hb4⟩
        have HB5 := Lib.hid (bt HB4.out hb4)
        clear q0 q1 q2 q3 q4 q5 q6 q7 hb4
        go_wp2_with fail
        refine (works_any _).mono ?_
        rintro ed w5 ⟨rfl, hb5⟩
        have HB6 := Lib.hid (bt HB5.out hb5)
        clear hb5
        go_wp2_with fail
        go_ret
        exact ⟨rfl, HB6.out⟩
      · have hk : (n8 what).tmod 9 = 2 := HKK.out
        have f1 : wr.frozen? ⟨w1.heap.size, 1, none⟩ = false := HX.out.frozen 1
        have HWF2 : Hid (Bk.wf ⟨x0, ⟨(33 + (n : Int)), x2, x3, x4, x5, x6, x7⟩⟩) := wf_of (by omega)
        have HNO : Hid (¬ Bk.ok ⟨x0, ⟨(33 + (n : Int)), x2, x3, x4, x5, x6, x7⟩⟩) := fun h => by
          have h1 := h.1
          have h2 := h.2
          unfold Cf.ok at h2
          simp only at h1 h2
          omega
        have HX2 : Hid (Blk (wr.setCell ⟨w1.heap.size, 1, none⟩ (.int .i64 (33 + (n : Int)))) w1.heap.size 25 #[.int .i64 x0, .int .i64 (33 + (n : Int)), .int .i64 x2, .int .i64 x3, .int .i64 x4, .int .i64 x5, .int .i64 x6, .int .i64 x7]) := HX.out.set_ 1 _
        have HB2 := Lib.hid (HB.out.setCell (p := ⟨w1.heap.size, 1, none⟩) (by simp; omega) (.int .i64 (33 + (n : Int))))
        go_wp2_with fail
        refine (encode_bad ⟨x0, ⟨(33 + (n : Int)), x2, x3, x4, x5, x6, x7⟩⟩ HWF2.out HNO.out _).mono ?_
        rintro ed w2 ⟨rfl, hb2⟩
        have HB3 := Lib.hid (bt HB2.out hb2)
        have HX3 := Lib.hid (HX2.out.below hb2 HX2.out.lt)
        clear q0 q1 q2 q3 q4 q5 q6 q7 hb2
        have q0 : w2.cell? ⟨w1.heap.size, 0, none⟩ = some (.int .i64 x0) := HX3.out.cell 0
        have q1 : w2.cell? ⟨w1.heap.size, 1, none⟩ = some (.int .i64 (33 + (n : Int))) := HX3.out.cell 1
        have q2 : w2.cell? ⟨w1.heap.size, 2, none⟩ = some (.int .i64 x2) := HX3.out.cell 2
        have q3 : w2.cell? ⟨w1.heap.size, 3, none⟩ = some (.int .i64 x3) := HX3.out.cell 3
        have q4 : w2.cell? ⟨w1.heap.size, 4, none⟩ = some (.int .i64 x4) := HX3.out.cell 4
        have q5 : w2.cell? ⟨w1.heap.size, 5, none⟩ = some (.int .i64 x5) := HX3.out.cell 5
        have q6 : w2.cell? ⟨w1.heap.size, 6, none⟩ = some (.int .i64 x6) := HX3.out.cell 6
        have q7 : w2.cell? ⟨w1.heap.size, 7, none⟩ = some (.int .i64 x7) := HX3.out.cell 7
        go_wp2_with fail
        refine (next_z ⟨x0, ⟨(33 + (n : Int)), x2, x3, x4, x5, x6, x7⟩⟩ HWF2.out _ (fun h => HNO.out h.1) w2).mono ?_
        rintro ed w3 ⟨rfl, hb3⟩
        have HB4 := Lib.hid (ba (bt HB3.out hb3) (.cells #[.int .i64 0, .int .i64 0, .int .i64 0, .int .i64 0, .int .i64 0, .int .i64 0, .int .i64 0, .int .i64 0] 25))
        have HX4 := Lib.hid ((HX3.out.below hb3 HX3.out.lt).alloc (.cells #[.int .i64 0, .int .i64 0, .int .i64 0, .int .i64 0, .int .i64 0, .int .i64 0, .int .i64 0, .int .i64 0] 25))
        clear q0 q1 q2 q3 q4 q5 q6 q7 hb3
        have q0 : (w3.alloc (.cells #[.int .i64 0, .int .i64 0, .int .i64 0, .int .i64 0, .int .i64 0, .int .i64 0, .int .i64 0, .int .i64 0] 25)).cell? ⟨w1.heap.size, 0, none⟩ = some (.int .i64 x0) := HX4.out.cell 0
        have q1 : (w3.alloc (.cells #[.int .i64 0, .int .i64 0, .int .i64 0, .int .i64 0, .int .i64 0, .int .i64 0, .int .i64 0, .int .i64 0] 25)).cell? ⟨w1.heap.size, 1, none⟩ = some (.int .i64 (33 + (n : Int))) := HX4.out.cell 1
        have q2 : (w3.alloc (.cells #[.int .i64 0, .int .i64 0, .int .i64 0, .int .i64 0, .int .i64 0, .int .i64 0, .int .i64 0, .int .i64 0] 25)).cell? ⟨w1.heap.size, 2, none⟩ = some (.int .i64 x2) := HX4.out.cell 2
        have q3 : (w3.alloc (.cells #[.int .i64 0, .int .i64 0, .int .i64 0, .int .i64 0, .int .i64 0, .int .i64 0, .int .i64 0, .int .i64 0] 25)).cell? ⟨w1.heap.size, 3, none⟩ = some (.int .i64 x3) := HX4.out.cell 3
        have q4 : (w3.alloc (.cells #[.int .i64 0, .int .i64 0, .int .i64 0, .int .i64 0, .int .i64 0, .int .i64 0, .int .i64 0, .int .i64 0] 25)).cell? ⟨w1.heap.size, 4, none⟩ = some (.int .i64 x4) := HX4.out.cell 4
        have q5 : (w3.alloc (.cells #[.int .i64 0, .int .i64 0, .int .i64 0, .int .i64 0, .int .i64 0, .int .i64 0, .int .i64 0, .int .i64 0] 25)).cell? ⟨w1.heap.size, 5, none⟩ = some (.int .i64 x5) := HX4.out.cell 5
        have q6 : (w3.alloc (.cells #[.int .i64 0, .int .i64 0, .int .i64 0, .int .i64 0, .int .i64 0, .int .i64 0, .int .i64 0, .int .i64 0] 25)).cell? ⟨w1.heap.size, 6, none⟩ = some (.int .i64 x6) := HX4.out.cell 6
        have q7 : (w3.alloc (.cells #[.int .i64 0, .int .i64 0, .int .i64 0, .int .i64 0, .int .i64 0, .int .i64 0, .int .i64 0, .int .i64 0] 25)).cell? ⟨w1.heap.size, 7, none⟩ = some (.int .i64 x7) := HX4.out.cell 7
        have HCK := Lib.hid (check_any ⟨x0, ⟨(33 + (n : Int)), x2, x3, x4, x5, x6, x7⟩⟩ HWF2.out (w3.alloc (.cells #[.int .i64 0, .int .i64 0, .int .i64 0, .int .i64 0, .int .i64 0, .int .i64 0, .int .i64 0, .int .i64 0] 25)))
        rw [okN_no HNO.out] at HCK
        go_wp2_with fail
        refine HCK.out.mono ?_
        rintro ed w4 ⟨rfl, hb4⟩
        have HB5 := Lib.hid (bt HB4.out hb4)
        clear q0 q1 q2 q3 q4 q5 q6 q7 hb4
        go_wp2_with fail
        refine (works_any _).mono ?_
        rintro ed w5 ⟨rfl, hb5⟩
        have HB6 := Lib.hid (bt HB5.out hb5)
        clear hb5
        go_wp2_with fail
        go_ret
        exact ⟨rfl, HB6.out⟩
      · have hk : (n8 what).tmod 9 = 3 := HKK.out
        have f2 : wr.frozen? ⟨w1.heap.size, 2, none⟩ = false := HX.out.frozen 2
        have HWF2 : Hid (Bk.wf ⟨x0, ⟨x1, (8193 + (n : Int)), x3, x4, x5, x6, x7⟩⟩) := wf_of (by omega)
        have HNO : Hid (¬ Bk.ok ⟨x0, ⟨x1, (8193 + (n : Int)), x3, x4, x5, x6, x7⟩⟩) := fun h => by
          have h1 := h.1
          have h2 := h.2
          unfold Cf.ok at h2
          simp only at h1 h2
          omega
        have HX2 : Hid (Blk (wr.setCell ⟨w1.heap.size, 2, none⟩ (.int .i64 (8193 + (n : Int)))) w1.heap.size 25 #[.int .i64 x0, .int .i64 x1, .int .i64 (8193 + (n : Int)), .int .i64 x3, .int .i64 x4, .int .i64 x5, .int .i64 x6, .int .i64 x7]) := HX.out.set_ 2 _
        have HB2 := Lib.hid (HB.out.setCell (p := ⟨w1.heap.size, 2, none⟩) (by simp; omega) (.int .i64 (8193 + (n : Int))))
        go_wp2_with fail
        refine (encode_bad ⟨x0, ⟨x1, (8193 + (n : Int)), x3, x4, x5, x6, x7⟩⟩ HWF2.out HNO.out _).mono ?_
        rintro ed w2 ⟨rfl, hb2⟩
        have HB3 := Lib.hid (bt HB2.out hb2)
        have HX3 := Lib.hid (HX2.out.below hb2 HX2.out.lt)
        clear q0 q1 q2 q3 q4 q5 q6 q7 hb2
        have q0 : w2.cell? ⟨w1.heap.size, 0, none⟩ = some (.int .i64 x0) := HX3.out.cell 0
        have q1 : w2.cell? ⟨w1.heap.size, 1, none⟩ = some (.int .i64 x1) := HX3.out.cell 1
        have q2 : w2.cell? ⟨w1.heap.size, 2, none⟩ = some (.int .i64 (8193 + (n : Int))) := HX3.out.cell 2
        have q3 : w2.cell? ⟨w1.heap.size, 3, none⟩ = some (.int .i64 x3) := HX3.out.cell 3
        have q4 : w2.cell? ⟨w1.heap.size, 4, none⟩ = some (.int .i64 x4) := HX3.out.cell 4
        have q5 : w2.cell? ⟨w1.heap.size, 5, none⟩ = some (.int .i64 x5) := HX3.out.cell 5
        have q6 : w2.cell? ⟨w1.heap.size, 6, none⟩ = some (.int .i64 x6) := HX3.out.cell 6
        have q7 : w2.cell? ⟨w1.heap.size, 7, none⟩ = some (.int .i64 x7) := HX3.out.cell 7
        go_wp2_with fail
        refine (next_z ⟨x0, ⟨x1, (8193 + (n : Int)), x3, x4, x5, x6, x7⟩⟩ HWF2.out _ (fun h => HNO.out h.1) w2).mono ?_
        rintro ed w3 ⟨rfl, hb3⟩
        have HB4 := Lib.hid (ba (bt HB3.out hb3) (.cells #[.int .i64 0, .int .i64 0, .int .i64 0, .int .i64 0, .int .i64 0, .int .i64 0, .int .i64 0, .int .i64 0] 25))
        have HX4 := Lib.hid ((HX3.out.below hb3 HX3.out.lt).alloc (.cells #[.int .i64 0, .int .i64 0, .int .i64 0, .int .i64 0, .int .i64 0, .int .i64 0, .int .i64 0, .int .i64 0] 25))
        clear q0 q1 q2 q3 q4 q5 q6 q7 hb3
        have q0 : (w3.alloc (.cells #[.int .i64 0, .int .i64 0, .int .i64 0, .int .i64 0, .int .i64 0, .int .i64 0, .int .i64 0, .int .i64 0] 25)).cell? ⟨w1.heap.size, 0, none⟩ = some (.int .i64 x0) := HX4.out.cell 0
        have q1 : (w3.alloc (.cells #[.int .i64 0, .int .i64 0, .int .i64 0, .int .i64 0, .int .i64 0, .int .i64 0, .int .i64 0, .int .i64 0] 25)).cell? ⟨w1.heap.size, 1, none⟩ = some (.int .i64 x1) := HX4.out.cell 1
        have q2 : (w3.alloc (.cells #[.int .i64 0, .int .i64 0, .int .i64 0, .int .i64 0, .int .i64 0, .int .i64 0, .int .i64 0, .int .i64 0] 25)).cell? ⟨w1.heap.size, 2, none⟩ = some (.int .i64 (8193 + (n : Int))) := HX4.out.cell 2
        have q3 : (w3.alloc (.cells #[.int .i64 0, .int .i64 0, .int .i64 0, .int .i64 0, .int .i64 0, .int .i64 0, .int .i64 0, .int .i64 0] 25)).cell? ⟨w1.heap.size, 3, none⟩ = some (.int .i64 x3) := HX4.out.cell 3
        have q4 : (w3.alloc (.cells #[.int .i64 0, .int .i64 0, .int .i64 0, .int .i64 0, .int .i64 0, .int .i64 0, .int .i64 0, .int .i64 0] 25)).cell? ⟨w1.heap.size, 4, none⟩ = some (.int .i64 x4) := HX4.out.cell 4
        have q5 : (w3.alloc (.cells #[.int .i64 0, .int .i64 0, .int .i64 0, .int .i64 0, .int .i64 0, .int .i64 0, .int .i64 0, .int .i64 0] 25)).cell? ⟨w1.heap.size, 5, none⟩ = some (.int .i64 x5) := HX4.out.cell 5
        have q6 : (w3.alloc (.cells #[.int .i64 0, .int .i64 0, .int .i64 0, .int .i64 0, .int .i64 0, .int .i64 0, .int .i64 0, .int .i64 0] 25)).cell? ⟨w1.heap.size, 6, none⟩ = some (.int .i64 x6) := HX4.out.cell 6
        have q7 : (w3.alloc (.cells #[.int .i64 0, .int .i64 0, .int .i64 0, .int .i64 0, .int .i64 0, .int .i64 0, .int .i64 0, .int .i64 0] 25)).cell? ⟨w1.heap.size, 7, none⟩ = some (.int .i64 x7) := HX4.out.cell 7
        have HCK := Lib.hid (check_any ⟨x0, ⟨x1, (8193 + (n : Int)), x3, x4, x5, x6, x7⟩⟩ HWF2.out (w3.alloc (.cells #[.int .i64 0, .int .i64 0, .int .i64 0, .int .i64 0, .int .i64 0, .int .i64 0, .int .i64 0, .int .i64 0] 25)))
        rw [okN_no HNO.out] at HCK
        go_wp2_with fail
        refine HCK.out.mono ?_
        rintro ed w4 ⟨rfl, hb4⟩
        have HB5 := Lib.hid (bt HB4.out hb4)
        clear q0 q1 q2 q3 q4 q5 q6 q7 hb4
        go_wp2_with fail
        refine (works_any _).mono ?_
        rintro ed w5 ⟨rfl, hb5⟩
        have HB6 := Lib.hid (bt HB5.out hb5)
        clear hb5
        go_wp2_with fail
        go_ret
        exact ⟨rfl, HB6.out⟩
      · have hk : (n8 what).tmod 9 = 4 := HKK.out
        have f3 : wr.frozen? ⟨w1.heap.size, 3, none⟩ = false := HX.out.frozen 3
        have HWF2 : Hid (Bk.wf ⟨x0, ⟨x1, x2, (1 - (n : Int)), x4, x5, x6, x7⟩⟩) := wf_of (by omega)
        have HNO : Hid (¬ Bk.ok ⟨x0, ⟨x1, x2, (1 - (n : Int)), x4, x5, x6, x7⟩⟩) := fun h => by
          have h1 := h.1
          have h2 := h.2
          unfold Cf.ok at h2
          simp only at h1 h2
          omega
        have HX2 : Hid (Blk (wr.setCell ⟨w1.heap.size, 3, none⟩ (.int .i64 (1 - (n : Int)))) w1.heap.size 25 #[.int .i64 x0, .int .i64 x1, .int .i64 x2, .int .i64 (1 - (n : Int)), .int .i64 x4, .int .i64 x5, .int .i64 x6, .int .i64 x7]) := HX.out.set_ 3 _
        have HB2 := Lib.hid (HB.out.setCell (p := ⟨w1.heap.size, 3, none⟩) (by simp; omega) (.int .i64 (1 - (n : Int))))
        go_wp2_with fail
        refine (encode_bad ⟨x0, ⟨x1, x2, (1 - (n : Int)), x4, x5, x6, x7⟩⟩ HWF2.out HNO.out _).mono ?_
        rintro ed w2 ⟨rfl, hb2⟩
        have HB3 := Lib.hid (bt HB2.out hb2)
        have HX3 := Lib.hid (HX2.out.below hb2 HX2.out.lt)
        clear q0 q1 q2 q3 q4 q5 q6 q7 hb2
        have q0 : w2.cell? ⟨w1.heap.size, 0, none⟩ = some (.int .i64 x0) := HX3.out.cell 0
        have q1 : w2.cell? ⟨w1.heap.size, 1, none⟩ = some (.int .i64 x1) := HX3.out.cell 1
        have q2 : w2.cell? ⟨w1.heap.size, 2, none⟩ = some (.int .i64 x2) := HX3.out.cell 2
        have q3 : w2.cell? ⟨w1.heap.size, 3, none⟩ = some (.int .i64 (1 - (n : Int))) := HX3.out.cell 3
        have q4 : w2.cell? ⟨w1.heap.size, 4, none⟩ = some (.int .i64 x4) := HX3.out.cell 4
        have q5 : w2.cell? ⟨w1.heap.size, 5, none⟩ = some (.int .i64 x5) := HX3.out.cell 5
        have q6 : w2.cell? ⟨w1.heap.size, 6, none⟩ = some (.int .i64 x6) := HX3.out.cell 6
        have q7 : w2.cell? ⟨w1.heap.size, 7, none⟩ = some (.int .i64 x7) := HX3.out.cell 7
        go_wp2_with fail
        refine (next_z ⟨x0, ⟨x1, x2, (1 - (n : Int)), x4, x5, x6, x7⟩⟩ HWF2.out _ (fun h => HNO.out h.1) w2).mono ?_
        rintro ed w3 ⟨rfl, hb3⟩
        have HB4 := Lib.hid (ba (bt HB3.out hb3) (.cells #[.int .i64 0, .int .i64 0, .int .i64 0, .int .i64 0, .int .i64 0, .int .i64 0, .int .i64 0, .int .i64 0] 25))
        have HX4 := Lib.hid ((HX3.out.below hb3 HX3.out.lt).alloc (.cells #[.int .i64 0, .int .i64 0, .int .i64 0, .int .i64 0, .int .i64 0, .int .i64 0, .int .i64 0, .int .i64 0] 25))
        clear q0 q1 q2 q3 q4 q5 q6 q7 hb3
        have q0 : (w3.alloc (.cells #[.int .i64 0, .int .i64 0, .int .i64 0, .int .i64 0, .int .i64 0, .int .i64 0, .int .i64 0, .int .i64 0] 25)).cell? ⟨w1.heap.size, 0, none⟩ = some (.int .i64 x0) := HX4.out.cell 0
        have q1 : (w3.alloc (.cells #[.int .i64 0, .int .i64 0, .int .i64 0, .int .i64 0, .int .i64 0, .int .i64 0, .int .i64 0, .int .i64 0] 25)).cell? ⟨w1.heap.size, 1, none⟩ = some (.int .i64 x1) := HX4.out.cell 1
        have q2 : (w3.alloc (.cells #[.int .i64 0, .int .i64 0, .int .i64 0, .int .i64 0, .int .i64 0, .int .i64 0, .int .i64 0, .int .i64 0] 25)).cell? ⟨w1.heap.size, 2, none⟩ = some (.int .i64 x2) := HX4.out.cell 2
        have q3 : (w3.alloc (.cells #[.int .i64 0, .int .i64 0, .int .i64 0, .int .i64 0, .int .i64 0, .int .i64 0, .int .i64 0, .int .i64 0] 25)).cell? ⟨w1.heap.size, 3, none⟩ = some (.int .i64 (1 - (n : Int))) := HX4.out.cell 3
        have q4 : (w3.alloc (.cells #[.int .i64 0, .int .i64 0, .int .i64 0, .int .i64 0, .int .i64 0, .int .i64 0, .int .i64 0, .int .i64 0] 25)).cell? ⟨w1.heap.size, 4, none⟩ = some (.int .i64 x4) := HX4.out.cell 4
        have q5 : (w3.alloc (.cells #[.int .i64 0, .int .i64 0, .int .i64 0, .int .i64 0, .int .i64 0, .int .i64 0, .int .i64 0, .int .i64 0] 25)).cell? ⟨w1.heap.size, 5, none⟩ = some (.int .i64 x5) := HX4.out.cell 5
        have q6 : (w3.alloc (.cells #[.int .i64 0, .int .i64 0, .int .i64 0, .int .i64 0, .int .i64 0, .int .i64 0, .int .i64 0, .int .i64 0] 25)).cell? ⟨w1.heap.size, 6, none⟩ = some (.int .i64 x6) := HX4.out.cell 6
        have q7 : (w3.alloc (.cells #[.int .i64 0, .int .i64 0, .int .i64 0, .int .i64 0, .int .i64 0, .int .i64 0, .int .i64 0, .int .i64 0] 25)).cell? ⟨w1.heap.size, 7, none⟩ = some (.int .i64 x7) := HX4.out.cell 7
        have HCK := Lib.hid (check_any ⟨x0, ⟨x1, x2, (1 - (n : Int)), x4, x5, x6, x7⟩⟩ HWF2.out (w3.alloc (.cells #[.int .i64 0, .int .i64 0, .int .i64 0, .int .i64 0, .int .i64 0, .int .i64 0, .int .i64 0, .int .i64 0] 25)))
        rw [okN_no HNO.out] at HCK
        go_wp2_with fail
        refine HCK.out.mono ?_
        rintro ed w4 ⟨rfl, hb4⟩
        have HB5 := Lib.hid (bt HB4.out hb4)
        clear q0 q1 q2 q3 q4 q5 q6 q7 hb4
        go_wp2_with fail
        refine (works_any _).mono ?_
        rintro ed w5 ⟨rfl, hb5⟩
        have HB6 := Lib.hid (bt HB5.out hb5)
        clear hb5
        go_wp2_with fail
        go_ret
        exact ⟨rfl, HB6.out⟩
      · have hk : (n8 what).tmod 9 = 5 := HKK.out
        have f4 : wr.frozen? ⟨w1.heap.size, 4, none⟩ = false := HX.out.frozen 4
        have HWF2 : Hid (Bk.wf ⟨x0, ⟨x1, x2, x3, (65537 + (n : Int)), x5, x6, x7⟩⟩) := wf_of (by omega)
        have HNO : Hid (¬ Bk.ok ⟨x0, ⟨x1, x2, x3, (65537 + (n : Int)), x5, x6, x7⟩⟩) := fun h => by
          have h1 := h.1
          have h2 := h.2
          unfold Cf.ok at h2
          simp only at h1 h2
          omega
        have HX2 : Hid (Blk (wr.setCell ⟨w1.heap.size, 4, none⟩ (.int .i64 (65537 + (n : Int)))) w1.heap.size 25 #[.int .i64 x0, .int .i64 x1, .int .i64 x2, .int .i64 x3, .int .i64 (65537 + (n : Int)), .int .i64 x5, .int .i64 x6, .int .i64 x7]) := HX.out.set_ 4 _
        have HB2 := Lib.hid (HB.out.setCell (p := ⟨w1.heap.size, 4, none⟩) (by simp; omega) (.int .i64 (65537 + (n : Int))))
        go_wp2_with fail
        refine (encode_bad ⟨x0, ⟨x1, x2, x3, (65537 + (n : Int)), x5, x6, x7⟩⟩ HWF2.out HNO.out _).mono ?_
        rintro ed w2 ⟨rfl, hb2⟩
        have HB3 := Lib.hid (bt HB2.out hb2)
        have HX3 := Lib.hid (HX2.out.below hb2 HX2.out.lt)
        clear q0 q1 q2 q3 q4 q5 q6 q7 hb2
        have q0 : w2.cell? ⟨w1.heap.size, 0, none⟩ = some (.int .i64 x0) := HX3.out.cell 0
        have q1 : w2.cell? ⟨w1.heap.size, 1, none⟩ = some (.int .i64 x1) := HX3.out.cell 1
        have q2 : w2.cell? ⟨w1.heap.size, 2, none⟩ = some (.int .i64 x2) := HX3.out.cell 2
        have q3 : w2.cell? ⟨w1.heap.size, 3, none⟩ = some (.int .i64 x3) := HX3.out.cell 3
        have q4 : w2.cell? ⟨w1.heap.size, 4, none⟩ = some (.int .i64 (65537 + (n : Int))) := HX3.out.cell 4
        have q5 : w2.cell? ⟨w1.heap.size, 5, none⟩ = some (.int .i64 x5) := HX3.out.cell 5
        have q6 : w2.cell? ⟨w1.heap.size, 6, none⟩ = some (.int .i64 x6) := HX3.out.cell 6
        have q7 : w2.cell? ⟨w1.heap.size, 7, none⟩ = some (.int .i64 x7) := HX3.out.cell 7
        go_wp2_with fail
        refine (next_z ⟨x0, ⟨x1, x2, x3, (65537 + (n : Int)), x5, x6, x7⟩⟩ HWF2.out _ (fun h => HNO.out h.1) w2).mono ?_
        rintro ed w3 ⟨rfl, hb3⟩
        have HB4 := Lib.hid (ba (bt HB3.out hb3) (.cells #[.int .i64 0, .int .i64 0, .int .i64 0, .int .i64 0, .int .i64 0, .int .i64 0, .int .i64 0, .int .i64 0] 25))
        have HX4 := Lib.hid ((HX3.out.below hb3 HX3.out.lt).alloc (.cells #[.int .i64 0, .int .i64 0, .int .i64 0, .int .i64 0, .int .i64 0, .int .i64 0, .int .i64 0, .int .i64 0] 25))
        clear q0 q1 q2 q3 q4 q5 q6 q7 hb3
        have q0 : (w3.alloc (.cells #[.int .i64 0, .int .i64 0, .int .i64 0, .int .i64 0, .int .i64 0, .int .i64 0, .int .i64 0, .int .i64 0] 25)).cell? ⟨w1.heap.size, 0, none⟩ = some (.int .i64 x0) := HX4.out.cell 0
        have q1 : (w3.alloc (.cells #[.int .i64 0, .int .i64 0, .int .i64 0, .int .i64 0, .int .i64 0, .int .i64 0, .int .i64 0, .int .i64 0] 25)).cell? ⟨w1.heap.size, 1, none⟩ = some (.int .i64 x1) := HX4.out.cell 1
        have q2 : (w3.alloc (.cells #[.int .i64 0, .int .i64 0, .int .i64 0, .int .i64 0, .int .i64 0, .int .i64 0, .int .i64 0, .int .i64 0] 25)).cell? ⟨w1.heap.size, 2, none⟩ = some (.int .i64 x2) := HX4.out.cell 2
        have q3 : (w3.alloc (.cells #[.int .i64 0, .int .i64 0, .int .i64 0, .int .i64 0, .int .i64 0, .int .i64 0, .int .i64 0, .int .i64 0] 25)).cell? ⟨w1.heap.size, 3, none⟩ = some (.int .i64 x3) := HX4.out.cell 3
        have q4 : (w3.alloc (.cells #[.int .i64 0, .int .i64 0, .int .i64 0, .int .i64 0, .int .i64 0, .int .i64 0, .int .i64 0, .int .i64 0] 25)).cell? ⟨w1.heap.size, 4, none⟩ = some (.int .i64 (65537 + (n : Int))) := HX4.out.cell 4
        have q5 : (w3.alloc (.cells #[.int .i64 0, .int .i64 0, .int .i64 0, .int .i64 0, .int .i64 0, .int .i64 0, .int .i64 0, .int .i64 0] 25)).cell? ⟨w1.heap.size, 5, none⟩ = some (.int .i64 x5) := HX4.out.cell 5
        have q6 : (w3.alloc (.cells #[.int .i64 0, .int .i64 0, .int .i64 0, .int .i64 0, .int .i64 0, .int .i64 0, .int .i64 0, .int .i64 0] 25)).cell? ⟨w1.heap.size, 6, none⟩ = some (.int .i64 x6) := HX4.out.cell 6
        have q7 : (w3.alloc (.cells #[.int .i64 0, .int .i64 0, .int .i64 0, .int .i64 0, .int .i64 0, .int .i64 0, .int .i64 0, .int .i64 0] 25)).cell? ⟨w1.heap.size, 7, none⟩ = some (.int .i64 x7) := HX4.out.cell 7
        have HCK := Lib.hid (check_any ⟨x0, ⟨x1, x2, x3, (65537 + (n : Int)), x5, x6, x7⟩⟩ HWF2.out (w3.alloc (.cells #[.int .i64 0, .int .i64 0, .int .i64 0, .int .i64 0, .int .i64 0, .int .i64 0, .int .i64 0, .int .i64 0] 25)))
        rw [okN_no HNO.out] at HCK
        go_wp2_with fail
        refine HCK.out.mono ?_
        rintro ed w4 ⟨rfl, hb4⟩
        have HB5 := Lib.hid (bt HB4.out hb4)
        clear q0 q1 q2 q3 q4 q5 q6 q7 hb4
        go_wp2_with fail
        refine (works_any _).mono ?_
        rintro ed w5 ⟨rfl, hb5⟩
        have HB6 := Lib.hid (bt HB5.out hb5)
        clear hb5
        go_wp2_with fail
        go_ret
        exact ⟨rfl, HB6.out⟩
      · have hk : (n8 what).tmod 9 = 6 := HKK.out
        have f5 : wr.frozen? ⟨w1.heap.size, 5, none⟩ = false := HX.out.frozen 5
        have HWF2 : Hid (Bk.wf ⟨x0, ⟨x1, x2, x3, x4, (-(n : Int)), x6, x7⟩⟩) := wf_of (by omega)
        have HNO : Hid (¬ Bk.ok ⟨x0, ⟨x1, x2, x3, x4, (-(n : Int)), x6, x7⟩⟩) := fun h => by
          have h1 := h.1
          have h2 := h.2
          unfold Cf.ok at h2
          simp only at h1 h2
          omega
        have HX2 : Hid (Blk (wr.setCell ⟨w1.heap.size, 5, none⟩ (.int .i64 (-(n : Int)))) w1.heap.size 25 #[.int .i64 x0, .int .i64 x1, .int .i64 x2, .int .i64 x3, .int .i64 x4, .int .i64 (-(n : Int)), .int .i64 x6, .int .i64 x7]) := HX.out.set_ 5 _
        have HB2 := Lib.hid (HB.out.setCell (p := ⟨w1.heap.size, 5, none⟩) (by simp; omega) (.int .i64 (-(n : Int))))
        go_wp2_with fail
        refine (encode_bad ⟨x0, ⟨x1, x2, x3, x4, (-(n : Int)), x6, x7⟩⟩ HWF2.out HNO.out _).mono ?_
        rintro ed w2 ⟨rfl, hb2⟩
        have HB3 := Lib.hid (bt HB2.out hb2)
        have HX3 := Lib.hid (HX2.out.below hb2 HX2.out.lt)
        clear q0 q1 q2 q3 q4 q5 q6 q7 hb2
        have q0 : w2.cell? ⟨w1.heap.size, 0, none⟩ = some (.int .i64 x0) := HX3.out.cell 0
        have q1 : w2.cell? ⟨w1.heap.size, 1, none⟩ = some (.int .i64 x1) := HX3.out.cell 1
        have q2 : w2.cell? ⟨w1.heap.size, 2, none⟩ = some (.int .i64 x2) := HX3.out.cell 2
        have q3 : w2.cell? ⟨w1.heap.size, 3, none⟩ = some (.int .i64 x3) := HX3.out.cell 3
        have q4 : w2.cell? ⟨w1.heap.size, 4, none⟩ = some (.int .i64 x4) := HX3.out.cell 4
        have q5 : w2.cell? ⟨w1.heap.size, 5, none⟩ = some (.int .i64 (-(n : Int))) := HX3.out.cell 5
        have q6 : w2.cell? ⟨w1.heap.size, 6, none⟩ = some (.int .i64 x6) := HX3.out.cell 6
        have q7 : w2.cell? ⟨w1.heap.size, 7, none⟩ = some (.int .i64 x7) := HX3.out.cell 7
        go_wp2_with fail
        refine (next_z ⟨x0, ⟨x1, x2, x3, x4, (-(n : Int)), x6, x7⟩⟩ HWF2.out _ (fun h => HNO.out h.1) w2).mono ?_
        rintro ed w3 ⟨rfl, hb3⟩
        have HB4 := Lib.hid (ba (bt HB3.out hb3) (.cells #[.int .i64 0, .int .i64 0, .int .i64 0, .int .i64 0, .int .i64 0, .int .i64 0, .int .i64 0, .int .i64 0] 25))
        have HX4 := Lib.hid ((HX3.out.below hb3 HX3.out.lt).alloc (.cells #[.int .i64 0, .int .i64 0, .int .i64 0, .int .i64 0, .int .i64 0, .int .i64 0, .int .i64 0, .int .i64 0] 25))
        clear q0 q1 q2 q3 q4 q5 q6 q7 hb3
        have q0 : (w3.alloc (.cells #[.int .i64 0, .int .i64 0, .int .i64 0, .int .i64 0, .int .i64 0, .int .i64 0, .int .i64 0, .int .i64 0] 25)).cell? ⟨w1.heap.size, 0, none⟩ = some (.int .i64 x0) := HX4.out.cell 0
        have q1 : (w3.alloc (.cells #[.int .i64 0, .int .i64 0, .int .i64 0, .int .i64 0, .int .i64 0, .int .i64 0, .int .i64 0, .int .i64 0] 25)).cell? ⟨w1.heap.size, 1, none⟩ = some (.int .i64 x1) := HX4.out.cell 1
        have q2 : (w3.alloc (.cells #[.int .i64 0, .int .i64 0, .int .i64 0, .int .i64 0, .int .i64 0, .int .i64 0, .int .i64 0, .int .i64 0] 25)).cell? ⟨w1.heap.size, 2, none⟩ = some (.int .i64 x2) := HX4.out.cell 2
        have q3 : (w3.alloc (.cells #[.int .i64 0, .int .i64 0, .int .i64 0, .int .i64 0, .int .i64 0, .int .i64 0, .int .i64 0, .int .i64 0] 25)).cell? ⟨w1.heap.size, 3, none⟩ = some (.int .i64 x3) := HX4.out.cell 3
        have q4 : (w3.alloc (.cells #[.int .i64 0, .int .i64 0, .int .i64 0, .int .i64 0, .int .i64 0, .int .i64 0, .int .i64 0, .int .i64 0] 25)).cell? ⟨w1.heap.size, 4, none⟩ = some (.int .i64 x4) := HX4.out.cell 4
        have q5 : (w3.alloc (.cells #[.int .i64 0, .int .i64 0, .int .i64 0, .int .i64 0, .int .i64 0, .int .i64 0, .int .i64 0, .int .i64 0] 25)).cell? ⟨w1.heap.size, 5, none⟩ = some (.int .i64 (-(n : Int))) := HX4.out.cell 5
        have q6 : (w3.alloc (.cells #[.int .i64 0, .int .i64 0, .int .i64 0, .int .i64 0, .int .i64 0, .int .i64 0, .int .i64 0, .int .i64 0] 25)).cell? ⟨w1.heap.size, 6, none⟩ = some (.int .i64 x6) := HX4.out.cell 6
        have q7 : (w3.alloc (.cells #[.int .i64 0, .int .i64 0, .int .i64 0, .int .i64 0, .int .i64 0, .int .i64 0, .int .i64 0, .int .i64 0] 25)).cell? ⟨w1.heap.size, 7, none⟩ = some (.int .i64 x7) := HX4.out.cell 7
        have HCK := Lib.hid (check_any ⟨x0, ⟨x1, x2, x3, x4, (-(n : Int)), x6, x7⟩⟩ HWF2.out (w3.alloc (.cells #[.int .i64 0, .int .i64 0, .int .i64 0, .int .i64 0, .int .i64 0, .int .i64 0, .int .i64 0, .int .i64 0] 25)))
        rw [okN_no HNO.out] at HCK
        go_wp2_with fail
        refine HCK.out.mono ?_
        rintro ed w4 ⟨rfl, hb4⟩
        have HB5 := Lib.hid (bt HB4.out hb4)
        clear q0 q1 q2 q3 q4 q5 q6 q7 hb4
        go_wp2_with fail
        refine (works_any _).mono ?_
        rintro ed w5 ⟨rfl, hb5⟩
        have HB6 := Lib.hid (bt HB5.out hb5)
        clear hb5
        go_wp2_with fail
        go_ret
        exact ⟨rfl, HB6.out⟩
      · have hk : (n8 what).tmod 9 = 7 := HKK.out
        have f6 : wr.frozen? ⟨w1.heap.size, 6, none⟩ = false := HX.out.frozen 6
        have HWF2 : Hid (Bk.wf ⟨x0, ⟨x1, x2, x3, x4, x5, (-1 - (n : Int)), x7⟩⟩) := wf_of (by omega)
        have HNO : Hid (¬ Bk.ok ⟨x0, ⟨x1, x2, x3, x4, x5, (-1 - (n : Int)), x7⟩⟩) := fun h => by
          have h1 := h.1
          have h2 := h.2
          unfold Cf.ok at h2
          simp only at h1 h2
          omega
        have HX2 : Hid (Blk (wr.setCell ⟨w1.heap.size, 6, none⟩ (.int .i64 (-1 - (n : Int)))) w1.heap.size 25 #[.int .i64 x0, .int .i64 x1, .int .i64 x2, .int .i64 x3, .int .i64 x4, .int .i64 x5, .int .i64 (-1 - (n : Int)), .int .i64 x7]) := HX.out.set_ 6 _
        have HB2 := Lib.hid (HB.out.setCell (p := ⟨w1.heap.size, 6, none⟩) (by simp; omega) (.int .i64 (-1 - (n : Int))))
        go_wp2_with fail
        refine (encode_bad ⟨x0, ⟨x1, x2, x3, x4, x5, (-1 - (n : Int)), x7⟩⟩ HWF2.out HNO.out _).mono ?_
        rintro ed w2 ⟨rfl, hb2⟩
        have HB3 := Lib.hid (bt HB2.out hb2)
        have HX3 := Lib.hid (HX2.out.below hb2 HX2.out.lt)
        clear q0 q1 q2 q3 q4 q5 q6 q7 hb2
        have q0 : w2.cell? ⟨w1.heap.size, 0, none⟩ = some (.int .i64 x0) := HX3.out.cell 0
        have q1 : w2.cell? ⟨w1.heap.size, 1, none⟩ = some (.int .i64 x1) := HX3.out.cell 1
        have q2 : w2.cell? ⟨w1.heap.size, 2, none⟩ = some (.int .i64 x2) := HX3.out.cell 2
        have q3 : w2.cell? ⟨w1.heap.size, 3, none⟩ = some (.int .i64 x3) := HX3.out.cell 3
        have q4 : w2.cell? ⟨w1.heap.size, 4, none⟩ = some (.int .i64 x4) := HX3.out.cell 4
        have q5 : w2.cell? ⟨w1.heap.size, 5, none⟩ = some (.int .i64 x5) := HX3.out.cell 5
        have q6 : w2.cell? ⟨w1.heap.size, 6, none⟩ = some (.int .i64 (-1 - (n : Int))) := HX3.out.cell 6
        have q7 : w2.cell? ⟨w1.heap.size, 7, none⟩ = some (.int .i64 x7) := HX3.out.cell 7
        go_wp2_with fail
        refine (next_z ⟨x0, ⟨x1, x2, x3, x4, x5, (-1 - (n : Int)), x7⟩⟩ HWF2.out _ (fun h => HNO.out h.1) w2).mono ?_
        rintro ed w3 ⟨rfl, hb3⟩
        have HB4 := Lib.hid (ba (bt HB3.out hb3) (.cells #[.int .i64 0, .int .i64 0, .int .i64 0, .int .i64 0, .int .i64 0, .int .i64 0, .int .i64 0, .int .i64 0] 25))
        have HX4 := Lib.hid ((HX3.out.below hb3 HX3.out.lt).alloc (.cells #[.int .i64 0, .int .i64 0, .int .i64 0, .int .i64 0, .int .i64 0, .int .i64 0, .int .i64 0, .int .i64 0] 25))
        clear q0 q1 q2 q3 q4 q5 q6 q7 hb3
        have q0 : (w3.alloc (.cells #[.int .i64 0, .int .i64 0, .int .i64 0, .int .i64 0, .int .i64 0, .int .i64 0, .int .i64 0, .int .i64 0] 25)).cell? ⟨w1.heap.size, 0, none⟩ = some (.int .i64 x0) := HX4.out.cell 0
        have q1 : (w3.alloc (.cells #[.int .i64 0, .int .i64 0, .int .i64 0, .int .i64 0, .int .i64 0, .int .i64 0, .int .i64 0, .int .i64 0] 25)).cell? ⟨w1.heap.size, 1, none⟩ = some (.int .i64 x1) := HX4.out.cell 1
        have q2 : (w3.alloc (.cells #[.int .i64 0, .int .i64 0, .int .i64 0, .int .i64 0, .int .i64 0, .int .i64 0, .int .i64 0, .int .i64 0] 25)).cell? ⟨w1.heap.size, 2, none⟩ = some (.int .i64 x2) := HX4.out.cell 2
        have q3 : (w3.alloc (.cells #[.int .i64 0, .int .i64 0, .int .i64 0, .int .i64 0, .int .i64 0, .int .i64 0, .int .i64 0, .int .i64 0] 25)).cell? ⟨w1.heap.size, 3, none⟩ = some (.int .i64 x3) := HX4.out.cell 3
        have q4 : (w3.alloc (.cells #[.int .i64 0, .int .i64 0, .int .i64 0, .int .i64 0, .int .i64 0, .int .i64 0, .int .i64 0, .int .i64 0] 25)).cell? ⟨w1.heap.size, 4, none⟩ = some (.int .i64 x4) := HX4.out.cell 4
        have q5 : (w3.alloc (.cells #[.int .i64 0, .int .i64 0, .int .i64 0, .int .i64 0, .int .i64 0, .int .i64 0, .int .i64 0, .int .i64 0] 25)).cell? ⟨w1.heap.size, 5, none⟩ = some (.int .i64 x5) := HX4.out.cell 5
        have q6 : (w3.alloc (.cells #[.int .i64 0, .int .i64 0, .int .i64 0, .int .i64 0, .int .i64 0, .int .i64 0, .int .i64 0, .int .i64 0] 25)).cell? ⟨w1.heap.size, 6, none⟩ = some (.int .i64 (-1 - (n : Int))) := HX4.out.cell 6
        have q7 : (w3.alloc (.cells #[.int .i64 0, .int .i64 0, .int .i64 0, .int .i64 0, .int .i64 0, .int .i64 0, .int .i64 0, .int .i64 0] 25)).cell? ⟨w1.heap.size, 7, none⟩ = some (.int .i64 x7) := HX4.out.cell 7
        have HCK := Lib.hid (check_any ⟨x0, ⟨x1, x2, x3, x4, x5, (-1 - (n : Int)), x7⟩⟩ HWF2.out (w3.alloc (.cells #[.int .i64 0, .int .i64 0, .int .i64 0, .int .i64 0, .int .i64 0, .int .i64 0, .int .i64 0, .int .i64 0] 25)))
        rw [okN_no HNO.out] at HCK
        go_wp2_with fail
        refine HCK.out.mono ?_
        rintro ed w4 ⟨rfl, hb4⟩
        have HB5 := Lib.hid (bt HB4.out hb4)
        clear q0 q1 q2 q3 q4 q5 q6 q7 hb4
        go_wp2_with fail
        refine (works_any _).mono ?_
        rintro ed w5 ⟨rfl, hb5⟩
        have HB6 := Lib.hid (bt HB5.out hb5)
        clear hb5
        go_wp2_with fail
        go_ret
        exact ⟨rfl, HB6.out⟩
      · have hk : (n8 what).tmod 9 = 8 := HKK.out
        have f7 : wr.frozen? ⟨w1.heap.size, 7, none⟩ = false := HX.out.frozen 7
        have HWF2 : Hid (Bk.wf ⟨x0, ⟨x1, x2, x3, x4, x5, x6, (3 + (n : Int))⟩⟩) := wf_of (by omega)
        have HNO : Hid (¬ Bk.ok ⟨x0, ⟨x1, x2, x3, x4, x5, x6, (3 + (n : Int))⟩⟩) := fun h => by
          have h1 := h.1
          have h2 := h.2
          unfold Cf.ok at h2
          simp only at h1 h2
          omega
        have HX2 : Hid (Blk (wr.setCell ⟨w1.heap.size, 7, none⟩ (.int .i64 (3 + (n : Int)))) w1.heap.size 25 #[.int .i64 x0, .int .i64 x1, .int .i64 x2, .int .i64 x3, .int .i64 x4, .int .i64 x5, .int .i64 x6, .int .i64 (3 + (n : Int))]) := HX.out.set_ 7 _
        have HB2 := Lib.hid (HB.out.setCell (p := ⟨w1.heap.size, 7, none⟩) (by simp; omega) (.int .i64 (3 + (n : Int))))
        go_wp2_with fail
        refine (encode_bad ⟨x0, ⟨x1, x2, x3, x4, x5, x6, (3 + (n : Int))⟩⟩ HWF2.out HNO.out _).mono ?_
        rintro ed w2 ⟨rfl, hb2⟩
        have HB3 := Lib.hid (bt HB2.out hb2)
        have HX3 := Lib.hid (HX2.out.below hb2 HX2.out.lt)
        clear q0 q1 q2 q3 q4 q5 q6 q7 hb2
        have q0 : w2.cell? ⟨w1.heap.size, 0, none⟩ = some (.int .i64 x0) := HX3.out.cell 0
        have q1 : w2.cell? ⟨w1.heap.size, 1, none⟩ = some (.int .i64 x1) := HX3.out.cell 1
        have q2 : w2.cell? ⟨w1.heap.size, 2, none⟩ = some (.int .i64 x2) := HX3.out.cell 2
        have q3 : w2.cell? ⟨w1.heap.size, 3, none⟩ = some (.int .i64 x3) := HX3.out.cell 3
        have q4 : w2.cell? ⟨w1.heap.size, 4, none⟩ = some (.int .i64 x4) := HX3.out.cell 4
        have q5 : w2.cell? ⟨w1.heap.size, 5, none⟩ = some (.int .i64 x5) := HX3.out.cell 5
        have q6 : w2.cell? ⟨w1.heap.size, 6, none⟩ = some (.int .i64 x6) := HX3.out.cell 6
        have q7 : w2.cell? ⟨w1.heap.size, 7, none⟩ = some (.int .i64 (3 + (n : Int))) := HX3.out.cell 7
        go_wp2_with fail
        refine (next_z ⟨x0, ⟨x1, x2, x3, x4, x5, x6, (3 + (n : Int))⟩⟩ HWF2.out _ (fun h => HNO.out h.1) w2).mono ?_
        rintro ed w3 ⟨rfl, hb3⟩
        have HB4 := Lib.hid (ba (bt HB3.out hb3) (.cells #[.int .i64 0, .int .i64 0, .int .i64 0, .int .i64 0, .int .i64 0, .int .i64 0, .int .i64 0, .int .i64 0] 25))
        have HX4 := Lib.hid ((HX3.out.below hb3 HX3.out.lt).alloc (.cells #[.int .i64 0, .int .i64 0, .int .i64 0, .int .i64 0, .int .i64 0, .int .i64 0, .int .i64 0, .int .i64 0] 25))
        clear q0 q1 q2 q3 q4 q5 q6 q7 hb3
        have q0 : (w3.alloc (.cells #[.int .i64 0, .int .i64 0, .int .i64 0, .int .i64 0, .int .i64 0, .int .i64 0, .int .i64 0, .int .i64 0] 25)).cell? ⟨w1.heap.size, 0, none⟩ = some (.int .i64 x0) := HX4.out.cell 0
        have q1 : (w3.alloc (.cells #[.int .i64 0, .int .i64 0, .int .i64 0, .int .i64 0, .int .i64 0, .int .i64 0, .int .i64 0, .int .i64 0] 25)).cell? ⟨w1.heap.size, 1, none⟩ = some (.int .i64 x1) := HX4.out.cell 1
        have q2 : (w3.alloc (.cells #[.int .i64 0, .int .i64 0, .int .i64 0, .int .i64 0, .int .i64 0, .int .i64 0, .int .i64 0, .int .i64 0] 25)).cell? ⟨w1.heap.size, 2, none⟩ = some (.int .i64 x2) := HX4.out.cell 2
        have q3 : (w3.alloc (.cells #[.int .i64 0, .int .i64 0, .int .i64 0, .int .i64 0, .int .i64 0, .int .i64 0, .int .i64 0, .int .i64 0] 25)).cell? ⟨w1.heap.size, 3, none⟩ = some (.int .i64 x3) := HX4.out.cell 3
        have q4 : (w3.alloc (.cells #[.int .i64 0, .int .i64 0, .int .i64 0, .int .i64 0, .int .i64 0, .int .i64 0, .int .i64 0, .int .i64 0] 25)).cell? ⟨w1.heap.size, 4, none⟩ = some (.int .i64 x4) := HX4.out.cell 4
        have q5 : (w3.alloc (.cells #[.int .i64 0, .int .i64 0, .int .i64 0, .int .i64 0, .int .i64 0, .int .i64 0, .int .i64 0, .int .i64 0] 25)).cell? ⟨w1.heap.size, 5, none⟩ = some (.int .i64 x5) := HX4.out.cell 5
        have q6 : (w3.alloc (.cells #[.int .i64 0, .int .i64 0, .int .i64 0, .int .i64 0, .int .i64 0, .int .i64 0, .int .i64 0, .int .i64 0] 25)).cell? ⟨w1.heap.size, 6, none⟩ = some (.int .i64 x6) := HX4.out.cell 6
        have q7 : (w3.alloc (.cells #[.int .i64 0, .int .i64 0, .int .i64 0, .int .i64 0, .int .i64 0, .int .i64 0, .int .i64 0, .int .i64 0] 25)).cell? ⟨w1.heap.size, 7, none⟩ = some (.int .i64 (3 + (n : Int))) := HX4.out.cell 7
        have HCK := Lib.hid (check_any ⟨x0, ⟨x1, x2, x3, x4, x5, x6, (3 + (n : Int))⟩⟩ HWF2.out (w3.alloc (.cells #[.int .i64 0, .int .i64 0, .int .i64 0, .int .i64 0, .int .i64 0, .int .i64 0, .int .i64 0, .int .i64 0] 25)))
        rw [okN_no HNO.out] at HCK
        go_wp2_with fail
        refine HCK.out.mono ?_
        rintro ed w4 ⟨rfl, hb4⟩
        have HB5 := Lib.hid (bt HB4.out hb4)
        clear q0 q1 q2 q3 q4 q5 q6 q7 hb4
        go_wp2_with fail
        refine (works_any _).mono ?_
        rintro ed w5 ⟨rfl, hb5⟩
        have HB6 := Lib.hid (bt HB5.out hb5)
        clear hb5
        go_wp2_with fail
        go_ret
        exact ⟨rfl, HB6.out⟩
theorem SuperblockRefuses_walk (v0 v1 v2 : Value) (w : World) (h0 : ArgIn Try.prog w 49 v0) (h1 : ArgIn Try.prog w 5 v1) (h2 : ArgIn Try.prog w 47 v2) :
    Calls Try.prog 10 #[v0, v1, v2] w fun e w' => e = .returned (.bool true) ∧ Below w.heap.size w w' := by
  obtain ⟨d, rfl, hd⟩ := draft_arg h0
  obtain ⟨a, rfl, ha⟩ := h1.int Try.underlying5
  obtain ⟨what, rfl⟩ := u8_of_wf ha
  obtain ⟨m, rfl, hm⟩ := h2.int Try.underlying47
  obtain ⟨n, hn, rfl⟩ := u16n_of_wf hm
  exact SuperblockRefuses_w d hd what n hn w
end Go.Proofs.Ytbgahbeldnhloaa
