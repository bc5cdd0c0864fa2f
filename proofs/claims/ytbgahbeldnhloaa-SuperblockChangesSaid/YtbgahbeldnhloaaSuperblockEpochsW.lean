/-
  The walk of the law SuperblockEpochs: it returns true and writes nothing that was there. No condition.
-/
import Derived.Test.YtbgahbeldnhloaaSuperblockRefusesW
import Derived.BigRegion
namespace Go.Proofs.Ytbgahbeldnhloaa
open Go.RowKit Drum
set_option linter.unusedVariables false
theorem next_l (b : Bk) (hw : b.wf) (p : Int) (h : b.ok) (hp : p = 1 ∨ p = 2) (he : b.epoch = 1099511627776) (w : World) :
    Calls Try.prog 20 #[.agg (bkv b), .int .i64 p] w fun e w' => e = .returned (.tuple #[.agg #[.int .i64 0, .int .i64 0, .int .i64 0, .int .i64 0, .int .i64 0, .int .i64 0, .int .i64 0, .int .i64 0], .int .i64 16]) ∧ Below w.heap.size w w' := by
  have h1 := next_any b hw p w
  rw [nextOf_last h hp he] at h1
  exact h1
theorem next_o (e x1 x2 x3 x4 x5 x6 x7 : Int) (p : Int) (h : Bk.ok ⟨e, ⟨x1, x2, x3, x4, x5, x6, x7⟩⟩) (hw : Bk.wf ⟨e, ⟨x1, x2, x3, x4, x5, x6, x7⟩⟩) (hp : p = 1 ∨ p = 2) (he : e ≠ 1099511627776) (w : World) :
    Calls Try.prog 20 #[.agg #[.int .i64 e, .int .i64 x1, .int .i64 x2, .int .i64 x3, .int .i64 x4, .int .i64 x5, .int .i64 x6, .int .i64 x7], .int .i64 p] w fun ed w' => ed = .returned (.tuple #[.agg #[.int .i64 (e + 1), .int .i64 x1, .int .i64 x2, .int .i64 x3, .int .i64 x4, .int .i64 x5, .int .i64 x6, .int .i64 p], .int .i64 0]) ∧ Below w.heap.size w w' := by
  have h1 := next_any _ hw p w
  rw [nextOf_ok h hp he] at h1
  exact h1
theorem ok_swap {e e' x1 x2 x3 x4 x5 x6 p p' : Int} (h : Bk.ok ⟨e, ⟨x1, x2, x3, x4, x5, x6, p⟩⟩) (he : 1 ≤ e' ∧ e' ≤ 1099511627776) (hp : p' = 1 ∨ p' = 2) : Bk.ok ⟨e', ⟨x1, x2, x3, x4, x5, x6, p'⟩⟩ := by
  obtain ⟨_, h1, h2, h3, h4, h5, h6, h7⟩ := h
  exact ⟨he, h1, h2, h3, h4, h5, h6, by rcases hp with rfl | rfl <;> simp⟩
theorem wf_ok {x0 x1 x2 x3 x4 x5 x6 x7 : Int} (h : Bk.ok ⟨x0, ⟨x1, x2, x3, x4, x5, x6, x7⟩⟩) : Bk.wf ⟨x0, ⟨x1, x2, x3, x4, x5, x6, x7⟩⟩ := by
  obtain ⟨b0, b1, b2, b3, b4, b5, b6, b7⟩ := bk_bounds h
  exact wf_of (by omega)
set_option maxHeartbeats 40000000 in
theorem SuperblockEpochs_w (d : Dr) (hd : d.wf) (A : Option Addr) (n c : Nat) (l : List (BitVec 8)) (hl : n = l.length) (hnm : n ≤ maxLen) (w : World) (hr : Reads w w.heap.size 1 A n (u8s l)) :
    Calls Try.prog 9 #[.agg (drv d), .slice A n c] w fun ed w' => ed = .returned (.bool true) ∧ Below w.heap.size w w' := by
  unfold maxLen at hnm
  obtain ⟨x0, x1, x2, x3, x4, x5, x6, x7, hX⟩ := dr_ex d
  have hok := d.bk_ok
  rw [hX] at hok
  have HBL := Lib.hid (fun W => block_x hX hd W)
  have HOK := Lib.hid hok
  have HR := Lib.hid hr
  have HL := Lib.hid hl
  obtain ⟨de, s, z, r, ww, k, v, dp⟩ := d
  unfold drv at HBL ⊢
  clear hX hd hr hl hok
  by_cases hbig : 20 < n
  · clear HR
    go_enter Try.func9, Try.ntmps9
    go_wp2_with fail
    refine (works_any _).mono ?_
    rintro ed w1 ⟨rfl, hb1⟩
    have HB1 := Lib.hid (bt (ba (Below.refl w.heap.size w) _) hb1)
    clear hb1
    go_wp2_with fail
    go_ret
    exact ⟨rfl, HB1.out⟩
  · go_enter Try.func9, Try.ntmps9
    go_wp2_with fail
    refine (HBL.out _).mono ?_
    rintro ed w1 ⟨rfl, hb1⟩
    have HB1 := Lib.hid (ba (ba (bt (ba (Below.refl w.heap.size w) (.cells (drv ⟨de, s, z, r, ww, k, v, dp⟩) 49)) hb1) (.cells #[.int .i64 x0, .int .i64 x1, .int .i64 x2, .int .i64 x3, .int .i64 x4, .int .i64 x5, .int .i64 x6, .int .i64 x7] 25)) (.cells #[.int .i64 x0, .int .i64 x1, .int .i64 x2, .int .i64 x3, .int .i64 x4, .int .i64 x5, .int .i64 x6, .int .i64 x7] 25))
    have HX1 := Lib.hid ((Blk.new w1 25 #[.int .i64 x0, .int .i64 x1, .int .i64 x2, .int .i64 x3, .int .i64 x4, .int .i64 x5, .int .i64 x6, .int .i64 x7]).alloc (.cells #[.int .i64 x0, .int .i64 x1, .int .i64 x2, .int .i64 x3, .int .i64 x4, .int .i64 x5, .int .i64 x6, .int .i64 x7] 25))
    have HY1 := Lib.hid (blk2 w1 #[.int .i64 x0, .int .i64 x1, .int .i64 x2, .int .i64 x3, .int .i64 x4, .int .i64 x5, .int .i64 x6, .int .i64 x7] #[.int .i64 x0, .int .i64 x1, .int .i64 x2, .int .i64 x3, .int .i64 x4, .int .i64 x5, .int .i64 x6, .int .i64 x7] 25 25)
    have hw1 : w.heap.size < w1.heap.size := by have := hb1.size; simp at this; omega
    clear hb1
    go_wp2_with fail
    go_loopg [7] n (fun q v7 wr => ∃ (j : Nat) (e p : Int), j + q = n ∧ v7 = .int .i64 j ∧ Below w.heap.size w wr ∧ Blk wr w1.heap.size 25 #[.int .i64 x0, .int .i64 x1, .int .i64 x2, .int .i64 x3, .int .i64 x4, .int .i64 x5, .int .i64 x6, .int .i64 x7] ∧ Blk wr (w1.heap.size + 1) 25 #[.int .i64 e, .int .i64 x1, .int .i64 x2, .int .i64 x3, .int .i64 x4, .int .i64 x5, .int .i64 x6, .int .i64 p] ∧ Bk.ok ⟨e, ⟨x1, x2, x3, x4, x5, x6, p⟩⟩ ∧ True)
    case atStart => exact ⟨0, x0, x7, by omega, rfl, HB1.out, HX1.out, HY1.out, HOK.out, trivial⟩
    case round =>
      obtain ⟨j, e, p, hj, rfl, hb, hx, hy, hk, _⟩ := hrel
      have HJ := Lib.hid hj
      have HB := Lib.hid hb
      have HX := Lib.hid hx
      have HY := Lib.hid hy
      have HK := Lib.hid hk
      have HWF := Lib.hid (wf_ok hk)
      have he1 : 1 ≤ e ∧ e ≤ 1099511627776 := hk.1
      have hjn : j ≤ n := by omega
      clear hj hb hx hy hk HB1 HX1 HY1
      have q0 : wr.cell? ⟨w1.heap.size, 0, none⟩ = some (.int .i64 x0) := HX.out.cell 0
      have q1 : wr.cell? ⟨w1.heap.size, 1, none⟩ = some (.int .i64 x1) := HX.out.cell 1
      have q2 : wr.cell? ⟨w1.heap.size, 2, none⟩ = some (.int .i64 x2) := HX.out.cell 2
      have q3 : wr.cell? ⟨w1.heap.size, 3, none⟩ = some (.int .i64 x3) := HX.out.cell 3
      have q4 : wr.cell? ⟨w1.heap.size, 4, none⟩ = some (.int .i64 x4) := HX.out.cell 4
      have q5 : wr.cell? ⟨w1.heap.size, 5, none⟩ = some (.int .i64 x5) := HX.out.cell 5
      have q6 : wr.cell? ⟨w1.heap.size, 6, none⟩ = some (.int .i64 x6) := HX.out.cell 6
      have q7 : wr.cell? ⟨w1.heap.size, 7, none⟩ = some (.int .i64 x7) := HX.out.cell 7
      have r0 : wr.cell? ⟨w1.heap.size + 1, 0, none⟩ = some (.int .i64 e) := HY.out.cell 0
      have r1 : wr.cell? ⟨w1.heap.size + 1, 1, none⟩ = some (.int .i64 x1) := HY.out.cell 1
      have r2 : wr.cell? ⟨w1.heap.size + 1, 2, none⟩ = some (.int .i64 x2) := HY.out.cell 2
      have r3 : wr.cell? ⟨w1.heap.size + 1, 3, none⟩ = some (.int .i64 x3) := HY.out.cell 3
      have r4 : wr.cell? ⟨w1.heap.size + 1, 4, none⟩ = some (.int .i64 x4) := HY.out.cell 4
      have r5 : wr.cell? ⟨w1.heap.size + 1, 5, none⟩ = some (.int .i64 x5) := HY.out.cell 5
      have r6 : wr.cell? ⟨w1.heap.size + 1, 6, none⟩ = some (.int .i64 x6) := HY.out.cell 6
      have r7 : wr.cell? ⟨w1.heap.size + 1, 7, none⟩ = some (.int .i64 p) := HY.out.cell 7
      by_cases hlt : j < n
      · obtain ⟨ad, u, rfl, _, hx, hc⟩ := (HR.out.below HB.out).at_ hlt
        obtain ⟨hjl, rfl⟩ := u8s_at hx
        rw [n8_nat] at hc
        obtain ⟨P, hP, HP⟩ : ∃ P : Int, (1 + ((l[j].toNat : Nat) : Int) % 2) = P ∧ Hid (P = 1 ∨ P = 2) := ⟨_, rfl, by show _ ∨ _; omega⟩
        have hlb := (l[j]).isLt
        clear hx
        by_cases hee : e = 1099511627776
        · have hbe : (e == 1099511627776) = true := by simp [hee]
          have HN := Lib.hid (next_l ⟨e, ⟨x1, x2, x3, x4, x5, x6, p⟩⟩ HWF.out P HK.out HP.out hee wr)
          clear hee
          go_wp2_with fail
          try rw [hP]
          refine HN.out.mono ?_
          rintro ed w2 ⟨rfl, hb2⟩
          have HB2 := Lib.hid (ba (bt HB.out hb2) (.cells #[.int .i64 0, .int .i64 0, .int .i64 0, .int .i64 0, .int .i64 0, .int .i64 0, .int .i64 0, .int .i64 0] 25))
          have HY2 := Lib.hid ((HY.out.below hb2 HY.out.lt).alloc (.cells #[.int .i64 0, .int .i64 0, .int .i64 0, .int .i64 0, .int .i64 0, .int .i64 0, .int .i64 0, .int .i64 0] 25))
          have s0 : (w2.alloc (.cells #[.int .i64 0, .int .i64 0, .int .i64 0, .int .i64 0, .int .i64 0, .int .i64 0, .int .i64 0, .int .i64 0] 25)).cell? ⟨w1.heap.size + 1, 0, none⟩ = some (.int .i64 e) := HY2.out.cell 0
          clear q0 q1 q2 q3 q4 q5 q6 q7 r0 r1 r2 r3 r4 r5 r6 r7 hb2 hc
          go_wp2_with fail
          refine (works_any _).mono ?_
          rintro ed w3 ⟨rfl, hb3⟩
          have HB3 := Lib.hid (bt HB2.out hb3)
          clear hb3
          go_wp2_with fail
          go_ret
          exact ⟨rfl, HB3.out⟩
        · have hbe : (e == 1099511627776) = false := by simp [hee]
          have HN := Lib.hid (next_o e x1 x2 x3 x4 x5 x6 p P HK.out HWF.out HP.out hee wr)
          have HK2 := Lib.hid (ok_swap HK.out (show 1 ≤ e + 1 ∧ e + 1 ≤ 1099511627776 by omega) HP.out)
          clear hee
          go_wp2_with fail
          try rw [hP]
          refine HN.out.mono ?_
          rintro ed w2 ⟨rfl, hb2⟩
          have HX2 := Lib.hid (HX.out.below hb2 HX.out.lt)
          have HY2 := Lib.hid (HY.out.below hb2 HY.out.lt)
          have HB2 := Lib.hid (bt HB.out hb2)
          clear q0 q1 q2 q3 q4 q5 q6 q7 r0 r1 r2 r3 r4 r5 r6 r7 hb2 hc
          have hs2 : w1.heap.size + 1 < w2.heap.size := HY2.out.lt
          have s0 : w2.cell? ⟨w1.heap.size + 1, 0, none⟩ = some (.int .i64 e) := HY2.out.cell 0
          have s1 : w2.cell? ⟨w1.heap.size + 1, 1, none⟩ = some (.int .i64 x1) := HY2.out.cell 1
          have s2 : w2.cell? ⟨w1.heap.size + 1, 2, none⟩ = some (.int .i64 x2) := HY2.out.cell 2
          have s3 : w2.cell? ⟨w1.heap.size + 1, 3, none⟩ = some (.int .i64 x3) := HY2.out.cell 3
          have s4 : w2.cell? ⟨w1.heap.size + 1, 4, none⟩ = some (.int .i64 x4) := HY2.out.cell 4
          have s5 : w2.cell? ⟨w1.heap.size + 1, 5, none⟩ = some (.int .i64 x5) := HY2.out.cell 5
          have s6 : w2.cell? ⟨w1.heap.size + 1, 6, none⟩ = some (.int .i64 x6) := HY2.out.cell 6
          have s7 : w2.cell? ⟨w1.heap.size + 1, 7, none⟩ = some (.int .i64 p) := HY2.out.cell 7
          have t0 : ((w2.alloc (.cells #[.int .i64 (e + 1), .int .i64 x1, .int .i64 x2, .int .i64 x3, .int .i64 x4, .int .i64 x5, .int .i64 x6, .int .i64 P] 25)).alloc (.cells #[.int .i64 e, .int .i64 x1, .int .i64 x2, .int .i64 x3, .int .i64 x4, .int .i64 x5, .int .i64 x6, .int .i64 p] 25)).cell? ⟨w1.heap.size + 1, 0, none⟩ = some (.int .i64 e) := ((HY2.out.alloc _).alloc _).cell 0
          go_wp2_with fail
          refine (check_any ⟨(e + 1), ⟨x1, x2, x3, x4, x5, x6, P⟩⟩ (wf_ok HK2.out) _).mono ?_
          rw [okN_yes HK2.out]
          rintro ed w3 ⟨rfl, hb3⟩
          have HB3 := Lib.hid (bt (ba (ba HB2.out (.cells #[.int .i64 (e + 1), .int .i64 x1, .int .i64 x2, .int .i64 x3, .int .i64 x4, .int .i64 x5, .int .i64 x6, .int .i64 P] 25)) (.cells #[.int .i64 (e + 1), .int .i64 x1, .int .i64 x2, .int .i64 x3, .int .i64 x4, .int .i64 x5, .int .i64 x6, .int .i64 P] 25)) hb3)
          have HX3 := Lib.hid (((HX2.out.alloc (.cells #[.int .i64 (e + 1), .int .i64 x1, .int .i64 x2, .int .i64 x3, .int .i64 x4, .int .i64 x5, .int .i64 x6, .int .i64 P] 25)).alloc (.cells #[.int .i64 (e + 1), .int .i64 x1, .int .i64 x2, .int .i64 x3, .int .i64 x4, .int .i64 x5, .int .i64 x6, .int .i64 P] 25)).below hb3 (by simp; omega))
          have HY3 := Lib.hid (((HY2.out.alloc (.cells #[.int .i64 (e + 1), .int .i64 x1, .int .i64 x2, .int .i64 x3, .int .i64 x4, .int .i64 x5, .int .i64 x6, .int .i64 P] 25)).alloc (.cells #[.int .i64 (e + 1), .int .i64 x1, .int .i64 x2, .int .i64 x3, .int .i64 x4, .int .i64 x5, .int .i64 x6, .int .i64 P] 25)).below hb3 (by simp; omega))
          have HZ3 := Lib.hid (((Blk.new w2 25 #[.int .i64 (e + 1), .int .i64 x1, .int .i64 x2, .int .i64 x3, .int .i64 x4, .int .i64 x5, .int .i64 x6, .int .i64 P]).alloc (.cells #[.int .i64 (e + 1), .int .i64 x1, .int .i64 x2, .int .i64 x3, .int .i64 x4, .int .i64 x5, .int .i64 x6, .int .i64 P] 25)).below hb3 (by simp; omega))
          clear hb3 t0 s0 s1 s2 s3 s4 s5 s6 s7
          go_wp2_with (first
            | (refine wpList_load_row rfl 25 _ rfl w2.heap.size rfl 25 #[.int .i64 (e + 1), .int .i64 x1, .int .i64 x2, .int .i64 x3, .int .i64 x4, .int .i64 x5, .int .i64 x6, .int .i64 P] (0, 0) _ HZ3.out Try.underlying25 rfl (by kernel_rfl) ?_)
            | (refine wpList_store_row rfl 25 _ _ rfl (w1.heap.size + 1) #[.int .i64 (e + 1), .int .i64 x1, .int .i64 x2, .int .i64 x3, .int .i64 x4, .int .i64 x5, .int .i64 x6, .int .i64 P] rfl rfl 25 #[.int .i64 e, .int .i64 x1, .int .i64 x2, .int .i64 x3, .int .i64 x4, .int .i64 x5, .int .i64 x6, .int .i64 p] HY3.out (by kernel_rfl) rfl (by simp [Value.oneCell']) ?_))
          go_roundg (gk - 1)
          case measure => have := HJ.out; omega
          case rel => exact ⟨j + 1, e + 1, P, by have := HJ.out; omega, by go_num, below_setRow HB3.out (by omega) _, ((setRow_other w3 (w1.heap.size + 1) w1.heap.size _ (by omega)).trans HX3.out), setRow_heap _ _ _ _ _ _ HY3.out, HK2.out, trivial⟩
      · have hjn' : j = n := by omega
        subst hjn'
        have fr0 : wr.frozen? ⟨w1.heap.size + 1, 0, none⟩ = false := HY.out.frozen 0
        have fr7 : wr.frozen? ⟨w1.heap.size + 1, 7, none⟩ = false := HY.out.frozen 7
        have HB2 := Lib.hid (((HB.out.setCell (p := ⟨w1.heap.size + 1, 0, none⟩) (by simp; omega) (.int .i64 x0)).setCell (p := ⟨w1.heap.size + 1, 7, none⟩) (by simp; omega) (.int .i64 x7)).drew)
        clear HR hlt
        go_wp2_with fail
        go_region
        all_goals go_wp2_with fail
        all_goals refine (works_any _).mono ?_
        all_goals rintro ed w3 ⟨rfl, hb3⟩
        all_goals have HB3 := Lib.hid (bt HB2.out hb3)
        all_goals clear hb3
        all_goals go_wp2_with fail
        all_goals go_ret
        all_goals exact ⟨rfl, HB3.out⟩
theorem SuperblockEpochs_walk (v0 v1 : Value) (w : World) (h0 : ArgIn Try.prog w 49 v0) (h1 : ArgIn Try.prog w 26 v1) :
    Calls Try.prog 9 #[v0, v1] w fun e w' => e = .returned (.bool true) ∧ Below w.heap.size w w' := by
  obtain ⟨d, rfl, hd⟩ := draft_arg h0
  obtain ⟨A, n, c, l, rfl, g1, g2, g3, g4, g5⟩ := bytes_arg h1
  exact SuperblockEpochs_w d hd A n c l g1 g2 w g5
end Go.Proofs.Ytbgahbeldnhloaa
