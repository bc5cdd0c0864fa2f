/-
  The walk of the law SuperblockBack: it returns true and writes nothing that was there. No condition.
-/
import Derived.Test.YtbgahbeldnhloaaSuperblockEpochsW
namespace Go.Proofs.Ytbgahbeldnhloaa
open Go.RowKit Drum
set_option linter.unusedVariables false
theorem decode_s (A : Option Addr) (n c : Nat) (hn : n < 64) (w : World) :
    Calls Try.prog 18 #[.slice A n c] w fun e w' => e = .returned (.tuple #[.agg #[.int .i64 0, .int .i64 0, .int .i64 0, .int .i64 0, .int .i64 0, .int .i64 0, .int .i64 0, .int .i64 0], .int .i64 14]) ∧ Below w.heap.size w w' := decode_short A n c hn w
set_option maxHeartbeats 40000000 in
theorem SuperblockBack_w (d : Dr) (hd : d.wf) (A : Option Addr) (n c : Nat) (l : List (BitVec 8)) (hl : n = l.length) (hnm : n ≤ maxLen) (w : World) (hr : Reads w w.heap.size 1 A n (u8s l)) :
    Calls Try.prog 6 #[.agg (drv d), .slice A n c] w fun ed w' => ed = .returned (.bool true) ∧ Below w.heap.size w w' := by
  unfold maxLen at hnm
  obtain ⟨i0, hi0, hz0, hz1, hz2⟩ := info_parts u8_info
  obtain ⟨x0, x1, x2, x3, x4, x5, x6, x7, hX⟩ := dr_ex d
  have hok := d.bk_ok
  rw [hX] at hok
  have HBL := Lib.hid (fun W => block_x hX hd W)
  have HOK := Lib.hid hok
  have HWF := Lib.hid (wf_ok hok)
  have HR := Lib.hid hr
  have HL := Lib.hid hl
  obtain ⟨de, s, z, r, ww, k, v, dp⟩ := d
  unfold drv at HBL ⊢
  clear hX hd hr hl hok
  by_cases hbig : 100 < n
  · clear HR
    go_enter Try.func6, Try.ntmps6
    go_wp2_with fail
    refine (works_any _).mono ?_
    rintro ed w1 ⟨rfl, hb1⟩
    have HB1 := Lib.hid (bt (ba (Below.refl w.heap.size w) _) hb1)
    clear hb1
    go_wp2_with fail
    go_ret
    exact ⟨rfl, HB1.out⟩
  · go_enter Try.func6, Try.ntmps6
    go_wp2_with fail
    refine (HBL.out _).mono ?_
    rintro ed w1 ⟨rfl, hb1⟩
    have HB1 := Lib.hid (ba (bt (ba (Below.refl w.heap.size w) (.cells (drv ⟨de, s, z, r, ww, k, v, dp⟩) 49)) hb1) (.cells #[.int .i64 x0, .int .i64 x1, .int .i64 x2, .int .i64 x3, .int .i64 x4, .int .i64 x5, .int .i64 x6, .int .i64 x7] 25))
    have HX1 := Lib.hid (Blk.new w1 25 #[.int .i64 x0, .int .i64 x1, .int .i64 x2, .int .i64 x3, .int .i64 x4, .int .i64 x5, .int .i64 x6, .int .i64 x7])
    clear hb1
    go_wp2_with fail
    refine (encode_any ⟨x0, ⟨x1, x2, x3, x4, x5, x6, x7⟩⟩ HWF.out HOK.out _).mono ?_
    rintro ed w2 ⟨g, cs, rfl, hg, hbk, htk, hb2⟩
    have HB2 := Lib.hid (bt HB1.out hb2)
    have HX2 := Lib.hid (HX1.out.below hb2 HX1.out.lt)
    have HBK2 := Lib.hid hbk
    have HRE := Lib.hid (reads_blk hbk 0 64 _ (encOf_length _) htk)
    have hs2 : w1.heap.size < w2.heap.size := HX2.out.lt
    clear hb2 hbk htk hg
    have q0 : w2.cell? ⟨w1.heap.size, 0, none⟩ = some (.int .i64 x0) := HX2.out.cell 0
    have q1 : w2.cell? ⟨w1.heap.size, 1, none⟩ = some (.int .i64 x1) := HX2.out.cell 1
    have q2 : w2.cell? ⟨w1.heap.size, 2, none⟩ = some (.int .i64 x2) := HX2.out.cell 2
    have q3 : w2.cell? ⟨w1.heap.size, 3, none⟩ = some (.int .i64 x3) := HX2.out.cell 3
    have q4 : w2.cell? ⟨w1.heap.size, 4, none⟩ = some (.int .i64 x4) := HX2.out.cell 4
    have q5 : w2.cell? ⟨w1.heap.size, 5, none⟩ = some (.int .i64 x5) := HX2.out.cell 5
    have q6 : w2.cell? ⟨w1.heap.size, 6, none⟩ = some (.int .i64 x6) := HX2.out.cell 6
    have q7 : w2.cell? ⟨w1.heap.size, 7, none⟩ = some (.int .i64 x7) := HX2.out.cell 7
    have HCF := Lib.hid (cfCheck_ok (Bk.conf ⟨x0, ⟨x1, x2, x3, x4, x5, x6, x7⟩⟩) HWF.out.2 w2)
    rw [okN_yes HOK.out.2] at HCF
    go_wp2_with fail
    refine HCF.out.mono ?_
    rintro ed w3 ⟨rfl, hb3⟩
    have HB3 := Lib.hid (bt HB2.out hb3)
    have HX3 := Lib.hid (HX2.out.below hb3 HX2.out.lt)
    have HRE3 := Lib.hid (HRE.out.below hb3)
    have HBK3 := Lib.hid (HBK2.out.below hb3 HBK2.out.lt)
    have hs3 : w2.heap.size ≤ w3.heap.size := hb3.size
    clear hb3 HCF q0 q1 q2 q3 q4 q5 q6 q7
    have q0 : w3.cell? ⟨w1.heap.size, 0, none⟩ = some (.int .i64 x0) := HX3.out.cell 0
    have q1 : w3.cell? ⟨w1.heap.size, 1, none⟩ = some (.int .i64 x1) := HX3.out.cell 1
    have q2 : w3.cell? ⟨w1.heap.size, 2, none⟩ = some (.int .i64 x2) := HX3.out.cell 2
    have q3 : w3.cell? ⟨w1.heap.size, 3, none⟩ = some (.int .i64 x3) := HX3.out.cell 3
    have q4 : w3.cell? ⟨w1.heap.size, 4, none⟩ = some (.int .i64 x4) := HX3.out.cell 4
    have q5 : w3.cell? ⟨w1.heap.size, 5, none⟩ = some (.int .i64 x5) := HX3.out.cell 5
    have q6 : w3.cell? ⟨w1.heap.size, 6, none⟩ = some (.int .i64 x6) := HX3.out.cell 6
    have q7 : w3.cell? ⟨w1.heap.size, 7, none⟩ = some (.int .i64 x7) := HX3.out.cell 7
    have HCK := Lib.hid (check_any ⟨x0, ⟨x1, x2, x3, x4, x5, x6, x7⟩⟩ HWF.out w3)
    rw [okN_yes HOK.out] at HCK
    go_wp2_with fail
    refine HCK.out.mono ?_
    rintro ed w4 ⟨rfl, hb4⟩
    have HB4 := Lib.hid (bt HB3.out hb4)
    have HX4 := Lib.hid (HX3.out.below hb4 HX3.out.lt)
    have HRE4 := Lib.hid (HRE3.out.below (hb4.mono hs3))
    have HBK4 := Lib.hid (HBK3.out.below hb4 HBK3.out.lt)
    have hs4 : w3.heap.size ≤ w4.heap.size := hb4.size
    clear hb4 HCK q0 q1 q2 q3 q4 q5 q6 q7
    have HO : Hid ((w4.alloc (.cells #[] 5)).ownsRow w4.heap.size 5 1 (.slice (some ⟨w4.heap.size, 0, none⟩) 0 0) 0 []) := World.ownsRow_made w4 #[] 0 (Nat.le_refl _) (by unfold maxLen; omega) (by simp)
    go_wp2_with (first
      | (at_builtin
         refine wpList_append_g _ rfl (.tmp 43) (.tmp 44) _ rfl w4.heap.size 5 i0 _ 1 1 Try.underlying26 hi0 hz0 hz1 hz2 rfl (by omega) (.slice (some ⟨w4.heap.size, 0, none⟩) 0 0) 0 [] rfl
           HO.out w2.heap.size (some ⟨g, 0, none⟩) 64 64 (u8s (encOf ⟨x0, ⟨x1, x2, x3, x4, x5, x6, x7⟩⟩)) rfl (HRE4.out.alloc (by omega) _) (u8s_one _) (by simp only [maxLen]; omega) (by omega) (by simp) ?_
         intro v5 w5 hown5 hg5 hat5
         have hown5' : w5.ownsRow w4.heap.size 5 1 v5 64 (u8s (encOf ⟨x0, ⟨x1, x2, x3, x4, x5, x6, x7⟩⟩)) := by simpa using hown5
         have HO5 := Lib.hid hown5'
         have HB45 := Lib.hid (((Below.refl w4.heap.size w4).alloc (Nat.le_refl _) (.cells #[] 5)).grown hg5 (by simp) (by intro q hq; simp [Value.ownBlock] at hq; omega))
         have HB5 := Lib.hid (bt HB4.out HB45.out)
         clear hown5 hown5' hg5 hat5)
      | (at_builtin
         refine wpList_append_g _ rfl (.tmp 45) (.tmp 46) _ rfl w4.heap.size 5 i0 _ 1 1 Try.underlying26 hi0 hz0 hz1 hz2 rfl (by omega) v5 64 (u8s (encOf ⟨x0, ⟨x1, x2, x3, x4, x5, x6, x7⟩⟩)) rfl
           HO5.out w.heap.size A n c (u8s l) rfl (HR.out.below HB5.out) (u8s_one _) (by simp only [maxLen]; omega) (by omega) HB45.out.size ?_
         intro v6 w6 hown6 hg6 hat6
         rw [u8s_append] at hown6
         have HO6 := Lib.hid hown6
         have HB46 := Lib.hid (HB45.out.grown hg6 HB45.out.size (fun q hq => (HO5.out.lt q hq).1))
         have HB6 := Lib.hid (bt HB4.out HB46.out)
         clear hown6 hg6 hat6))
    obtain ⟨A6, c6, rfl, hA6, hc6, hr6⟩ := own_slice HO6.out
    refine (decode_lit A6 (64 + n) c6 _ (encOf ⟨x0, ⟨x1, x2, x3, x4, x5, x6, x7⟩⟩ ++ l) 0 ⟨x0, ⟨x1, x2, x3, x4, x5, x6, x7⟩⟩ (decOf_enc _ HOK.out _) (by rw [List.length_append, encOf_length, HL.out]) (by simp [maxLen]; omega) hA6 hc6 w6 hr6 (Nat.le_refl _)).mono ?_
    rintro ed w7 ⟨rfl, hb7⟩
    have HX7 := Lib.hid (((HX4.out.below HB46.out HX4.out.lt).below hb7 (by have := HB46.out.size; omega)).alloc (.cells #[.int .i64 x0, .int .i64 x1, .int .i64 x2, .int .i64 x3, .int .i64 x4, .int .i64 x5, .int .i64 x6, .int .i64 x7] 25))
    have HBK7 := Lib.hid (((HBK4.out.below HB46.out HBK4.out.lt).below hb7 (by have := HB46.out.size; have := HBK4.out.lt; omega)).alloc (.cells #[.int .i64 x0, .int .i64 x1, .int .i64 x2, .int .i64 x3, .int .i64 x4, .int .i64 x5, .int .i64 x6, .int .i64 x7] 25))
    have HB7 := Lib.hid (ba (bt HB6.out hb7) (.cells #[.int .i64 x0, .int .i64 x1, .int .i64 x2, .int .i64 x3, .int .i64 x4, .int .i64 x5, .int .i64 x6, .int .i64 x7] 25))
    clear hb7 hr6
    have q0 : (w7.alloc (.cells #[.int .i64 x0, .int .i64 x1, .int .i64 x2, .int .i64 x3, .int .i64 x4, .int .i64 x5, .int .i64 x6, .int .i64 x7] 25)).cell? ⟨w1.heap.size, 0, none⟩ = some (.int .i64 x0) := HX7.out.cell 0
    have q1 : (w7.alloc (.cells #[.int .i64 x0, .int .i64 x1, .int .i64 x2, .int .i64 x3, .int .i64 x4, .int .i64 x5, .int .i64 x6, .int .i64 x7] 25)).cell? ⟨w1.heap.size, 1, none⟩ = some (.int .i64 x1) := HX7.out.cell 1
    have q2 : (w7.alloc (.cells #[.int .i64 x0, .int .i64 x1, .int .i64 x2, .int .i64 x3, .int .i64 x4, .int .i64 x5, .int .i64 x6, .int .i64 x7] 25)).cell? ⟨w1.heap.size, 2, none⟩ = some (.int .i64 x2) := HX7.out.cell 2
    have q3 : (w7.alloc (.cells #[.int .i64 x0, .int .i64 x1, .int .i64 x2, .int .i64 x3, .int .i64 x4, .int .i64 x5, .int .i64 x6, .int .i64 x7] 25)).cell? ⟨w1.heap.size, 3, none⟩ = some (.int .i64 x3) := HX7.out.cell 3
    have q4 : (w7.alloc (.cells #[.int .i64 x0, .int .i64 x1, .int .i64 x2, .int .i64 x3, .int .i64 x4, .int .i64 x5, .int .i64 x6, .int .i64 x7] 25)).cell? ⟨w1.heap.size, 4, none⟩ = some (.int .i64 x4) := HX7.out.cell 4
    have q5 : (w7.alloc (.cells #[.int .i64 x0, .int .i64 x1, .int .i64 x2, .int .i64 x3, .int .i64 x4, .int .i64 x5, .int .i64 x6, .int .i64 x7] 25)).cell? ⟨w1.heap.size, 5, none⟩ = some (.int .i64 x5) := HX7.out.cell 5
    have q6 : (w7.alloc (.cells #[.int .i64 x0, .int .i64 x1, .int .i64 x2, .int .i64 x3, .int .i64 x4, .int .i64 x5, .int .i64 x6, .int .i64 x7] 25)).cell? ⟨w1.heap.size, 6, none⟩ = some (.int .i64 x6) := HX7.out.cell 6
    have q7 : (w7.alloc (.cells #[.int .i64 x0, .int .i64 x1, .int .i64 x2, .int .i64 x3, .int .i64 x4, .int .i64 x5, .int .i64 x6, .int .i64 x7] 25)).cell? ⟨w1.heap.size, 7, none⟩ = some (.int .i64 x7) := HX7.out.cell 7
    go_wp2_with fail
    go_loopg [10] 64 (fun q v10 wr => ∃ j : Nat, j + q = 64 ∧ v10 = .int .i64 j ∧ Below w.heap.size w wr ∧ True)
    case atStart => exact ⟨0, rfl, rfl, HB7.out, trivial⟩
    case round =>
      obtain ⟨j, hj, rfl, hb, _⟩ := hrel
      have HJ := Lib.hid hj
      have HB := Lib.hid hb
      have hj64 : j ≤ 64 := by omega
      clear hj hb q0 q1 q2 q3 q4 q5 q6 q7
      by_cases hlt : j < 64
      · go_wp2_with fail
        refine (decode_s _ j _ hlt wr).mono ?_
        rintro ed w8 ⟨rfl, hb8⟩
        have HB8 := Lib.hid (ba (bt HB.out hb8) (.cells #[.int .i64 0, .int .i64 0, .int .i64 0, .int .i64 0, .int .i64 0, .int .i64 0, .int .i64 0, .int .i64 0] 25))
        clear hb8
        go_wp2_with fail
        go_roundg (gk - 1)
        case measure => have := HJ.out; omega
        case rel => exact ⟨j + 1, by have := HJ.out; omega, by go_num, HB8.out, trivial⟩
      · have hj64 : j = 64 := by omega
        subst hj64
        go_wp2_with fail
        refine (works_any _).mono ?_
        rintro ed w8 ⟨rfl, hb8⟩
        have HB8 := Lib.hid (bt HB.out hb8)
        clear hb8
        go_wp2_with fail
        go_ret
        exact ⟨rfl, HB8.out⟩
theorem SuperblockBack_walk (v0 v1 : Value) (w : World) (h0 : ArgIn Try.prog w 49 v0) (h1 : ArgIn Try.prog w 26 v1) :
    Calls Try.prog 6 #[v0, v1] w fun e w' => e = .returned (.bool true) ∧ Below w.heap.size w w' := by
  obtain ⟨d, rfl, hd⟩ := draft_arg h0
  obtain ⟨A, n, c, l, rfl, g1, g2, g3, g4, g5⟩ := bytes_arg h1
  exact SuperblockBack_w d hd A n c l g1 g2 w g5
end Go.Proofs.Ytbgahbeldnhloaa
