/-
  The walks of Next and the document's Next, of the law's ref and sample. Condition: the numbers are ints.
-/
import Derived.Test.YtbgahbeldnhloaaSupRef2
namespace Go.Proofs.Ytbgahbeldnhloaa
open Go.RowKit Drum
set_option linter.unusedVariables false
/-- The next superblock: the error's number, and the superblock. -/
def nextOf (b : Bk) (p : Int) : Int × Bk :=
  if b.ok ∧ (p = 1 ∨ p = 2) then (if b.epoch = 1099511627776 then (16, bk0) else (0, ⟨b.epoch + 1, ⟨b.conf.slots, b.conf.size, b.conf.reserve, b.conf.work, b.conf.key, b.conf.value, p⟩⟩)) else (2, bk0)
theorem nextOf_bad {b : Bk} {p : Int} (h : ¬ (b.ok ∧ (p = 1 ∨ p = 2))) : nextOf b p = (2, bk0) := if_neg h
theorem nextOf_last {b : Bk} {p : Int} (h : b.ok) (hp : p = 1 ∨ p = 2) (he : b.epoch = 1099511627776) : nextOf b p = (16, bk0) := by
  unfold nextOf; rw [if_pos ⟨h, hp⟩, if_pos he]
theorem nextOf_ok {b : Bk} {p : Int} (h : b.ok) (hp : p = 1 ∨ p = 2) (he : b.epoch ≠ 1099511627776) :
    nextOf b p = (0, ⟨b.epoch + 1, ⟨b.conf.slots, b.conf.size, b.conf.reserve, b.conf.work, b.conf.key, b.conf.value, p⟩⟩) := by
  unfold nextOf; rw [if_pos ⟨h, hp⟩, if_neg he]
set_option maxHeartbeats 4000000 in
theorem next_lit (e c1 c2 c3 c4 c5 c6 c7 : Int) (p : Int) (hw : Bk.wf ⟨e, ⟨c1, c2, c3, c4, c5, c6, c7⟩⟩) (w : World) :
    Calls Try.prog 20 #[.agg #[.int .i64 e, .int .i64 c1, .int .i64 c2, .int .i64 c3, .int .i64 c4, .int .i64 c5, .int .i64 c6, .int .i64 c7], .int .i64 p] w fun ed w' => ed = .returned (.tuple #[.agg (bkv (nextOf ⟨e, ⟨c1, c2, c3, c4, c5, c6, c7⟩⟩ p).2), .int .i64 (nextOf ⟨e, ⟨c1, c2, c3, c4, c5, c6, c7⟩⟩ p).1]) ∧ Below w.heap.size w w' := by
  have HC : Hid (∀ W, Calls Try.prog 14 #[.agg #[.int .i64 e, .int .i64 c1, .int .i64 c2, .int .i64 c3, .int .i64 c4, .int .i64 c5, .int .i64 c6, .int .i64 c7]] W fun ed w' => ed = .returned (.int .i64 (okN (Bk.ok ⟨e, ⟨c1, c2, c3, c4, c5, c6, c7⟩⟩))) ∧ Below W.heap.size W w') := fun W => check_any _ hw W
  have hwe : -9223372036854775808 ≤ e ∧ e ≤ 9223372036854775807 := hw.1
  obtain ⟨W0, hW0⟩ : ∃ W0 : World, W0 = (w.alloc (.cells #[.int .i64 e, .int .i64 c1, .int .i64 c2, .int .i64 c3, .int .i64 c4, .int .i64 c5, .int .i64 c6, .int .i64 c7] 25)).alloc (.cells #[.int .i64 0, .int .i64 0, .int .i64 0, .int .i64 0, .int .i64 0, .int .i64 0, .int .i64 0, .int .i64 0] 25) := ⟨_, rfl⟩
  have HB1 : Hid (Blk W0 w.heap.size 25 #[.int .i64 e, .int .i64 c1, .int .i64 c2, .int .i64 c3, .int .i64 c4, .int .i64 c5, .int .i64 c6, .int .i64 c7]) := by rw [hW0]; exact (Blk.new w _ _).alloc _
  have HB2 : Hid (Blk W0 (w.heap.size + 1) 25 (bkv bk0)) := by rw [hW0]; exact blk2 w _ _ _ _
  have HBW : Hid (Below w.heap.size w W0) := by rw [hW0]; exact ((Below.refl w.heap.size w).alloc (Nat.le_refl _) _).alloc (by simp) _
  have hs0 : w.heap.size + 1 < W0.heap.size := HB2.out.lt
  have HW0 := Lib.hid hW0
  clear hW0 hw
  by_cases hok : Bk.ok ⟨e, ⟨c1, c2, c3, c4, c5, c6, c7⟩⟩
  · rw [okN_yes hok] at HC
    by_cases hp : p = 1 ∨ p = 2
    · by_cases he : e = 1099511627776
      · have HD := Lib.hid (nextOf_last hok hp he)
        have hbe : (e == 1099511627776) = true := by simp [he]
        clear hok he
        rcases hp with rfl | rfl
        all_goals
          go_enter Try.func20, Try.ntmps20
          go_wp2_with fail
          rw [← HW0.out]
          refine (HC.out _).mono ?_
          rintro ed w1 ⟨rfl, hb1⟩
          have HB11 := Lib.hid (HB1.out.below hb1 (by omega))
          have HB21 := Lib.hid (HB2.out.below hb1 hs0)
          have HBW1 := Lib.hid (HBW.out.trans (hb1.mono HBW.out.size))
          have q0 : w1.cell? ⟨w.heap.size, 0, none⟩ = some (.int .i64 e) := HB11.out.cell 0
          clear hb1
          go_wp2_with (refine wpList_store_row rfl 25 _ _ rfl (w.heap.size + 1) (bkv bk0) rfl rfl 25 (bkv bk0) HB21.out bk_size rfl (bkv_one _) ?_)
          exact bodyPost_ret (results_blk_tmp rfl _ _ (w.heap.size + 1) 25 (bkv bk0) _ rfl (setRow_heap _ _ _ _ _ _ HB21.out) Try.underlying25 rfl bk_size) rfl ⟨by rw [HD.out]; rfl, below_setRow HBW1.out (by omega) _⟩
      · have HD := Lib.hid (nextOf_ok hok hp he)
        have hbe : (e == 1099511627776) = false := by simp [he]
        have he2 : e ≤ 1099511627776 := hok.1.2
        clear hok he
        rcases hp with rfl | rfl
        · go_enter Try.func20, Try.ntmps20
          go_wp2_with fail
          rw [← HW0.out]
          refine (HC.out _).mono ?_
          rintro ed w1 ⟨rfl, hb1⟩
          have HB11 := Lib.hid (HB1.out.below hb1 (by omega))
          have HB21 := Lib.hid (HB2.out.below hb1 hs0)
          have HBW1 := Lib.hid (HBW.out.trans (hb1.mono HBW.out.size))
          have q0 : w1.cell? ⟨w.heap.size, 0, none⟩ = some (.int .i64 e) := HB11.out.cell 0
          have f0 : w1.frozen? ⟨w.heap.size, 0, none⟩ = false := HB11.out.frozen 0
          have q7 : w1.cell? ⟨w.heap.size, 7, none⟩ = some (.int .i64 c7) := HB11.out.cell 7
          have f7 : w1.frozen? ⟨w.heap.size, 7, none⟩ = false := HB11.out.frozen 7
          have HB12 : Hid (Blk ((w1.setCell ⟨w.heap.size, 0, none⟩ (.int .i64 (e + 1))).setCell ⟨w.heap.size, 7, none⟩ (.int .i64 1)) w.heap.size 25 (bkv ⟨e + 1, ⟨c1, c2, c3, c4, c5, c6, 1⟩⟩)) := (HB11.out.set_ 0 (.int .i64 (e + 1))).set_ 7 (.int .i64 1)
          have HB22 : Hid (Blk ((w1.setCell ⟨w.heap.size, 0, none⟩ (.int .i64 (e + 1))).setCell ⟨w.heap.size, 7, none⟩ (.int .i64 1)) (w.heap.size + 1) 25 (bkv bk0)) := (HB21.out.far (p := ⟨w.heap.size, 0, none⟩) (by simp) (.int .i64 (e + 1))).far (p := ⟨w.heap.size, 7, none⟩) (by simp) (.int .i64 1)
          have HBW2 := Lib.hid ((HBW1.out.setCell (p := ⟨w.heap.size, 0, none⟩) (Nat.le_refl _) (.int .i64 (e + 1))).setCell (p := ⟨w.heap.size, 7, none⟩) (Nat.le_refl _) (.int .i64 1))
          clear hb1
          go_wp2_with (first
            | (refine wpList_load_row rfl 25 _ rfl w.heap.size rfl 25 (bkv ⟨e + 1, ⟨c1, c2, c3, c4, c5, c6, 1⟩⟩) (0, 0) _ HB12.out Try.underlying25 rfl bk_size ?_)
            | (refine wpList_store_row rfl 25 _ _ rfl (w.heap.size + 1) (bkv ⟨e + 1, ⟨c1, c2, c3, c4, c5, c6, 1⟩⟩) rfl rfl 25 (bkv bk0) HB22.out bk_size rfl (bkv_one _) ?_))
          exact bodyPost_ret (results_blk_tmp rfl _ _ (w.heap.size + 1) 25 (bkv ⟨e + 1, ⟨c1, c2, c3, c4, c5, c6, 1⟩⟩) _ rfl (setRow_heap _ _ _ _ _ _ HB22.out) Try.underlying25 rfl bk_size) rfl ⟨by rw [HD.out]; rfl, below_setRow HBW2.out (by omega) _⟩
        · go_enter Try.func20, Try.ntmps20
          go_wp2_with fail
          rw [← HW0.out]
          refine (HC.out _).mono ?_
          rintro ed w1 ⟨rfl, hb1⟩
          have HB11 := Lib.hid (HB1.out.below hb1 (by omega))
          have HB21 := Lib.hid (HB2.out.below hb1 hs0)
          have HBW1 := Lib.hid (HBW.out.trans (hb1.mono HBW.out.size))
          have q0 : w1.cell? ⟨w.heap.size, 0, none⟩ = some (.int .i64 e) := HB11.out.cell 0
          have f0 : w1.frozen? ⟨w.heap.size, 0, none⟩ = false := HB11.out.frozen 0
          have q7 : w1.cell? ⟨w.heap.size, 7, none⟩ = some (.int .i64 c7) := HB11.out.cell 7
          have f7 : w1.frozen? ⟨w.heap.size, 7, none⟩ = false := HB11.out.frozen 7
          have HB12 : Hid (Blk ((w1.setCell ⟨w.heap.size, 0, none⟩ (.int .i64 (e + 1))).setCell ⟨w.heap.size, 7, none⟩ (.int .i64 2)) w.heap.size 25 (bkv ⟨e + 1, ⟨c1, c2, c3, c4, c5, c6, 2⟩⟩)) := (HB11.out.set_ 0 (.int .i64 (e + 1))).set_ 7 (.int .i64 2)
          have HB22 : Hid (Blk ((w1.setCell ⟨w.heap.size, 0, none⟩ (.int .i64 (e + 1))).setCell ⟨w.heap.size, 7, none⟩ (.int .i64 2)) (w.heap.size + 1) 25 (bkv bk0)) := (HB21.out.far (p := ⟨w.heap.size, 0, none⟩) (by simp) (.int .i64 (e + 1))).far (p := ⟨w.heap.size, 7, none⟩) (by simp) (.int .i64 2)
          have HBW2 := Lib.hid ((HBW1.out.setCell (p := ⟨w.heap.size, 0, none⟩) (Nat.le_refl _) (.int .i64 (e + 1))).setCell (p := ⟨w.heap.size, 7, none⟩) (Nat.le_refl _) (.int .i64 2))
          clear hb1
          go_wp2_with (first
            | (refine wpList_load_row rfl 25 _ rfl w.heap.size rfl 25 (bkv ⟨e + 1, ⟨c1, c2, c3, c4, c5, c6, 2⟩⟩) (0, 0) _ HB12.out Try.underlying25 rfl bk_size ?_)
            | (refine wpList_store_row rfl 25 _ _ rfl (w.heap.size + 1) (bkv ⟨e + 1, ⟨c1, c2, c3, c4, c5, c6, 2⟩⟩) rfl rfl 25 (bkv bk0) HB22.out bk_size rfl (bkv_one _) ?_))
          exact bodyPost_ret (results_blk_tmp rfl _ _ (w.heap.size + 1) 25 (bkv ⟨e + 1, ⟨c1, c2, c3, c4, c5, c6, 2⟩⟩) _ rfl (setRow_heap _ _ _ _ _ _ HB22.out) Try.underlying25 rfl bk_size) rfl ⟨by rw [HD.out]; rfl, below_setRow HBW2.out (by omega) _⟩
    · have HD := Lib.hid (nextOf_bad (b := ⟨e, ⟨c1, c2, c3, c4, c5, c6, c7⟩⟩) (p := p) (fun h => hp h.2))
      have hp1 : (p != 1) = true := by simp; omega
      have hp2 : (p != 2) = true := by simp; omega
      clear hok hp
      go_enter Try.func20, Try.ntmps20
      go_wp2_with fail
      rw [← HW0.out]
      refine (HC.out _).mono ?_
      rintro ed w1 ⟨rfl, hb1⟩
      have HB21 := Lib.hid (HB2.out.below hb1 hs0)
      have HBW1 := Lib.hid (HBW.out.trans (hb1.mono HBW.out.size))
      clear hb1
      go_wp2_with (refine wpList_store_row rfl 25 _ _ rfl (w.heap.size + 1) (bkv bk0) rfl rfl 25 (bkv bk0) HB21.out bk_size rfl (bkv_one _) ?_)
      exact bodyPost_ret (results_blk_tmp rfl _ _ (w.heap.size + 1) 25 (bkv bk0) _ rfl (setRow_heap _ _ _ _ _ _ HB21.out) Try.underlying25 rfl bk_size) rfl ⟨by rw [HD.out]; rfl, below_setRow HBW1.out (by omega) _⟩
  · have HD := Lib.hid (nextOf_bad (p := p) (fun h => hok h.1))
    rw [okN_no hok] at HC
    clear hok
    go_enter Try.func20, Try.ntmps20
    go_wp2_with fail
    rw [← HW0.out]
    refine (HC.out _).mono ?_
    rintro ed w1 ⟨rfl, hb1⟩
    have HB21 := Lib.hid (HB2.out.below hb1 hs0)
    have HBW1 := Lib.hid (HBW.out.trans (hb1.mono HBW.out.size))
    clear hb1
    go_wp2_with (refine wpList_store_row rfl 25 _ _ rfl (w.heap.size + 1) (bkv bk0) rfl rfl 25 (bkv bk0) HB21.out bk_size rfl (bkv_one _) ?_)
    exact bodyPost_ret (results_blk_tmp rfl _ _ (w.heap.size + 1) 25 (bkv bk0) _ rfl (setRow_heap _ _ _ _ _ _ HB21.out) Try.underlying25 rfl bk_size) rfl ⟨by rw [HD.out]; rfl, below_setRow HBW1.out (by omega) _⟩
theorem next_any (b : Bk) (hw : b.wf) (p : Int) (w : World) :
    Calls Try.prog 20 #[.agg (bkv b), .int .i64 p] w fun e w' => e = .returned (.tuple #[.agg (bkv (nextOf b p).2), .int .i64 (nextOf b p).1]) ∧ Below w.heap.size w w' :=
  next_lit b.epoch b.conf.slots b.conf.size b.conf.reserve b.conf.work b.conf.key b.conf.value b.conf.policy p hw w
set_option maxHeartbeats 4000000 in
theorem refNext_lit (e c1 c2 c3 c4 c5 c6 c7 : Int) (p : Int) (hw : Bk.wf ⟨e, ⟨c1, c2, c3, c4, c5, c6, c7⟩⟩) (w : World) :
    Calls Try.prog 21 #[.agg #[.int .i64 e, .int .i64 c1, .int .i64 c2, .int .i64 c3, .int .i64 c4, .int .i64 c5, .int .i64 c6, .int .i64 c7], .int .i64 p] w fun ed w' => ed = .returned (.tuple #[.agg (bkv (nextOf ⟨e, ⟨c1, c2, c3, c4, c5, c6, c7⟩⟩ p).2), .int .i64 (nextOf ⟨e, ⟨c1, c2, c3, c4, c5, c6, c7⟩⟩ p).1]) ∧ Below w.heap.size w w' := by
  have HC : Hid (∀ W, Calls Try.prog 15 #[.agg #[.int .i64 e, .int .i64 c1, .int .i64 c2, .int .i64 c3, .int .i64 c4, .int .i64 c5, .int .i64 c6, .int .i64 c7]] W fun ed w' => ed = .returned (.int .i64 (okN (Bk.ok ⟨e, ⟨c1, c2, c3, c4, c5, c6, c7⟩⟩))) ∧ Below W.heap.size W w') := fun W => refCheck_any _ hw W
  have hwe : -9223372036854775808 ≤ e ∧ e ≤ 9223372036854775807 := hw.1
  obtain ⟨W0, hW0⟩ : ∃ W0 : World, W0 = (w.alloc (.cells #[.int .i64 e, .int .i64 c1, .int .i64 c2, .int .i64 c3, .int .i64 c4, .int .i64 c5, .int .i64 c6, .int .i64 c7] 31)).alloc (.cells #[.int .i64 0, .int .i64 0, .int .i64 0, .int .i64 0, .int .i64 0, .int .i64 0, .int .i64 0, .int .i64 0] 31) := ⟨_, rfl⟩
  have HB1 : Hid (Blk W0 w.heap.size 31 #[.int .i64 e, .int .i64 c1, .int .i64 c2, .int .i64 c3, .int .i64 c4, .int .i64 c5, .int .i64 c6, .int .i64 c7]) := by rw [hW0]; exact (Blk.new w _ _).alloc _
  have HB2 : Hid (Blk W0 (w.heap.size + 1) 31 (bkv bk0)) := by rw [hW0]; exact blk2 w _ _ _ _
  have HBW : Hid (Below w.heap.size w W0) := by rw [hW0]; exact ((Below.refl w.heap.size w).alloc (Nat.le_refl _) _).alloc (by simp) _
  have hs0 : w.heap.size + 1 < W0.heap.size := HB2.out.lt
  have HW0 := Lib.hid hW0
  clear hW0 hw
  by_cases hok : Bk.ok ⟨e, ⟨c1, c2, c3, c4, c5, c6, c7⟩⟩
  · rw [okN_yes hok] at HC
    by_cases hp : p = 1 ∨ p = 2
    · by_cases he : e = 1099511627776
      · have HD := Lib.hid (nextOf_last hok hp he)
        have hbe : (e == 1099511627776) = true := by simp [he]
        clear hok he
        rcases hp with rfl | rfl
        all_goals
          go_enter Try.func21, Try.ntmps21
          go_wp2_with fail
          rw [← HW0.out]
          refine (HC.out _).mono ?_
          rintro ed w1 ⟨rfl, hb1⟩
          have HB11 := Lib.hid (HB1.out.below hb1 (by omega))
          have HB21 := Lib.hid (HB2.out.below hb1 hs0)
          have HBW1 := Lib.hid (HBW.out.trans (hb1.mono HBW.out.size))
          have q0 : w1.cell? ⟨w.heap.size, 0, none⟩ = some (.int .i64 e) := HB11.out.cell 0
          clear hb1
          go_wp2_with (refine wpList_store_row rfl 31 _ _ rfl (w.heap.size + 1) (bkv bk0) rfl rfl 31 (bkv bk0) HB21.out rbk_size rfl (bkv_one _) ?_)
          exact bodyPost_ret (results_blk_tmp rfl _ _ (w.heap.size + 1) 31 (bkv bk0) _ rfl (setRow_heap _ _ _ _ _ _ HB21.out) Try.underlying31 rfl rbk_size) rfl ⟨by rw [HD.out]; rfl, below_setRow HBW1.out (by omega) _⟩
      · have HD := Lib.hid (nextOf_ok hok hp he)
        have hbe : (e == 1099511627776) = false := by simp [he]
        have he2 : e ≤ 1099511627776 := hok.1.2
        clear hok he
        rcases hp with rfl | rfl
        · go_enter Try.func21, Try.ntmps21
          go_wp2_with fail
          rw [← HW0.out]
          refine (HC.out _).mono ?_
          rintro ed w1 ⟨rfl, hb1⟩
          have HB11 := Lib.hid (HB1.out.below hb1 (by omega))
          have HB21 := Lib.hid (HB2.out.below hb1 hs0)
          have HBW1 := Lib.hid (HBW.out.trans (hb1.mono HBW.out.size))
          have q0 : w1.cell? ⟨w.heap.size, 0, none⟩ = some (.int .i64 e) := HB11.out.cell 0
          have f0 : w1.frozen? ⟨w.heap.size, 0, none⟩ = false := HB11.out.frozen 0
          have q7 : w1.cell? ⟨w.heap.size, 7, none⟩ = some (.int .i64 c7) := HB11.out.cell 7
          have f7 : w1.frozen? ⟨w.heap.size, 7, none⟩ = false := HB11.out.frozen 7
          have HB12 : Hid (Blk ((w1.setCell ⟨w.heap.size, 0, none⟩ (.int .i64 (e + 1))).setCell ⟨w.heap.size, 7, none⟩ (.int .i64 1)) w.heap.size 31 (bkv ⟨e + 1, ⟨c1, c2, c3, c4, c5, c6, 1⟩⟩)) := (HB11.out.set_ 0 (.int .i64 (e + 1))).set_ 7 (.int .i64 1)
          have HB22 : Hid (Blk ((w1.setCell ⟨w.heap.size, 0, none⟩ (.int .i64 (e + 1))).setCell ⟨w.heap.size, 7, none⟩ (.int .i64 1)) (w.heap.size + 1) 31 (bkv bk0)) := (HB21.out.far (p := ⟨w.heap.size, 0, none⟩) (by simp) (.int .i64 (e + 1))).far (p := ⟨w.heap.size, 7, none⟩) (by simp) (.int .i64 1)
          have HBW2 := Lib.hid ((HBW1.out.setCell (p := ⟨w.heap.size, 0, none⟩) (Nat.le_refl _) (.int .i64 (e + 1))).setCell (p := ⟨w.heap.size, 7, none⟩) (Nat.le_refl _) (.int .i64 1))
          clear hb1
          go_wp2_with (first
            | (refine wpList_load_row rfl 31 _ rfl w.heap.size rfl 31 (bkv ⟨e + 1, ⟨c1, c2, c3, c4, c5, c6, 1⟩⟩) (0, 0) _ HB12.out Try.underlying31 rfl rbk_size ?_)
            | (refine wpList_store_row rfl 31 _ _ rfl (w.heap.size + 1) (bkv ⟨e + 1, ⟨c1, c2, c3, c4, c5, c6, 1⟩⟩) rfl rfl 31 (bkv bk0) HB22.out rbk_size rfl (bkv_one _) ?_))
          exact bodyPost_ret (results_blk_tmp rfl _ _ (w.heap.size + 1) 31 (bkv ⟨e + 1, ⟨c1, c2, c3, c4, c5, c6, 1⟩⟩) _ rfl (setRow_heap _ _ _ _ _ _ HB22.out) Try.underlying31 rfl rbk_size) rfl ⟨by rw [HD.out]; rfl, below_setRow HBW2.out (by omega) _⟩
        · go_enter Try.func21, Try.ntmps21
          go_wp2_with fail
          rw [← HW0.out]
          refine (HC.out _).mono ?_
          rintro ed w1 ⟨rfl, hb1⟩
          have HB11 := Lib.hid (HB1.out.below hb1 (by omega))
          have HB21 := Lib.hid (HB2.out.below hb1 hs0)
          have HBW1 := Lib.hid (HBW.out.trans (hb1.mono HBW.out.size))
          have q0 : w1.cell? ⟨w.heap.size, 0, none⟩ = some (.int .i64 e) := HB11.out.cell 0
          have f0 : w1.frozen? ⟨w.heap.size, 0, none⟩ = false := HB11.out.frozen 0
          have q7 : w1.cell? ⟨w.heap.size, 7, none⟩ = some (.int .i64 c7) := HB11.out.cell 7
          have f7 : w1.frozen? ⟨w.heap.size, 7, none⟩ = false := HB11.out.frozen 7
          have HB12 : Hid (Blk ((w1.setCell ⟨w.heap.size, 0, none⟩ (.int .i64 (e + 1))).setCell ⟨w.heap.size, 7, none⟩ (.int .i64 2)) w.heap.size 31 (bkv ⟨e + 1, ⟨c1, c2, c3, c4, c5, c6, 2⟩⟩)) := (HB11.out.set_ 0 (.int .i64 (e + 1))).set_ 7 (.int .i64 2)
          have HB22 : Hid (Blk ((w1.setCell ⟨w.heap.size, 0, none⟩ (.int .i64 (e + 1))).setCell ⟨w.heap.size, 7, none⟩ (.int .i64 2)) (w.heap.size + 1) 31 (bkv bk0)) := (HB21.out.far (p := ⟨w.heap.size, 0, none⟩) (by simp) (.int .i64 (e + 1))).far (p := ⟨w.heap.size, 7, none⟩) (by simp) (.int .i64 2)
          have HBW2 := Lib.hid ((HBW1.out.setCell (p := ⟨w.heap.size, 0, none⟩) (Nat.le_refl _) (.int .i64 (e + 1))).setCell (p := ⟨w.heap.size, 7, none⟩) (Nat.le_refl _) (.int .i64 2))
          clear hb1
          go_wp2_with (first
            | (refine wpList_load_row rfl 31 _ rfl w.heap.size rfl 31 (bkv ⟨e + 1, ⟨c1, c2, c3, c4, c5, c6, 2⟩⟩) (0, 0) _ HB12.out Try.underlying31 rfl rbk_size ?_)
            | (refine wpList_store_row rfl 31 _ _ rfl (w.heap.size + 1) (bkv ⟨e + 1, ⟨c1, c2, c3, c4, c5, c6, 2⟩⟩) rfl rfl 31 (bkv bk0) HB22.out rbk_size rfl (bkv_one _) ?_))
          exact bodyPost_ret (results_blk_tmp rfl _ _ (w.heap.size + 1) 31 (bkv ⟨e + 1, ⟨c1, c2, c3, c4, c5, c6, 2⟩⟩) _ rfl (setRow_heap _ _ _ _ _ _ HB22.out) Try.underlying31 rfl rbk_size) rfl ⟨by rw [HD.out]; rfl, below_setRow HBW2.out (by omega) _⟩
    · have HD := Lib.hid (nextOf_bad (b := ⟨e, ⟨c1, c2, c3, c4, c5, c6, c7⟩⟩) (p := p) (fun h => hp h.2))
      have hp1 : (p != 1) = true := by simp; omega
      have hp2 : (p != 2) = true := by simp; omega
      clear hok hp
      go_enter Try.func21, Try.ntmps21
      go_wp2_with fail
      rw [← HW0.out]
      refine (HC.out _).mono ?_
      rintro ed w1 ⟨rfl, hb1⟩
      have HB21 := Lib.hid (HB2.out.below hb1 hs0)
      have HBW1 := Lib.hid (HBW.out.trans (hb1.mono HBW.out.size))
      clear hb1
      go_wp2_with (refine wpList_store_row rfl 31 _ _ rfl (w.heap.size + 1) (bkv bk0) rfl rfl 31 (bkv bk0) HB21.out rbk_size rfl (bkv_one _) ?_)
      exact bodyPost_ret (results_blk_tmp rfl _ _ (w.heap.size + 1) 31 (bkv bk0) _ rfl (setRow_heap _ _ _ _ _ _ HB21.out) Try.underlying31 rfl rbk_size) rfl ⟨by rw [HD.out]; rfl, below_setRow HBW1.out (by omega) _⟩
  · have HD := Lib.hid (nextOf_bad (p := p) (fun h => hok h.1))
    rw [okN_no hok] at HC
    clear hok
    go_enter Try.func21, Try.ntmps21
    go_wp2_with fail
    rw [← HW0.out]
    refine (HC.out _).mono ?_
    rintro ed w1 ⟨rfl, hb1⟩
    have HB21 := Lib.hid (HB2.out.below hb1 hs0)
    have HBW1 := Lib.hid (HBW.out.trans (hb1.mono HBW.out.size))
    clear hb1
    go_wp2_with (refine wpList_store_row rfl 31 _ _ rfl (w.heap.size + 1) (bkv bk0) rfl rfl 31 (bkv bk0) HB21.out rbk_size rfl (bkv_one _) ?_)
    exact bodyPost_ret (results_blk_tmp rfl _ _ (w.heap.size + 1) 31 (bkv bk0) _ rfl (setRow_heap _ _ _ _ _ _ HB21.out) Try.underlying31 rfl rbk_size) rfl ⟨by rw [HD.out]; rfl, below_setRow HBW1.out (by omega) _⟩
theorem refNext_any (b : Bk) (hw : b.wf) (p : Int) (w : World) :
    Calls Try.prog 21 #[.agg (bkv b), .int .i64 p] w fun e w' => e = .returned (.tuple #[.agg (bkv (nextOf b p).2), .int .i64 (nextOf b p).1]) ∧ Below w.heap.size w w' :=
  refNext_lit b.epoch b.conf.slots b.conf.size b.conf.reserve b.conf.work b.conf.key b.conf.value b.conf.policy p hw w
end Go.Proofs.Ytbgahbeldnhloaa
