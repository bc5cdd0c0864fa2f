/-
  The walks of dualcopy's functions on a device that is nil, or was not made by New.
-/
import Derived.Test.YtnopljanpjmbgaaMP
import Derived.Test.YtnopljanpjmbgaaMI
namespace Go.Proofs.Ytnopljanpjmbgaa
open Go.RowKit Go.Shelf Drum
set_option linter.unusedVariables false
section
variable {w w' : World} {p : Option Addr}
theorem check_no (h : NoDev w p) (al : Bool) :
    Calls Try.prog 24 #[.pointer p, .bool al] w fun e w' => e = .returned (.int .i64 1) ∧ Below w.heap.size w w' := by
  have HS := Lib.hid (slots_nodev h)
  clear h
  go_enter Try.func24, Try.ntmps24
  go_wp2_with fail
  refine HS.out.mono ?_
  rintro e w1 ⟨rfl, hb⟩
  have HB := Lib.hid hb
  clear hb
  go_wp2_with fail
  go_ret
  exact ⟨rfl, HB.out⟩
set_option maxHeartbeats 4000000 in
theorem read_no (h : NoDev w p) :
    Calls Try.prog 14 #[.pointer p] w fun e w' => e = .returned (.tuple #[.agg #[.int .i64 0, .int .i64 0, .int .i64 0, .int .i64 0, .int .i64 0, .int .i64 0, .int .i64 0, .int .i64 0], .int .i64 0, .int .i64 1]) ∧ Below w.heap.size w w' := by
  obtain ⟨W0, hW0⟩ : ∃ W0 : World, W0 = w.alloc (.cells #[.int .i64 0, .int .i64 0, .int .i64 0, .int .i64 0, .int .i64 0, .int .i64 0, .int .i64 0, .int .i64 0] 30) := ⟨_, rfl⟩
  have hb0 : Below w.heap.size w W0 := by rw [hW0]; exact (Below.refl _ _).alloc (Nat.le_refl _) _
  have hbw : Below w.heap.size w W0 := hb0
  have hk0 : Blk W0 w.heap.size 30 (bkv bk0) := by rw [hW0]; exact Blk.new w _ _
  have HB0 := Lib.hid hb0
  have HK0 := Lib.hid hk0
  have HCK := Lib.hid (check_no (h.below hbw) true)
  clear h hb0 hk0 hbw
  go_enter Try.func14, Try.ntmps14
  go_wp2_with fail
  rw [← hW0]
  clear hW0
  refine HCK.out.mono ?_
  rintro e w1 ⟨rfl, hb⟩
  have HK1 := Lib.hid (HK0.out.below hb HK0.out.lt)
  have HB1 := Lib.hid (HB0.out.trans (hb.mono HB0.out.size))
  clear hb
  go_wp2_with (refine wpList_store_row rfl 30 _ _ rfl w.heap.size (bkv bk0) rfl rfl 30 (bkv bk0) HK1.out bk_size rfl (bkv_one _) ?_)
  exact bodyPost_ret (results_blk_tmp2 rfl _ _ w.heap.size 30 (bkv bk0) _ rfl (setRow_heap _ _ _ _ _ _ HK1.out) Try.underlying30 rfl bk_size) rfl ⟨rfl, below_setRow HB1.out (Nat.le_refl _) _⟩
set_option maxHeartbeats 4000000 in
theorem adv_no (h : NoDev w p) (q : Int) :
    Calls Try.prog 9 #[.pointer p, .int .i64 q] w fun e w' => e = .returned (.tuple #[.agg #[.int .i64 0, .int .i64 0, .int .i64 0, .int .i64 0, .int .i64 0, .int .i64 0, .int .i64 0, .int .i64 0], .int .i64 1]) ∧ Below w.heap.size w w' := by
  obtain ⟨W0, hW0⟩ : ∃ W0 : World, W0 = w.alloc (.cells #[.int .i64 0, .int .i64 0, .int .i64 0, .int .i64 0, .int .i64 0, .int .i64 0, .int .i64 0, .int .i64 0] 30) := ⟨_, rfl⟩
  have hb0 : Below w.heap.size w W0 := by rw [hW0]; exact (Below.refl _ _).alloc (Nat.le_refl _) _
  have hk0 : Blk W0 w.heap.size 30 (bkv bk0) := by rw [hW0]; exact Blk.new w _ _
  have HB0 := Lib.hid hb0
  have HK0 := Lib.hid hk0
  have HCT := Lib.hid (check_no (h.below hb0) true)
  have HCF := Lib.hid (check_no (h.below hb0) false)
  clear h hb0 hk0
  have hq : q = 1 ∨ q = 2 ∨ (¬ q = 1 ∧ ¬ q = 2) := by omega
  rcases hq with rfl | rfl | ⟨h1, h2⟩
  · go_enter Try.func9, Try.ntmps9
    go_wp2_with fail
    rw [← hW0]
    clear hW0
    refine HCT.out.mono ?_
    rintro e w1 ⟨rfl, hb⟩
    have HK1 := Lib.hid (HK0.out.below hb HK0.out.lt)
    have HB1 := Lib.hid (HB0.out.trans (hb.mono HB0.out.size))
    clear hb
    go_wp2_with (refine wpList_store_row rfl 30 _ _ rfl w.heap.size (bkv bk0) rfl rfl 30 (bkv bk0) HK1.out bk_size rfl (bkv_one _) ?_)
    exact bodyPost_ret (results_blk_tmp rfl _ _ w.heap.size 30 (bkv bk0) _ rfl (setRow_heap _ _ _ _ _ _ HK1.out) Try.underlying30 rfl bk_size) rfl ⟨rfl, below_setRow HB1.out (Nat.le_refl _) _⟩
  · go_enter Try.func9, Try.ntmps9
    go_wp2_with fail
    rw [← hW0]
    clear hW0
    refine HCT.out.mono ?_
    rintro e w1 ⟨rfl, hb⟩
    have HK1 := Lib.hid (HK0.out.below hb HK0.out.lt)
    have HB1 := Lib.hid (HB0.out.trans (hb.mono HB0.out.size))
    clear hb
    go_wp2_with (refine wpList_store_row rfl 30 _ _ rfl w.heap.size (bkv bk0) rfl rfl 30 (bkv bk0) HK1.out bk_size rfl (bkv_one _) ?_)
    exact bodyPost_ret (results_blk_tmp rfl _ _ w.heap.size 30 (bkv bk0) _ rfl (setRow_heap _ _ _ _ _ _ HK1.out) Try.underlying30 rfl bk_size) rfl ⟨rfl, below_setRow HB1.out (Nat.le_refl _) _⟩
  · have b1 : (q == 1) = false := by simpa using h1
    have b2 : (q == 2) = false := by simpa using h2
    clear h1 h2
    go_enter Try.func9, Try.ntmps9
    go_wp2_with fail
    rw [← hW0]
    clear hW0
    refine HCF.out.mono ?_
    rintro e w1 ⟨rfl, hb⟩
    have HK1 := Lib.hid (HK0.out.below hb HK0.out.lt)
    have HB1 := Lib.hid (HB0.out.trans (hb.mono HB0.out.size))
    clear hb
    go_wp2_with (refine wpList_store_row rfl 30 _ _ rfl w.heap.size (bkv bk0) rfl rfl 30 (bkv bk0) HK1.out bk_size rfl (bkv_one _) ?_)
    exact bodyPost_ret (results_blk_tmp rfl _ _ w.heap.size 30 (bkv bk0) _ rfl (setRow_heap _ _ _ _ _ _ HK1.out) Try.underlying30 rfl bk_size) rfl ⟨rfl, below_setRow HB1.out (Nat.le_refl _) _⟩
set_option maxHeartbeats 8000000 in
theorem write_no (h : NoDev w p) (b : Bk) (hb : b.wf) :
    Calls Try.prog 11 #[.pointer p, .agg #[.int .i64 b.epoch, .int .i64 b.conf.slots, .int .i64 b.conf.size, .int .i64 b.conf.reserve, .int .i64 b.conf.work, .int .i64 b.conf.key, .int .i64 b.conf.value, .int .i64 b.conf.policy]] w fun e w' => e = .returned (.int .i64 1) ∧ Below w.heap.size w w' := by
  obtain ⟨b2, hb2⟩ : ∃ b2, b2 = w.heap.size := ⟨_, rfl⟩
  obtain ⟨b3, hb3⟩ : ∃ b3, b3 = w.heap.size + 1 := ⟨_, rfl⟩
  obtain ⟨W1, hW1⟩ : ∃ W1 : World, W1 = (w.alloc (.cells #[.pointer p] 24)).alloc (.cells #[.int .i64 b.epoch, .int .i64 b.conf.slots, .int .i64 b.conf.size, .int .i64 b.conf.reserve, .int .i64 b.conf.work, .int .i64 b.conf.key, .int .i64 b.conf.value, .int .i64 b.conf.policy] 30) := ⟨_, rfl⟩
  have H1 : Hid (Sep w.heap.size w W1 [blkOb b3 30 #[.int .i64 b.epoch, .int .i64 b.conf.slots, .int .i64 b.conf.size, .int .i64 b.conf.reserve, .int .i64 b.conf.work, .int .i64 b.conf.key, .int .i64 b.conf.value, .int .i64 b.conf.policy], blkOb b2 24 #[.pointer p]]) := by
    show Sep _ _ _ _
    rw [hW1]
    exact ((Sep.start w).newBlk b2 _ _ hb2).newBlk b3 _ _ (by rw [World.size_alloc]; exact hb3)
  have HNO : Hid (∀ W, Sep w.heap.size w W [blkOb b3 30 #[.int .i64 b.epoch, .int .i64 b.conf.slots, .int .i64 b.conf.size, .int .i64 b.conf.reserve, .int .i64 b.conf.work, .int .i64 b.conf.key, .int .i64 b.conf.value, .int .i64 b.conf.policy], blkOb b2 24 #[.pointer p]] → NoDev W p) := fun W hW => by
    rcases h with h | ⟨g, h1, h2⟩
    · exact .inl h
    · exact .inr ⟨g, h1, (hW.bel.cell (p := ⟨g, 2, none⟩) (block_lt_of_cell h2)).trans h2⟩
  obtain ⟨STA, hSTA⟩ : ∃ STA : World → Prop, STA = fun W => Sep w.heap.size w W [blkOb b3 30 #[.int .i64 b.epoch, .int .i64 b.conf.slots, .int .i64 b.conf.size, .int .i64 b.conf.reserve, .int .i64 b.conf.work, .int .i64 b.conf.key, .int .i64 b.conf.value, .int .i64 b.conf.policy], blkOb b2 24 #[.pointer p]] := ⟨_, rfl⟩
  have HST := Lib.hid hSTA
  have HCE : Hid (∀ X', STA X' → X'.cell? ⟨b2, 0, none⟩ = some (.pointer p) ∧ X'.cell? ⟨b3, 0, none⟩ = some (.int .i64 b.epoch) ∧ X'.cell? ⟨b3, 1, none⟩ = some (.int .i64 b.conf.slots) ∧ X'.cell? ⟨b3, 2, none⟩ = some (.int .i64 b.conf.size) ∧ X'.cell? ⟨b3, 3, none⟩ = some (.int .i64 b.conf.reserve) ∧ X'.cell? ⟨b3, 4, none⟩ = some (.int .i64 b.conf.work) ∧ X'.cell? ⟨b3, 5, none⟩ = some (.int .i64 b.conf.key) ∧ X'.cell? ⟨b3, 6, none⟩ = some (.int .i64 b.conf.value) ∧ X'.cell? ⟨b3, 7, none⟩ = some (.int .i64 b.conf.policy)) := fun W hW => by
    rw [hSTA] at hW
    have k3 : Blk W b3 30 #[.int .i64 b.epoch, .int .i64 b.conf.slots, .int .i64 b.conf.size, .int .i64 b.conf.reserve, .int .i64 b.conf.work, .int .i64 b.conf.key, .int .i64 b.conf.value, .int .i64 b.conf.policy] := Sep.get hW (.head _)
    have k2 : Blk W b2 24 #[.pointer p] := Sep.get hW (.tail _ (.head _))
    exact ⟨k2.cell 0, k3.cell 0, k3.cell 1, k3.cell 2, k3.cell 3, k3.cell 4, k3.cell 5, k3.cell 6, k3.cell 7⟩
  have sta1 : STA W1.drew := by rw [hSTA]; exact H1.out.drew
  have HCH : Hid (∀ W, STA W → Calls Try.prog 29 #[.agg #[.int .i64 b.epoch, .int .i64 b.conf.slots, .int .i64 b.conf.size, .int .i64 b.conf.reserve, .int .i64 b.conf.work, .int .i64 b.conf.key, .int .i64 b.conf.value, .int .i64 b.conf.policy]] W fun e w' => e = .returned (.int .i64 (okN b.ok)) ∧ STA w') := fun W hW => by
    refine (check_any b hb W).mono ?_
    rintro e w' ⟨h1, h2⟩
    rw [hSTA] at hW ⊢
    exact ⟨h1, Sep.below hW h2⟩
  have HDC : Hid (∀ W al, STA W → Calls Try.prog 24 #[.pointer p, .bool al] W fun e w' => e = .returned (.int .i64 1) ∧ STA w') := fun W al hW => by
    rw [hSTA] at hW ⊢
    exact (check_no (HNO.out W hW) al).mono fun e w' ⟨h1, h2⟩ => ⟨h1, Sep.below hW h2⟩
  obtain ⟨q2, q30, q31, q32, q33, q34, q35, q36, q37⟩ := HCE.out W1 (by rw [hSTA]; exact H1.out)
  clear h hSTA
  by_cases hok : b.ok
  · have HOK := Lib.hid (okN_yes hok)
    rw [HOK.out] at HCH
    have HD2 : Hid (∀ W, STA W → Calls Try.prog 24 #[.pointer p, .bool true] W fun e w' => e = .returned (.int .i64 1) ∧ STA w') := fun W hW => HDC.out W true hW
    clear hok HOK HDC
    go_enter Try.func11, Try.ntmps11
    go_wp2_with fail
    rw [← hb3, ← hb2, ← hW1]
    clear hW1 hb2 hb3
    go_region_held3 (fun X' => X'.cell? ⟨b2, 0, none⟩ = some (.pointer p) ∧ X'.cell? ⟨b3, 0, none⟩ = some (.int .i64 b.epoch) ∧ X'.cell? ⟨b3, 1, none⟩ = some (.int .i64 b.conf.slots) ∧ X'.cell? ⟨b3, 2, none⟩ = some (.int .i64 b.conf.size) ∧ X'.cell? ⟨b3, 3, none⟩ = some (.int .i64 b.conf.reserve) ∧ X'.cell? ⟨b3, 4, none⟩ = some (.int .i64 b.conf.work) ∧ X'.cell? ⟨b3, 5, none⟩ = some (.int .i64 b.conf.key) ∧ X'.cell? ⟨b3, 6, none⟩ = some (.int .i64 b.conf.value) ∧ X'.cell? ⟨b3, 7, none⟩ = some (.int .i64 b.conf.policy)) ((repeat' apply And.intro) <;> first | assumption | go_keep)
      (first
        | (go_at_call 29; refine (HCH.out _ (by assumption)).mono ?_; rintro e x4 ⟨rfl, hs4⟩; obtain ⟨e2, e30, e31, e32, e33, e34, e35, e36, e37⟩ := HCE.out _ hs4)
        | (go_at_call 24; refine (HD2.out _ (by assumption)).mono ?_; rintro e x5 ⟨rfl, hs5⟩; obtain ⟨f2, f30, f31, f32, f33, f34, f35, f36, f37⟩ := HCE.out _ hs5))
    all_goals
      rw [HST.out] at hs5
      have HS5 : Hid (Sep w.heap.size w x5 [blkOb b3 30 #[.int .i64 b.epoch, .int .i64 b.conf.slots, .int .i64 b.conf.size, .int .i64 b.conf.reserve, .int .i64 b.conf.work, .int .i64 b.conf.key, .int .i64 b.conf.value, .int .i64 b.conf.policy], blkOb b2 24 #[.pointer p]]) := hs5
      clear hs5
      go_wp2_with fail
      go_ret
      exact ⟨rfl, HS5.out.bel⟩
  · have HOK := Lib.hid (okN_no hok)
    rw [HOK.out] at HCH
    have HD2 : Hid (∀ W, STA W → Calls Try.prog 24 #[.pointer p, .bool false] W fun e w' => e = .returned (.int .i64 1) ∧ STA w') := fun W hW => HDC.out W false hW
    clear hok HOK HDC
    go_enter Try.func11, Try.ntmps11
    go_wp2_with fail
    rw [← hb3, ← hb2, ← hW1]
    clear hW1 hb2 hb3
    go_region_held3 (fun X' => X'.cell? ⟨b2, 0, none⟩ = some (.pointer p) ∧ X'.cell? ⟨b3, 0, none⟩ = some (.int .i64 b.epoch) ∧ X'.cell? ⟨b3, 1, none⟩ = some (.int .i64 b.conf.slots) ∧ X'.cell? ⟨b3, 2, none⟩ = some (.int .i64 b.conf.size) ∧ X'.cell? ⟨b3, 3, none⟩ = some (.int .i64 b.conf.reserve) ∧ X'.cell? ⟨b3, 4, none⟩ = some (.int .i64 b.conf.work) ∧ X'.cell? ⟨b3, 5, none⟩ = some (.int .i64 b.conf.key) ∧ X'.cell? ⟨b3, 6, none⟩ = some (.int .i64 b.conf.value) ∧ X'.cell? ⟨b3, 7, none⟩ = some (.int .i64 b.conf.policy)) ((repeat' apply And.intro) <;> first | assumption | go_keep)
      (first
        | (go_at_call 29; refine (HCH.out _ (by assumption)).mono ?_; rintro e x4 ⟨rfl, hs4⟩; obtain ⟨e2, e30, e31, e32, e33, e34, e35, e36, e37⟩ := HCE.out _ hs4)
        | (go_at_call 24; refine (HD2.out _ (by assumption)).mono ?_; rintro e x5 ⟨rfl, hs5⟩; obtain ⟨f2, f30, f31, f32, f33, f34, f35, f36, f37⟩ := HCE.out _ hs5))
    all_goals
      rw [HST.out] at hs5
      have HS5 : Hid (Sep w.heap.size w x5 [blkOb b3 30 #[.int .i64 b.epoch, .int .i64 b.conf.slots, .int .i64 b.conf.size, .int .i64 b.conf.reserve, .int .i64 b.conf.work, .int .i64 b.conf.key, .int .i64 b.conf.value, .int .i64 b.conf.policy], blkOb b2 24 #[.pointer p]]) := hs5
      clear hs5
      go_wp2_with fail
      go_ret
      exact ⟨rfl, HS5.out.bel⟩
set_option maxHeartbeats 8000000 in
theorem begin_no (h : NoDev w p) (c : Cf) (hc : c.wf) :
    Calls Try.prog 10 #[.pointer p, .agg #[.int .i64 c.slots, .int .i64 c.size, .int .i64 c.reserve, .int .i64 c.work, .int .i64 c.key, .int .i64 c.value, .int .i64 c.policy]] w fun e w' => e = .returned (.int .i64 1) ∧ Below w.heap.size w w' := by
  obtain ⟨b3, hb3⟩ : ∃ b3, b3 = w.heap.size := ⟨_, rfl⟩
  obtain ⟨W1, hW1⟩ : ∃ W1 : World, W1 = w.alloc (.cells #[.int .i64 c.slots, .int .i64 c.size, .int .i64 c.reserve, .int .i64 c.work, .int .i64 c.key, .int .i64 c.value, .int .i64 c.policy] 26) := ⟨_, rfl⟩
  have H1 : Hid (Sep w.heap.size w W1 [blkOb b3 26 #[.int .i64 c.slots, .int .i64 c.size, .int .i64 c.reserve, .int .i64 c.work, .int .i64 c.key, .int .i64 c.value, .int .i64 c.policy]]) := by
    show Sep _ _ _ _
    rw [hW1]
    exact (Sep.start w).newBlk b3 _ _ hb3
  have HNO : Hid (∀ W, Sep w.heap.size w W [blkOb b3 26 #[.int .i64 c.slots, .int .i64 c.size, .int .i64 c.reserve, .int .i64 c.work, .int .i64 c.key, .int .i64 c.value, .int .i64 c.policy]] → NoDev W p) := fun W hW => by
    rcases h with h | ⟨g, h1, h2⟩
    · exact .inl h
    · exact .inr ⟨g, h1, (hW.bel.cell (p := ⟨g, 2, none⟩) (block_lt_of_cell h2)).trans h2⟩
  obtain ⟨STA, hSTA⟩ : ∃ STA : World → Prop, STA = fun W => Sep w.heap.size w W [blkOb b3 26 #[.int .i64 c.slots, .int .i64 c.size, .int .i64 c.reserve, .int .i64 c.work, .int .i64 c.key, .int .i64 c.value, .int .i64 c.policy]] := ⟨_, rfl⟩
  have HST := Lib.hid hSTA
  have HCE : Hid (∀ X', STA X' → X'.cell? ⟨b3, 0, none⟩ = some (.int .i64 c.slots) ∧ X'.cell? ⟨b3, 1, none⟩ = some (.int .i64 c.size) ∧ X'.cell? ⟨b3, 2, none⟩ = some (.int .i64 c.reserve) ∧ X'.cell? ⟨b3, 3, none⟩ = some (.int .i64 c.work) ∧ X'.cell? ⟨b3, 4, none⟩ = some (.int .i64 c.key) ∧ X'.cell? ⟨b3, 5, none⟩ = some (.int .i64 c.value) ∧ X'.cell? ⟨b3, 6, none⟩ = some (.int .i64 c.policy)) := fun W hW => by
    rw [hSTA] at hW
    have k3 : Blk W b3 26 #[.int .i64 c.slots, .int .i64 c.size, .int .i64 c.reserve, .int .i64 c.work, .int .i64 c.key, .int .i64 c.value, .int .i64 c.policy] := Sep.get hW (.head _)
    exact ⟨k3.cell 0, k3.cell 1, k3.cell 2, k3.cell 3, k3.cell 4, k3.cell 5, k3.cell 6⟩
  have sta1 : STA W1.drew := by rw [hSTA]; exact H1.out.drew
  have HCH : Hid (∀ W, STA W → Calls Try.prog 26 #[.agg #[.int .i64 c.slots, .int .i64 c.size, .int .i64 c.reserve, .int .i64 c.work, .int .i64 c.key, .int .i64 c.value, .int .i64 c.policy]] W fun e w' => e = .returned (.int .i64 (okN c.ok)) ∧ STA w') := fun W hW => by
    refine (cfCheck_ok c hc W).mono ?_
    rintro e w' ⟨h1, h2⟩
    rw [hSTA] at hW ⊢
    exact ⟨h1, Sep.below hW h2⟩
  have HSL : Hid (∀ W, STA W → Calls Try.prog 27 #[.pointer p] W fun e w' => e = .returned (.int .i64 0) ∧ STA w') := fun W hW => by
    rw [hSTA] at hW ⊢
    exact (slots_nodev (HNO.out W hW)).mono fun e w' ⟨h1, h2⟩ => ⟨h1, Sep.below hW h2⟩
  have HDC : Hid (∀ W al, STA W → Calls Try.prog 24 #[.pointer p, .bool al] W fun e w' => e = .returned (.int .i64 1) ∧ STA w') := fun W al hW => by
    rw [hSTA] at hW ⊢
    exact (check_no (HNO.out W hW) al).mono fun e w' ⟨h1, h2⟩ => ⟨h1, Sep.below hW h2⟩
  obtain ⟨q30, q31, q32, q33, q34, q35, q36⟩ := HCE.out W1 (by rw [hSTA]; exact H1.out)
  clear h hSTA
  by_cases hok : c.ok
  · have HOK := Lib.hid (okN_yes hok)
    rw [HOK.out] at HCH
    clear hok HOK
    go_enter Try.func10, Try.ntmps10
    go_wp2_with fail
    rw [← hb3, ← hW1]
    clear hW1 hb3
    go_region_held3 (fun X' => X'.cell? ⟨b3, 0, none⟩ = some (.int .i64 c.slots) ∧ X'.cell? ⟨b3, 1, none⟩ = some (.int .i64 c.size) ∧ X'.cell? ⟨b3, 2, none⟩ = some (.int .i64 c.reserve) ∧ X'.cell? ⟨b3, 3, none⟩ = some (.int .i64 c.work) ∧ X'.cell? ⟨b3, 4, none⟩ = some (.int .i64 c.key) ∧ X'.cell? ⟨b3, 5, none⟩ = some (.int .i64 c.value) ∧ X'.cell? ⟨b3, 6, none⟩ = some (.int .i64 c.policy)) ((repeat' apply And.intro) <;> first | assumption | go_keep)
      (first
        | (go_at_call 26; refine (HCH.out _ (by assumption)).mono ?_; rintro e x4 ⟨rfl, hs4⟩; obtain ⟨e30, e31, e32, e33, e34, e35, e36⟩ := HCE.out _ hs4)
        | (go_at_call 27; refine (HSL.out _ (by assumption)).mono ?_; rintro e x6 ⟨rfl, hs6⟩; obtain ⟨g30, g31, g32, g33, g34, g35, g36⟩ := HCE.out _ hs6)
        | (go_at_call 24; refine (HDC.out _ _ (by assumption)).mono ?_; rintro e x5 ⟨rfl, hs5⟩; obtain ⟨f30, f31, f32, f33, f34, f35, f36⟩ := HCE.out _ hs5))
    all_goals
      rw [HST.out] at hs5
      have HS5 := Lib.hid (Sep.bel hs5)
      clear hs5
      go_wp2_with fail
      go_ret
      exact ⟨rfl, HS5.out⟩
  · have HOK := Lib.hid (okN_no hok)
    rw [HOK.out] at HCH
    clear hok HOK
    go_enter Try.func10, Try.ntmps10
    go_wp2_with fail
    rw [← hb3, ← hW1]
    clear hW1 hb3
    first
      | (go_region_with (first
          | (go_at_call 26; refine (HCH.out _ (by assumption)).mono ?_; rintro e x4 ⟨rfl, hs4⟩; obtain ⟨e30, e31, e32, e33, e34, e35, e36⟩ := HCE.out _ hs4)
          | (go_at_call 24; refine (HDC.out _ _ (by assumption)).mono ?_; rintro e x5 ⟨rfl, hs5⟩; obtain ⟨f30, f31, f32, f33, f34, f35, f36⟩ := HCE.out _ hs5)))
      | fail
    all_goals
      rw [HST.out] at hs5
      have HS5 := Lib.hid (Sep.bel hs5)
      clear hs5
      go_wp2_with fail
      go_ret
      exact ⟨rfl, HS5.out⟩
end
end Go.Proofs.Ytnopljanpjmbgaa
