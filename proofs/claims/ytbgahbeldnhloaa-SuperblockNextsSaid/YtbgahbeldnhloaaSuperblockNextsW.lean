/-
  The walk of the law SuperblockNexts: it returns true and writes nothing that was there. No condition.
-/
import Derived.Test.YtbgahbeldnhloaaSupLaw
import Derived.Deep.RegionHeld3
namespace Go.Proofs.Ytbgahbeldnhloaa
open Go.RowKit Drum
set_option linter.unusedVariables false
theorem next_ex (b : Bk) (p : Int) : ∃ (E : Int) (y0 y1 y2 y3 y4 y5 y6 y7 : Int), nextOf b p = (E, ⟨y0, ⟨y1, y2, y3, y4, y5, y6, y7⟩⟩) := ⟨_, _, _, _, _, _, _, _, _, rfl⟩
theorem next_y {b : Bk} {p E y0 y1 y2 y3 y4 y5 y6 y7 : Int} (h : nextOf b p = (E, ⟨y0, ⟨y1, y2, y3, y4, y5, y6, y7⟩⟩)) (hw : b.wf) (w : World) :
    Calls Try.prog 20 #[.agg (bkv b), .int .i64 p] w fun e w' => e = .returned (.tuple #[.agg #[.int .i64 y0, .int .i64 y1, .int .i64 y2, .int .i64 y3, .int .i64 y4, .int .i64 y5, .int .i64 y6, .int .i64 y7], .int .i64 E]) ∧ Below w.heap.size w w' := by
  have h1 := next_any b hw p w
  rw [h] at h1
  exact h1
theorem refNext_y {b : Bk} {p E y0 y1 y2 y3 y4 y5 y6 y7 : Int} (h : nextOf b p = (E, ⟨y0, ⟨y1, y2, y3, y4, y5, y6, y7⟩⟩)) (hw : b.wf) (w : World) :
    Calls Try.prog 21 #[.agg (bkv b), .int .i64 p] w fun e w' => e = .returned (.tuple #[.agg #[.int .i64 y0, .int .i64 y1, .int .i64 y2, .int .i64 y3, .int .i64 y4, .int .i64 y5, .int .i64 y6, .int .i64 y7], .int .i64 E]) ∧ Below w.heap.size w w' := by
  have h1 := refNext_any b hw p w
  rw [h] at h1
  exact h1
set_option maxHeartbeats 8000000 in
theorem SuperblockNexts_w (c0 c1 c2 c3 c4 c5 c6 c7 p : Int) (hw : Bk.wf ⟨c0, ⟨c1, c2, c3, c4, c5, c6, c7⟩⟩) (w : World) :
    Calls Try.prog 5 #[.agg #[.int .i64 c0, .int .i64 c1, .int .i64 c2, .int .i64 c3, .int .i64 c4, .int .i64 c5, .int .i64 c6, .int .i64 c7], .int .i64 p] w fun ed w' => ed = .returned (.bool true) ∧ Below w.heap.size w w' := by
  have HWF := Lib.hid hw
  clear hw
  obtain ⟨E, y0, y1, y2, y3, y4, y5, y6, y7, hN⟩ := next_ex ⟨c0, ⟨c1, c2, c3, c4, c5, c6, c7⟩⟩ p
  have HN := Lib.hid hN
  clear hN
  have HBX : Hid (Blk (w.alloc (.cells #[.int .i64 c0, .int .i64 c1, .int .i64 c2, .int .i64 c3, .int .i64 c4, .int .i64 c5, .int .i64 c6, .int .i64 c7] 25)) w.heap.size 25 #[.int .i64 c0, .int .i64 c1, .int .i64 c2, .int .i64 c3, .int .i64 c4, .int .i64 c5, .int .i64 c6, .int .i64 c7]) := Blk.new w _ _
  go_enter Try.func5, Try.ntmps5
  go_wp2_with fail
  refine (next_y HN.out HWF.out _).mono ?_
  rintro ed w1 ⟨rfl, hb1⟩
  have HB1 := Lib.hid (ba (bt (ba (Below.refl w.heap.size w) (.cells #[.int .i64 c0, .int .i64 c1, .int .i64 c2, .int .i64 c3, .int .i64 c4, .int .i64 c5, .int .i64 c6, .int .i64 c7] 25)) hb1) (.cells #[.int .i64 y0, .int .i64 y1, .int .i64 y2, .int .i64 y3, .int .i64 y4, .int .i64 y5, .int .i64 y6, .int .i64 y7] 25))
  have HX1 := Lib.hid ((HBX.out.below hb1 HBX.out.lt).alloc (.cells #[.int .i64 y0, .int .i64 y1, .int .i64 y2, .int .i64 y3, .int .i64 y4, .int .i64 y5, .int .i64 y6, .int .i64 y7] 25))
  have HY1 := Lib.hid (Blk.new w1 25 #[.int .i64 y0, .int .i64 y1, .int .i64 y2, .int .i64 y3, .int .i64 y4, .int .i64 y5, .int .i64 y6, .int .i64 y7])
  clear hb1
  have x0 : (w1.alloc (.cells #[.int .i64 y0, .int .i64 y1, .int .i64 y2, .int .i64 y3, .int .i64 y4, .int .i64 y5, .int .i64 y6, .int .i64 y7] 25)).cell? ⟨w.heap.size, 0, none⟩ = some (.int .i64 c0) := HX1.out.cell 0
  have x1 : (w1.alloc (.cells #[.int .i64 y0, .int .i64 y1, .int .i64 y2, .int .i64 y3, .int .i64 y4, .int .i64 y5, .int .i64 y6, .int .i64 y7] 25)).cell? ⟨w.heap.size, 1, none⟩ = some (.int .i64 c1) := HX1.out.cell 1
  have x2 : (w1.alloc (.cells #[.int .i64 y0, .int .i64 y1, .int .i64 y2, .int .i64 y3, .int .i64 y4, .int .i64 y5, .int .i64 y6, .int .i64 y7] 25)).cell? ⟨w.heap.size, 2, none⟩ = some (.int .i64 c2) := HX1.out.cell 2
  have x3 : (w1.alloc (.cells #[.int .i64 y0, .int .i64 y1, .int .i64 y2, .int .i64 y3, .int .i64 y4, .int .i64 y5, .int .i64 y6, .int .i64 y7] 25)).cell? ⟨w.heap.size, 3, none⟩ = some (.int .i64 c3) := HX1.out.cell 3
  have x4 : (w1.alloc (.cells #[.int .i64 y0, .int .i64 y1, .int .i64 y2, .int .i64 y3, .int .i64 y4, .int .i64 y5, .int .i64 y6, .int .i64 y7] 25)).cell? ⟨w.heap.size, 4, none⟩ = some (.int .i64 c4) := HX1.out.cell 4
  have x5 : (w1.alloc (.cells #[.int .i64 y0, .int .i64 y1, .int .i64 y2, .int .i64 y3, .int .i64 y4, .int .i64 y5, .int .i64 y6, .int .i64 y7] 25)).cell? ⟨w.heap.size, 5, none⟩ = some (.int .i64 c5) := HX1.out.cell 5
  have x6 : (w1.alloc (.cells #[.int .i64 y0, .int .i64 y1, .int .i64 y2, .int .i64 y3, .int .i64 y4, .int .i64 y5, .int .i64 y6, .int .i64 y7] 25)).cell? ⟨w.heap.size, 6, none⟩ = some (.int .i64 c6) := HX1.out.cell 6
  have x7 : (w1.alloc (.cells #[.int .i64 y0, .int .i64 y1, .int .i64 y2, .int .i64 y3, .int .i64 y4, .int .i64 y5, .int .i64 y6, .int .i64 y7] 25)).cell? ⟨w.heap.size, 7, none⟩ = some (.int .i64 c7) := HX1.out.cell 7
  go_wp2_with fail
  refine (ref_lit c0 c1 c2 c3 c4 c5 c6 c7 _).mono ?_
  rintro ed w2 ⟨rfl, hb2⟩
  have HB2 := Lib.hid (bt HB1.out hb2)
  have HY2 := Lib.hid (HY1.out.below hb2 HY1.out.lt)
  clear hb2 x0 x1 x2 x3 x4 x5 x6 x7
  go_wp2_with fail
  refine (refNext_y HN.out HWF.out w2).mono ?_
  rintro ed w3 ⟨rfl, hb3⟩
  have HB3 := Lib.hid (ba (bt HB2.out hb3) (.cells #[.int .i64 y0, .int .i64 y1, .int .i64 y2, .int .i64 y3, .int .i64 y4, .int .i64 y5, .int .i64 y6, .int .i64 y7] 31))
  have HY3 := Lib.hid ((HY2.out.below hb3 HY2.out.lt).alloc (.cells #[.int .i64 y0, .int .i64 y1, .int .i64 y2, .int .i64 y3, .int .i64 y4, .int .i64 y5, .int .i64 y6, .int .i64 y7] 31))
  have HZ3 := Lib.hid (Blk.new w3 31 #[.int .i64 y0, .int .i64 y1, .int .i64 y2, .int .i64 y3, .int .i64 y4, .int .i64 y5, .int .i64 y6, .int .i64 y7])
  clear hb3
  go_wp2_with fail
  obtain ⟨wf, hwf⟩ : ∃ wf : World, wf = w3.alloc (.cells #[.int .i64 y0, .int .i64 y1, .int .i64 y2, .int .i64 y3, .int .i64 y4, .int .i64 y5, .int .i64 y6, .int .i64 y7] 31) := ⟨_, rfl⟩
  rw [← hwf] at HB3 HY3 HZ3 ⊢
  clear hwf
  have hq : (wf.cell? ⟨w1.heap.size, 0, none⟩ = some (.int .i64 y0) ∧ wf.cell? ⟨w1.heap.size, 1, none⟩ = some (.int .i64 y1) ∧ wf.cell? ⟨w1.heap.size, 2, none⟩ = some (.int .i64 y2) ∧ wf.cell? ⟨w1.heap.size, 3, none⟩ = some (.int .i64 y3) ∧ wf.cell? ⟨w1.heap.size, 4, none⟩ = some (.int .i64 y4) ∧ wf.cell? ⟨w1.heap.size, 5, none⟩ = some (.int .i64 y5) ∧ wf.cell? ⟨w1.heap.size, 6, none⟩ = some (.int .i64 y6) ∧ wf.cell? ⟨w1.heap.size, 7, none⟩ = some (.int .i64 y7) ∧ wf.cell? ⟨w3.heap.size, 0, none⟩ = some (.int .i64 y0) ∧ wf.cell? ⟨w3.heap.size, 1, none⟩ = some (.int .i64 y1) ∧ wf.cell? ⟨w3.heap.size, 2, none⟩ = some (.int .i64 y2) ∧ wf.cell? ⟨w3.heap.size, 3, none⟩ = some (.int .i64 y3) ∧ wf.cell? ⟨w3.heap.size, 4, none⟩ = some (.int .i64 y4) ∧ wf.cell? ⟨w3.heap.size, 5, none⟩ = some (.int .i64 y5) ∧ wf.cell? ⟨w3.heap.size, 6, none⟩ = some (.int .i64 y6) ∧ wf.cell? ⟨w3.heap.size, 7, none⟩ = some (.int .i64 y7)) := ⟨HY3.out.cell 0, HY3.out.cell 1, HY3.out.cell 2, HY3.out.cell 3, HY3.out.cell 4, HY3.out.cell 5, HY3.out.cell 6, HY3.out.cell 7, HZ3.out.cell 0, HZ3.out.cell 1, HZ3.out.cell 2, HZ3.out.cell 3, HZ3.out.cell 4, HZ3.out.cell 5, HZ3.out.cell 6, HZ3.out.cell 7⟩
  have KR : Hid (∀ W, Below wf.heap.size wf W → Calls Try.prog 13 #[.agg #[.int .i64 y0, .int .i64 y1, .int .i64 y2, .int .i64 y3, .int .i64 y4, .int .i64 y5, .int .i64 y6, .int .i64 y7]] W fun e W' => e = .returned (.agg #[.int .i64 y0, .int .i64 y1, .int .i64 y2, .int .i64 y3, .int .i64 y4, .int .i64 y5, .int .i64 y6, .int .i64 y7]) ∧ (W'.cell? ⟨w1.heap.size, 0, none⟩ = some (.int .i64 y0) ∧ W'.cell? ⟨w1.heap.size, 1, none⟩ = some (.int .i64 y1) ∧ W'.cell? ⟨w1.heap.size, 2, none⟩ = some (.int .i64 y2) ∧ W'.cell? ⟨w1.heap.size, 3, none⟩ = some (.int .i64 y3) ∧ W'.cell? ⟨w1.heap.size, 4, none⟩ = some (.int .i64 y4) ∧ W'.cell? ⟨w1.heap.size, 5, none⟩ = some (.int .i64 y5) ∧ W'.cell? ⟨w1.heap.size, 6, none⟩ = some (.int .i64 y6) ∧ W'.cell? ⟨w1.heap.size, 7, none⟩ = some (.int .i64 y7) ∧ W'.cell? ⟨w3.heap.size, 0, none⟩ = some (.int .i64 y0) ∧ W'.cell? ⟨w3.heap.size, 1, none⟩ = some (.int .i64 y1) ∧ W'.cell? ⟨w3.heap.size, 2, none⟩ = some (.int .i64 y2) ∧ W'.cell? ⟨w3.heap.size, 3, none⟩ = some (.int .i64 y3) ∧ W'.cell? ⟨w3.heap.size, 4, none⟩ = some (.int .i64 y4) ∧ W'.cell? ⟨w3.heap.size, 5, none⟩ = some (.int .i64 y5) ∧ W'.cell? ⟨w3.heap.size, 6, none⟩ = some (.int .i64 y6) ∧ W'.cell? ⟨w3.heap.size, 7, none⟩ = some (.int .i64 y7)) ∧ Below wf.heap.size wf W') := by
    intro W hW
    have hh := ref_lit y0 y1 y2 y3 y4 y5 y6 y7 W
    skip
    refine hh.mono ?_
    rintro e W' ⟨rfl, hb⟩
    have hb' := hW.trans (hb.mono hW.size)
    obtain ⟨h0, h1, h2, h3, h4, h5, h6, h7, h8, h9, h10, h11, h12, h13, h14, h15⟩ := hq
    exact ⟨rfl, ⟨keep_cell h0 hb', keep_cell h1 hb', keep_cell h2 hb', keep_cell h3 hb', keep_cell h4 hb', keep_cell h5 hb', keep_cell h6 hb', keep_cell h7 hb', keep_cell h8 hb', keep_cell h9 hb', keep_cell h10 hb', keep_cell h11 hb', keep_cell h12 hb', keep_cell h13 hb', keep_cell h14 hb', keep_cell h15 hb'⟩, hb'⟩
  have KW : Hid (∀ W, Below wf.heap.size wf W → Calls Try.prog 17 #[] W fun e W' => e = .returned (.bool true) ∧ (W'.cell? ⟨w1.heap.size, 0, none⟩ = some (.int .i64 y0) ∧ W'.cell? ⟨w1.heap.size, 1, none⟩ = some (.int .i64 y1) ∧ W'.cell? ⟨w1.heap.size, 2, none⟩ = some (.int .i64 y2) ∧ W'.cell? ⟨w1.heap.size, 3, none⟩ = some (.int .i64 y3) ∧ W'.cell? ⟨w1.heap.size, 4, none⟩ = some (.int .i64 y4) ∧ W'.cell? ⟨w1.heap.size, 5, none⟩ = some (.int .i64 y5) ∧ W'.cell? ⟨w1.heap.size, 6, none⟩ = some (.int .i64 y6) ∧ W'.cell? ⟨w1.heap.size, 7, none⟩ = some (.int .i64 y7) ∧ W'.cell? ⟨w3.heap.size, 0, none⟩ = some (.int .i64 y0) ∧ W'.cell? ⟨w3.heap.size, 1, none⟩ = some (.int .i64 y1) ∧ W'.cell? ⟨w3.heap.size, 2, none⟩ = some (.int .i64 y2) ∧ W'.cell? ⟨w3.heap.size, 3, none⟩ = some (.int .i64 y3) ∧ W'.cell? ⟨w3.heap.size, 4, none⟩ = some (.int .i64 y4) ∧ W'.cell? ⟨w3.heap.size, 5, none⟩ = some (.int .i64 y5) ∧ W'.cell? ⟨w3.heap.size, 6, none⟩ = some (.int .i64 y6) ∧ W'.cell? ⟨w3.heap.size, 7, none⟩ = some (.int .i64 y7)) ∧ Below wf.heap.size wf W') := by
    intro W hW
    have hh := works_any W
    skip
    refine hh.mono ?_
    rintro e W' ⟨rfl, hb⟩
    have hb' := hW.trans (hb.mono hW.size)
    obtain ⟨h0, h1, h2, h3, h4, h5, h6, h7, h8, h9, h10, h11, h12, h13, h14, h15⟩ := hq
    exact ⟨rfl, ⟨keep_cell h0 hb', keep_cell h1 hb', keep_cell h2 hb', keep_cell h3 hb', keep_cell h4 hb', keep_cell h5 hb', keep_cell h6 hb', keep_cell h7 hb', keep_cell h8 hb', keep_cell h9 hb', keep_cell h10 hb', keep_cell h11 hb', keep_cell h12 hb', keep_cell h13 hb', keep_cell h14 hb', keep_cell h15 hb'⟩, hb'⟩
  go_region_held3 (fun W' => (W'.cell? ⟨w1.heap.size, 0, none⟩ = some (.int .i64 y0) ∧ W'.cell? ⟨w1.heap.size, 1, none⟩ = some (.int .i64 y1) ∧ W'.cell? ⟨w1.heap.size, 2, none⟩ = some (.int .i64 y2) ∧ W'.cell? ⟨w1.heap.size, 3, none⟩ = some (.int .i64 y3) ∧ W'.cell? ⟨w1.heap.size, 4, none⟩ = some (.int .i64 y4) ∧ W'.cell? ⟨w1.heap.size, 5, none⟩ = some (.int .i64 y5) ∧ W'.cell? ⟨w1.heap.size, 6, none⟩ = some (.int .i64 y6) ∧ W'.cell? ⟨w1.heap.size, 7, none⟩ = some (.int .i64 y7) ∧ W'.cell? ⟨w3.heap.size, 0, none⟩ = some (.int .i64 y0) ∧ W'.cell? ⟨w3.heap.size, 1, none⟩ = some (.int .i64 y1) ∧ W'.cell? ⟨w3.heap.size, 2, none⟩ = some (.int .i64 y2) ∧ W'.cell? ⟨w3.heap.size, 3, none⟩ = some (.int .i64 y3) ∧ W'.cell? ⟨w3.heap.size, 4, none⟩ = some (.int .i64 y4) ∧ W'.cell? ⟨w3.heap.size, 5, none⟩ = some (.int .i64 y5) ∧ W'.cell? ⟨w3.heap.size, 6, none⟩ = some (.int .i64 y6) ∧ W'.cell? ⟨w3.heap.size, 7, none⟩ = some (.int .i64 y7))) (first | assumption | go_keep) (first | (go_at_call 13; refine (KR.out _ (by first | assumption | exact Below.refl _ _ | exact (Below.refl _ _).drew)).mono ?_; rintro e wz2 ⟨rfl, hz2, hy2⟩) | (go_at_call 17; refine (KW.out _ (by first | assumption | exact Below.refl _ _ | exact (Below.refl _ _).drew)).mono ?_; rintro e wz5 ⟨rfl, hz5, hy5⟩))
  all_goals go_wp2_with fail
  all_goals go_ret
  all_goals exact ⟨rfl, HB3.out.trans ((by assumption : Below wf.heap.size wf _).mono HB3.out.size)⟩
theorem SuperblockNexts_walk (v0 v1 : Value) (w : World) (h0 : ArgIn Try.prog w 25 v0) (h1 : ArgIn Try.prog w 3 v1) :
    Calls Try.prog 5 #[v0, v1] w fun e w' => e = .returned (.bool true) ∧ Below w.heap.size w w' := by
  obtain ⟨b, rfl, hb⟩ := blk_arg h0
  obtain ⟨p, rfl, hp⟩ := h1.int Try.underlying3
  exact SuperblockNexts_w b.epoch b.conf.slots b.conf.size b.conf.reserve b.conf.work b.conf.key b.conf.value b.conf.policy p hb w
end Go.Proofs.Ytbgahbeldnhloaa
