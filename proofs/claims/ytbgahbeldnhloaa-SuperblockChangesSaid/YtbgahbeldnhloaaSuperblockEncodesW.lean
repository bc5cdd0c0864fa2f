/-
  The walk of the law SuperblockEncodes: it returns true and writes nothing that was there. No condition.
-/
import Derived.Test.YtbgahbeldnhloaaSupLaw
import Derived.Deep.RegionHeld3
namespace Go.Proofs.Ytbgahbeldnhloaa
open Go.RowKit Drum
set_option linter.unusedVariables false
theorem same_below {A A' : Option Addr} {n c n' c' B B' : Nat} {l m : List (BitVec 8)} {w : World} (hl : n = l.length) (hm : n' = m.length) (hn : n ≤ maxLen) (hn' : n' ≤ maxLen) (hr : Reads w B 1 A n (u8s l)) (hr' : Reads w B' 1 A' n' (u8s m)) :
    Calls Try.prog 16 #[.slice A n c, .slice A' n' c'] w fun e w' => e = .returned (.bool (decide (l = m))) ∧ Below w.heap.size w w' :=
  (same_any A A' n c n' c' B B' l m w hl hm hn hn' hr hr').mono fun e w' ⟨h1, q, h2⟩ => ⟨h1, by rw [h2]; exact ⟨rfl, rfl, rfl, Nat.le_refl _, fun _ _ => rfl⟩⟩
set_option maxHeartbeats 8000000 in
theorem SuperblockEncodes_w (c0 c1 c2 c3 c4 c5 c6 c7 : Int) (hw : Bk.wf ⟨c0, ⟨c1, c2, c3, c4, c5, c6, c7⟩⟩) (w : World) :
    Calls Try.prog 3 #[.agg #[.int .i64 c0, .int .i64 c1, .int .i64 c2, .int .i64 c3, .int .i64 c4, .int .i64 c5, .int .i64 c6, .int .i64 c7]] w fun ed w' => ed = .returned (.bool true) ∧ Below w.heap.size w w' := by
  have HWF := Lib.hid hw
  clear hw
  have HBX : Hid (Blk (w.alloc (.cells #[.int .i64 c0, .int .i64 c1, .int .i64 c2, .int .i64 c3, .int .i64 c4, .int .i64 c5, .int .i64 c6, .int .i64 c7] 25)) w.heap.size 25 #[.int .i64 c0, .int .i64 c1, .int .i64 c2, .int .i64 c3, .int .i64 c4, .int .i64 c5, .int .i64 c6, .int .i64 c7]) := Blk.new w _ _
  by_cases hok : Bk.ok ⟨c0, ⟨c1, c2, c3, c4, c5, c6, c7⟩⟩
  · go_enter Try.func3, Try.ntmps3
    go_wp2_with fail
    refine (encode_any ⟨c0, ⟨c1, c2, c3, c4, c5, c6, c7⟩⟩ HWF.out hok _).mono ?_
    rintro ed w1 ⟨g, cs, rfl, hg, hbk, htk, hb1⟩
    have HB1 := Lib.hid (bt (ba (Below.refl w.heap.size w) (.cells #[.int .i64 c0, .int .i64 c1, .int .i64 c2, .int .i64 c3, .int .i64 c4, .int .i64 c5, .int .i64 c6, .int .i64 c7] 25)) hb1)
    have HX1 := Lib.hid (HBX.out.below hb1 HBX.out.lt)
    have HR1 := Lib.hid (reads_blk hbk 0 64 _ (encOf_length _) htk)
    have HOK := Lib.hid hok
    have x0 : w1.cell? ⟨w.heap.size, 0, none⟩ = some (.int .i64 c0) := HX1.out.cell 0
    have x1 : w1.cell? ⟨w.heap.size, 1, none⟩ = some (.int .i64 c1) := HX1.out.cell 1
    have x2 : w1.cell? ⟨w.heap.size, 2, none⟩ = some (.int .i64 c2) := HX1.out.cell 2
    have x3 : w1.cell? ⟨w.heap.size, 3, none⟩ = some (.int .i64 c3) := HX1.out.cell 3
    have x4 : w1.cell? ⟨w.heap.size, 4, none⟩ = some (.int .i64 c4) := HX1.out.cell 4
    have x5 : w1.cell? ⟨w.heap.size, 5, none⟩ = some (.int .i64 c5) := HX1.out.cell 5
    have x6 : w1.cell? ⟨w.heap.size, 6, none⟩ = some (.int .i64 c6) := HX1.out.cell 6
    have x7 : w1.cell? ⟨w.heap.size, 7, none⟩ = some (.int .i64 c7) := HX1.out.cell 7
    clear hb1 hbk htk hok hg
    go_wp2_with fail
    refine (ref_lit c0 c1 c2 c3 c4 c5 c6 c7 w1).mono ?_
    rintro ed w2 ⟨rfl, hb2⟩
    have HB2 := Lib.hid (bt HB1.out hb2)
    have HX2 := Lib.hid (HX1.out.below hb2 HX1.out.lt)
    have HR2 := Lib.hid (HR1.out.below hb2)
    have hs2 : w1.heap.size ≤ w2.heap.size := hb2.size
    clear hb2
    go_wp2_with fail
    refine (refEncode_any ⟨c0, ⟨c1, c2, c3, c4, c5, c6, c7⟩⟩ HWF.out HOK.out w2).mono ?_
    rintro ed w3 ⟨v3, rfl, hown3, hb3⟩
    have HB3 := Lib.hid (bt HB2.out hb3)
    have HX3 := Lib.hid (HX2.out.below hb3 HX2.out.lt)
    have HR3 := Lib.hid (HR2.out.below (hb3.mono hs2))
    obtain ⟨A3, c3', rfl, hA3, hc3, hr3⟩ := own_slice hown3
    have HS3 := Lib.hid hr3
    have hs3 : w2.heap.size ≤ w3.heap.size := hb3.size
    clear hb3 hown3 hr3 x0 x1 x2 x3 x4 x5 x6 x7
    go_wp2_with fail
    have hq : (w3.cell? ⟨w.heap.size, 0, none⟩ = some (.int .i64 c0) ∧ w3.cell? ⟨w.heap.size, 1, none⟩ = some (.int .i64 c1) ∧ w3.cell? ⟨w.heap.size, 2, none⟩ = some (.int .i64 c2) ∧ w3.cell? ⟨w.heap.size, 3, none⟩ = some (.int .i64 c3) ∧ w3.cell? ⟨w.heap.size, 4, none⟩ = some (.int .i64 c4) ∧ w3.cell? ⟨w.heap.size, 5, none⟩ = some (.int .i64 c5) ∧ w3.cell? ⟨w.heap.size, 6, none⟩ = some (.int .i64 c6) ∧ w3.cell? ⟨w.heap.size, 7, none⟩ = some (.int .i64 c7)) := ⟨HX3.out.cell 0, HX3.out.cell 1, HX3.out.cell 2, HX3.out.cell 3, HX3.out.cell 4, HX3.out.cell 5, HX3.out.cell 6, HX3.out.cell 7⟩
    have HOKN : Hid (okN (Bk.ok ⟨c0, ⟨c1, c2, c3, c4, c5, c6, c7⟩⟩) = 0) := okN_yes HOK.out
    have KC : Hid (∀ W, Below w3.heap.size w3 W → Calls Try.prog 14 #[.agg #[.int .i64 c0, .int .i64 c1, .int .i64 c2, .int .i64 c3, .int .i64 c4, .int .i64 c5, .int .i64 c6, .int .i64 c7]] W fun e W' => e = .returned (.int .i64 0) ∧ (W'.cell? ⟨w.heap.size, 0, none⟩ = some (.int .i64 c0) ∧ W'.cell? ⟨w.heap.size, 1, none⟩ = some (.int .i64 c1) ∧ W'.cell? ⟨w.heap.size, 2, none⟩ = some (.int .i64 c2) ∧ W'.cell? ⟨w.heap.size, 3, none⟩ = some (.int .i64 c3) ∧ W'.cell? ⟨w.heap.size, 4, none⟩ = some (.int .i64 c4) ∧ W'.cell? ⟨w.heap.size, 5, none⟩ = some (.int .i64 c5) ∧ W'.cell? ⟨w.heap.size, 6, none⟩ = some (.int .i64 c6) ∧ W'.cell? ⟨w.heap.size, 7, none⟩ = some (.int .i64 c7)) ∧ Below w3.heap.size w3 W') := by
      intro W hW
      have hh := check_any ⟨c0, ⟨c1, c2, c3, c4, c5, c6, c7⟩⟩ HWF.out W
      rw [HOKN.out] at hh
      refine hh.mono ?_
      rintro e W' ⟨rfl, hb⟩
      have hb' := hW.trans (hb.mono hW.size)
      obtain ⟨h0, h1, h2, h3, h4, h5, h6, h7⟩ := hq
      exact ⟨rfl, ⟨keep_cell h0 hb', keep_cell h1 hb', keep_cell h2 hb', keep_cell h3 hb', keep_cell h4 hb', keep_cell h5 hb', keep_cell h6 hb', keep_cell h7 hb'⟩, hb'⟩
    have KR : Hid (∀ W, Below w3.heap.size w3 W → Calls Try.prog 13 #[.agg #[.int .i64 c0, .int .i64 c1, .int .i64 c2, .int .i64 c3, .int .i64 c4, .int .i64 c5, .int .i64 c6, .int .i64 c7]] W fun e W' => e = .returned (.agg #[.int .i64 c0, .int .i64 c1, .int .i64 c2, .int .i64 c3, .int .i64 c4, .int .i64 c5, .int .i64 c6, .int .i64 c7]) ∧ (W'.cell? ⟨w.heap.size, 0, none⟩ = some (.int .i64 c0) ∧ W'.cell? ⟨w.heap.size, 1, none⟩ = some (.int .i64 c1) ∧ W'.cell? ⟨w.heap.size, 2, none⟩ = some (.int .i64 c2) ∧ W'.cell? ⟨w.heap.size, 3, none⟩ = some (.int .i64 c3) ∧ W'.cell? ⟨w.heap.size, 4, none⟩ = some (.int .i64 c4) ∧ W'.cell? ⟨w.heap.size, 5, none⟩ = some (.int .i64 c5) ∧ W'.cell? ⟨w.heap.size, 6, none⟩ = some (.int .i64 c6) ∧ W'.cell? ⟨w.heap.size, 7, none⟩ = some (.int .i64 c7)) ∧ Below w3.heap.size w3 W') := by
      intro W hW
      have hh := ref_lit c0 c1 c2 c3 c4 c5 c6 c7 W
      skip
      refine hh.mono ?_
      rintro e W' ⟨rfl, hb⟩
      have hb' := hW.trans (hb.mono hW.size)
      obtain ⟨h0, h1, h2, h3, h4, h5, h6, h7⟩ := hq
      exact ⟨rfl, ⟨keep_cell h0 hb', keep_cell h1 hb', keep_cell h2 hb', keep_cell h3 hb', keep_cell h4 hb', keep_cell h5 hb', keep_cell h6 hb', keep_cell h7 hb'⟩, hb'⟩
    have KD : Hid (∀ W, Below w3.heap.size w3 W → Calls Try.prog 15 #[.agg #[.int .i64 c0, .int .i64 c1, .int .i64 c2, .int .i64 c3, .int .i64 c4, .int .i64 c5, .int .i64 c6, .int .i64 c7]] W fun e W' => e = .returned (.int .i64 0) ∧ (W'.cell? ⟨w.heap.size, 0, none⟩ = some (.int .i64 c0) ∧ W'.cell? ⟨w.heap.size, 1, none⟩ = some (.int .i64 c1) ∧ W'.cell? ⟨w.heap.size, 2, none⟩ = some (.int .i64 c2) ∧ W'.cell? ⟨w.heap.size, 3, none⟩ = some (.int .i64 c3) ∧ W'.cell? ⟨w.heap.size, 4, none⟩ = some (.int .i64 c4) ∧ W'.cell? ⟨w.heap.size, 5, none⟩ = some (.int .i64 c5) ∧ W'.cell? ⟨w.heap.size, 6, none⟩ = some (.int .i64 c6) ∧ W'.cell? ⟨w.heap.size, 7, none⟩ = some (.int .i64 c7)) ∧ Below w3.heap.size w3 W') := by
      intro W hW
      have hh := refCheck_any ⟨c0, ⟨c1, c2, c3, c4, c5, c6, c7⟩⟩ HWF.out W
      rw [HOKN.out] at hh
      refine hh.mono ?_
      rintro e W' ⟨rfl, hb⟩
      have hb' := hW.trans (hb.mono hW.size)
      obtain ⟨h0, h1, h2, h3, h4, h5, h6, h7⟩ := hq
      exact ⟨rfl, ⟨keep_cell h0 hb', keep_cell h1 hb', keep_cell h2 hb', keep_cell h3 hb', keep_cell h4 hb', keep_cell h5 hb', keep_cell h6 hb', keep_cell h7 hb'⟩, hb'⟩
    have KS : Hid (∀ W, Below w3.heap.size w3 W → Calls Try.prog 16 #[.slice (some ⟨g, 0, none⟩) 64 64, .slice A3 64 c3'] W fun e W' => e = .returned (.bool true) ∧ (W'.cell? ⟨w.heap.size, 0, none⟩ = some (.int .i64 c0) ∧ W'.cell? ⟨w.heap.size, 1, none⟩ = some (.int .i64 c1) ∧ W'.cell? ⟨w.heap.size, 2, none⟩ = some (.int .i64 c2) ∧ W'.cell? ⟨w.heap.size, 3, none⟩ = some (.int .i64 c3) ∧ W'.cell? ⟨w.heap.size, 4, none⟩ = some (.int .i64 c4) ∧ W'.cell? ⟨w.heap.size, 5, none⟩ = some (.int .i64 c5) ∧ W'.cell? ⟨w.heap.size, 6, none⟩ = some (.int .i64 c6) ∧ W'.cell? ⟨w.heap.size, 7, none⟩ = some (.int .i64 c7)) ∧ Below w3.heap.size w3 W') := by
      intro W hW
      have hh := same_below (c := 64) (c' := c3') (encOf_length ⟨c0, ⟨c1, c2, c3, c4, c5, c6, c7⟩⟩).symm (encOf_length ⟨c0, ⟨c1, c2, c3, c4, c5, c6, c7⟩⟩).symm (by simp [maxLen]) (by simp [maxLen]) (HR3.out.below (hW.mono (by omega))) (HS3.out.below hW)
      rw [decide_eq_true rfl] at hh
      refine hh.mono ?_
      rintro e W' ⟨rfl, hb⟩
      have hb' := hW.trans (hb.mono hW.size)
      obtain ⟨h0, h1, h2, h3, h4, h5, h6, h7⟩ := hq
      exact ⟨rfl, ⟨keep_cell h0 hb', keep_cell h1 hb', keep_cell h2 hb', keep_cell h3 hb', keep_cell h4 hb', keep_cell h5 hb', keep_cell h6 hb', keep_cell h7 hb'⟩, hb'⟩
    have KW : Hid (∀ W, Below w3.heap.size w3 W → Calls Try.prog 17 #[] W fun e W' => e = .returned (.bool true) ∧ (W'.cell? ⟨w.heap.size, 0, none⟩ = some (.int .i64 c0) ∧ W'.cell? ⟨w.heap.size, 1, none⟩ = some (.int .i64 c1) ∧ W'.cell? ⟨w.heap.size, 2, none⟩ = some (.int .i64 c2) ∧ W'.cell? ⟨w.heap.size, 3, none⟩ = some (.int .i64 c3) ∧ W'.cell? ⟨w.heap.size, 4, none⟩ = some (.int .i64 c4) ∧ W'.cell? ⟨w.heap.size, 5, none⟩ = some (.int .i64 c5) ∧ W'.cell? ⟨w.heap.size, 6, none⟩ = some (.int .i64 c6) ∧ W'.cell? ⟨w.heap.size, 7, none⟩ = some (.int .i64 c7)) ∧ Below w3.heap.size w3 W') := by
      intro W hW
      have hh := works_any W
      skip
      refine hh.mono ?_
      rintro e W' ⟨rfl, hb⟩
      have hb' := hW.trans (hb.mono hW.size)
      obtain ⟨h0, h1, h2, h3, h4, h5, h6, h7⟩ := hq
      exact ⟨rfl, ⟨keep_cell h0 hb', keep_cell h1 hb', keep_cell h2 hb', keep_cell h3 hb', keep_cell h4 hb', keep_cell h5 hb', keep_cell h6 hb', keep_cell h7 hb'⟩, hb'⟩
    clear HOKN
    go_region_held3 (fun W' => (W'.cell? ⟨w.heap.size, 0, none⟩ = some (.int .i64 c0) ∧ W'.cell? ⟨w.heap.size, 1, none⟩ = some (.int .i64 c1) ∧ W'.cell? ⟨w.heap.size, 2, none⟩ = some (.int .i64 c2) ∧ W'.cell? ⟨w.heap.size, 3, none⟩ = some (.int .i64 c3) ∧ W'.cell? ⟨w.heap.size, 4, none⟩ = some (.int .i64 c4) ∧ W'.cell? ⟨w.heap.size, 5, none⟩ = some (.int .i64 c5) ∧ W'.cell? ⟨w.heap.size, 6, none⟩ = some (.int .i64 c6) ∧ W'.cell? ⟨w.heap.size, 7, none⟩ = some (.int .i64 c7))) (first | assumption | go_keep) (first | (go_at_call 14; refine (KC.out _ (by first | assumption | exact Below.refl _ _ | exact (Below.refl _ _).drew)).mono ?_; rintro e wz1 ⟨rfl, hz1, hy1⟩) | (go_at_call 13; refine (KR.out _ (by first | assumption | exact Below.refl _ _ | exact (Below.refl _ _).drew)).mono ?_; rintro e wz2 ⟨rfl, hz2, hy2⟩) | (go_at_call 15; refine (KD.out _ (by first | assumption | exact Below.refl _ _ | exact (Below.refl _ _).drew)).mono ?_; rintro e wz3 ⟨rfl, hz3, hy3⟩) | (go_at_call 16; refine (KS.out _ (by first | assumption | exact Below.refl _ _ | exact (Below.refl _ _).drew)).mono ?_; rintro e wz4 ⟨rfl, hz4, hy4⟩) | (go_at_call 17; refine (KW.out _ (by first | assumption | exact Below.refl _ _ | exact (Below.refl _ _).drew)).mono ?_; rintro e wz5 ⟨rfl, hz5, hy5⟩))
    all_goals go_wp2_with fail
    all_goals go_ret
    all_goals exact ⟨rfl, HB3.out.trans ((by assumption : Below w3.heap.size w3 _).mono HB3.out.size)⟩
  · go_enter Try.func3, Try.ntmps3
    go_wp2_with fail
    refine (encode_bad ⟨c0, ⟨c1, c2, c3, c4, c5, c6, c7⟩⟩ HWF.out hok _).mono ?_
    rintro ed w1 ⟨rfl, hb1⟩
    have HB1 := Lib.hid (bt (ba (Below.refl w.heap.size w) (.cells #[.int .i64 c0, .int .i64 c1, .int .i64 c2, .int .i64 c3, .int .i64 c4, .int .i64 c5, .int .i64 c6, .int .i64 c7] 25)) hb1)
    have HX1 := Lib.hid (HBX.out.below hb1 HBX.out.lt)
    have HOK := Lib.hid hok
    have x0 : w1.cell? ⟨w.heap.size, 0, none⟩ = some (.int .i64 c0) := HX1.out.cell 0
    have x1 : w1.cell? ⟨w.heap.size, 1, none⟩ = some (.int .i64 c1) := HX1.out.cell 1
    have x2 : w1.cell? ⟨w.heap.size, 2, none⟩ = some (.int .i64 c2) := HX1.out.cell 2
    have x3 : w1.cell? ⟨w.heap.size, 3, none⟩ = some (.int .i64 c3) := HX1.out.cell 3
    have x4 : w1.cell? ⟨w.heap.size, 4, none⟩ = some (.int .i64 c4) := HX1.out.cell 4
    have x5 : w1.cell? ⟨w.heap.size, 5, none⟩ = some (.int .i64 c5) := HX1.out.cell 5
    have x6 : w1.cell? ⟨w.heap.size, 6, none⟩ = some (.int .i64 c6) := HX1.out.cell 6
    have x7 : w1.cell? ⟨w.heap.size, 7, none⟩ = some (.int .i64 c7) := HX1.out.cell 7
    clear hb1 hok
    go_wp2_with fail
    refine (ref_lit c0 c1 c2 c3 c4 c5 c6 c7 w1).mono ?_
    rintro ed w2 ⟨rfl, hb2⟩
    have HB2 := Lib.hid (bt HB1.out hb2)
    have HX2 := Lib.hid (HX1.out.below hb2 HX1.out.lt)
    clear hb2
    go_wp2_with fail
    refine (refEncode_bad ⟨c0, ⟨c1, c2, c3, c4, c5, c6, c7⟩⟩ HWF.out HOK.out w2).mono ?_
    rintro ed w3 ⟨rfl, hb3⟩
    have HB3 := Lib.hid (bt HB2.out hb3)
    have HX3 := Lib.hid (HX2.out.below hb3 HX2.out.lt)
    clear hb3 x0 x1 x2 x3 x4 x5 x6 x7
    go_wp2_with fail
    have hq : (w3.cell? ⟨w.heap.size, 0, none⟩ = some (.int .i64 c0) ∧ w3.cell? ⟨w.heap.size, 1, none⟩ = some (.int .i64 c1) ∧ w3.cell? ⟨w.heap.size, 2, none⟩ = some (.int .i64 c2) ∧ w3.cell? ⟨w.heap.size, 3, none⟩ = some (.int .i64 c3) ∧ w3.cell? ⟨w.heap.size, 4, none⟩ = some (.int .i64 c4) ∧ w3.cell? ⟨w.heap.size, 5, none⟩ = some (.int .i64 c5) ∧ w3.cell? ⟨w.heap.size, 6, none⟩ = some (.int .i64 c6) ∧ w3.cell? ⟨w.heap.size, 7, none⟩ = some (.int .i64 c7)) := ⟨HX3.out.cell 0, HX3.out.cell 1, HX3.out.cell 2, HX3.out.cell 3, HX3.out.cell 4, HX3.out.cell 5, HX3.out.cell 6, HX3.out.cell 7⟩
    have HOKN : Hid (okN (Bk.ok ⟨c0, ⟨c1, c2, c3, c4, c5, c6, c7⟩⟩) = 2) := okN_no HOK.out
    have KC : Hid (∀ W, Below w3.heap.size w3 W → Calls Try.prog 14 #[.agg #[.int .i64 c0, .int .i64 c1, .int .i64 c2, .int .i64 c3, .int .i64 c4, .int .i64 c5, .int .i64 c6, .int .i64 c7]] W fun e W' => e = .returned (.int .i64 2) ∧ (W'.cell? ⟨w.heap.size, 0, none⟩ = some (.int .i64 c0) ∧ W'.cell? ⟨w.heap.size, 1, none⟩ = some (.int .i64 c1) ∧ W'.cell? ⟨w.heap.size, 2, none⟩ = some (.int .i64 c2) ∧ W'.cell? ⟨w.heap.size, 3, none⟩ = some (.int .i64 c3) ∧ W'.cell? ⟨w.heap.size, 4, none⟩ = some (.int .i64 c4) ∧ W'.cell? ⟨w.heap.size, 5, none⟩ = some (.int .i64 c5) ∧ W'.cell? ⟨w.heap.size, 6, none⟩ = some (.int .i64 c6) ∧ W'.cell? ⟨w.heap.size, 7, none⟩ = some (.int .i64 c7)) ∧ Below w3.heap.size w3 W') := by
      intro W hW
      have hh := check_any ⟨c0, ⟨c1, c2, c3, c4, c5, c6, c7⟩⟩ HWF.out W
      rw [HOKN.out] at hh
      refine hh.mono ?_
      rintro e W' ⟨rfl, hb⟩
      have hb' := hW.trans (hb.mono hW.size)
      obtain ⟨h0, h1, h2, h3, h4, h5, h6, h7⟩ := hq
      exact ⟨rfl, ⟨keep_cell h0 hb', keep_cell h1 hb', keep_cell h2 hb', keep_cell h3 hb', keep_cell h4 hb', keep_cell h5 hb', keep_cell h6 hb', keep_cell h7 hb'⟩, hb'⟩
    have KR : Hid (∀ W, Below w3.heap.size w3 W → Calls Try.prog 13 #[.agg #[.int .i64 c0, .int .i64 c1, .int .i64 c2, .int .i64 c3, .int .i64 c4, .int .i64 c5, .int .i64 c6, .int .i64 c7]] W fun e W' => e = .returned (.agg #[.int .i64 c0, .int .i64 c1, .int .i64 c2, .int .i64 c3, .int .i64 c4, .int .i64 c5, .int .i64 c6, .int .i64 c7]) ∧ (W'.cell? ⟨w.heap.size, 0, none⟩ = some (.int .i64 c0) ∧ W'.cell? ⟨w.heap.size, 1, none⟩ = some (.int .i64 c1) ∧ W'.cell? ⟨w.heap.size, 2, none⟩ = some (.int .i64 c2) ∧ W'.cell? ⟨w.heap.size, 3, none⟩ = some (.int .i64 c3) ∧ W'.cell? ⟨w.heap.size, 4, none⟩ = some (.int .i64 c4) ∧ W'.cell? ⟨w.heap.size, 5, none⟩ = some (.int .i64 c5) ∧ W'.cell? ⟨w.heap.size, 6, none⟩ = some (.int .i64 c6) ∧ W'.cell? ⟨w.heap.size, 7, none⟩ = some (.int .i64 c7)) ∧ Below w3.heap.size w3 W') := by
      intro W hW
      have hh := ref_lit c0 c1 c2 c3 c4 c5 c6 c7 W
      skip
      refine hh.mono ?_
      rintro e W' ⟨rfl, hb⟩
      have hb' := hW.trans (hb.mono hW.size)
      obtain ⟨h0, h1, h2, h3, h4, h5, h6, h7⟩ := hq
      exact ⟨rfl, ⟨keep_cell h0 hb', keep_cell h1 hb', keep_cell h2 hb', keep_cell h3 hb', keep_cell h4 hb', keep_cell h5 hb', keep_cell h6 hb', keep_cell h7 hb'⟩, hb'⟩
    have KD : Hid (∀ W, Below w3.heap.size w3 W → Calls Try.prog 15 #[.agg #[.int .i64 c0, .int .i64 c1, .int .i64 c2, .int .i64 c3, .int .i64 c4, .int .i64 c5, .int .i64 c6, .int .i64 c7]] W fun e W' => e = .returned (.int .i64 2) ∧ (W'.cell? ⟨w.heap.size, 0, none⟩ = some (.int .i64 c0) ∧ W'.cell? ⟨w.heap.size, 1, none⟩ = some (.int .i64 c1) ∧ W'.cell? ⟨w.heap.size, 2, none⟩ = some (.int .i64 c2) ∧ W'.cell? ⟨w.heap.size, 3, none⟩ = some (.int .i64 c3) ∧ W'.cell? ⟨w.heap.size, 4, none⟩ = some (.int .i64 c4) ∧ W'.cell? ⟨w.heap.size, 5, none⟩ = some (.int .i64 c5) ∧ W'.cell? ⟨w.heap.size, 6, none⟩ = some (.int .i64 c6) ∧ W'.cell? ⟨w.heap.size, 7, none⟩ = some (.int .i64 c7)) ∧ Below w3.heap.size w3 W') := by
      intro W hW
      have hh := refCheck_any ⟨c0, ⟨c1, c2, c3, c4, c5, c6, c7⟩⟩ HWF.out W
      rw [HOKN.out] at hh
      refine hh.mono ?_
      rintro e W' ⟨rfl, hb⟩
      have hb' := hW.trans (hb.mono hW.size)
      obtain ⟨h0, h1, h2, h3, h4, h5, h6, h7⟩ := hq
      exact ⟨rfl, ⟨keep_cell h0 hb', keep_cell h1 hb', keep_cell h2 hb', keep_cell h3 hb', keep_cell h4 hb', keep_cell h5 hb', keep_cell h6 hb', keep_cell h7 hb'⟩, hb'⟩
    have KS : Hid (∀ W, Below w3.heap.size w3 W → Calls Try.prog 16 #[.slice none 0 0, .slice none 0 0] W fun e W' => e = .returned (.bool true) ∧ (W'.cell? ⟨w.heap.size, 0, none⟩ = some (.int .i64 c0) ∧ W'.cell? ⟨w.heap.size, 1, none⟩ = some (.int .i64 c1) ∧ W'.cell? ⟨w.heap.size, 2, none⟩ = some (.int .i64 c2) ∧ W'.cell? ⟨w.heap.size, 3, none⟩ = some (.int .i64 c3) ∧ W'.cell? ⟨w.heap.size, 4, none⟩ = some (.int .i64 c4) ∧ W'.cell? ⟨w.heap.size, 5, none⟩ = some (.int .i64 c5) ∧ W'.cell? ⟨w.heap.size, 6, none⟩ = some (.int .i64 c6) ∧ W'.cell? ⟨w.heap.size, 7, none⟩ = some (.int .i64 c7)) ∧ Below w3.heap.size w3 W') := by
      intro W hW
      have hh := same_below (l := []) (m := []) (B := 0) (B' := 0) rfl rfl (by simp [maxLen]) (by simp [maxLen]) (w := W) (n := 0) (n' := 0) (A := none) (A' := none) (c := 0) (c' := 0) Reads.none_ Reads.none_
      rw [decide_eq_true rfl] at hh
      refine hh.mono ?_
      rintro e W' ⟨rfl, hb⟩
      have hb' := hW.trans (hb.mono hW.size)
      obtain ⟨h0, h1, h2, h3, h4, h5, h6, h7⟩ := hq
      exact ⟨rfl, ⟨keep_cell h0 hb', keep_cell h1 hb', keep_cell h2 hb', keep_cell h3 hb', keep_cell h4 hb', keep_cell h5 hb', keep_cell h6 hb', keep_cell h7 hb'⟩, hb'⟩
    have KW : Hid (∀ W, Below w3.heap.size w3 W → Calls Try.prog 17 #[] W fun e W' => e = .returned (.bool true) ∧ (W'.cell? ⟨w.heap.size, 0, none⟩ = some (.int .i64 c0) ∧ W'.cell? ⟨w.heap.size, 1, none⟩ = some (.int .i64 c1) ∧ W'.cell? ⟨w.heap.size, 2, none⟩ = some (.int .i64 c2) ∧ W'.cell? ⟨w.heap.size, 3, none⟩ = some (.int .i64 c3) ∧ W'.cell? ⟨w.heap.size, 4, none⟩ = some (.int .i64 c4) ∧ W'.cell? ⟨w.heap.size, 5, none⟩ = some (.int .i64 c5) ∧ W'.cell? ⟨w.heap.size, 6, none⟩ = some (.int .i64 c6) ∧ W'.cell? ⟨w.heap.size, 7, none⟩ = some (.int .i64 c7)) ∧ Below w3.heap.size w3 W') := by
      intro W hW
      have hh := works_any W
      skip
      refine hh.mono ?_
      rintro e W' ⟨rfl, hb⟩
      have hb' := hW.trans (hb.mono hW.size)
      obtain ⟨h0, h1, h2, h3, h4, h5, h6, h7⟩ := hq
      exact ⟨rfl, ⟨keep_cell h0 hb', keep_cell h1 hb', keep_cell h2 hb', keep_cell h3 hb', keep_cell h4 hb', keep_cell h5 hb', keep_cell h6 hb', keep_cell h7 hb'⟩, hb'⟩
    clear HOKN
    go_region_held3 (fun W' => (W'.cell? ⟨w.heap.size, 0, none⟩ = some (.int .i64 c0) ∧ W'.cell? ⟨w.heap.size, 1, none⟩ = some (.int .i64 c1) ∧ W'.cell? ⟨w.heap.size, 2, none⟩ = some (.int .i64 c2) ∧ W'.cell? ⟨w.heap.size, 3, none⟩ = some (.int .i64 c3) ∧ W'.cell? ⟨w.heap.size, 4, none⟩ = some (.int .i64 c4) ∧ W'.cell? ⟨w.heap.size, 5, none⟩ = some (.int .i64 c5) ∧ W'.cell? ⟨w.heap.size, 6, none⟩ = some (.int .i64 c6) ∧ W'.cell? ⟨w.heap.size, 7, none⟩ = some (.int .i64 c7))) (first | assumption | go_keep) (first | (go_at_call 14; refine (KC.out _ (by first | assumption | exact Below.refl _ _ | exact (Below.refl _ _).drew)).mono ?_; rintro e wz1 ⟨rfl, hz1, hy1⟩) | (go_at_call 13; refine (KR.out _ (by first | assumption | exact Below.refl _ _ | exact (Below.refl _ _).drew)).mono ?_; rintro e wz2 ⟨rfl, hz2, hy2⟩) | (go_at_call 15; refine (KD.out _ (by first | assumption | exact Below.refl _ _ | exact (Below.refl _ _).drew)).mono ?_; rintro e wz3 ⟨rfl, hz3, hy3⟩) | (go_at_call 16; refine (KS.out _ (by first | assumption | exact Below.refl _ _ | exact (Below.refl _ _).drew)).mono ?_; rintro e wz4 ⟨rfl, hz4, hy4⟩) | (go_at_call 17; refine (KW.out _ (by first | assumption | exact Below.refl _ _ | exact (Below.refl _ _).drew)).mono ?_; rintro e wz5 ⟨rfl, hz5, hy5⟩))
    all_goals go_wp2_with fail
    all_goals go_ret
    all_goals exact ⟨rfl, HB3.out.trans ((by assumption : Below w3.heap.size w3 _).mono HB3.out.size)⟩
theorem SuperblockEncodes_walk (v0 : Value) (w : World) (h0 : ArgIn Try.prog w 25 v0) :
    Calls Try.prog 3 #[v0] w fun e w' => e = .returned (.bool true) ∧ Below w.heap.size w w' := by
  obtain ⟨b, rfl, hb⟩ := blk_arg h0
  exact SuperblockEncodes_w b.epoch b.conf.slots b.conf.size b.conf.reserve b.conf.work b.conf.key b.conf.value b.conf.policy hb w
end Go.Proofs.Ytbgahbeldnhloaa
