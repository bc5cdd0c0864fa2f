/-
  The walk of the law SuperblockReads: it returns true and writes nothing that was there. No condition.
-/
import Derived.Test.YtbgahbeldnhloaaSuperblockDecodesW
namespace Go.Proofs.Ytbgahbeldnhloaa
open Go.RowKit Drum
set_option linter.unusedVariables false
theorem readOf_wf (l : List (BitVec 8)) (h : (readOf l).ok) : (readOf l).wf := by
  refine ⟨by have := h.1; omega, fun n hn => ?_⟩
  have := Cf.ok_nums h.2 n hn
  omega
theorem read_ex (l : List (BitVec 8)) : ∃ (y0 y1 y2 y3 y4 y5 y6 y7 : Int), readOf l = ⟨y0, ⟨y1, y2, y3, y4, y5, y6, y7⟩⟩ := ⟨_, _, _, _, _, _, _, _, rfl⟩
set_option maxHeartbeats 8000000 in
theorem SuperblockReads_bad (A : Option Addr) (n c : Nat) (l : List (BitVec 8)) (E : Int) (hE : (E = 14 ∧ n < 64) ∨ E = 15 ∨ E = 8) (hd : decOf l = (E, bk0)) (h300 : n ≤ 300) (hl : n = l.length) (hnm : n ≤ maxLen) (hnc : n ≤ c) (hcm : c ≤ maxLen) (w : World) (hr : Reads w w.heap.size 1 A n (u8s l)) :
    Calls Try.prog 7 #[.slice A n c] w fun ed w' => ed = .returned (.bool true) ∧ Below w.heap.size w w' := by
  have HD := Lib.hid (decode_zero A n c _ l E hd hl hnm hnc hcm w hr (Nat.le_refl _))
  clear hr hd hl hnm hcm
  rcases hE with ⟨rfl, h64⟩ | rfl | rfl
  all_goals
    go_enter Try.func7, Try.ntmps7
    go_wp2_with fail
    refine HD.out.mono ?_
    rintro ed w1 ⟨rfl, hb1⟩
    have HB1 := Lib.hid (ba hb1 (.cells #[.int .i64 0, .int .i64 0, .int .i64 0, .int .i64 0, .int .i64 0, .int .i64 0, .int .i64 0, .int .i64 0] 25))
    clear hb1
    go_wp2_with fail
    refine (works_any _).mono ?_
    rintro ed w2 ⟨rfl, hb2⟩
    have HB2 := Lib.hid (bt HB1.out hb2)
    clear hb2
    go_wp2_with fail
    go_ret
    exact ⟨rfl, HB2.out⟩
set_option maxHeartbeats 8000000 in
theorem SuperblockReads_good (A : Option Addr) (n c : Nat) (l : List (BitVec 8)) (hd : decOf l = (0, readOf l)) (h64 : 64 ≤ n) (hok : (readOf l).ok) (he : encOf (readOf l) = l.take 64) (h300 : n ≤ 300) (hl : n = l.length) (hnm : n ≤ maxLen) (hnc : n ≤ c) (hcm : c ≤ maxLen) (w : World) (hr : Reads w w.heap.size 1 A n (u8s l)) :
    Calls Try.prog 7 #[.slice A n c] w fun ed w' => ed = .returned (.bool true) ∧ Below w.heap.size w w' := by
  obtain ⟨y0, y1, y2, y3, y4, y5, y6, y7, hY⟩ := read_ex l
  have hwf := readOf_wf l hok
  rw [hY] at hd hok he hwf
  have HD := Lib.hid (decode_lit A n c _ l 0 ⟨y0, ⟨y1, y2, y3, y4, y5, y6, y7⟩⟩ hd hl hnm hnc hcm w hr (Nat.le_refl _))
  have HOK := Lib.hid hok
  have HWF := Lib.hid hwf
  have HE := Lib.hid he
  have HR := Lib.hid hr
  have HNC := Lib.hid hnc
  obtain ⟨ad, rfl, _⟩ := hr.2 (by omega)
  clear hr hd hl hnm hcm hok hwf he hY
  go_enter Try.func7, Try.ntmps7
  go_wp2_with fail
  refine HD.out.mono ?_
  rintro ed w1 ⟨rfl, hb1⟩
  have HB1 := Lib.hid (ba hb1 (.cells #[.int .i64 y0, .int .i64 y1, .int .i64 y2, .int .i64 y3, .int .i64 y4, .int .i64 y5, .int .i64 y6, .int .i64 y7] 25))
  have HX1 := Lib.hid (Blk.new w1 25 #[.int .i64 y0, .int .i64 y1, .int .i64 y2, .int .i64 y3, .int .i64 y4, .int .i64 y5, .int .i64 y6, .int .i64 y7])
  clear hb1
  go_wp2_with fail
  refine (encode_any ⟨y0, ⟨y1, y2, y3, y4, y5, y6, y7⟩⟩ HWF.out HOK.out _).mono ?_
  rintro ed w2 ⟨g, cs, rfl, hg, hbk, htk, hb2⟩
  have HB2 := Lib.hid (bt HB1.out hb2)
  have HX2 := Lib.hid (HX1.out.below hb2 HX1.out.lt)
  have HRE := Lib.hid (reads_blk hbk 0 64 _ (encOf_length _) htk)
  have HRA := Lib.hid ((HR.out.below HB2.out).take h64)
  clear hb2 hbk htk hg
  go_wp2_with fail
  have hq : (w2.cell? ⟨w1.heap.size, 0, none⟩ = some (.int .i64 y0) ∧ w2.cell? ⟨w1.heap.size, 1, none⟩ = some (.int .i64 y1) ∧ w2.cell? ⟨w1.heap.size, 2, none⟩ = some (.int .i64 y2) ∧ w2.cell? ⟨w1.heap.size, 3, none⟩ = some (.int .i64 y3) ∧ w2.cell? ⟨w1.heap.size, 4, none⟩ = some (.int .i64 y4) ∧ w2.cell? ⟨w1.heap.size, 5, none⟩ = some (.int .i64 y5) ∧ w2.cell? ⟨w1.heap.size, 6, none⟩ = some (.int .i64 y6) ∧ w2.cell? ⟨w1.heap.size, 7, none⟩ = some (.int .i64 y7)) := ⟨HX2.out.cell 0, HX2.out.cell 1, HX2.out.cell 2, HX2.out.cell 3, HX2.out.cell 4, HX2.out.cell 5, HX2.out.cell 6, HX2.out.cell 7⟩
  have HOKN : Hid (okN (Bk.ok ⟨y0, ⟨y1, y2, y3, y4, y5, y6, y7⟩⟩) = 0) := okN_yes HOK.out
  have HOKC : Hid (okN (Cf.ok (Bk.conf ⟨y0, ⟨y1, y2, y3, y4, y5, y6, y7⟩⟩)) = 0) := okN_yes HOK.out.2
  have hv1 : Hid (∀ W, Below w2.heap.size w2 W → (convert 26 9 (.slice (some ⟨g, 0, none⟩) 64 64)).run Try.prog W = .ok (.string (strOf (l.take 64))) W) := fun W hW => by
    have := str_bytes (c := 64) (HRE.out.below hW)
    rw [HE.out] at this
    exact this
  have hv2 : Hid (∀ W, Below w2.heap.size w2 W → (convert 26 9 (.slice (some ad) 64 c)).run Try.prog W = .ok (.string (strOf (l.take 64))) W) := fun W hW => str_bytes (c := c) (HRA.out.below (hW.mono HB2.out.size))
  have KC : Hid (∀ W, Below w2.heap.size w2 W → Calls Try.prog 14 #[.agg #[.int .i64 y0, .int .i64 y1, .int .i64 y2, .int .i64 y3, .int .i64 y4, .int .i64 y5, .int .i64 y6, .int .i64 y7]] W fun e W' => e = .returned (.int .i64 0) ∧ (W'.cell? ⟨w1.heap.size, 0, none⟩ = some (.int .i64 y0) ∧ W'.cell? ⟨w1.heap.size, 1, none⟩ = some (.int .i64 y1) ∧ W'.cell? ⟨w1.heap.size, 2, none⟩ = some (.int .i64 y2) ∧ W'.cell? ⟨w1.heap.size, 3, none⟩ = some (.int .i64 y3) ∧ W'.cell? ⟨w1.heap.size, 4, none⟩ = some (.int .i64 y4) ∧ W'.cell? ⟨w1.heap.size, 5, none⟩ = some (.int .i64 y5) ∧ W'.cell? ⟨w1.heap.size, 6, none⟩ = some (.int .i64 y6) ∧ W'.cell? ⟨w1.heap.size, 7, none⟩ = some (.int .i64 y7) ∧ (convert 26 9 (.slice (some ⟨g, 0, none⟩) 64 64)).run Try.prog W' = .ok (.string (strOf (l.take 64))) W' ∧ (convert 26 9 (.slice (some ad) 64 c)).run Try.prog W' = .ok (.string (strOf (l.take 64))) W') ∧ Below w2.heap.size w2 W') := by
    intro W hW
    have hh := check_any ⟨y0, ⟨y1, y2, y3, y4, y5, y6, y7⟩⟩ HWF.out W
    rw [HOKN.out] at hh
    refine hh.mono ?_
    rintro e W' ⟨rfl, hb⟩
    have hb' := hW.trans (hb.mono hW.size)
    obtain ⟨h0, h1, h2, h3, h4, h5, h6, h7⟩ := hq
    exact ⟨rfl, ⟨keep_cell h0 hb', keep_cell h1 hb', keep_cell h2 hb', keep_cell h3 hb', keep_cell h4 hb', keep_cell h5 hb', keep_cell h6 hb', keep_cell h7 hb', hv1.out _ hb', hv2.out _ hb'⟩, hb'⟩
  have KF : Hid (∀ W, Below w2.heap.size w2 W → Calls Try.prog 23 #[.agg #[.int .i64 y1, .int .i64 y2, .int .i64 y3, .int .i64 y4, .int .i64 y5, .int .i64 y6, .int .i64 y7]] W fun e W' => e = .returned (.int .i64 0) ∧ (W'.cell? ⟨w1.heap.size, 0, none⟩ = some (.int .i64 y0) ∧ W'.cell? ⟨w1.heap.size, 1, none⟩ = some (.int .i64 y1) ∧ W'.cell? ⟨w1.heap.size, 2, none⟩ = some (.int .i64 y2) ∧ W'.cell? ⟨w1.heap.size, 3, none⟩ = some (.int .i64 y3) ∧ W'.cell? ⟨w1.heap.size, 4, none⟩ = some (.int .i64 y4) ∧ W'.cell? ⟨w1.heap.size, 5, none⟩ = some (.int .i64 y5) ∧ W'.cell? ⟨w1.heap.size, 6, none⟩ = some (.int .i64 y6) ∧ W'.cell? ⟨w1.heap.size, 7, none⟩ = some (.int .i64 y7) ∧ (convert 26 9 (.slice (some ⟨g, 0, none⟩) 64 64)).run Try.prog W' = .ok (.string (strOf (l.take 64))) W' ∧ (convert 26 9 (.slice (some ad) 64 c)).run Try.prog W' = .ok (.string (strOf (l.take 64))) W') ∧ Below w2.heap.size w2 W') := by
    intro W hW
    have hh := cfCheck_ok (Bk.conf ⟨y0, ⟨y1, y2, y3, y4, y5, y6, y7⟩⟩) HWF.out.2 W
    rw [HOKC.out] at hh
    refine hh.mono ?_
    rintro e W' ⟨rfl, hb⟩
    have hb' := hW.trans (hb.mono hW.size)
    obtain ⟨h0, h1, h2, h3, h4, h5, h6, h7⟩ := hq
    exact ⟨rfl, ⟨keep_cell h0 hb', keep_cell h1 hb', keep_cell h2 hb', keep_cell h3 hb', keep_cell h4 hb', keep_cell h5 hb', keep_cell h6 hb', keep_cell h7 hb', hv1.out _ hb', hv2.out _ hb'⟩, hb'⟩
  have KW : Hid (∀ W, Below w2.heap.size w2 W → Calls Try.prog 17 #[] W fun e W' => e = .returned (.bool true) ∧ (W'.cell? ⟨w1.heap.size, 0, none⟩ = some (.int .i64 y0) ∧ W'.cell? ⟨w1.heap.size, 1, none⟩ = some (.int .i64 y1) ∧ W'.cell? ⟨w1.heap.size, 2, none⟩ = some (.int .i64 y2) ∧ W'.cell? ⟨w1.heap.size, 3, none⟩ = some (.int .i64 y3) ∧ W'.cell? ⟨w1.heap.size, 4, none⟩ = some (.int .i64 y4) ∧ W'.cell? ⟨w1.heap.size, 5, none⟩ = some (.int .i64 y5) ∧ W'.cell? ⟨w1.heap.size, 6, none⟩ = some (.int .i64 y6) ∧ W'.cell? ⟨w1.heap.size, 7, none⟩ = some (.int .i64 y7) ∧ (convert 26 9 (.slice (some ⟨g, 0, none⟩) 64 64)).run Try.prog W' = .ok (.string (strOf (l.take 64))) W' ∧ (convert 26 9 (.slice (some ad) 64 c)).run Try.prog W' = .ok (.string (strOf (l.take 64))) W') ∧ Below w2.heap.size w2 W') := by
    intro W hW
    have hh := works_any W
    skip
    refine hh.mono ?_
    rintro e W' ⟨rfl, hb⟩
    have hb' := hW.trans (hb.mono hW.size)
    obtain ⟨h0, h1, h2, h3, h4, h5, h6, h7⟩ := hq
    exact ⟨rfl, ⟨keep_cell h0 hb', keep_cell h1 hb', keep_cell h2 hb', keep_cell h3 hb', keep_cell h4 hb', keep_cell h5 hb', keep_cell h6 hb', keep_cell h7 hb', hv1.out _ hb', hv2.out _ hb'⟩, hb'⟩
  have hc64 : 64 ≤ c := by omega
  have hc64i : (64 : Int) ≤ (c : Int) := by omega
  have hc64n : ¬ (c < 64) := by omega
  have hcv1 := hv1.out w2 (Below.refl _ _)
  have hcv2 := hv2.out w2 (Below.refl _ _)
  have hcv3 := hv1.out w2.drew (Below.refl _ _).drew
  have hcv4 := hv2.out w2.drew (Below.refl _ _).drew
  go_region_held3 (fun W' => (W'.cell? ⟨w1.heap.size, 0, none⟩ = some (.int .i64 y0) ∧ W'.cell? ⟨w1.heap.size, 1, none⟩ = some (.int .i64 y1) ∧ W'.cell? ⟨w1.heap.size, 2, none⟩ = some (.int .i64 y2) ∧ W'.cell? ⟨w1.heap.size, 3, none⟩ = some (.int .i64 y3) ∧ W'.cell? ⟨w1.heap.size, 4, none⟩ = some (.int .i64 y4) ∧ W'.cell? ⟨w1.heap.size, 5, none⟩ = some (.int .i64 y5) ∧ W'.cell? ⟨w1.heap.size, 6, none⟩ = some (.int .i64 y6) ∧ W'.cell? ⟨w1.heap.size, 7, none⟩ = some (.int .i64 y7) ∧ (convert 26 9 (.slice (some ⟨g, 0, none⟩) 64 64)).run Try.prog W' = .ok (.string (strOf (l.take 64))) W' ∧ (convert 26 9 (.slice (some ad) 64 c)).run Try.prog W' = .ok (.string (strOf (l.take 64))) W')) (first | assumption | go_keep | exact ⟨by assumption, by assumption⟩ | (refine ⟨?_, ?_⟩ <;> assumption)) (first | (go_at_call 14; refine (KC.out _ (by first | assumption | exact Below.refl _ _ | exact (Below.refl _ _).drew)).mono ?_; rintro e wz1 ⟨rfl, hz1, hy1⟩) | (go_at_call 23; refine (KF.out _ (by first | assumption | exact Below.refl _ _ | exact (Below.refl _ _).drew)).mono ?_; rintro e wz2 ⟨rfl, hz2, hy2⟩) | (go_at_call 17; refine (KW.out _ (by first | assumption | exact Below.refl _ _ | exact (Below.refl _ _).drew)).mono ?_; rintro e wz3 ⟨rfl, hz3, hy3⟩))
  all_goals go_wp2_with fail
  all_goals go_ret
  all_goals exact ⟨rfl, HB2.out.trans ((by assumption : Below w2.heap.size w2 _).mono HB2.out.size)⟩
theorem SuperblockReads_walk (v0 : Value) (w : World) (h0 : ArgIn Try.prog w 26 v0) :
    Calls Try.prog 7 #[v0] w fun e w' => e = .returned (.bool true) ∧ Below w.heap.size w w' := by
  obtain ⟨A, n, c, l, rfl, h1, h2, h3, h4, h5⟩ := bytes_arg h0
  by_cases hbig : 300 < n
  · unfold maxLen at h2
    clear h5
    go_enter Try.func7, Try.ntmps7
    go_wp2_with fail
    refine (works_any _).mono ?_
    rintro e w1 ⟨rfl, hb1⟩
    go_wp2_with fail
    go_ret
    exact ⟨rfl, hb1⟩
  · rcases decOf_cases l with ⟨hd, h⟩ | ⟨hd, h⟩ | ⟨hd, h⟩ | ⟨hd, h, hok, he⟩
    · exact SuperblockReads_bad A n c l 14 (.inl ⟨rfl, by omega⟩) hd (by omega) h1 h2 h3 h4 w h5
    · exact SuperblockReads_bad A n c l 15 (.inr (.inl rfl)) hd (by omega) h1 h2 h3 h4 w h5
    · exact SuperblockReads_bad A n c l 8 (.inr (.inr rfl)) hd (by omega) h1 h2 h3 h4 w h5
    · exact SuperblockReads_good A n c l hd (by omega) hok he (by omega) h1 h2 h3 h4 w h5
end Go.Proofs.Ytbgahbeldnhloaa
