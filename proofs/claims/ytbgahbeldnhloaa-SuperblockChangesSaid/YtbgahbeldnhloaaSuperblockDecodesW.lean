/-
  The walk of the law SuperblockDecodes: it returns true and writes nothing that was there. No condition.
-/
import Derived.Test.YtbgahbeldnhloaaSuperblockEncodesW
namespace Go.Proofs.Ytbgahbeldnhloaa
open Go.RowKit Drum
set_option linter.unusedVariables false
theorem dec_ex (l : List (BitVec 8)) : ∃ (E : Int) (y0 y1 y2 y3 y4 y5 y6 y7 : Int), decOf l = (E, ⟨y0, ⟨y1, y2, y3, y4, y5, y6, y7⟩⟩) := ⟨_, _, _, _, _, _, _, _, _, rfl⟩
theorem refDecode_y {A : Option Addr} {n c B : Nat} {l : List (BitVec 8)} {E y0 y1 y2 y3 y4 y5 y6 y7 : Int} (h : decOf l = (E, ⟨y0, ⟨y1, y2, y3, y4, y5, y6, y7⟩⟩)) (hl : n = l.length) (hnm : n ≤ maxLen) (hnc : n ≤ c) (hcm : c ≤ maxLen) (w : World) (hr : Reads w B 1 A n (u8s l)) (hB : B ≤ w.heap.size) :
    Calls Try.prog 19 #[.slice A n c] w fun e w' => e = .returned (.tuple #[.agg #[.int .i64 y0, .int .i64 y1, .int .i64 y2, .int .i64 y3, .int .i64 y4, .int .i64 y5, .int .i64 y6, .int .i64 y7], .int .i64 E]) ∧ Below w.heap.size w w' := by
  have h1 := refDecode_any A n c B l hl hnm hnc hcm w hr hB
  rw [h] at h1
  exact h1
set_option maxHeartbeats 8000000 in
theorem SuperblockDecodes_w (A : Option Addr) (n c : Nat) (l : List (BitVec 8)) (hl : n = l.length) (hnm : n ≤ maxLen) (hnc : n ≤ c) (hcm : c ≤ maxLen) (w : World) (hr : Reads w w.heap.size 1 A n (u8s l)) :
    Calls Try.prog 4 #[.slice A n c] w fun ed w' => ed = .returned (.bool true) ∧ Below w.heap.size w w' := by
  obtain ⟨i0, hi0, hz0, hz1, hz2⟩ := info_parts u8_info
  have HNM := Lib.hid hnm
  have HCM := Lib.hid hcm
  have HNC := Lib.hid hnc
  have HL := Lib.hid hl
  have HR := Lib.hid hr
  unfold maxLen at hnm hcm
  clear hl hr
  by_cases hbig : 300 < n
  · go_enter Try.func4, Try.ntmps4
    go_wp2_with fail
    refine (works_any _).mono ?_
    rintro e w1 ⟨rfl, hb1⟩
    go_wp2_with fail
    go_ret
    exact ⟨rfl, hb1⟩
  · obtain ⟨E, y0, y1, y2, y3, y4, y5, y6, y7, hN⟩ := dec_ex l
    have HN := Lib.hid hN
    have HO : Hid ((w.alloc (.cells #[] 5)).ownsRow w.heap.size 5 1 (.slice (some ⟨w.heap.size, 0, none⟩) 0 0) 0 []) := World.ownsRow_made w #[] 0 (Nat.le_refl _) (by unfold maxLen; omega) (by simp)
    clear hN
    go_enter Try.func4, Try.ntmps4
    go_wp2_with (at_builtin
                 refine wpList_append_g _ rfl _ _ _ rfl w.heap.size 5 i0 _ 1 1 Try.underlying26 hi0 hz0 hz1 hz2 rfl (by omega) (.slice (some ⟨w.heap.size, 0, none⟩) 0 0) 0 [] rfl
                   HO.out w.heap.size A n c (u8s l) rfl (HR.out.alloc (Nat.le_refl _) _) (u8s_one l) (by simp only [maxLen]; omega) (by omega) (by simp) ?_
                 intro v1 w1 hown1 hg1 hat1
                 have hown1' : w1.ownsRow w.heap.size 5 1 v1 n (u8s l) := by simpa using hown1
                 have HO1 := Lib.hid hown1'
                 have HB1 := Lib.hid (((Below.refl w.heap.size w).alloc (Nat.le_refl _) (.cells #[] 5)).grown hg1 (by simp) (by intro q hq; simp [Value.ownBlock] at hq; omega))
                 clear hown1 hown1' hg1 hat1)
    refine (decode_lit A n c _ l E ⟨y0, ⟨y1, y2, y3, y4, y5, y6, y7⟩⟩ HN.out HL.out HNM.out HNC.out HCM.out w1 (HR.out.below HB1.out) HB1.out.size).mono ?_
    rintro ed w2 ⟨rfl, hb2⟩
    have HB2 := Lib.hid (ba (bt HB1.out hb2) (.cells #[.int .i64 y0, .int .i64 y1, .int .i64 y2, .int .i64 y3, .int .i64 y4, .int .i64 y5, .int .i64 y6, .int .i64 y7] 25))
    have HO2 := Lib.hid (own_below' (own_below' HO1.out hb2) ((Below.refl w2.heap.size w2).alloc (Nat.le_refl _) (.cells #[.int .i64 y0, .int .i64 y1, .int .i64 y2, .int .i64 y3, .int .i64 y4, .int .i64 y5, .int .i64 y6, .int .i64 y7] 25)))
    have HY2 := Lib.hid (Blk.new w2 25 #[.int .i64 y0, .int .i64 y1, .int .i64 y2, .int .i64 y3, .int .i64 y4, .int .i64 y5, .int .i64 y6, .int .i64 y7])
    clear hb2
    go_wp2_with fail
    refine (refDecode_y HN.out HL.out HNM.out HNC.out HCM.out _ (HR.out.below HB2.out) HB2.out.size).mono ?_
    rintro ed w3 ⟨rfl, hb3⟩
    have HB3 := Lib.hid (ba (bt HB2.out hb3) (.cells #[.int .i64 y0, .int .i64 y1, .int .i64 y2, .int .i64 y3, .int .i64 y4, .int .i64 y5, .int .i64 y6, .int .i64 y7] 31))
    have HO3 := Lib.hid (own_below' (own_below' HO2.out hb3) ((Below.refl w3.heap.size w3).alloc (Nat.le_refl _) (.cells #[.int .i64 y0, .int .i64 y1, .int .i64 y2, .int .i64 y3, .int .i64 y4, .int .i64 y5, .int .i64 y6, .int .i64 y7] 31)))
    have HY3 := Lib.hid ((HY2.out.below hb3 HY2.out.lt).alloc (.cells #[.int .i64 y0, .int .i64 y1, .int .i64 y2, .int .i64 y3, .int .i64 y4, .int .i64 y5, .int .i64 y6, .int .i64 y7] 31))
    have HZ3 := Lib.hid (Blk.new w3 31 #[.int .i64 y0, .int .i64 y1, .int .i64 y2, .int .i64 y3, .int .i64 y4, .int .i64 y5, .int .i64 y6, .int .i64 y7])
    clear hb3
    go_wp2_with fail
    obtain ⟨wf, hwf⟩ : ∃ wf : World, wf = w3.alloc (.cells #[.int .i64 y0, .int .i64 y1, .int .i64 y2, .int .i64 y3, .int .i64 y4, .int .i64 y5, .int .i64 y6, .int .i64 y7] 31) := ⟨_, rfl⟩
    rw [← hwf] at HB3 HY3 HZ3 HO3 ⊢
    clear hwf
    obtain ⟨A1, k1, rfl, hA1, hk1, hr1⟩ := own_slice HO3.out
    have HR1 := Lib.hid hr1
    have HRA := Lib.hid (HR.out.below HB3.out)
    clear hr1
    have hq : (wf.cell? ⟨w2.heap.size, 0, none⟩ = some (.int .i64 y0) ∧ wf.cell? ⟨w2.heap.size, 1, none⟩ = some (.int .i64 y1) ∧ wf.cell? ⟨w2.heap.size, 2, none⟩ = some (.int .i64 y2) ∧ wf.cell? ⟨w2.heap.size, 3, none⟩ = some (.int .i64 y3) ∧ wf.cell? ⟨w2.heap.size, 4, none⟩ = some (.int .i64 y4) ∧ wf.cell? ⟨w2.heap.size, 5, none⟩ = some (.int .i64 y5) ∧ wf.cell? ⟨w2.heap.size, 6, none⟩ = some (.int .i64 y6) ∧ wf.cell? ⟨w2.heap.size, 7, none⟩ = some (.int .i64 y7) ∧ wf.cell? ⟨w3.heap.size, 0, none⟩ = some (.int .i64 y0) ∧ wf.cell? ⟨w3.heap.size, 1, none⟩ = some (.int .i64 y1) ∧ wf.cell? ⟨w3.heap.size, 2, none⟩ = some (.int .i64 y2) ∧ wf.cell? ⟨w3.heap.size, 3, none⟩ = some (.int .i64 y3) ∧ wf.cell? ⟨w3.heap.size, 4, none⟩ = some (.int .i64 y4) ∧ wf.cell? ⟨w3.heap.size, 5, none⟩ = some (.int .i64 y5) ∧ wf.cell? ⟨w3.heap.size, 6, none⟩ = some (.int .i64 y6) ∧ wf.cell? ⟨w3.heap.size, 7, none⟩ = some (.int .i64 y7)) := ⟨HY3.out.cell 0, HY3.out.cell 1, HY3.out.cell 2, HY3.out.cell 3, HY3.out.cell 4, HY3.out.cell 5, HY3.out.cell 6, HY3.out.cell 7, HZ3.out.cell 0, HZ3.out.cell 1, HZ3.out.cell 2, HZ3.out.cell 3, HZ3.out.cell 4, HZ3.out.cell 5, HZ3.out.cell 6, HZ3.out.cell 7⟩
    have KR : Hid (∀ W, Below wf.heap.size wf W → Calls Try.prog 13 #[.agg #[.int .i64 y0, .int .i64 y1, .int .i64 y2, .int .i64 y3, .int .i64 y4, .int .i64 y5, .int .i64 y6, .int .i64 y7]] W fun e W' => e = .returned (.agg #[.int .i64 y0, .int .i64 y1, .int .i64 y2, .int .i64 y3, .int .i64 y4, .int .i64 y5, .int .i64 y6, .int .i64 y7]) ∧ (W'.cell? ⟨w2.heap.size, 0, none⟩ = some (.int .i64 y0) ∧ W'.cell? ⟨w2.heap.size, 1, none⟩ = some (.int .i64 y1) ∧ W'.cell? ⟨w2.heap.size, 2, none⟩ = some (.int .i64 y2) ∧ W'.cell? ⟨w2.heap.size, 3, none⟩ = some (.int .i64 y3) ∧ W'.cell? ⟨w2.heap.size, 4, none⟩ = some (.int .i64 y4) ∧ W'.cell? ⟨w2.heap.size, 5, none⟩ = some (.int .i64 y5) ∧ W'.cell? ⟨w2.heap.size, 6, none⟩ = some (.int .i64 y6) ∧ W'.cell? ⟨w2.heap.size, 7, none⟩ = some (.int .i64 y7) ∧ W'.cell? ⟨w3.heap.size, 0, none⟩ = some (.int .i64 y0) ∧ W'.cell? ⟨w3.heap.size, 1, none⟩ = some (.int .i64 y1) ∧ W'.cell? ⟨w3.heap.size, 2, none⟩ = some (.int .i64 y2) ∧ W'.cell? ⟨w3.heap.size, 3, none⟩ = some (.int .i64 y3) ∧ W'.cell? ⟨w3.heap.size, 4, none⟩ = some (.int .i64 y4) ∧ W'.cell? ⟨w3.heap.size, 5, none⟩ = some (.int .i64 y5) ∧ W'.cell? ⟨w3.heap.size, 6, none⟩ = some (.int .i64 y6) ∧ W'.cell? ⟨w3.heap.size, 7, none⟩ = some (.int .i64 y7)) ∧ Below wf.heap.size wf W') := by
      intro W hW
      have hh := ref_lit y0 y1 y2 y3 y4 y5 y6 y7 W
      skip
      refine hh.mono ?_
      rintro e W' ⟨rfl, hb⟩
      have hb' := hW.trans (hb.mono hW.size)
      obtain ⟨h0, h1, h2, h3, h4, h5, h6, h7, h8, h9, h10, h11, h12, h13, h14, h15⟩ := hq
      exact ⟨rfl, ⟨keep_cell h0 hb', keep_cell h1 hb', keep_cell h2 hb', keep_cell h3 hb', keep_cell h4 hb', keep_cell h5 hb', keep_cell h6 hb', keep_cell h7 hb', keep_cell h8 hb', keep_cell h9 hb', keep_cell h10 hb', keep_cell h11 hb', keep_cell h12 hb', keep_cell h13 hb', keep_cell h14 hb', keep_cell h15 hb'⟩, hb'⟩
    have KS : Hid (∀ W, Below wf.heap.size wf W → Calls Try.prog 16 #[.slice A1 n k1, .slice A n c] W fun e W' => e = .returned (.bool true) ∧ (W'.cell? ⟨w2.heap.size, 0, none⟩ = some (.int .i64 y0) ∧ W'.cell? ⟨w2.heap.size, 1, none⟩ = some (.int .i64 y1) ∧ W'.cell? ⟨w2.heap.size, 2, none⟩ = some (.int .i64 y2) ∧ W'.cell? ⟨w2.heap.size, 3, none⟩ = some (.int .i64 y3) ∧ W'.cell? ⟨w2.heap.size, 4, none⟩ = some (.int .i64 y4) ∧ W'.cell? ⟨w2.heap.size, 5, none⟩ = some (.int .i64 y5) ∧ W'.cell? ⟨w2.heap.size, 6, none⟩ = some (.int .i64 y6) ∧ W'.cell? ⟨w2.heap.size, 7, none⟩ = some (.int .i64 y7) ∧ W'.cell? ⟨w3.heap.size, 0, none⟩ = some (.int .i64 y0) ∧ W'.cell? ⟨w3.heap.size, 1, none⟩ = some (.int .i64 y1) ∧ W'.cell? ⟨w3.heap.size, 2, none⟩ = some (.int .i64 y2) ∧ W'.cell? ⟨w3.heap.size, 3, none⟩ = some (.int .i64 y3) ∧ W'.cell? ⟨w3.heap.size, 4, none⟩ = some (.int .i64 y4) ∧ W'.cell? ⟨w3.heap.size, 5, none⟩ = some (.int .i64 y5) ∧ W'.cell? ⟨w3.heap.size, 6, none⟩ = some (.int .i64 y6) ∧ W'.cell? ⟨w3.heap.size, 7, none⟩ = some (.int .i64 y7)) ∧ Below wf.heap.size wf W') := by
      intro W hW
      have hh := same_below (c := k1) (c' := c) HL.out HL.out HNM.out HNM.out (HR1.out.below hW) (HRA.out.below (hW.mono HB3.out.size))
      rw [decide_eq_true rfl] at hh
      refine hh.mono ?_
      rintro e W' ⟨rfl, hb⟩
      have hb' := hW.trans (hb.mono hW.size)
      obtain ⟨h0, h1, h2, h3, h4, h5, h6, h7, h8, h9, h10, h11, h12, h13, h14, h15⟩ := hq
      exact ⟨rfl, ⟨keep_cell h0 hb', keep_cell h1 hb', keep_cell h2 hb', keep_cell h3 hb', keep_cell h4 hb', keep_cell h5 hb', keep_cell h6 hb', keep_cell h7 hb', keep_cell h8 hb', keep_cell h9 hb', keep_cell h10 hb', keep_cell h11 hb', keep_cell h12 hb', keep_cell h13 hb', keep_cell h14 hb', keep_cell h15 hb'⟩, hb'⟩
    have KW : Hid (∀ W, Below wf.heap.size wf W → Calls Try.prog 17 #[] W fun e W' => e = .returned (.bool true) ∧ (W'.cell? ⟨w2.heap.size, 0, none⟩ = some (.int .i64 y0) ∧ W'.cell? ⟨w2.heap.size, 1, none⟩ = some (.int .i64 y1) ∧ W'.cell? ⟨w2.heap.size, 2, none⟩ = some (.int .i64 y2) ∧ W'.cell? ⟨w2.heap.size, 3, none⟩ = some (.int .i64 y3) ∧ W'.cell? ⟨w2.heap.size, 4, none⟩ = some (.int .i64 y4) ∧ W'.cell? ⟨w2.heap.size, 5, none⟩ = some (.int .i64 y5) ∧ W'.cell? ⟨w2.heap.size, 6, none⟩ = some (.int .i64 y6) ∧ W'.cell? ⟨w2.heap.size, 7, none⟩ = some (.int .i64 y7) ∧ W'.cell? ⟨w3.heap.size, 0, none⟩ = some (.int .i64 y0) ∧ W'.cell? ⟨w3.heap.size, 1, none⟩ = some (.int .i64 y1) ∧ W'.cell? ⟨w3.heap.size, 2, none⟩ = some (.int .i64 y2) ∧ W'.cell? ⟨w3.heap.size, 3, none⟩ = some (.int .i64 y3) ∧ W'.cell? ⟨w3.heap.size, 4, none⟩ = some (.int .i64 y4) ∧ W'.cell? ⟨w3.heap.size, 5, none⟩ = some (.int .i64 y5) ∧ W'.cell? ⟨w3.heap.size, 6, none⟩ = some (.int .i64 y6) ∧ W'.cell? ⟨w3.heap.size, 7, none⟩ = some (.int .i64 y7)) ∧ Below wf.heap.size wf W') := by
      intro W hW
      have hh := works_any W
      skip
      refine hh.mono ?_
      rintro e W' ⟨rfl, hb⟩
      have hb' := hW.trans (hb.mono hW.size)
      obtain ⟨h0, h1, h2, h3, h4, h5, h6, h7, h8, h9, h10, h11, h12, h13, h14, h15⟩ := hq
      exact ⟨rfl, ⟨keep_cell h0 hb', keep_cell h1 hb', keep_cell h2 hb', keep_cell h3 hb', keep_cell h4 hb', keep_cell h5 hb', keep_cell h6 hb', keep_cell h7 hb', keep_cell h8 hb', keep_cell h9 hb', keep_cell h10 hb', keep_cell h11 hb', keep_cell h12 hb', keep_cell h13 hb', keep_cell h14 hb', keep_cell h15 hb'⟩, hb'⟩
    go_region_held3 (fun W' => (W'.cell? ⟨w2.heap.size, 0, none⟩ = some (.int .i64 y0) ∧ W'.cell? ⟨w2.heap.size, 1, none⟩ = some (.int .i64 y1) ∧ W'.cell? ⟨w2.heap.size, 2, none⟩ = some (.int .i64 y2) ∧ W'.cell? ⟨w2.heap.size, 3, none⟩ = some (.int .i64 y3) ∧ W'.cell? ⟨w2.heap.size, 4, none⟩ = some (.int .i64 y4) ∧ W'.cell? ⟨w2.heap.size, 5, none⟩ = some (.int .i64 y5) ∧ W'.cell? ⟨w2.heap.size, 6, none⟩ = some (.int .i64 y6) ∧ W'.cell? ⟨w2.heap.size, 7, none⟩ = some (.int .i64 y7) ∧ W'.cell? ⟨w3.heap.size, 0, none⟩ = some (.int .i64 y0) ∧ W'.cell? ⟨w3.heap.size, 1, none⟩ = some (.int .i64 y1) ∧ W'.cell? ⟨w3.heap.size, 2, none⟩ = some (.int .i64 y2) ∧ W'.cell? ⟨w3.heap.size, 3, none⟩ = some (.int .i64 y3) ∧ W'.cell? ⟨w3.heap.size, 4, none⟩ = some (.int .i64 y4) ∧ W'.cell? ⟨w3.heap.size, 5, none⟩ = some (.int .i64 y5) ∧ W'.cell? ⟨w3.heap.size, 6, none⟩ = some (.int .i64 y6) ∧ W'.cell? ⟨w3.heap.size, 7, none⟩ = some (.int .i64 y7))) (first | assumption | go_keep) (first | (go_at_call 13; refine (KR.out _ (by first | assumption | exact Below.refl _ _ | exact (Below.refl _ _).drew)).mono ?_; rintro e wz2 ⟨rfl, hz2, hy2⟩) | (go_at_call 16; refine (KS.out _ (by first | assumption | exact Below.refl _ _ | exact (Below.refl _ _).drew)).mono ?_; rintro e wz3 ⟨rfl, hz3, hy3⟩) | (go_at_call 17; refine (KW.out _ (by first | assumption | exact Below.refl _ _ | exact (Below.refl _ _).drew)).mono ?_; rintro e wz5 ⟨rfl, hz5, hy5⟩))
    all_goals go_wp2_with fail
    all_goals go_ret
    all_goals exact ⟨rfl, HB3.out.trans ((by assumption : Below wf.heap.size wf _).mono HB3.out.size)⟩
theorem bytes_arg {w : World} {v : Value} (h : ArgIn Try.prog w 26 v) : ∃ (A : Option Addr) (n c : Nat) (l : List (BitVec 8)), v = .slice A n c ∧ n = l.length ∧ n ≤ maxLen ∧ n ≤ c ∧ c ≤ maxLen ∧ Reads w w.heap.size 1 A n (u8s l) := by
  obtain ⟨A, n, c, zs, rfl, hr⟩ := h.row Try.underlying26 Try.underlying5 (by kernel_rfl)
  obtain ⟨l, h1, h2, h3, h4, h5⟩ := IsRow.bytes hr
  exact ⟨A, n, c, l, rfl, h1, h2, h3, h4, h5⟩
theorem SuperblockDecodes_walk (v0 : Value) (w : World) (h0 : ArgIn Try.prog w 26 v0) :
    Calls Try.prog 4 #[v0] w fun e w' => e = .returned (.bool true) ∧ Below w.heap.size w w' := by
  obtain ⟨A, n, c, l, rfl, h1, h2, h3, h4, h5⟩ := bytes_arg h0
  exact SuperblockDecodes_w A n c l h1 h2 h3 h4 w h5
end Go.Proofs.Ytbgahbeldnhloaa
