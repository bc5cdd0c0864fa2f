/-
  The walks of the law's ref and sample, and of its examples (works). No condition.
-/
import Derived.Test.YtbgahbeldnhloaaSupNext
import Derived.Test.YtbgahbeldnhloaaStr
namespace Go.Proofs.Ytbgahbeldnhloaa
open Go.RowKit Drum
set_option linter.unusedVariables false
/-- The superblock of the examples. -/
def S0 : Bk := bkN 3 6 256 2 200 8 16 1
theorem S0_ok : S0.ok := by unfold S0 bkN; decide
theorem S0_wf : S0.wf := by
  refine ⟨by unfold S0 bkN; decide, fun n hn => ?_⟩
  simp only [S0, bkN, Cf.nums, List.mem_cons, List.not_mem_nil, or_false] at hn
  rcases hn with rfl | rfl | rfl | rfl | rfl | rfl | rfl <;> decide
theorem S0_head : (encOf S0).drop 4 = restOf S0 := by
  unfold encOf
  rw [List.drop_append_of_le_length (by rw [le_length]; omega), List.drop_of_length_le (by rw [le_length]; omega), List.nil_append]
theorem S0_text : ((encOf S0).drop 4).take 24 = [68#8, 82#8, 85#8, 77#8, 3#8, 0#8, 0#8, 0#8, 0#8, 0#8, 0#8, 0#8, 6#8, 0#8, 0#8, 0#8, 0#8, 1#8, 0#8, 0#8, 2#8, 0#8, 0#8, 0#8] := by
  rw [S0_head]; decide
theorem S0_at8 : (encOf S0)[8]? = some 3#8 := by
  have : (encOf S0)[8]? = ((encOf S0).drop 4)[4]? := by rw [List.getElem?_drop]
  rw [this, S0_head]; decide
theorem S0_bad : csum ((((encOf S0).set 8 4#8).take 64).drop 4) ≠ BitVec.ofNat 32 (numTo ((encOf S0).set 8 4#8) 0 4) := by decide +kernel
theorem S0_bad2 : decOf ((encOf S0).set 8 4#8) = (15, bk0) := decOf_sum _ (by rw [List.length_set, encOf_length]; omega) S0_bad
set_option maxHeartbeats 400000 in
theorem sample_any (w : World) :
    Calls Try.prog 31 #[] w fun e w' => e = .returned (.agg #[.int .i64 3, .int .i64 6, .int .i64 256, .int .i64 2, .int .i64 200, .int .i64 8, .int .i64 16, .int .i64 1]) ∧ Below w.heap.size w w' := by
  go_enter Try.func31, Try.ntmps31
  go_wp2_with fail
  exact bodyPost_ret (results_blk rfl _ _ w.heap.size 25 #[.int .i64 3, .int .i64 6, .int .i64 256, .int .i64 2, .int .i64 200, .int .i64 8, .int .i64 16, .int .i64 1] _ rfl (Blk.new w _ _) Try.underlying25 rfl (by kernel_rfl)) rfl ⟨rfl, by go_grown⟩
set_option maxHeartbeats 400000 in
theorem ref_lit (c0 c1 c2 c3 c4 c5 c6 c7 : Int) (w : World) :
    Calls Try.prog 13 #[.agg #[.int .i64 c0, .int .i64 c1, .int .i64 c2, .int .i64 c3, .int .i64 c4, .int .i64 c5, .int .i64 c6, .int .i64 c7]] w fun e w' => e = .returned (.agg #[.int .i64 c0, .int .i64 c1, .int .i64 c2, .int .i64 c3, .int .i64 c4, .int .i64 c5, .int .i64 c6, .int .i64 c7]) ∧ Below w.heap.size w w' := by
  go_enter Try.func13, Try.ntmps13
  go_wp2_with fail
  exact bodyPost_ret (results_blk rfl _ _ (w.heap.size + 1) 31 #[.int .i64 c0, .int .i64 c1, .int .i64 c2, .int .i64 c3, .int .i64 c4, .int .i64 c5, .int .i64 c6, .int .i64 c7] _ rfl (blk2 w _ _ _ _) Try.underlying31 rfl (by kernel_rfl)) rfl ⟨rfl, by go_grown⟩
theorem ref_any (b : Bk) (w : World) :
    Calls Try.prog 13 #[.agg (bkv b)] w fun e w' => e = .returned (.agg (bkv b)) ∧ Below w.heap.size w w' := ref_lit _ _ _ _ _ _ _ _ w
theorem encode_S0 (w : World) : Calls Try.prog 11 #[.agg #[.int .i64 3, .int .i64 6, .int .i64 256, .int .i64 2, .int .i64 200, .int .i64 8, .int .i64 16, .int .i64 1]] w fun ed w' => ∃ g cs, ed = .returned (.tuple #[.slice (some ⟨g, 0, none⟩) 64 64, .int .i64 0]) ∧ w.heap.size ≤ g ∧ Blk w' g 5 cs ∧ cs.toList.take 64 = u8s (encOf S0) ∧ Below w.heap.size w w' := encode_any S0 S0_wf S0_ok w
theorem next_S0 (w : World) : Calls Try.prog 20 #[.agg #[.int .i64 3, .int .i64 6, .int .i64 256, .int .i64 2, .int .i64 200, .int .i64 8, .int .i64 16, .int .i64 1], .int .i64 2] w fun e w' => e = .returned (.tuple #[.agg #[.int .i64 4, .int .i64 6, .int .i64 256, .int .i64 2, .int .i64 200, .int .i64 8, .int .i64 16, .int .i64 2], .int .i64 0]) ∧ Below w.heap.size w w' := by
  have h := next_any S0 S0_wf 2 w
  rw [nextOf_ok S0_ok (.inr rfl) (by decide)] at h
  exact h
theorem next_S0_bad (w : World) : Calls Try.prog 20 #[.agg #[.int .i64 3, .int .i64 6, .int .i64 256, .int .i64 2, .int .i64 200, .int .i64 8, .int .i64 16, .int .i64 1], .int .i64 3] w fun e w' => e = .returned (.tuple #[.agg #[.int .i64 0, .int .i64 0, .int .i64 0, .int .i64 0, .int .i64 0, .int .i64 0, .int .i64 0, .int .i64 0], .int .i64 2]) ∧ Below w.heap.size w w' := by
  have h := next_any S0 S0_wf 3 w
  rw [nextOf_bad (fun h => by have := h.2; omega)] at h
  exact h
theorem S0_str : strOf (((encOf S0).drop 4).take 24) = { data := #[68, 82, 85, 77, 3, 0, 0, 0, 0, 0, 0, 0, 6, 0, 0, 0, 0, 1, 0, 0, 2, 0, 0, 0] } := by
  rw [S0_text]
  apply ByteArray.ext
  apply Array.toList_inj.1
  rw [strOf_list]
  rfl
theorem decode_lit (A : Option Addr) (n c B : Nat) (l : List (BitVec 8)) (e : Int) (b : Bk) (hd : decOf l = (e, b)) (hl : n = l.length) (hnm : n ≤ maxLen) (hnc : n ≤ c) (hcm : c ≤ maxLen) (w : World) (hr : Reads w B 1 A n (u8s l)) (hB : B ≤ w.heap.size) :
    Calls Try.prog 18 #[.slice A n c] w fun ed w' => ed = .returned (.tuple #[.agg #[.int .i64 b.epoch, .int .i64 b.conf.slots, .int .i64 b.conf.size, .int .i64 b.conf.reserve, .int .i64 b.conf.work, .int .i64 b.conf.key, .int .i64 b.conf.value, .int .i64 b.conf.policy], .int .i64 e]) ∧ Below w.heap.size w w' := by
  have h := decode_any A n c B l hl hnm hnc hcm w hr hB
  rw [hd] at h
  exact h
theorem keep_cell {W W' : World} {p : Addr} {v : Value} (h : W.cell? p = some v) (hb : Below W.heap.size W W') : W'.cell? p = some v := (hb.cell (block_lt_of_cell h)).trans h
theorem decode_S0 (A : Option Addr) (n c B : Nat) (more : List (BitVec 8)) (hl : n = 64 + more.length) (hnm : n ≤ maxLen) (hnc : n ≤ c) (hcm : c ≤ maxLen) (w : World) (hr : Reads w B 1 A n (u8s (encOf S0 ++ more))) (hB : B ≤ w.heap.size) :
    Calls Try.prog 18 #[.slice A n c] w fun ed w' => ed = .returned (.tuple #[.agg #[.int .i64 3, .int .i64 6, .int .i64 256, .int .i64 2, .int .i64 200, .int .i64 8, .int .i64 16, .int .i64 1], .int .i64 0]) ∧ Below w.heap.size w w' :=
  decode_lit A n c B (encOf S0 ++ more) 0 S0 (decOf_enc S0 S0_ok _) (by rw [List.length_append, encOf_length]; exact hl) hnm hnc hcm w hr hB
theorem decode_zero (A : Option Addr) (n c B : Nat) (l : List (BitVec 8)) (e : Int) (hd : decOf l = (e, bk0)) (hl : n = l.length) (hnm : n ≤ maxLen) (hnc : n ≤ c) (hcm : c ≤ maxLen) (w : World) (hr : Reads w B 1 A n (u8s l)) (hB : B ≤ w.heap.size) :
    Calls Try.prog 18 #[.slice A n c] w fun ed w' => ed = .returned (.tuple #[.agg #[.int .i64 0, .int .i64 0, .int .i64 0, .int .i64 0, .int .i64 0, .int .i64 0, .int .i64 0, .int .i64 0], .int .i64 e]) ∧ Below w.heap.size w w' :=
  decode_lit A n c B l e bk0 hd hl hnm hnc hcm w hr hB
set_option maxHeartbeats 8000000 in
theorem works_any (w : World) :
    Calls Try.prog 17 #[] w fun e w' => e = .returned (.bool true) ∧ Below w.heap.size w w' := by
  obtain ⟨i0, hi0, hz0, hz1, hz2⟩ := info_parts u8_info
  go_enter Try.func17, Try.ntmps17
  go_wp2_with fail
  refine (sample_any w).mono ?_
  rintro e w1 ⟨rfl, hb1⟩
  have HB1 := Lib.hid hb1
  clear hb1
  go_wp2_with fail
  refine (encode_S0 w1).mono ?_
  rintro e w2 ⟨g, cs, rfl, hg, hbk, htk, hb2⟩
  have HBK := Lib.hid hbk
  have HTK := Lib.hid htk
  have HB2 := Lib.hid (bt HB1.out hb2)
  clear hbk htk hb2
  have HRD : Hid (Reads w2 w2.heap.size 1 (some ⟨g, 0, none⟩) 64 (u8s (encOf S0))) := reads_blk HBK.out 0 64 _ (encOf_length S0) HTK.out
  have hconv : (convert 26 9 (.slice (some ⟨g, 4, none⟩) 24 60)).run Try.prog w2 = .ok (.string { data := #[68, 82, 85, 77, 3, 0, 0, 0, 0, 0, 0, 0, 6, 0, 0, 0, 0, 1, 0, 0, 2, 0, 0, 0] }) w2 := by
    rw [← S0_str]
    refine str_bytes (B := w2.heap.size) (reads_blk HBK.out 4 24 _ (by rw [List.length_take, List.length_drop, encOf_length]; rfl) ?_)
    rw [u8s_take, u8s_drop, ← HTK.out, List.drop_take, List.take_take]
    rfl
  have HX : Hid (Reads (w2.alloc (.cells #[.int .u8 120] 5)) (w2.heap.size + 1) 1 (some ⟨w2.heap.size, 0, none⟩) 1 (u8s [120#8])) := reads_new w2 _ _ (0, 0) [120#8] 1 rfl (by simp [u8s, u8v, n8])
  go_wp2_with (at_builtin
               refine wpList_append_full _ rfl _ _ 26 rfl w.heap.size 5 i0 Try.underlying26 hi0 hz0 hz1 hz2 ⟨g, 0, none⟩ 64 64 _ (encOf S0) rfl (HRD.out.alloc (Nat.le_refl _) _) ⟨w2.heap.size, 0, none⟩ 1 1 _ [120#8] rfl HX.out (by omega) (by omega) (by omega) (by omega) (by have := HB2.out.size; simp; omega) ?_
               intro v3 w3 hown3 hb3 _
               have HO3 := Lib.hid hown3
               have HB3 := Lib.hid (bt (ba HB2.out _) hb3)
               have hlt3 : w2.heap.size ≤ w3.heap.size := by have := hb3.size; simp at this; omega
               have HBK3 := Lib.hid ((HBK.out.alloc (.cells #[.int .u8 120] 5)).below hb3 (by have := HBK.out.lt; simp; omega))
               clear hown3 hb3)
  obtain ⟨A3, c3, rfl, hA3, hc3, hr3⟩ := own_slice HO3.out
  refine (decode_S0 A3 (64 + 1) c3 _ [120#8] rfl (by simp [maxLen]) hA3 hc3 w3 hr3 (Nat.le_refl _)).mono ?_
  rintro e w4 ⟨rfl, hb4⟩
  have HB4 := Lib.hid (ba (bt HB3.out hb4) (.cells #[.int .i64 3, .int .i64 6, .int .i64 256, .int .i64 2, .int .i64 200, .int .i64 8, .int .i64 16, .int .i64 1] 25))
  have HBK4 := Lib.hid ((HBK3.out.below hb4 HBK3.out.lt).alloc (.cells #[.int .i64 3, .int .i64 6, .int .i64 256, .int .i64 2, .int .i64 200, .int .i64 8, .int .i64 16, .int .i64 1] 25))
  have HP4 := Lib.hid (Blk.new w4 25 #[.int .i64 3, .int .i64 6, .int .i64 256, .int .i64 2, .int .i64 200, .int .i64 8, .int .i64 16, .int .i64 1])
  have hb4s : w3.heap.size ≤ w4.heap.size := hb4.size
  clear hb4 hr3 hconv
  go_wp2_with fail
  have HRD4 : Hid (Reads (w4.alloc (.cells #[.int .i64 3, .int .i64 6, .int .i64 256, .int .i64 2, .int .i64 200, .int .i64 8, .int .i64 16, .int .i64 1] 25)) (w4.alloc (.cells #[.int .i64 3, .int .i64 6, .int .i64 256, .int .i64 2, .int .i64 200, .int .i64 8, .int .i64 16, .int .i64 1] 25)).heap.size 1 (some ⟨g, 0, none⟩) 63 (u8s ((encOf S0).take 63))) :=
    (reads_blk HBK4.out 0 64 _ (encOf_length S0) HTK.out).take (by omega)
  refine (decode_zero (some ⟨g, 0, none⟩) 63 64 _ ((encOf S0).take 63) 14 (decOf_short _ (by rw [List.length_take, encOf_length]; omega)) (by rw [List.length_take, encOf_length]; rfl) (by simp [maxLen]) (by omega) (by simp [maxLen]) _ HRD4.out (Nat.le_refl _)).mono ?_
  rintro e w5 ⟨rfl, hb5⟩
  have HB5 := Lib.hid (ba (bt HB4.out hb5) (.cells #[.int .i64 0, .int .i64 0, .int .i64 0, .int .i64 0, .int .i64 0, .int .i64 0, .int .i64 0, .int .i64 0] 25))
  have HBK5 := Lib.hid ((HBK4.out.below hb5 HBK4.out.lt).alloc (.cells #[.int .i64 0, .int .i64 0, .int .i64 0, .int .i64 0, .int .i64 0, .int .i64 0, .int .i64 0, .int .i64 0] 25))
  have HP5 := Lib.hid ((HP4.out.below hb5 HP4.out.lt).alloc (.cells #[.int .i64 0, .int .i64 0, .int .i64 0, .int .i64 0, .int .i64 0, .int .i64 0, .int .i64 0, .int .i64 0] 25))
  have hcs8 : cs[8]? = some (.int .u8 3) := by
    have h1 : cs.toList[8]? = (cs.toList.take 64)[8]? := by rw [List.getElem?_take]; rfl
    rw [HTK.out] at h1
    have h2 : (u8s (encOf S0))[8]? = some (.int .u8 (n8 3#8)) := by
      simp only [u8s, List.getElem?_map, S0_at8]; rfl
    rw [h2] at h1
    have h3 : n8 3#8 = 3 := by unfold n8; rfl
    rw [h3] at h1
    simpa using h1
  have q8 : (w5.alloc (.cells #[.int .i64 0, .int .i64 0, .int .i64 0, .int .i64 0, .int .i64 0, .int .i64 0, .int .i64 0, .int .i64 0] 25)).cell? ⟨g, 8, none⟩ = some (.int .u8 3) := (HBK5.out.cell 8).trans hcs8
  have f8 : (w5.alloc (.cells #[.int .i64 0, .int .i64 0, .int .i64 0, .int .i64 0, .int .i64 0, .int .i64 0, .int .i64 0, .int .i64 0] 25)).frozen? ⟨g, 8, none⟩ = false := HBK5.out.frozen 8
  clear hb5 hcs8
  go_wp2_with fail
  obtain ⟨w6, hw6⟩ : ∃ w6 : World, w6 = (w5.alloc (.cells #[.int .i64 0, .int .i64 0, .int .i64 0, .int .i64 0, .int .i64 0, .int .i64 0, .int .i64 0, .int .i64 0] 25)).setCell ⟨g, 8, none⟩ (.int .u8 4) := ⟨_, rfl⟩
  rw [← hw6]
  have hgw : w.heap.size ≤ g := by have := HB1.out.size; omega
  have hg4 : g ≠ w4.heap.size := by have := HBK3.out.lt; have := hb4s; omega
  have HBK6 : Hid (Blk w6 g 5 (cs.setIfInBounds 8 (.int .u8 4))) := by rw [hw6]; exact HBK5.out.set_ 8 _
  have HB6 : Hid (Below w.heap.size w w6) := by rw [hw6]; exact HB5.out.setCell (p := ⟨g, 8, none⟩) hgw _
  have HP6 : Hid (Blk w6 w4.heap.size 25 #[.int .i64 3, .int .i64 6, .int .i64 256, .int .i64 2, .int .i64 200, .int .i64 8, .int .i64 16, .int .i64 1]) := by rw [hw6]; exact HP5.out.far (p := ⟨g, 8, none⟩) (Ne.symm hg4) _
  have HTK6 : Hid ((cs.setIfInBounds 8 (.int .u8 4)).toList.take 64 = u8s ((encOf S0).set 8 4#8)) := by
    have h4 : n8 4#8 = 4 := by unfold n8; rfl
    show _ = _
    rw [u8s_set, h4, ← HTK.out, Array.toList_setIfInBounds, List.take_set]
  clear hw6 q8 f8
  refine (decode_zero (some ⟨g, 0, none⟩) 64 64 _ ((encOf S0).set 8 4#8) 15 S0_bad2 (by rw [List.length_set, encOf_length]) (by simp [maxLen]) (by omega) (by simp [maxLen]) w6 (reads_blk HBK6.out 0 64 _ (by rw [List.length_set, encOf_length]) HTK6.out) (Nat.le_refl _)).mono ?_
  rintro e w7 ⟨rfl, hb7⟩
  have HB7 := Lib.hid (ba (bt HB6.out hb7) (.cells #[.int .i64 0, .int .i64 0, .int .i64 0, .int .i64 0, .int .i64 0, .int .i64 0, .int .i64 0, .int .i64 0] 25))
  have HP7 := Lib.hid ((HP6.out.below hb7 HP6.out.lt).alloc (.cells #[.int .i64 0, .int .i64 0, .int .i64 0, .int .i64 0, .int .i64 0, .int .i64 0, .int .i64 0, .int .i64 0] 25))
  clear hb7
  go_wp2_with fail
  refine (sample_any _).mono ?_
  rintro e w8 ⟨rfl, hb8⟩
  have HB8 := Lib.hid (bt HB7.out hb8)
  have HP8 := Lib.hid (HP7.out.below hb8 HP7.out.lt)
  clear hb8
  go_wp2_with fail
  refine (next_S0 w8).mono ?_
  rintro e w9 ⟨rfl, hb9⟩
  have HB9 := Lib.hid (ba (bt HB8.out hb9) (.cells #[.int .i64 4, .int .i64 6, .int .i64 256, .int .i64 2, .int .i64 200, .int .i64 8, .int .i64 16, .int .i64 2] 25))
  have HP9 := Lib.hid ((HP8.out.below hb9 HP8.out.lt).alloc (.cells #[.int .i64 4, .int .i64 6, .int .i64 256, .int .i64 2, .int .i64 200, .int .i64 8, .int .i64 16, .int .i64 2] 25))
  have HN9 := Lib.hid (Blk.new w9 25 #[.int .i64 4, .int .i64 6, .int .i64 256, .int .i64 2, .int .i64 200, .int .i64 8, .int .i64 16, .int .i64 2])
  clear hb9
  go_wp2_with fail
  refine (sample_any _).mono ?_
  rintro e w10 ⟨rfl, hb10⟩
  have HB10 := Lib.hid (bt HB9.out hb10)
  have HP10 := Lib.hid (HP9.out.below hb10 HP9.out.lt)
  have HN10 := Lib.hid (HN9.out.below hb10 HN9.out.lt)
  clear hb10
  go_wp2_with fail
  refine (next_S0_bad w10).mono ?_
  rintro e w11 ⟨rfl, hb11⟩
  have HB11 := Lib.hid (ba (bt HB10.out hb11) (.cells #[.int .i64 0, .int .i64 0, .int .i64 0, .int .i64 0, .int .i64 0, .int .i64 0, .int .i64 0, .int .i64 0] 25))
  have HP11 := Lib.hid ((HP10.out.below hb11 HP10.out.lt).alloc (.cells #[.int .i64 0, .int .i64 0, .int .i64 0, .int .i64 0, .int .i64 0, .int .i64 0, .int .i64 0, .int .i64 0] 25))
  have HN11 := Lib.hid ((HN10.out.below hb11 HN10.out.lt).alloc (.cells #[.int .i64 0, .int .i64 0, .int .i64 0, .int .i64 0, .int .i64 0, .int .i64 0, .int .i64 0, .int .i64 0] 25))
  clear hb11
  go_wp2_with fail
  obtain ⟨wf, hwf⟩ : ∃ wf : World, wf = w11.alloc (.cells #[.int .i64 0, .int .i64 0, .int .i64 0, .int .i64 0, .int .i64 0, .int .i64 0, .int .i64 0, .int .i64 0] 25) := ⟨_, rfl⟩
  rw [← hwf] at HB11 HP11 HN11 ⊢
  clear hwf
  have hq : (wf.cell? ⟨w4.heap.size, 0, none⟩ = some (.int .i64 3) ∧ wf.cell? ⟨w4.heap.size, 1, none⟩ = some (.int .i64 6) ∧ wf.cell? ⟨w4.heap.size, 2, none⟩ = some (.int .i64 256) ∧ wf.cell? ⟨w4.heap.size, 3, none⟩ = some (.int .i64 2) ∧ wf.cell? ⟨w4.heap.size, 4, none⟩ = some (.int .i64 200) ∧ wf.cell? ⟨w4.heap.size, 5, none⟩ = some (.int .i64 8) ∧ wf.cell? ⟨w4.heap.size, 6, none⟩ = some (.int .i64 16) ∧ wf.cell? ⟨w4.heap.size, 7, none⟩ = some (.int .i64 1) ∧ wf.cell? ⟨w9.heap.size, 0, none⟩ = some (.int .i64 4) ∧ wf.cell? ⟨w9.heap.size, 1, none⟩ = some (.int .i64 6) ∧ wf.cell? ⟨w9.heap.size, 7, none⟩ = some (.int .i64 2)) := ⟨HP11.out.cell 0, HP11.out.cell 1, HP11.out.cell 2, HP11.out.cell 3, HP11.out.cell 4, HP11.out.cell 5, HP11.out.cell 6, HP11.out.cell 7, HN11.out.cell 0, HN11.out.cell 1, HN11.out.cell 7⟩
  have CSA : Hid (∀ W, Below wf.heap.size wf W → Calls Try.prog 31 #[] W fun e W' => e = .returned (.agg #[.int .i64 3, .int .i64 6, .int .i64 256, .int .i64 2, .int .i64 200, .int .i64 8, .int .i64 16, .int .i64 1]) ∧ (W'.cell? ⟨w4.heap.size, 0, none⟩ = some (.int .i64 3) ∧ W'.cell? ⟨w4.heap.size, 1, none⟩ = some (.int .i64 6) ∧ W'.cell? ⟨w4.heap.size, 2, none⟩ = some (.int .i64 256) ∧ W'.cell? ⟨w4.heap.size, 3, none⟩ = some (.int .i64 2) ∧ W'.cell? ⟨w4.heap.size, 4, none⟩ = some (.int .i64 200) ∧ W'.cell? ⟨w4.heap.size, 5, none⟩ = some (.int .i64 8) ∧ W'.cell? ⟨w4.heap.size, 6, none⟩ = some (.int .i64 16) ∧ W'.cell? ⟨w4.heap.size, 7, none⟩ = some (.int .i64 1) ∧ W'.cell? ⟨w9.heap.size, 0, none⟩ = some (.int .i64 4) ∧ W'.cell? ⟨w9.heap.size, 1, none⟩ = some (.int .i64 6) ∧ W'.cell? ⟨w9.heap.size, 7, none⟩ = some (.int .i64 2)) ∧ Below wf.heap.size wf W') := by
    intro W hW
    refine (sample_any W).mono ?_
    rintro e W' ⟨rfl, hb⟩
    have hb' := hW.trans (hb.mono hW.size)
    obtain ⟨h0, h1, h2, h3, h4, h5, h6, h7, h8, h9, h10⟩ := hq
    exact ⟨rfl, ⟨keep_cell h0 hb', keep_cell h1 hb', keep_cell h2 hb', keep_cell h3 hb', keep_cell h4 hb', keep_cell h5 hb', keep_cell h6 hb', keep_cell h7 hb', keep_cell h8 hb', keep_cell h9 hb', keep_cell h10 hb'⟩, hb'⟩
  go_region_held3 (fun W' => (W'.cell? ⟨w4.heap.size, 0, none⟩ = some (.int .i64 3) ∧ W'.cell? ⟨w4.heap.size, 1, none⟩ = some (.int .i64 6) ∧ W'.cell? ⟨w4.heap.size, 2, none⟩ = some (.int .i64 256) ∧ W'.cell? ⟨w4.heap.size, 3, none⟩ = some (.int .i64 2) ∧ W'.cell? ⟨w4.heap.size, 4, none⟩ = some (.int .i64 200) ∧ W'.cell? ⟨w4.heap.size, 5, none⟩ = some (.int .i64 8) ∧ W'.cell? ⟨w4.heap.size, 6, none⟩ = some (.int .i64 16) ∧ W'.cell? ⟨w4.heap.size, 7, none⟩ = some (.int .i64 1) ∧ W'.cell? ⟨w9.heap.size, 0, none⟩ = some (.int .i64 4) ∧ W'.cell? ⟨w9.heap.size, 1, none⟩ = some (.int .i64 6) ∧ W'.cell? ⟨w9.heap.size, 7, none⟩ = some (.int .i64 2))) (first | assumption | go_keep) (first | (go_at_call 31; refine (CSA.out _ (by first | exact Below.refl _ _ | exact (Below.refl _ _).drew | assumption)).mono ?_; rintro e w12 ⟨rfl, hq2, hb12⟩))
  go_wp2_with fail
  go_ret
  exact ⟨rfl, HB11.out.trans (hb12.mono HB11.out.size)⟩
end Go.Proofs.Ytbgahbeldnhloaa
