/-
  The walk of superblock.Decode; The walks of the document's little, number and Encode; The walks of the document's Decode, of Next and the document's Next, and of the law's sample; The walks of Next and the document's Next, of the law's ref and sample.
-/
import Derived.Test.YtnopljanpjmbgaaGreatML
import Derived.Test.YtnopljanpjmbgaaGreatMK
import Derived.Lib.SlBytesConst
namespace Go.Proofs.YtnopljanpjmbgaaGreat
open Go.RowKit Drum
set_option linter.unusedVariables false
theorem bk_size : (Tryz.prog.info? 33).map (·.size) = some 8 := by kernel_rfl
theorem bkv_one (b : Bk) : (bkv b).all (·.oneCell') = true := by simp [bkv, Value.oneCell']
theorem blk2 (w : World) (cs cs' : Array Value) (t t' : TypeId) : Blk ((w.alloc (.cells cs t)).alloc (.cells cs' t')) (w.heap.size + 1) t' cs' := by
  have := Blk.new (w.alloc (.cells cs t)) t' cs'
  rw [World.size_alloc] at this
  exact this
set_option maxHeartbeats 1000000 in
theorem get_any {gb : Nat} {A : Option Addr} {c B : Nat} {l : List (BitVec 8)} (a k : Nat) (hk : k = 4 ∨ k = 8) (ha : a + k ≤ 64) (hl : l.length = 64) {w : World} (hr : Reads w B 1 A 64 (u8s l)) (hB : B ≤ w.heap.size) (hb : Blk w gb 23 #[.slice A 64 c]) :
    Calls Tryz.prog 130 #[.int .i64 (a : Int), .int .i64 (k : Int), .pointer (some ⟨gb, 0, none⟩)] w fun e w' => e = .returned (.int .u64 (numTo l a k : Int)) ∧ Below w.heap.size w w' := by
  have HC := Lib.hid (uint_any A 64 c B l a k hk ha w hr hB hl.symm (by simp [maxLen]))
  have q0 : w.cell? ⟨gb, 0, none⟩ = some (.slice A 64 c) := hb.cell 0
  clear hr hb hk ha hl
  go_enter Tryz.func130, Tryz.ntmps130
  go_wp2_with fail
  refine HC.out.mono ?_
  rintro e w1 ⟨rfl, hb1⟩
  have HB := Lib.hid hb1
  clear hb1
  go_wp2_with fail
  go_ret
  exact ⟨rfl, HB.out⟩
set_option maxHeartbeats 1000000 in
theorem decode_short (A : Option Addr) (n c : Nat) (hn : n < 64) (w : World) :
    Calls Tryz.prog 91 #[.slice A n c] w fun e w' => e = .returned (.tuple #[.agg (bkv bk0), .int .i64 14]) ∧ Below w.heap.size w w' := by
  go_enter Tryz.func91, Tryz.ntmps91
  go_wp2_with fail
  exact bodyPost_ret (results_blk_tmp rfl _ _ (w.heap.size + 1) 33 (bkv bk0) _ rfl (blk2 w _ _ _ _) Tryz.underlying33 rfl bk_size) rfl ⟨rfl, by go_grown⟩
set_option maxHeartbeats 16000000 in
theorem decode_long (A : Option Addr) (n c B : Nat) (l : List (BitVec 8)) (hn : 64 ≤ n) (hnm : n ≤ maxLen) (hnc : n ≤ c) (hcm : c ≤ maxLen) (hl : l.length = 64) (w : World) (hr : Reads w B 1 A 64 (u8s l)) (hB : B ≤ w.heap.size) :
    Calls Tryz.prog 91 #[.slice A n c] w fun e w' => e = .returned (.tuple #[.agg (bkv (decOf l).2), .int .i64 (decOf l).1]) ∧ Below w.heap.size w w' := by
  unfold maxLen at hnm hcm
  obtain ⟨ad, rfl, _⟩ := hr.2 (by omega)
  obtain ⟨W0, hW0⟩ : ∃ W0 : World, W0 = (w.alloc (.cells #[.slice (some ad) 64 c] 23)).alloc (.cells #[.int .i64 0, .int .i64 0, .int .i64 0, .int .i64 0, .int .i64 0, .int .i64 0, .int .i64 0, .int .i64 0] 33) := ⟨_, rfl⟩
  have HB1 : Hid (Blk W0 w.heap.size 23 #[.slice (some ad) 64 c]) := by rw [hW0]; exact (Blk.new w _ _).alloc _
  have HB2 : Hid (Blk W0 (w.heap.size + 1) 33 (bkv bk0)) := by rw [hW0]; exact blk2 w _ _ _ _
  have HBW : Hid (Below w.heap.size w W0) := by rw [hW0]; exact ((Below.refl w.heap.size w).alloc (Nat.le_refl _) _).alloc (by simp) _
  have HR := Lib.hid (hr.below (HBW.out.mono hB) : Reads W0 B 1 (some ad) 64 (u8s l))
  have HL := Lib.hid hl
  have hs0 : w.heap.size + 2 = W0.heap.size := by rw [hW0]; simp
  have HS0 := Lib.hid hs0
  have HW0 := Lib.hid hW0
  have q0 : W0.cell? ⟨w.heap.size, 0, none⟩ = some (.slice (some ad) 64 c) := HB1.out.cell 0
  have CG : Hid (∀ W (a k : Nat), (k = 4 ∨ k = 8) → a + k ≤ 64 → Below W0.heap.size W0 W → Calls Tryz.prog 130 #[.int .i64 (a : Int), .int .i64 (k : Int), .pointer (some ⟨w.heap.size, 0, none⟩)] W fun e W' => e = .returned (.int .u64 (numTo l a k : Int)) ∧ W'.cell? ⟨w.heap.size, 0, none⟩ = some (.slice (some ad) 64 c) ∧ Below W0.heap.size W0 W' ∧ Below W.heap.size W W') := by
    intro W a k hk ha hW
    refine (get_any (c := c) a k hk ha HL.out (HR.out.below (hW.mono (by have := HBW.out.size; omega))) (by have := HBW.out.size; have := hW.size; omega) (HB1.out.below hW (by have := HS0.out; omega))).mono ?_
    rintro e W' ⟨rfl, hb⟩
    have hW' := hW.trans (hb.mono hW.size)
    exact ⟨rfl, (HB1.out.below hW' (by have := HS0.out; omega)).cell 0, hW', hb⟩
  have CV : Hid (∀ W (s : Nat), s < 4294967296 → Below W0.heap.size W0 W → Calls Tryz.prog 132 #[.slice (some ⟨ad.block, ad.off + 4, none⟩) 60 (c - 4), .int .u32 (IntKind.u32.wrap (s : Int))] W fun e W' => e = .returned (.bool (decide (csum (l.drop 4) = BitVec.ofNat 32 s))) ∧ W'.cell? ⟨w.heap.size, 0, none⟩ = some (.slice (some ad) 64 c) ∧ Below W0.heap.size W0 W') := by
    intro W s hs hW
    have hx : n32 (BitVec.ofNat 32 s) = (s : Int) := by rw [n32_nat, BitVec.toNat_ofNat, Nat.mod_eq_of_lt hs]
    have hr2 := (HR.out.below (hW.mono (by have := HBW.out.size; omega)) : Reads W B 1 (some ad) 64 (u8s l))
    have hr3 : Reads W B 1 (some (ad.add 4)) 60 (u8s (l.drop 4)) := by
      obtain ⟨ad', e1, hb', hc'⟩ := hr2.2 (by omega)
      injection e1 with e1
      subst e1
      refine ⟨by rw [u8s_length, List.length_drop, HL.out], fun _ => ⟨_, rfl, by rw [block_of_add]; exact hb', fun j u hu => ?_⟩⟩
      rw [add_of_add]
      refine hc' _ _ ?_
      rw [← hu, u8s_drop, List.getElem?_drop]
    have h := valid_any (some (ad.add 4)) 60 (c - 4) B (l.drop 4) (BitVec.ofNat 32 s) W hr3 (by have := HBW.out.size; have := hW.size; omega) (by rw [List.length_drop, HL.out]) (by simp [maxLen])
    have hw32 : IntKind.u32.wrap (s : Int) = (s : Int) := by
      simp only [IntKind.wrap, IntKind.signed, IntKind.bits]
      simp
      omega
    have had : (⟨ad.block, ad.off + 4, none⟩ : Addr) = ad.add 4 := by unfold Addr.add; simp
    rw [hx] at h
    rw [hw32, had]
    refine h.mono ?_
    rintro e W' ⟨rfl, hb⟩
    have hW' := hW.trans (hb.mono hW.size)
    exact ⟨rfl, (HB1.out.below hW' (by have := HS0.out; omega)).cell 0, hW'⟩
  clear hW0 hr hl hs0
  go_enter Tryz.func91, Tryz.ntmps91
  go_wp2_with fail
  rw [← HW0.out]
  obtain ⟨s, hs, HS⟩ : ∃ s : Nat, s < 4294967296 ∧ Hid (numTo l 0 4 = s) := ⟨_, numTo_lt l 0 4, rfl⟩
  have CG0 : Hid (∀ W, Below W0.heap.size W0 W → Calls Tryz.prog 130 #[.int .i64 0, .int .i64 4, .pointer (some ⟨w.heap.size, 0, none⟩)] W fun e W' => e = .returned (.int .u64 (s : Int)) ∧ W'.cell? ⟨w.heap.size, 0, none⟩ = some (.slice (some ad) 64 c) ∧ Below W0.heap.size W0 W') := by
    intro W hW
    have := CG.out W 0 4 (.inl rfl) (by omega) hW
    rw [HS.out] at this
    exact this.mono fun e W' ⟨h1, h2, h3, _⟩ => ⟨h1, h2, h3⟩
  go_region_held3 (fun w' => w'.cell? ⟨w.heap.size, 0, none⟩ = some (.slice (some ad) 64 c)) (first | assumption | go_keep)
    (first | (go_at_call 130; refine (CG0.out _ (by first | exact Below.refl _ _ | exact (Below.refl _ _).drew | assumption)).mono ?_; rintro e w4 ⟨rfl, hq1, hb1⟩) | (go_at_call 132; refine (CV.out _ s hs (by assumption)).mono ?_; rintro e w5 ⟨rfl, hq2, hb2⟩))
  have HT : Hid ((l.take 64).drop 4 = l.drop 4) := by show _ = _; rw [List.take_of_length_le (by have := HL.out; omega)]
  have hg1 : w.heap.size + 1 < W0.heap.size := by have := HS0.out; omega
  have HB5 := Lib.hid (HB2.out.below hb2 hg1)
  have HBW5 := Lib.hid (HBW.out.trans (hb2.mono HBW.out.size))
  have HH2 := Lib.hid hb2
  have CG8 := Lib.hid (CG.out w5 8 8 (.inr rfl) (by omega) hb2)
  clear hb1 hb2 hq1 CV CG0
  by_cases hsum : csum (l.drop 4) = BitVec.ofNat 32 s
  · rw [decide_eq_true hsum]
    have HSUM := Lib.hid hsum
    obtain ⟨ep, hep⟩ : ∃ ep : Nat, numTo l 8 8 = ep := ⟨_, rfl⟩
    have hep64 : ep < 18446744073709551616 := by rw [← hep]; exact numTo_lt l 8 8
    rw [hep] at CG8
    have HEP := Lib.hid hep
    clear hsum hep
    go_wp2_with fail
    refine CG8.out.mono ?_
    rintro e w6 ⟨rfl, hq6, hb6, _⟩
    have HH6 := Lib.hid hb6
    have HB6 := Lib.hid (HB2.out.below hb6 hg1)
    have HBW6 := Lib.hid (HBW.out.trans (hb6.mono HBW.out.size))
    clear hb6 CG8 hq2
    by_cases hbig : 1099511627776 < ep
    · have HD : Hid (decOf l = (8, bk0)) := by
        show _ = _
        unfold decOf
        rw [if_neg (by have := HL.out; omega), HT.out, if_neg (by rw [HS.out]; exact fun h => h HSUM.out), if_pos (by rw [HEP.out]; exact hbig)]
      go_wp2_with (refine wpList_store_row rfl 33 _ _ rfl (w.heap.size + 1) (bkv bk0) rfl rfl 33 (bkv bk0) HB6.out bk_size rfl (bkv_one _) ?_)
      exact bodyPost_ret (results_blk_tmp rfl _ _ (w.heap.size + 1) 33 (bkv bk0) _ rfl (setRow_heap _ _ _ _ _ _ HB6.out) Tryz.underlying33 rfl bk_size) rfl ⟨by rw [HD.out]; rfl, below_setRow HBW6.out (by omega) _⟩
    · have hepb : ep ≤ 1099511627776 := by omega
      obtain ⟨n1, hb1, HN1⟩ : ∃ m : Nat, m < 4294967296 ∧ Hid (numTo l 16 4 = m) := ⟨_, numTo_lt l 16 4, rfl⟩
      have CG_1 : Hid (∀ W, Below W0.heap.size W0 W → Calls Tryz.prog 130 #[.int .i64 16, .int .i64 4, .pointer (some ⟨w.heap.size, 0, none⟩)] W fun e W' => e = .returned (.int .u64 (n1 : Int)) ∧ Below W0.heap.size W0 W' ∧ Below W.heap.size W W') := by
        intro W hW
        have := CG.out W 16 4 (.inl rfl) (by omega) hW
        rw [HN1.out] at this
        exact this.mono fun e W' ⟨h1, h2, h3, h4⟩ => ⟨h1, h3, h4⟩
      obtain ⟨n2, hb2, HN2⟩ : ∃ m : Nat, m < 4294967296 ∧ Hid (numTo l 20 4 = m) := ⟨_, numTo_lt l 20 4, rfl⟩
      have CG_2 : Hid (∀ W, Below W0.heap.size W0 W → Calls Tryz.prog 130 #[.int .i64 20, .int .i64 4, .pointer (some ⟨w.heap.size, 0, none⟩)] W fun e W' => e = .returned (.int .u64 (n2 : Int)) ∧ Below W0.heap.size W0 W' ∧ Below W.heap.size W W') := by
        intro W hW
        have := CG.out W 20 4 (.inl rfl) (by omega) hW
        rw [HN2.out] at this
        exact this.mono fun e W' ⟨h1, h2, h3, h4⟩ => ⟨h1, h3, h4⟩
      obtain ⟨n3, hb3, HN3⟩ : ∃ m : Nat, m < 4294967296 ∧ Hid (numTo l 24 4 = m) := ⟨_, numTo_lt l 24 4, rfl⟩
      have CG_3 : Hid (∀ W, Below W0.heap.size W0 W → Calls Tryz.prog 130 #[.int .i64 24, .int .i64 4, .pointer (some ⟨w.heap.size, 0, none⟩)] W fun e W' => e = .returned (.int .u64 (n3 : Int)) ∧ Below W0.heap.size W0 W' ∧ Below W.heap.size W W') := by
        intro W hW
        have := CG.out W 24 4 (.inl rfl) (by omega) hW
        rw [HN3.out] at this
        exact this.mono fun e W' ⟨h1, h2, h3, h4⟩ => ⟨h1, h3, h4⟩
      obtain ⟨n4, hb4, HN4⟩ : ∃ m : Nat, m < 4294967296 ∧ Hid (numTo l 28 4 = m) := ⟨_, numTo_lt l 28 4, rfl⟩
      have CG_4 : Hid (∀ W, Below W0.heap.size W0 W → Calls Tryz.prog 130 #[.int .i64 28, .int .i64 4, .pointer (some ⟨w.heap.size, 0, none⟩)] W fun e W' => e = .returned (.int .u64 (n4 : Int)) ∧ Below W0.heap.size W0 W' ∧ Below W.heap.size W W') := by
        intro W hW
        have := CG.out W 28 4 (.inl rfl) (by omega) hW
        rw [HN4.out] at this
        exact this.mono fun e W' ⟨h1, h2, h3, h4⟩ => ⟨h1, h3, h4⟩
      obtain ⟨n5, hb5, HN5⟩ : ∃ m : Nat, m < 4294967296 ∧ Hid (numTo l 32 4 = m) := ⟨_, numTo_lt l 32 4, rfl⟩
      have CG_5 : Hid (∀ W, Below W0.heap.size W0 W → Calls Tryz.prog 130 #[.int .i64 32, .int .i64 4, .pointer (some ⟨w.heap.size, 0, none⟩)] W fun e W' => e = .returned (.int .u64 (n5 : Int)) ∧ Below W0.heap.size W0 W' ∧ Below W.heap.size W W') := by
        intro W hW
        have := CG.out W 32 4 (.inl rfl) (by omega) hW
        rw [HN5.out] at this
        exact this.mono fun e W' ⟨h1, h2, h3, h4⟩ => ⟨h1, h3, h4⟩
      obtain ⟨n6, hb6, HN6⟩ : ∃ m : Nat, m < 4294967296 ∧ Hid (numTo l 36 4 = m) := ⟨_, numTo_lt l 36 4, rfl⟩
      have CG_6 : Hid (∀ W, Below W0.heap.size W0 W → Calls Tryz.prog 130 #[.int .i64 36, .int .i64 4, .pointer (some ⟨w.heap.size, 0, none⟩)] W fun e W' => e = .returned (.int .u64 (n6 : Int)) ∧ Below W0.heap.size W0 W' ∧ Below W.heap.size W W') := by
        intro W hW
        have := CG.out W 36 4 (.inl rfl) (by omega) hW
        rw [HN6.out] at this
        exact this.mono fun e W' ⟨h1, h2, h3, h4⟩ => ⟨h1, h3, h4⟩
      obtain ⟨n7, hb7, HN7⟩ : ∃ m : Nat, m < 4294967296 ∧ Hid (numTo l 40 4 = m) := ⟨_, numTo_lt l 40 4, rfl⟩
      have CG_7 : Hid (∀ W, Below W0.heap.size W0 W → Calls Tryz.prog 130 #[.int .i64 40, .int .i64 4, .pointer (some ⟨w.heap.size, 0, none⟩)] W fun e W' => e = .returned (.int .u64 (n7 : Int)) ∧ Below W0.heap.size W0 W' ∧ Below W.heap.size W W') := by
        intro W hW
        have := CG.out W 40 4 (.inl rfl) (by omega) hW
        rw [HN7.out] at this
        exact this.mono fun e W' ⟨h1, h2, h3, h4⟩ => ⟨h1, h3, h4⟩
      have HX : Hid (readOf l = bkN ep n1 n2 n3 n4 n5 n6 n7) := by
        show _ = _
        unfold readOf bkN
        rw [HEP.out, HN1.out, HN2.out, HN3.out, HN4.out, HN5.out, HN6.out, HN7.out]
      have HD : Hid (decOf l = if (readOf l).ok ∧ encOf (readOf l) = l then (0, readOf l) else (8, bk0)) := by
        show _ = _
        unfold decOf
        rw [if_neg (by have := HL.out; omega), HT.out, if_neg (by rw [HS.out]; exact fun h => h HSUM.out), if_neg (by rw [HEP.out]; omega), List.take_of_length_le (l := l) (by have := HL.out; omega)]
      rw [HX.out] at HD
      clear hq6 CG hbig
      go_wp2_with fail
      obtain ⟨wx, hwx⟩ : ∃ wx : World, wx = w6.alloc (.cells #[.int .i64 (ep : Int), .int .i64 0, .int .i64 0, .int .i64 0, .int .i64 0, .int .i64 0, .int .i64 0, .int .i64 0] 33) := ⟨_, rfl⟩
      rw [← hwx]
      have HBX : Hid (Blk wx w6.heap.size 33 #[.int .i64 (ep : Int), .int .i64 0, .int .i64 0, .int .i64 0, .int .i64 0, .int .i64 0, .int .i64 0, .int .i64 0]) := by rw [hwx]; exact Blk.new _ _ _
      have HHX : Hid (Below W0.heap.size W0 wx) := by rw [hwx]; exact HH6.out.alloc HH6.out.size _
      have hW6 : W0.heap.size ≤ w6.heap.size := HH6.out.size
      clear hwx
      have HNUM := Lib.hid (numbers_any w6.heap.size wx)
      simp only [numPtrs, ptr] at HNUM
      refine HNUM.out.mono ?_
      rintro e w7 ⟨rfl, hb7⟩
      have HB7 := Lib.hid (HBX.out.below hb7 HBX.out.lt)
      have HH7 := Lib.hid (HHX.out.trans (hb7.mono HHX.out.size))
      clear hb7 HNUM HBX HHX
      go_wp2_with fail
      go_loopg [36] 7 (fun q v36 wr => ∃ j : Nat, j + q = 7 ∧ v36 = .int .i64 j ∧ Below W0.heap.size W0 wr ∧ ((j = 0 ∧ Blk wr w6.heap.size 33 #[.int .i64 (ep : Int), .int .i64 0, .int .i64 0, .int .i64 0, .int .i64 0, .int .i64 0, .int .i64 0, .int .i64 0]) ∨ (j = 1 ∧ Blk wr w6.heap.size 33 #[.int .i64 (ep : Int), .int .i64 (n1 : Int), .int .i64 0, .int .i64 0, .int .i64 0, .int .i64 0, .int .i64 0, .int .i64 0]) ∨ (j = 2 ∧ Blk wr w6.heap.size 33 #[.int .i64 (ep : Int), .int .i64 (n1 : Int), .int .i64 (n2 : Int), .int .i64 0, .int .i64 0, .int .i64 0, .int .i64 0, .int .i64 0]) ∨ (j = 3 ∧ Blk wr w6.heap.size 33 #[.int .i64 (ep : Int), .int .i64 (n1 : Int), .int .i64 (n2 : Int), .int .i64 (n3 : Int), .int .i64 0, .int .i64 0, .int .i64 0, .int .i64 0]) ∨
          (j = 4 ∧ Blk wr w6.heap.size 33 #[.int .i64 (ep : Int), .int .i64 (n1 : Int), .int .i64 (n2 : Int), .int .i64 (n3 : Int), .int .i64 (n4 : Int), .int .i64 0, .int .i64 0, .int .i64 0]) ∨ (j = 5 ∧ Blk wr w6.heap.size 33 #[.int .i64 (ep : Int), .int .i64 (n1 : Int), .int .i64 (n2 : Int), .int .i64 (n3 : Int), .int .i64 (n4 : Int), .int .i64 (n5 : Int), .int .i64 0, .int .i64 0]) ∨ (j = 6 ∧ Blk wr w6.heap.size 33 #[.int .i64 (ep : Int), .int .i64 (n1 : Int), .int .i64 (n2 : Int), .int .i64 (n3 : Int), .int .i64 (n4 : Int), .int .i64 (n5 : Int), .int .i64 (n6 : Int), .int .i64 0]) ∨ (j = 7 ∧ Blk wr w6.heap.size 33 #[.int .i64 (ep : Int), .int .i64 (n1 : Int), .int .i64 (n2 : Int), .int .i64 (n3 : Int), .int .i64 (n4 : Int), .int .i64 (n5 : Int), .int .i64 (n6 : Int), .int .i64 (n7 : Int)])))
      case atStart => exact ⟨0, rfl, rfl, HH7.out, .inl ⟨rfl, HB7.out⟩⟩
      case round =>
        obtain ⟨j, hj, rfl, hh, hc⟩ := hrel
        have HJ := Lib.hid hj
        have HHR := Lib.hid hh
        clear hj hh HB7 HH7
        have x0 := index_ptr0 w6.heap.size
        have x1 := index_ptr1 w6.heap.size
        have x2 := index_ptr2 w6.heap.size
        have x3 := index_ptr3 w6.heap.size
        have x4 := index_ptr4 w6.heap.size
        have x5 := index_ptr5 w6.heap.size
        have x6 := index_ptr6 w6.heap.size
        rcases hc with ⟨rfl, hbk⟩ | ⟨rfl, hbk⟩ | ⟨rfl, hbk⟩ | ⟨rfl, hbk⟩ | ⟨rfl, hbk⟩ | ⟨rfl, hbk⟩ | ⟨rfl, hbk⟩ | ⟨rfl, hbk⟩
        · have HBR := Lib.hid hbk
          have hlt : w6.heap.size < wr.heap.size := hbk.lt
          clear hbk
          go_wp2_with fail
          refine (CG_1.out _ HHR.out).mono ?_
          rintro e w8 ⟨rfl, hh8, hb8⟩
          have HH8 := Lib.hid hh8
          have HB8 := Lib.hid (HBR.out.below hb8 hlt)
          have HBS := Lib.hid (HB8.out.set_ 1 (.int .i64 (n1 : Int)))
          have qs := HB8.out.cell 1
          have qf := HB8.out.frozen 1
          clear hh8 hb8
          go_wp2_with fail
          go_roundg (gk - 1)
          case measure => have := HJ.out; omega
          case rel => exact ⟨1, by have := HJ.out; omega, by go_num, HH8.out.setCell hW6 _, .inr (.inl ⟨rfl, HBS.out⟩)⟩
        · have HBR := Lib.hid hbk
          have hlt : w6.heap.size < wr.heap.size := hbk.lt
          clear hbk
          go_wp2_with fail
          refine (CG_2.out _ HHR.out).mono ?_
          rintro e w8 ⟨rfl, hh8, hb8⟩
          have HH8 := Lib.hid hh8
          have HB8 := Lib.hid (HBR.out.below hb8 hlt)
          have HBS := Lib.hid (HB8.out.set_ 2 (.int .i64 (n2 : Int)))
          have qs := HB8.out.cell 2
          have qf := HB8.out.frozen 2
          clear hh8 hb8
          go_wp2_with fail
          go_roundg (gk - 1)
          case measure => have := HJ.out; omega
          case rel => exact ⟨2, by have := HJ.out; omega, by go_num, HH8.out.setCell hW6 _, .inr (.inr (.inl ⟨rfl, HBS.out⟩))⟩
        · have HBR := Lib.hid hbk
          have hlt : w6.heap.size < wr.heap.size := hbk.lt
          clear hbk
          go_wp2_with fail
          refine (CG_3.out _ HHR.out).mono ?_
          rintro e w8 ⟨rfl, hh8, hb8⟩
          have HH8 := Lib.hid hh8
          have HB8 := Lib.hid (HBR.out.below hb8 hlt)
          have HBS := Lib.hid (HB8.out.set_ 3 (.int .i64 (n3 : Int)))
          have qs := HB8.out.cell 3
          have qf := HB8.out.frozen 3
          clear hh8 hb8
          go_wp2_with fail
          go_roundg (gk - 1)
          case measure => have := HJ.out; omega
          case rel => exact ⟨3, by have := HJ.out; omega, by go_num, HH8.out.setCell hW6 _, .inr (.inr (.inr (.inl ⟨rfl, HBS.out⟩)))⟩
        · have HBR := Lib.hid hbk
          have hlt : w6.heap.size < wr.heap.size := hbk.lt
          clear hbk
          go_wp2_with fail
          refine (CG_4.out _ HHR.out).mono ?_
          rintro e w8 ⟨rfl, hh8, hb8⟩
          have HH8 := Lib.hid hh8
          have HB8 := Lib.hid (HBR.out.below hb8 hlt)
          have HBS := Lib.hid (HB8.out.set_ 4 (.int .i64 (n4 : Int)))
          have qs := HB8.out.cell 4
          have qf := HB8.out.frozen 4
          clear hh8 hb8
          go_wp2_with fail
          go_roundg (gk - 1)
          case measure => have := HJ.out; omega
          case rel => exact ⟨4, by have := HJ.out; omega, by go_num, HH8.out.setCell hW6 _, .inr (.inr (.inr (.inr (.inl ⟨rfl, HBS.out⟩))))⟩
        · have HBR := Lib.hid hbk
          have hlt : w6.heap.size < wr.heap.size := hbk.lt
          clear hbk
          go_wp2_with fail
          refine (CG_5.out _ HHR.out).mono ?_
          rintro e w8 ⟨rfl, hh8, hb8⟩
          have HH8 := Lib.hid hh8
          have HB8 := Lib.hid (HBR.out.below hb8 hlt)
          have HBS := Lib.hid (HB8.out.set_ 5 (.int .i64 (n5 : Int)))
          have qs := HB8.out.cell 5
          have qf := HB8.out.frozen 5
          clear hh8 hb8
          go_wp2_with fail
          go_roundg (gk - 1)
          case measure => have := HJ.out; omega
          case rel => exact ⟨5, by have := HJ.out; omega, by go_num, HH8.out.setCell hW6 _, .inr (.inr (.inr (.inr (.inr (.inl ⟨rfl, HBS.out⟩)))))⟩
        · have HBR := Lib.hid hbk
          have hlt : w6.heap.size < wr.heap.size := hbk.lt
          clear hbk
          go_wp2_with fail
          refine (CG_6.out _ HHR.out).mono ?_
          rintro e w8 ⟨rfl, hh8, hb8⟩
          have HH8 := Lib.hid hh8
          have HB8 := Lib.hid (HBR.out.below hb8 hlt)
          have HBS := Lib.hid (HB8.out.set_ 6 (.int .i64 (n6 : Int)))
          have qs := HB8.out.cell 6
          have qf := HB8.out.frozen 6
          clear hh8 hb8
          go_wp2_with fail
          go_roundg (gk - 1)
          case measure => have := HJ.out; omega
          case rel => exact ⟨6, by have := HJ.out; omega, by go_num, HH8.out.setCell hW6 _, .inr (.inr (.inr (.inr (.inr (.inr (.inl ⟨rfl, HBS.out⟩))))))⟩
        · have HBR := Lib.hid hbk
          have hlt : w6.heap.size < wr.heap.size := hbk.lt
          clear hbk
          go_wp2_with fail
          refine (CG_7.out _ HHR.out).mono ?_
          rintro e w8 ⟨rfl, hh8, hb8⟩
          have HH8 := Lib.hid hh8
          have HB8 := Lib.hid (HBR.out.below hb8 hlt)
          have HBS := Lib.hid (HB8.out.set_ 7 (.int .i64 (n7 : Int)))
          have qs := HB8.out.cell 7
          have qf := HB8.out.frozen 7
          clear hh8 hb8
          go_wp2_with fail
          go_roundg (gk - 1)
          case measure => have := HJ.out; omega
          case rel => exact ⟨7, by have := HJ.out; omega, by go_num, HH8.out.setCell hW6 _, .inr (.inr (.inr (.inr (.inr (.inr (.inr (⟨rfl, HBS.out⟩)))))))⟩
        · have HBR := Lib.hid hbk
          clear hbk
          have HWF : Hid ((bkN ep n1 n2 n3 n4 n5 n6 n7).wf) := by
            refine ⟨⟨by simp only [bkN]; omega, by simp only [bkN]; omega⟩, fun n hn => ?_⟩
            simp only [bkN, Cf.nums, List.mem_cons, List.not_mem_nil, or_false] at hn
            rcases hn with rfl | rfl | rfl | rfl | rfl | rfl | rfl <;> omega
          have hHB : w6.heap.size < wr.heap.size := HBR.out.lt
          clear x0 x1 x2 x3 x4 x5 x6
          go_wp2_with (refine wpList_load_row rfl 33 _ rfl w6.heap.size rfl 33 (bkv (bkN ep n1 n2 n3 n4 n5 n6 n7)) (0, 0) _ HBR.out Tryz.underlying33 rfl bk_size ?_)
          by_cases hok : (bkN ep n1 n2 n3 n4 n5 n6 n7).ok
          · refine (encode_any _ HWF.out hok _).mono ?_
            rintro e w8 ⟨g8, cs8, rfl, hg8, hbk8, htk8, hb8⟩
            have HB8 := Lib.hid (HBR.out.below hb8 hHB)
            have HH8 := Lib.hid (HHR.out.trans (hb8.mono HHR.out.size))
            have HK8 := Lib.hid hbk8
            have HT8 := Lib.hid htk8
            have q1 : w8.cell? ⟨w.heap.size, 0, none⟩ = some (.slice (some ad) 64 c) := (HB1.out.below HH8.out (by omega)).cell 0
            have HE := Lib.hid (equal_any (some ⟨g8, 0, none⟩) (some ad) 64 64 64 c _ _ (encOf (bkN ep n1 n2 n3 n4 n5 n6 n7)) l w8 (encOf_length _).symm HL.out.symm (by simp [maxLen]) (by simp [maxLen]) (reads_blk HK8.out 0 64 _ (encOf_length _) HT8.out) (HR.out.below (HH8.out.mono (by have := HBW.out.size; omega))))
            have HOK := Lib.hid hok
            clear hbk8 htk8 hb8 hok
            by_cases heq : encOf (bkN ep n1 n2 n3 n4 n5 n6 n7) = l
            · have HD2 : Hid (decOf l = (0, bkN ep n1 n2 n3 n4 n5 n6 n7)) := by show _ = _; rw [HD.out, if_pos ⟨HOK.out, heq⟩]
              rw [decide_eq_true heq] at HE
              clear heq HD
              go_wp2_with fail
              refine HE.out.mono ?_
              rintro e w9 ⟨rfl, qq, rfl⟩
              have HB9 := Lib.hid (HB8.out.drewN qq)
              have HB29 := Lib.hid ((HB2.out.below HH8.out hg1).drewN qq)
              have HBW9 := Lib.hid (HBW.out.trans ((show Below W0.heap.size W0 (w8.drewN qq) from HH8.out.trans ⟨rfl, rfl, rfl, Nat.le_refl _, fun _ _ => rfl⟩).mono HBW.out.size))
              go_wp2_with (first
                | (refine wpList_load_row rfl 33 _ rfl w6.heap.size rfl 33 (bkv (bkN ep n1 n2 n3 n4 n5 n6 n7)) (0, 0) _ HB9.out Tryz.underlying33 rfl bk_size ?_)
                | (refine wpList_store_row rfl 33 _ _ rfl (w.heap.size + 1) (bkv (bkN ep n1 n2 n3 n4 n5 n6 n7)) rfl rfl 33 (bkv bk0) HB29.out bk_size rfl (bkv_one _) ?_))
              exact bodyPost_ret (results_blk_tmp rfl _ _ (w.heap.size + 1) 33 (bkv (bkN ep n1 n2 n3 n4 n5 n6 n7)) _ rfl (setRow_heap _ _ _ _ _ _ HB29.out) Tryz.underlying33 rfl bk_size) rfl ⟨by rw [HD2.out]; rfl, below_setRow HBW9.out (by omega) _⟩
            · have HD2 : Hid (decOf l = (8, bk0)) := by show _ = _; rw [HD.out, if_neg (fun h => heq h.2)]
              rw [decide_eq_false heq] at HE
              clear heq HD
              go_wp2_with fail
              refine HE.out.mono ?_
              rintro e w9 ⟨rfl, qq, rfl⟩
              have HB29 := Lib.hid ((HB2.out.below HH8.out hg1).drewN qq)
              have HBW9 := Lib.hid (HBW.out.trans ((show Below W0.heap.size W0 (w8.drewN qq) from HH8.out.trans ⟨rfl, rfl, rfl, Nat.le_refl _, fun _ _ => rfl⟩).mono HBW.out.size))
              go_wp2_with (refine wpList_store_row rfl 33 _ _ rfl (w.heap.size + 1) (bkv bk0) rfl rfl 33 (bkv bk0) HB29.out bk_size rfl (bkv_one _) ?_)
              exact bodyPost_ret (results_blk_tmp rfl _ _ (w.heap.size + 1) 33 (bkv bk0) _ rfl (setRow_heap _ _ _ _ _ _ HB29.out) Tryz.underlying33 rfl bk_size) rfl ⟨by rw [HD2.out]; rfl, below_setRow HBW9.out (by omega) _⟩
          · refine (encode_bad _ HWF.out hok _).mono ?_
            rintro e w8 ⟨rfl, hb8⟩
            have HH8 := Lib.hid (HHR.out.trans (hb8.mono HHR.out.size))
            have HB28 := Lib.hid (HB2.out.below HH8.out hg1)
            have HBW8 := Lib.hid (HBW.out.trans (HH8.out.mono HBW.out.size))
            have HD2 : Hid (decOf l = (8, bk0)) := by show _ = _; rw [HD.out, if_neg (fun h => hok h.1)]
            clear hb8 hok HD
            go_wp2_with (refine wpList_store_row rfl 33 _ _ rfl (w.heap.size + 1) (bkv bk0) rfl rfl 33 (bkv bk0) HB28.out bk_size rfl (bkv_one _) ?_)
            exact bodyPost_ret (results_blk_tmp rfl _ _ (w.heap.size + 1) 33 (bkv bk0) _ rfl (setRow_heap _ _ _ _ _ _ HB28.out) Tryz.underlying33 rfl bk_size) rfl ⟨by rw [HD2.out]; rfl, below_setRow HBW8.out (by omega) _⟩
  · rw [decide_eq_false hsum]
    have HD : Hid (decOf l = (15, bk0)) := decOf_sum l (by have := HL.out; omega) (by rw [HT.out, HS.out]; exact hsum)
    clear hsum
    go_wp2_with (refine wpList_store_row rfl 33 _ _ rfl (w.heap.size + 1) (bkv bk0) rfl rfl 33 (bkv bk0) HB5.out bk_size rfl (bkv_one _) ?_)
    exact bodyPost_ret (results_blk_tmp rfl _ _ (w.heap.size + 1) 33 (bkv bk0) _ rfl (setRow_heap _ _ _ _ _ _ HB5.out) Tryz.underlying33 rfl bk_size) rfl ⟨by rw [HD.out]; rfl, below_setRow HBW5.out (by omega) _⟩
theorem decode_any (A : Option Addr) (n c B : Nat) (l : List (BitVec 8)) (hl : n = l.length) (hnm : n ≤ maxLen) (hnc : n ≤ c) (hcm : c ≤ maxLen) (w : World) (hr : Reads w B 1 A n (u8s l)) (hB : B ≤ w.heap.size) :
    Calls Tryz.prog 91 #[.slice A n c] w fun e w' => e = .returned (.tuple #[.agg (bkv (decOf l).2), .int .i64 (decOf l).1]) ∧ Below w.heap.size w w' := by
  by_cases h : n < 64
  · rw [decOf_short l (by omega)]
    exact decode_short A n c h w
  · have e : decOf l = decOf (l.take 64) := by
      conv => lhs; rw [← List.take_append_drop 64 l]
      exact decOf_append _ _ (by rw [List.length_take]; omega)
    rw [e]
    exact decode_long A n c B (l.take 64) (by omega) hnm hnc hcm (by rw [List.length_take]; omega) w (hr.take (by omega)) hB
end Go.Proofs.YtnopljanpjmbgaaGreat
namespace Go.Proofs.YtnopljanpjmbgaaGreat
open Go.RowKit Drum
set_option linter.unusedVariables false
set_option maxHeartbeats 1000000 in
theorem little_any (x k : Nat) (hk : k = 4 ∨ k = 8) (w : World) :
    Calls Tryz.prog 111 #[.int .u64 (x : Int), .int .i64 (k : Int)] w fun e w' => ∃ v, e = .returned v ∧ w'.ownsRow w.heap.size 5 1 v k (u8s (le k x)) ∧ Below w.heap.size w w' := by
  obtain ⟨i0, hi0, hz0, hz1, hz2⟩ := info_parts u8_info
  have hk8 : k ≤ 8 := by omega
  clear hk
  go_enter Tryz.func111, Tryz.ntmps111
  go_wp2_with fail
  go_loopg [5, 6] k (fun q v5 v6 wr => ∃ j : Nat, j + q = k ∧ v6 = .int .i64 j ∧ wr.ownsRow w.heap.size 5 1 v5 j (u8s (le j x)) ∧ Below w.heap.size w wr)
  case atStart => exact ⟨0, by omega, rfl, World.ownsRow_nil _ _ _ _, Below.refl _ _⟩
  case round =>
    obtain ⟨j, hj, rfl, ho, hb⟩ := hrel
    have hj' : j ≤ k := by omega
    have HJ := Lib.hid hj
    have HO := Lib.hid ho
    have HB := Lib.hid hb
    clear hj ho hb
    by_cases hlt : j < k
    · obtain ⟨wo, rfl⟩ : ∃ wo : World, wo = wr := ⟨_, rfl⟩
      have HN := Lib.hid (reads_new wo 5 #[.int .u8 ((x : Int) / 256 ^ j % 256)] (0, 0) [BitVec.ofNat 8 (x / 256 ^ j)] 1 rfl (by rw [byte_of']; rfl))
      go_wp2_with (first
        | (with_reducible refine wpList_shr_u64 rfl _ _ _ _ x j (by omega) _ rfl rfl rfl ?_)
        | (at_builtin
           refine wpList_append_g _ rfl (.tmp 12) (.tmp 19) _ rfl w.heap.size 5 i0 _ 1 1 Tryz.underlying23 hi0 hz0 hz1 hz2 rfl (by omega) _ j (u8s (le j x)) rfl
             (own_below' HO.out (ba (Below.refl _ _) _)) (wo.heap.size + 1) (some ⟨wo.heap.size, 0, none⟩) 1 1 (u8s [BitVec.ofNat 8 (x / 256 ^ j)]) rfl HN.out (u8s_one _) (by simp only [maxLen]; omega) (by omega) (by simp; have := HB.out.size; omega) ?_
           intro v1 w6 hown1 hg1 hat1
           rw [u8s_append, ← le_snoc] at hown1
           have HO1 := Lib.hid hown1
           have HB6 := Lib.hid ((ba HB.out (.cells #[.int .u8 ((x : Int) / 256 ^ j % 256)] 5)).grown hg1 (by simp; have := HB.out.size; omega) (fun q hq => (HO.out.lt q hq).1))
           clear hown1 hg1 hat1))
      go_roundg (gk - 1)
      case measure => have := HJ.out; omega
      case rel => exact ⟨j + 1, by have := HJ.out; omega, by go_num, HO1.out, HB6.out⟩
    · have e8 : j = k := by omega
      subst e8
      go_wp2_with fail
      go_ret
      exact ⟨_, rfl, HO.out, HB.out⟩
set_option maxHeartbeats 1000000 in
theorem number_any (A : Option Addr) (n c B : Nat) (l : List (BitVec 8)) (a k : Nat) (hk : k = 4 ∨ k = 8) (ha : a + k ≤ n) (w : World) (hr : Reads w B 1 A n (u8s l)) (hn : n = l.length) (hm : n ≤ maxLen) :
    Calls Tryz.prog 150 #[.slice A n c, .int .i64 (a : Int), .int .i64 (k : Int)] w fun e w' => e = .returned (.int .u64 (numTo l a k : Int)) ∧ w = w' := by
  unfold maxLen at hm
  have HR := Lib.hid hr
  have hk8 : k ≤ 8 := by omega
  clear hr hn hk
  go_enter Tryz.func150, Tryz.ntmps150
  go_wp2_with fail
  go_loopg [7, 8] k (fun q v7 v8 wr => ∃ j : Nat, j + q = k ∧ v8 = .int .i64 j ∧ v7 = .int .u64 (numTo l a j : Int) ∧ w = wr)
  case atStart => exact ⟨0, by omega, rfl, rfl, rfl⟩
  case round =>
    obtain ⟨j, hj, rfl, rfl, rfl⟩ := hrel
    have hj' : j ≤ k := by omega
    have HJ := Lib.hid hj
    clear hj
    by_cases hlt : j < k
    · have hlt2 : a + j < n := by omega
      obtain ⟨ad, u, rfl, _, hx, hc⟩ := HR.out.at_ hlt2
      obtain ⟨hjl, rfl⟩ := u8s_at hx
      have HO := Lib.hid (or_step l a j (by omega) l[a + j] (getD_of hjl))
      rw [n8_nat] at hc
      have hlb := (l[a + j]).isLt
      clear hx
      go_wp2_with (with_reducible refine wpList_shl_u64 rfl _ _ _ _ (l[a + j]).toNat j (by omega) (by omega) _ rfl rfl rfl ?_)
      go_roundg (gk - 1)
      case measure => have := HJ.out; omega
      case rel => exact ⟨j + 1, by have := HJ.out; omega, by go_num, by rw [← HO.out, Int.natCast_mul, Int.natCast_pow]; rfl, rfl⟩
    · have e8 : j = k := by omega
      subst e8
      go_wp2_with fail
      go_ret
      exact ⟨rfl, rfl⟩
set_option maxHeartbeats 1000000 in
theorem refEncode_bad (b : Bk) (hb : b.wf) (hn : ¬ b.ok) (w : World) :
    Calls Tryz.prog 66 #[.agg (bkv b)] w fun e w' => e = .returned (.tuple #[.slice none 0 0, .int .i64 2]) ∧ Below w.heap.size w w' := by
  have HC := Lib.hid (fun W => refCheck_any b hb W)
  rw [okN_no hn] at HC
  clear hb hn
  unfold bkv at HC ⊢
  go_enter Tryz.func66, Tryz.ntmps66
  go_wp2_with fail
  refine (HC.out _).mono ?_
  rintro e w1 ⟨rfl, hb1⟩
  have HB := Lib.hid (bt (ba (Below.refl w.heap.size w) _) hb1)
  clear hb1
  go_wp2_with fail
  go_ret2
  exact ⟨rfl, HB.out⟩
set_option maxHeartbeats 8000000 in
theorem refEncode_ok (e n1 n2 n3 n4 n5 n6 n7 : Nat) (hw : (bkN e n1 n2 n3 n4 n5 n6 n7).wf) (hok : (bkN e n1 n2 n3 n4 n5 n6 n7).ok)
    (he : e ≤ 1099511627776) (h1 : n1 ≤ 65536) (h2 : n2 ≤ 65536) (h3 : n3 ≤ 65536) (h4 : n4 ≤ 65536) (h5 : n5 ≤ 65536) (h6 : n6 ≤ 65536) (h7 : n7 ≤ 65536) (w : World) :
    Calls Tryz.prog 66 #[.agg (bkv (bkN e n1 n2 n3 n4 n5 n6 n7))] w fun ed w' => ∃ v, ed = .returned (.tuple #[v, .int .i64 0]) ∧ w'.ownsRow w.heap.size 5 1 v 64 (u8s (encOf (bkN e n1 n2 n3 n4 n5 n6 n7))) ∧ Below w.heap.size w w' := by
  have HC := Lib.hid (fun W => refCheck_any _ hw W)
  rw [okN_yes hok] at HC
  obtain ⟨BB, hBB⟩ : ∃ b : Bk, b = bkN e n1 n2 n3 n4 n5 n6 n7 := ⟨_, rfl⟩
  have HBB := Lib.hid hBB
  have hcells : bkv (bkN e n1 n2 n3 n4 n5 n6 n7) = #[.int .i64 (e : Int), .int .i64 (n1 : Int), .int .i64 (n2 : Int), .int .i64 (n3 : Int), .int .i64 (n4 : Int), .int .i64 (n5 : Int), .int .i64 (n6 : Int), .int .i64 (n7 : Int)] := rfl
  rw [hcells] at HC ⊢
  obtain ⟨i0, hi0, hz0, hz1, hz2⟩ := info_parts u8_info
  have HH : Hid (encOf (bkN e n1 n2 n3 n4 n5 n6 n7) = encOf BB) := by rw [hBB]; rfl
  rw [HH.out]
  clear hw hok hcells hBB
  go_enter Tryz.func66, Tryz.ntmps66
  go_wp2_with fail
  refine (HC.out _).mono ?_
  rintro ed w1 ⟨rfl, hb1⟩
  have HB := Lib.hid (bt (ba (Below.refl w.heap.size w) _) hb1)
  have hbb : Blk w1 w.heap.size 57 #[.int .i64 (e : Int), .int .i64 (n1 : Int), .int .i64 (n2 : Int), .int .i64 (n3 : Int), .int .i64 (n4 : Int), .int .i64 (n5 : Int), .int .i64 (n6 : Int), .int .i64 (n7 : Int)] := (Blk.new w _ _).below hb1 (by simp)
  have HBB1 := Lib.hid hbb
  have hs1 : w.heap.size < w1.heap.size := hbb.lt
  have q0 : w1.cell? ⟨w.heap.size, 0, none⟩ = some (.int .i64 (e : Int)) := hbb.cell 0
  have q1 : w1.cell? ⟨w.heap.size, 1, none⟩ = some (.int .i64 (n1 : Int)) := hbb.cell 1
  have q2 : w1.cell? ⟨w.heap.size, 2, none⟩ = some (.int .i64 (n2 : Int)) := hbb.cell 2
  have q3 : w1.cell? ⟨w.heap.size, 3, none⟩ = some (.int .i64 (n3 : Int)) := hbb.cell 3
  have q4 : w1.cell? ⟨w.heap.size, 4, none⟩ = some (.int .i64 (n4 : Int)) := hbb.cell 4
  have q5 : w1.cell? ⟨w.heap.size, 5, none⟩ = some (.int .i64 (n5 : Int)) := hbb.cell 5
  have q6 : w1.cell? ⟨w.heap.size, 6, none⟩ = some (.int .i64 (n6 : Int)) := hbb.cell 6
  have q7 : w1.cell? ⟨w.heap.size, 7, none⟩ = some (.int .i64 (n7 : Int)) := hbb.cell 7
  clear hb1 hbb HC
  obtain ⟨W3, hW3⟩ : ∃ W : World, W = (w1.alloc (.cells #[.int .i64 (n1 : Int), .int .i64 (n2 : Int), .int .i64 (n3 : Int), .int .i64 (n4 : Int), .int .i64 (n5 : Int), .int .i64 (n6 : Int), .int .i64 (n7 : Int)] 26)).alloc (.cells #[.int .i64 (n1 : Int), .int .i64 (n2 : Int), .int .i64 (n3 : Int), .int .i64 (n4 : Int), .int .i64 (n5 : Int), .int .i64 (n6 : Int), .int .i64 (n7 : Int)] 3) := ⟨_, rfl⟩
  have hs3 : W3.heap.size = w1.heap.size + 1 + 1 := by rw [hW3]; simp
  have hcv := Lib.run_convert_bytes_const (P := Tryz.prog) W3 23 5 #[.int .u8 68, .int .u8 82, .int .u8 85, .int .u8 77] 4 4 Tryz.underlying23 Tryz.underlying5
  rw [hs3, hW3] at hcv
  obtain ⟨W4, hW4⟩ : ∃ W : World, W = W3.alloc (.cells #[.int .u8 68, .int .u8 82, .int .u8 85, .int .u8 77] 5 (4, 5)) := ⟨_, rfl⟩
  have HBW4 : Hid (Below w.heap.size w W4) := by rw [hW4, hW3]; exact ((HB.out.alloc HB.out.size _).alloc (by simp; have := HB.out.size; omega) _).alloc (by simp; have := HB.out.size; omega) _
  have HN4 : Hid (Blk W4 (w1.heap.size + 1) 3 #[.int .i64 (n1 : Int), .int .i64 (n2 : Int), .int .i64 (n3 : Int), .int .i64 (n4 : Int), .int .i64 (n5 : Int), .int .i64 (n6 : Int), .int .i64 (n7 : Int)]) := by rw [hW4, hW3]; exact (blk2 w1 _ _ _ _).alloc _
  have hs4 : W4.heap.size = w1.heap.size + 3 := by rw [hW4]; simp [hs3]
  have HS4 := Lib.hid hs4
  have HD4 : Hid (Reads W4 W4.heap.size 1 (some ⟨w1.heap.size + 1 + 1, 0, none⟩) 4 (u8s drum)) := by
    have e : #[Value.int .u8 68, .int .u8 82, .int .u8 85, .int .u8 77] = (u8s drum).toArray := by simp [u8s, drum, u8v, n8]
    have h := reads_new W3 5 #[.int .u8 68, .int .u8 82, .int .u8 85, .int .u8 77] (4, 5) drum 4 rfl e
    have e2 : W3.heap.size + 1 = W4.heap.size := by rw [hs4]; omega
    rw [← hW4, e2, hs3] at h
    exact h
  have HW4 : Hid (W4 = ((w1.alloc (.cells #[.int .i64 (n1 : Int), .int .i64 (n2 : Int), .int .i64 (n3 : Int), .int .i64 (n4 : Int), .int .i64 (n5 : Int), .int .i64 (n6 : Int), .int .i64 (n7 : Int)] 26)).alloc (.cells #[.int .i64 (n1 : Int), .int .i64 (n2 : Int), .int .i64 (n3 : Int), .int .i64 (n4 : Int), .int .i64 (n5 : Int), .int .i64 (n6 : Int), .int .i64 (n7 : Int)] 3)).alloc (.cells #[.int .u8 68, .int .u8 82, .int .u8 85, .int .u8 77] 5 (4, 5))) := by rw [hW4, hW3]; rfl
  have q0' : W4.cell? ⟨w.heap.size, 0, none⟩ = some (.int .i64 (e : Int)) := by rw [hW4, hW3]; exact (((HBB1.out.alloc _).alloc _).alloc _).cell 0
  rw [HW4.out] at q0'
  clear hW4 hs4 hW3 hs3
  go_wp2_with fail
  rw [← HW4.out]
  refine (little_any e 8 (.inr rfl) W4).mono ?_
  rintro ed w5 ⟨v5, rfl, hown5, hb5⟩
  obtain ⟨g5, c5, cur5, rfl, _, _, hA5, hc5, _, _⟩ := own_form hown5 (by omega)
  have HR5 := Lib.hid (Reads.of_own hown5)
  have HB5 := Lib.hid hb5
  have HS5 : Hid (W4.heap.size ≤ w5.heap.size) := hb5.size
  have HD5 := Lib.hid (HD4.out.below hb5)
  clear hown5 hb5 hcv q0' q0 q1 q2 q3 q4 q5 q6 q7
  go_wp2_with (at_builtin
               refine wpList_append_full _ rfl _ _ 23 rfl (w1.heap.size + 2) 5 i0 Tryz.underlying23 hi0 hz0 hz1 hz2 ⟨w1.heap.size + 1 + 1, 0, none⟩ 4 4 _ drum rfl HD5.out ⟨g5, 0, none⟩ 8 c5 _ (le 8 e) rfl HR5.out (by omega) (by omega) (by omega) (by omega) (by have := HS5.out; have := HS4.out; omega) ?_
               intro v6 w6 hown6 hb6 _
               have HO6 := Lib.hid hown6
               have HBB6 : Hid (Below (w1.heap.size + 2) W4 w6) := (HB5.out.trans (hb6.mono HS5.out)).mono (by have := HS4.out; omega)
               clear hown6 hb6)
  go_loopg [6, 7] 7 (fun q v6 v7 wr => ∃ j : Nat, j + q = 7 ∧ v7 = .int .i64 j ∧ wr.ownsRow (w1.heap.size + 2) 5 1 v6 (12 + 4 * j) (u8s (drum ++ le 8 e ++ numBytes (([(n1 : Int), n2, n3, n4, n5, n6, n7]).take j))) ∧ Below (w1.heap.size + 2) W4 wr)
  case atStart => exact ⟨0, rfl, rfl, by simpa [numBytes] using HO6.out, HBB6.out⟩
  case round =>
    obtain ⟨j, hj, rfl, ho, hb⟩ := hrel
    have HJ := Lib.hid hj
    have HO := Lib.hid ho
    have HBR := Lib.hid hb
    have hj7 : j ≤ 7 := by omega
    have HSR : Hid (w1.heap.size + 3 ≤ wr.heap.size) := by have := hb.size; have := HS4.out; show _ ≤ _; omega
    clear hj ho hb HO6 HBB6
    by_cases hlt : j < 7
    · have hbn : Blk wr (w1.heap.size + 1) 3 #[.int .i64 (n1 : Int), .int .i64 (n2 : Int), .int .i64 (n3 : Int), .int .i64 (n4 : Int), .int .i64 (n5 : Int), .int .i64 (n6 : Int), .int .i64 (n7 : Int)] := HN4.out.below HBR.out (by omega)
      have q0 : wr.cell? ⟨w1.heap.size + 1, 0, none⟩ = some (.int .i64 (n1 : Int)) := hbn.cell 0
      have q1 : wr.cell? ⟨w1.heap.size + 1, 1, none⟩ = some (.int .i64 (n2 : Int)) := hbn.cell 1
      have q2 : wr.cell? ⟨w1.heap.size + 1, 2, none⟩ = some (.int .i64 (n3 : Int)) := hbn.cell 2
      have q3 : wr.cell? ⟨w1.heap.size + 1, 3, none⟩ = some (.int .i64 (n4 : Int)) := hbn.cell 3
      have q4 : wr.cell? ⟨w1.heap.size + 1, 4, none⟩ = some (.int .i64 (n5 : Int)) := hbn.cell 4
      have q5 : wr.cell? ⟨w1.heap.size + 1, 5, none⟩ = some (.int .i64 (n6 : Int)) := hbn.cell 5
      have q6 : wr.cell? ⟨w1.heap.size + 1, 6, none⟩ = some (.int .i64 (n7 : Int)) := hbn.cell 6
      clear hbn
      rcases (show j = 0 ∨ j = 1 ∨ j = 2 ∨ j = 3 ∨ j = 4 ∨ j = 5 ∨ j = 6 by omega) with rfl | rfl | rfl | rfl | rfl | rfl | rfl
      · go_wp2_with fail
        refine (little_any n1 4 (.inl rfl) wr).mono ?_
        rintro ed wa ⟨va, rfl, howna, hba⟩
        obtain ⟨Aa, ca, rfl, hAa, hca, hra⟩ := own_slice howna
        have HRa := Lib.hid hra
        have HBa := Lib.hid hba
        have HOa := Lib.hid (own_below' HO.out hba)
        clear howna hba hra
        go_wp2_with (at_builtin
                     refine wpList_append_g _ rfl _ _ _ rfl (w1.heap.size + 2) 5 i0 _ 1 1 Tryz.underlying23 hi0 hz0 hz1 hz2 rfl (by omega) _ 12 _ rfl
                       HOa.out wa.heap.size Aa 4 ca (u8s (le 4 n1)) rfl HRa.out (u8s_one _) (by simp only [maxLen]; omega) (by omega) (by have := HSR.out; have := HBa.out.size; omega) ?_
                     intro vb wb hownb hgb hatb
                     rw [u8s_append] at hownb
                     have HOb := Lib.hid hownb
                     have HBb : Hid (Below (w1.heap.size + 2) W4 wb) := (HBR.out.trans (HBa.out.mono (by have := HSR.out; omega))).grown hgb (by have := HSR.out; have := HBa.out.size; omega) (fun q hq => (HOa.out.lt q hq).1)
                     clear hownb hgb hatb)
        go_roundg (gk - 1)
        case measure => have := HJ.out; omega
        case rel => exact ⟨1, by have := HJ.out; omega, by go_num, by simpa [numBytes] using HOb.out, HBb.out⟩
      · go_wp2_with fail
        refine (little_any n2 4 (.inl rfl) wr).mono ?_
        rintro ed wa ⟨va, rfl, howna, hba⟩
        obtain ⟨Aa, ca, rfl, hAa, hca, hra⟩ := own_slice howna
        have HRa := Lib.hid hra
        have HBa := Lib.hid hba
        have HOa := Lib.hid (own_below' HO.out hba)
        clear howna hba hra
        go_wp2_with (at_builtin
                     refine wpList_append_g _ rfl _ _ _ rfl (w1.heap.size + 2) 5 i0 _ 1 1 Tryz.underlying23 hi0 hz0 hz1 hz2 rfl (by omega) _ 16 _ rfl
                       HOa.out wa.heap.size Aa 4 ca (u8s (le 4 n2)) rfl HRa.out (u8s_one _) (by simp only [maxLen]; omega) (by omega) (by have := HSR.out; have := HBa.out.size; omega) ?_
                     intro vb wb hownb hgb hatb
                     rw [u8s_append] at hownb
                     have HOb := Lib.hid hownb
                     have HBb : Hid (Below (w1.heap.size + 2) W4 wb) := (HBR.out.trans (HBa.out.mono (by have := HSR.out; omega))).grown hgb (by have := HSR.out; have := HBa.out.size; omega) (fun q hq => (HOa.out.lt q hq).1)
                     clear hownb hgb hatb)
        go_roundg (gk - 1)
        case measure => have := HJ.out; omega
        case rel => exact ⟨2, by have := HJ.out; omega, by go_num, by simpa [numBytes] using HOb.out, HBb.out⟩
      · go_wp2_with fail
        refine (little_any n3 4 (.inl rfl) wr).mono ?_
        rintro ed wa ⟨va, rfl, howna, hba⟩
        obtain ⟨Aa, ca, rfl, hAa, hca, hra⟩ := own_slice howna
        have HRa := Lib.hid hra
        have HBa := Lib.hid hba
        have HOa := Lib.hid (own_below' HO.out hba)
        clear howna hba hra
        go_wp2_with (at_builtin
                     refine wpList_append_g _ rfl _ _ _ rfl (w1.heap.size + 2) 5 i0 _ 1 1 Tryz.underlying23 hi0 hz0 hz1 hz2 rfl (by omega) _ 20 _ rfl
                       HOa.out wa.heap.size Aa 4 ca (u8s (le 4 n3)) rfl HRa.out (u8s_one _) (by simp only [maxLen]; omega) (by omega) (by have := HSR.out; have := HBa.out.size; omega) ?_
                     intro vb wb hownb hgb hatb
                     rw [u8s_append] at hownb
                     have HOb := Lib.hid hownb
                     have HBb : Hid (Below (w1.heap.size + 2) W4 wb) := (HBR.out.trans (HBa.out.mono (by have := HSR.out; omega))).grown hgb (by have := HSR.out; have := HBa.out.size; omega) (fun q hq => (HOa.out.lt q hq).1)
                     clear hownb hgb hatb)
        go_roundg (gk - 1)
        case measure => have := HJ.out; omega
        case rel => exact ⟨3, by have := HJ.out; omega, by go_num, by simpa [numBytes] using HOb.out, HBb.out⟩
      · go_wp2_with fail
        refine (little_any n4 4 (.inl rfl) wr).mono ?_
        rintro ed wa ⟨va, rfl, howna, hba⟩
        obtain ⟨Aa, ca, rfl, hAa, hca, hra⟩ := own_slice howna
        have HRa := Lib.hid hra
        have HBa := Lib.hid hba
        have HOa := Lib.hid (own_below' HO.out hba)
        clear howna hba hra
        go_wp2_with (at_builtin
                     refine wpList_append_g _ rfl _ _ _ rfl (w1.heap.size + 2) 5 i0 _ 1 1 Tryz.underlying23 hi0 hz0 hz1 hz2 rfl (by omega) _ 24 _ rfl
                       HOa.out wa.heap.size Aa 4 ca (u8s (le 4 n4)) rfl HRa.out (u8s_one _) (by simp only [maxLen]; omega) (by omega) (by have := HSR.out; have := HBa.out.size; omega) ?_
                     intro vb wb hownb hgb hatb
                     rw [u8s_append] at hownb
                     have HOb := Lib.hid hownb
                     have HBb : Hid (Below (w1.heap.size + 2) W4 wb) := (HBR.out.trans (HBa.out.mono (by have := HSR.out; omega))).grown hgb (by have := HSR.out; have := HBa.out.size; omega) (fun q hq => (HOa.out.lt q hq).1)
                     clear hownb hgb hatb)
        go_roundg (gk - 1)
        case measure => have := HJ.out; omega
        case rel => exact ⟨4, by have := HJ.out; omega, by go_num, by simpa [numBytes] using HOb.out, HBb.out⟩
      · go_wp2_with fail
        refine (little_any n5 4 (.inl rfl) wr).mono ?_
        rintro ed wa ⟨va, rfl, howna, hba⟩
        obtain ⟨Aa, ca, rfl, hAa, hca, hra⟩ := own_slice howna
        have HRa := Lib.hid hra
        have HBa := Lib.hid hba
        have HOa := Lib.hid (own_below' HO.out hba)
        clear howna hba hra
        go_wp2_with (at_builtin
                     refine wpList_append_g _ rfl _ _ _ rfl (w1.heap.size + 2) 5 i0 _ 1 1 Tryz.underlying23 hi0 hz0 hz1 hz2 rfl (by omega) _ 28 _ rfl
                       HOa.out wa.heap.size Aa 4 ca (u8s (le 4 n5)) rfl HRa.out (u8s_one _) (by simp only [maxLen]; omega) (by omega) (by have := HSR.out; have := HBa.out.size; omega) ?_
                     intro vb wb hownb hgb hatb
                     rw [u8s_append] at hownb
                     have HOb := Lib.hid hownb
                     have HBb : Hid (Below (w1.heap.size + 2) W4 wb) := (HBR.out.trans (HBa.out.mono (by have := HSR.out; omega))).grown hgb (by have := HSR.out; have := HBa.out.size; omega) (fun q hq => (HOa.out.lt q hq).1)
                     clear hownb hgb hatb)
        go_roundg (gk - 1)
        case measure => have := HJ.out; omega
        case rel => exact ⟨5, by have := HJ.out; omega, by go_num, by simpa [numBytes] using HOb.out, HBb.out⟩
      · go_wp2_with fail
        refine (little_any n6 4 (.inl rfl) wr).mono ?_
        rintro ed wa ⟨va, rfl, howna, hba⟩
        obtain ⟨Aa, ca, rfl, hAa, hca, hra⟩ := own_slice howna
        have HRa := Lib.hid hra
        have HBa := Lib.hid hba
        have HOa := Lib.hid (own_below' HO.out hba)
        clear howna hba hra
        go_wp2_with (at_builtin
                     refine wpList_append_g _ rfl _ _ _ rfl (w1.heap.size + 2) 5 i0 _ 1 1 Tryz.underlying23 hi0 hz0 hz1 hz2 rfl (by omega) _ 32 _ rfl
                       HOa.out wa.heap.size Aa 4 ca (u8s (le 4 n6)) rfl HRa.out (u8s_one _) (by simp only [maxLen]; omega) (by omega) (by have := HSR.out; have := HBa.out.size; omega) ?_
                     intro vb wb hownb hgb hatb
                     rw [u8s_append] at hownb
                     have HOb := Lib.hid hownb
                     have HBb : Hid (Below (w1.heap.size + 2) W4 wb) := (HBR.out.trans (HBa.out.mono (by have := HSR.out; omega))).grown hgb (by have := HSR.out; have := HBa.out.size; omega) (fun q hq => (HOa.out.lt q hq).1)
                     clear hownb hgb hatb)
        go_roundg (gk - 1)
        case measure => have := HJ.out; omega
        case rel => exact ⟨6, by have := HJ.out; omega, by go_num, by simpa [numBytes] using HOb.out, HBb.out⟩
      · go_wp2_with fail
        refine (little_any n7 4 (.inl rfl) wr).mono ?_
        rintro ed wa ⟨va, rfl, howna, hba⟩
        obtain ⟨Aa, ca, rfl, hAa, hca, hra⟩ := own_slice howna
        have HRa := Lib.hid hra
        have HBa := Lib.hid hba
        have HOa := Lib.hid (own_below' HO.out hba)
        clear howna hba hra
        go_wp2_with (at_builtin
                     refine wpList_append_g _ rfl _ _ _ rfl (w1.heap.size + 2) 5 i0 _ 1 1 Tryz.underlying23 hi0 hz0 hz1 hz2 rfl (by omega) _ 36 _ rfl
                       HOa.out wa.heap.size Aa 4 ca (u8s (le 4 n7)) rfl HRa.out (u8s_one _) (by simp only [maxLen]; omega) (by omega) (by have := HSR.out; have := HBa.out.size; omega) ?_
                     intro vb wb hownb hgb hatb
                     rw [u8s_append] at hownb
                     have HOb := Lib.hid hownb
                     have HBb : Hid (Below (w1.heap.size + 2) W4 wb) := (HBR.out.trans (HBa.out.mono (by have := HSR.out; omega))).grown hgb (by have := HSR.out; have := HBa.out.size; omega) (fun q hq => (HOa.out.lt q hq).1)
                     clear hownb hgb hatb)
        go_roundg (gk - 1)
        case measure => have := HJ.out; omega
        case rel => exact ⟨7, by have := HJ.out; omega, by go_num, by simpa [numBytes] using HOb.out, HBb.out⟩
    · have hj7 : j = 7 := by omega
      subst hj7
      have HO7 : Hid (wr.ownsRow (w1.heap.size + 2) 5 1 u6 40 (u8s (drum ++ le 8 e ++ numBytes [(n1 : Int), n2, n3, n4, n5, n6, n7]))) := HO.out
      have HREST : Hid (drum ++ le 8 e ++ numBytes [(n1 : Int), n2, n3, n4, n5, n6, n7] ++ zbytes 20 = restOf BB) := by show _ = _; rw [HBB.out]; simp [restOf, bkN, Cf.nums, zbytes, List.append_assoc]
      have HBWR : Hid (Below w.heap.size w wr) := HBW4.out.trans (HBR.out.mono (by have := HB.out.size; omega))
      clear HO hlt hj7
      go_wp2_with (at_builtin
                   refine wpList_append_zeros _ rfl _ _ 23 3 rfl w.heap.size 9 5 i0 Tryz.underlying23 Tryz.underlying3 Tryz.underlying9 hi0 hz0 hz1 hz2 _ 40 _ rfl (own_base HO7.out (fun q hq => by have := (HO7.out.lt q hq).1; omega)) 20 _ rfl rfl (by omega) (by omega) HBWR.out.size ?_
                   intro v8 w8 hown8 hg8
                   rw [u8s_append, HREST.out] at hown8
                   have HO8 := Lib.hid hown8
                   have HB8 := Lib.hid (HBWR.out.grown hg8 HBWR.out.size (fun q hq => by have := (HO7.out.lt q hq).1; omega))
                   clear hown8 hg8)
      obtain ⟨A8, c8, rfl, hA8, hc8, hr8⟩ := own_slice HO8.out
      refine (refSum_any A8 (40 + 20) c8 _ (restOf BB) w8 hr8 (restOf_length BB).symm (by simp [maxLen])).mono ?_
      rintro ed w9 ⟨rfl, rfl⟩
      have hb9 : Below w8.heap.size w8 w8 := Below.refl _ _
      obtain ⟨s, hs, HS⟩ : ∃ s : Nat, s < 4294967296 ∧ Hid (s = (csum (restOf BB)).toNat) := ⟨_, (csum (restOf BB)).isLt, rfl⟩
      rw [n32_nat, ← HS.out]
      have HO9 := Lib.hid HO8.out
      have HB9 := Lib.hid (HB8.out.trans (hb9.mono HB8.out.size))
      clear hb9 hr8
      go_wp2_with fail
      refine (little_any s 4 (.inl rfl) w8).mono ?_
      rintro ed w10 ⟨v10, rfl, hown10, hb10⟩
      have HO10 := Lib.hid (own_base (base' := w.heap.size) hown10 (fun q hq => by have := (hown10.lt q hq).1; have := HB9.out.size; omega))
      have hO9 := own_below' HO9.out hb10
      have HR9 := Lib.hid (Reads.of_own hO9)
      have HB10 := Lib.hid (HB9.out.trans (hb10.mono HB9.out.size))
      clear hown10 hb10 hO9
      go_wp2_with (at_builtin
                   refine wpList_append_g _ rfl _ _ _ rfl w.heap.size 5 i0 _ 1 1 Tryz.underlying23 hi0 hz0 hz1 hz2 rfl (by omega) _ 4 (u8s (le 4 s)) rfl
                     HO10.out w10.heap.size A8 (40 + 20) c8 (u8s (restOf BB)) rfl HR9.out (u8s_one _) (by simp only [maxLen]; omega) (by omega) HB10.out.size ?_
                   intro v11 w11 hown11 hg11 hat11
                   rw [u8s_append, HS.out] at hown11
                   have HO11 : Hid (w11.ownsRow w.heap.size 5 1 v11 64 (u8s (encOf BB))) := hown11
                   have HB11 := Lib.hid (HB10.out.grown hg11 HB10.out.size (fun q hq => (HO10.out.lt q hq).1))
                   clear hown11 hg11 hat11)
      go_ret2
      exact ⟨_, rfl, HO11.out, HB11.out⟩
theorem refEncode_any (b : Bk) (hw : b.wf) (hok : b.ok) (w : World) :
    Calls Tryz.prog 66 #[.agg (bkv b)] w fun ed w' => ∃ v, ed = .returned (.tuple #[v, .int .i64 0]) ∧ w'.ownsRow w.heap.size 5 1 v 64 (u8s (encOf b)) ∧ Below w.heap.size w w' := by
  obtain ⟨e, n1, n2, n3, n4, n5, n6, n7, rfl, he, h1, h2, h3, h4, h5, h6, h7⟩ := bkN_of b hok
  exact refEncode_ok e n1 n2 n3 n4 n5 n6 n7 hw hok he h1 h2 h3 h4 h5 h6 h7 w
end Go.Proofs.YtnopljanpjmbgaaGreat
namespace Go.Proofs.YtnopljanpjmbgaaGreat
open Go.RowKit Drum
set_option linter.unusedVariables false
theorem rbk_size : (Tryz.prog.info? 57).map (·.size) = some 8 := by kernel_rfl
theorem sum_nat_iff (x : W32) (s : Nat) (hs : s < 4294967296) : (x = BitVec.ofNat 32 s) ↔ x.toNat = s := by
  constructor
  · rintro rfl; rw [BitVec.toNat_ofNat, Nat.mod_eq_of_lt hs]
  · intro h; rw [← h, BitVec.ofNat_toNat, BitVec.setWidth_eq]
set_option maxHeartbeats 1000000 in
theorem refDecode_short (A : Option Addr) (n c : Nat) (hn : n < 64) (w : World) :
    Calls Tryz.prog 138 #[.slice A n c] w fun e w' => e = .returned (.tuple #[.agg (bkv bk0), .int .i64 14]) ∧ Below w.heap.size w w' := by
  go_enter Tryz.func138, Tryz.ntmps138
  go_wp2_with fail
  exact bodyPost_ret (results_blk_tmp rfl _ _ w.heap.size 57 (bkv bk0) _ rfl (Blk.new w _ _) Tryz.underlying57 rfl rbk_size) rfl ⟨rfl, by go_grown⟩
set_option maxHeartbeats 16000000 in
theorem refDecode_long (A : Option Addr) (n c B : Nat) (l : List (BitVec 8)) (hn : 64 ≤ n) (hnm : n ≤ maxLen) (hnc : n ≤ c) (hcm : c ≤ maxLen) (hl : n = l.length) (w : World) (hr : Reads w B 1 A n (u8s l)) (hB : B ≤ w.heap.size) :
    Calls Tryz.prog 138 #[.slice A n c] w fun e w' => e = .returned (.tuple #[.agg (bkv (decOf l).2), .int .i64 (decOf l).1]) ∧ Below w.heap.size w w' := by
  have HNM := Lib.hid hnm
  unfold maxLen at hnm hcm
  obtain ⟨ad, rfl, _, hcells⟩ := hr.2 (by omega)
  obtain ⟨W0, hW0⟩ : ∃ W0 : World, W0 = w.alloc (.cells #[.int .i64 0, .int .i64 0, .int .i64 0, .int .i64 0, .int .i64 0, .int .i64 0, .int .i64 0, .int .i64 0] 57) := ⟨_, rfl⟩
  have HB2 : Hid (Blk W0 w.heap.size 57 (bkv bk0)) := by rw [hW0]; exact Blk.new w _ _
  have HBW : Hid (Below w.heap.size w W0) := by rw [hW0]; exact ((Below.refl w.heap.size w).alloc (Nat.le_refl _) _)
  have HR := Lib.hid (hr.below (HBW.out.mono hB) : Reads W0 B 1 (some ad) n (u8s l))
  have HL := Lib.hid hl
  have HS0 : Hid (w.heap.size + 1 = W0.heap.size) := by rw [hW0]; show _ = _; simp
  have HW0 := Lib.hid hW0
  have HCL := Lib.hid hcells
  have CN : Hid (∀ W (a k : Nat), (k = 4 ∨ k = 8) → a + k ≤ 64 → Below W0.heap.size W0 W → Calls Tryz.prog 150 #[.slice (some ad) n c, .int .i64 (a : Int), .int .i64 (k : Int)] W fun e W' => e = .returned (.int .u64 (numTo l a k : Int)) ∧ W = W') := by
    intro W a k hk ha hW
    exact number_any (some ad) n c B l a k hk (by omega) W (HR.out.below (hW.mono (by have := HBW.out.size; omega))) HL.out HNM.out
  have CS : Hid (∀ W, Below W0.heap.size W0 W → Calls Tryz.prog 112 #[.slice (some ⟨ad.block, ad.off + 4, none⟩) 60 (c - 4)] W fun e W' => e = .returned (.int .u32 ((csum ((l.take 64).drop 4)).toNat : Int)) ∧ W = W') := by
    intro W hW
    have had : (⟨ad.block, ad.off + 4, none⟩ : Addr) = ad.add 4 := by unfold Addr.add; simp
    have hr2 := (HR.out.below (hW.mono (by have := HBW.out.size; omega)) : Reads W B 1 (some ad) n (u8s l))
    have hr3 : Reads W B 1 (some (ad.add 4)) 60 (u8s ((l.take 64).drop 4)) := by
      obtain ⟨ad', e1, hb', hc'⟩ := hr2.2 (by omega)
      injection e1 with e1
      subst e1
      refine ⟨by rw [u8s_length, List.length_drop, List.length_take]; have := HL.out; omega, fun _ => ⟨_, rfl, by rw [block_of_add]; exact hb', fun j u hu => ?_⟩⟩
      have hj : j < 60 := by have := (List.getElem?_eq_some_iff.1 hu).1; rw [u8s_length, List.length_drop, List.length_take] at this; omega
      rw [add_of_add]
      refine hc' _ _ ?_
      rw [← hu, u8s_drop, u8s_take, List.getElem?_drop, List.getElem?_take, if_pos (by omega)]
    have h := refSum_any (some (ad.add 4)) 60 (c - 4) B ((l.take 64).drop 4) W hr3 (by rw [List.length_drop, List.length_take]; have := HL.out; omega) (by simp [maxLen])
    rw [n32_nat] at h
    rw [had]
    exact h
  clear hW0 hr hl hcells
  have hl64 : 64 ≤ l.length := by have := HL.out; omega
  have HL64 := Lib.hid hl64
  obtain ⟨s, hs, HS⟩ : ∃ s : Nat, s < 4294967296 ∧ Hid (numTo l 0 4 = s) := ⟨_, numTo_lt l 0 4, rfl⟩
  obtain ⟨t, ht, HT⟩ : ∃ t : Nat, t < 4294967296 ∧ Hid ((csum ((l.take 64).drop 4)).toNat = t) := ⟨_, (csum ((l.take 64).drop 4)).isLt, rfl⟩
  rw [HT.out] at CS
  have CN0 : Hid (∀ W, Below W0.heap.size W0 W → Calls Tryz.prog 150 #[.slice (some ad) n c, .int .i64 0, .int .i64 4] W fun e W' => e = .returned (.int .u64 (s : Int)) ∧ W = W') := fun W hW => by
    have := CN.out W 0 4 (.inl rfl) (by omega) hW
    rw [HS.out] at this
    exact this
  clear hl64
  go_enter Tryz.func138, Tryz.ntmps138
  go_wp2_with fail
  rw [← HW0.out]
  refine (CS.out W0 (Below.refl _ _)).mono ?_
  rintro e wa ⟨rfl, rfl⟩
  go_wp2_with fail
  refine (CN0.out W0 (Below.refl _ _)).mono ?_
  rintro e wa ⟨rfl, rfl⟩
  by_cases hsum : t = s
  · have hd : ((t : Int) != (s : Int)) = false := by rw [hsum]; simp
    have HSUM : Hid (csum ((l.take 64).drop 4) = BitVec.ofNat 32 (numTo l 0 4)) := by rw [HS.out]; exact (sum_nat_iff _ s hs).2 (by rw [HT.out, hsum])
    obtain ⟨ep, hep⟩ : ∃ ep : Nat, numTo l 8 8 = ep := ⟨_, rfl⟩
    have hep64 : ep < 18446744073709551616 := by rw [← hep]; exact numTo_lt l 8 8
    have CG8 := CN.out W0 8 8 (.inr rfl) (by omega) (Below.refl _ _)
    rw [hep] at CG8
    have CG8' := Lib.hid CG8
    have HEP := Lib.hid hep
    clear hsum hep CG8
    go_wp2_with fail
    refine CG8'.out.mono ?_
    rintro e wa ⟨rfl, rfl⟩
    clear hd
    by_cases hbig : 1099511627776 < ep
    · have HD : Hid (decOf l = (8, bk0)) := by
        show _ = _
        unfold decOf
        rw [if_neg (by have := HL64.out; omega), if_neg (fun h => h HSUM.out), if_pos (by rw [HEP.out]; exact hbig)]
      go_wp2_with (refine wpList_store_row rfl 57 _ _ rfl w.heap.size (bkv bk0) rfl rfl 57 (bkv bk0) HB2.out rbk_size rfl (bkv_one _) ?_)
      exact bodyPost_ret (results_blk_tmp rfl _ _ w.heap.size 57 (bkv bk0) _ rfl (setRow_heap _ _ _ _ _ _ HB2.out) Tryz.underlying57 rfl rbk_size) rfl ⟨by rw [HD.out]; rfl, below_setRow HBW.out (by omega) _⟩
    · have hepb : ep ≤ 1099511627776 := by omega
      obtain ⟨n1, hb1, HN1⟩ : ∃ m : Nat, m < 4294967296 ∧ Hid (numTo l 16 4 = m) := ⟨_, numTo_lt l 16 4, rfl⟩
      have CG_1 := CN.out W0 16 4 (.inl rfl) (by omega) (Below.refl _ _)
      rw [HN1.out] at CG_1
      have CH_1 := Lib.hid CG_1
      clear CG_1
      obtain ⟨n2, hb2, HN2⟩ : ∃ m : Nat, m < 4294967296 ∧ Hid (numTo l 20 4 = m) := ⟨_, numTo_lt l 20 4, rfl⟩
      have CG_2 := CN.out W0 20 4 (.inl rfl) (by omega) (Below.refl _ _)
      rw [HN2.out] at CG_2
      have CH_2 := Lib.hid CG_2
      clear CG_2
      obtain ⟨n3, hb3, HN3⟩ : ∃ m : Nat, m < 4294967296 ∧ Hid (numTo l 24 4 = m) := ⟨_, numTo_lt l 24 4, rfl⟩
      have CG_3 := CN.out W0 24 4 (.inl rfl) (by omega) (Below.refl _ _)
      rw [HN3.out] at CG_3
      have CH_3 := Lib.hid CG_3
      clear CG_3
      obtain ⟨n4, hb4, HN4⟩ : ∃ m : Nat, m < 4294967296 ∧ Hid (numTo l 28 4 = m) := ⟨_, numTo_lt l 28 4, rfl⟩
      have CG_4 := CN.out W0 28 4 (.inl rfl) (by omega) (Below.refl _ _)
      rw [HN4.out] at CG_4
      have CH_4 := Lib.hid CG_4
      clear CG_4
      obtain ⟨n5, hb5, HN5⟩ : ∃ m : Nat, m < 4294967296 ∧ Hid (numTo l 32 4 = m) := ⟨_, numTo_lt l 32 4, rfl⟩
      have CG_5 := CN.out W0 32 4 (.inl rfl) (by omega) (Below.refl _ _)
      rw [HN5.out] at CG_5
      have CH_5 := Lib.hid CG_5
      clear CG_5
      obtain ⟨n6, hb6, HN6⟩ : ∃ m : Nat, m < 4294967296 ∧ Hid (numTo l 36 4 = m) := ⟨_, numTo_lt l 36 4, rfl⟩
      have CG_6 := CN.out W0 36 4 (.inl rfl) (by omega) (Below.refl _ _)
      rw [HN6.out] at CG_6
      have CH_6 := Lib.hid CG_6
      clear CG_6
      obtain ⟨n7, hb7, HN7⟩ : ∃ m : Nat, m < 4294967296 ∧ Hid (numTo l 40 4 = m) := ⟨_, numTo_lt l 40 4, rfl⟩
      have CG_7 := CN.out W0 40 4 (.inl rfl) (by omega) (Below.refl _ _)
      rw [HN7.out] at CG_7
      have CH_7 := Lib.hid CG_7
      clear CG_7
      have HX : Hid (readOf l = bkN ep n1 n2 n3 n4 n5 n6 n7) := by
        show _ = _
        unfold readOf bkN
        rw [HEP.out, HN1.out, HN2.out, HN3.out, HN4.out, HN5.out, HN6.out, HN7.out]
      have HD : Hid (decOf l = if (readOf l).ok ∧ encOf (readOf l) = l.take 64 then (0, readOf l) else (8, bk0)) := by
        show _ = _
        unfold decOf
        rw [if_neg (by have := HL64.out; omega), if_neg (fun h => h HSUM.out), if_neg (by rw [HEP.out]; omega)]
      rw [HX.out] at HD
      clear CN hbig
      go_wp2_with fail
      refine CH_1.out.mono ?_
      rintro e wa ⟨rfl, rfl⟩
      go_wp2_with fail
      refine CH_2.out.mono ?_
      rintro e wa ⟨rfl, rfl⟩
      go_wp2_with fail
      refine CH_3.out.mono ?_
      rintro e wa ⟨rfl, rfl⟩
      go_wp2_with fail
      refine CH_4.out.mono ?_
      rintro e wa ⟨rfl, rfl⟩
      go_wp2_with fail
      refine CH_5.out.mono ?_
      rintro e wa ⟨rfl, rfl⟩
      go_wp2_with fail
      refine CH_6.out.mono ?_
      rintro e wa ⟨rfl, rfl⟩
      go_wp2_with fail
      refine CH_7.out.mono ?_
      rintro e wa ⟨rfl, rfl⟩
      have HWF : Hid ((bkN ep n1 n2 n3 n4 n5 n6 n7).wf) := by
        refine ⟨⟨by simp only [bkN]; omega, by simp only [bkN]; omega⟩, fun n hn => ?_⟩
        simp only [bkN, Cf.nums, List.mem_cons, List.not_mem_nil, or_false] at hn
        rcases hn with rfl | rfl | rfl | rfl | rfl | rfl | rfl <;> omega
      go_wp2_with fail
      obtain ⟨wx, hwx⟩ : ∃ wx : World, wx = W0.alloc (.cells #[.int .i64 (ep : Int), .int .i64 (n1 : Int), .int .i64 (n2 : Int), .int .i64 (n3 : Int), .int .i64 (n4 : Int), .int .i64 (n5 : Int), .int .i64 (n6 : Int), .int .i64 (n7 : Int)] 57) := ⟨_, rfl⟩
      have HBX : Hid (Blk wx W0.heap.size 57 (bkv (bkN ep n1 n2 n3 n4 n5 n6 n7))) := by rw [hwx]; exact Blk.new _ _ _
      have HHX : Hid (Below W0.heap.size W0 wx) := by rw [hwx]; exact (Below.refl W0.heap.size W0).alloc (Nat.le_refl _) _
      have hx0 : W0.heap.size < wx.heap.size := HBX.out.lt
      rw [← hwx]
      clear hwx
      have hg1 : w.heap.size < W0.heap.size := by have := HS0.out; omega
      by_cases hok : (bkN ep n1 n2 n3 n4 n5 n6 n7).ok
      · refine (refEncode_any _ HWF.out hok _).mono ?_
        rintro e w8 ⟨v8, rfl, hown8, hb8⟩
        have HB8 := Lib.hid (HBX.out.below hb8 hx0)
        have HH8 := Lib.hid (HHX.out.trans (hb8.mono (by omega)))
        obtain ⟨g8, c8, cur8, rfl, _, _, hA8, hc8, _, _⟩ := own_form hown8 (by omega)
        have HR8 := Lib.hid (Reads.of_own hown8)
        have HOK := Lib.hid hok
        have HRL := Lib.hid (HR.out.below (HH8.out.mono (by have := HBW.out.size; omega)) : Reads w8 B 1 (some ad) n (u8s l))
        have HEL := Lib.hid (encOf_length (bkN ep n1 n2 n3 n4 n5 n6 n7))
        obtain ⟨el, HELL⟩ : ∃ el : List (BitVec 8), Hid (el = encOf (bkN ep n1 n2 n3 n4 n5 n6 n7)) := ⟨_, rfl⟩
        rw [← HELL.out] at HR8 HEL
        clear hown8 hb8 hok CS CN0
        go_wp2_with fail
        go_loopg [8] 64 (fun q v8 wr => ∃ j : Nat, j + q = 64 ∧ v8 = .int .i64 j ∧ (∀ i (h1 : i < el.length) (h2 : i < l.length), i < j → el[i] = l[i]) ∧ (∃ q, wr = w8.drewN q))
        case atStart => exact ⟨0, rfl, rfl, fun i _ _ h => by omega, 0, rfl⟩
        case round =>
          obtain ⟨j, hj, rfl, hs, q, rfl⟩ := hrel
          have HJ := Lib.hid hj
          have HSS := Lib.hid hs
          have hj' : j ≤ 64 := by omega
          clear hj hs
          by_cases hlt : j < 64
          · obtain ⟨ad1, u, e1, _, hx, hc⟩ := HR8.out.at_ hlt
            injection e1 with e1
            subst e1
            obtain ⟨ad2, u', e2, _, hx', hc'⟩ := HRL.out.at_ (show j < n by omega)
            injection e2 with e2
            subst e2
            obtain ⟨hjl, rfl⟩ := u8s_at hx
            obtain ⟨hjm, rfl⟩ := u8s_at hx'
            rw [add_zero_addr] at hc
            clear hx hx'
            by_cases he : el[j] = l[j]
            · have hb : (n8 el[j] != n8 l[j]) = false := by rw [he]; simp
              have HE := Lib.hid he
              clear he
              go_wp2_with fail
              go_region
              all_goals go_wp2_with fail
              all_goals go_roundg (gk - 1)
              case measure => have := HJ.out; omega
              case rel =>
                refine ⟨j + 1, by have := HJ.out; omega, by go_num, fun i h1 h2 hi => ?_, q + 1, rfl⟩
                by_cases e : i = j
                · subst e; exact HE.out
                · exact HSS.out i h1 h2 (by omega)
            · have hb : (n8 el[j] != n8 l[j]) = true := by simp only [bne_iff_ne, ne_eq]; exact fun h => he (n8_eq.1 h)
              have HD2 : Hid (decOf l = (8, bk0)) := by
                show _ = _
                rw [HD.out, if_neg (fun h => he ?_)]
                have := h.2
                rw [← HELL.out] at this
                rw [List.getElem_of_eq this, List.getElem_take]
              clear he
              go_wp2_with fail
              go_region
              have HB29 := Lib.hid ((HB2.out.below HH8.out hg1).drewN (q + 1))
              have HBW9 := Lib.hid (HBW.out.trans ((show Below W0.heap.size W0 (w8.drewN (q + 1)) from HH8.out.trans ⟨rfl, rfl, rfl, Nat.le_refl _, fun _ _ => rfl⟩).mono HBW.out.size))
              all_goals go_wp2_with (refine wpList_store_row rfl 57 _ _ rfl w.heap.size (bkv bk0) rfl rfl 57 (bkv bk0) HB29.out rbk_size rfl (bkv_one _) ?_)
              exact bodyPost_ret (results_blk_tmp rfl _ _ w.heap.size 57 (bkv bk0) _ rfl (setRow_heap _ _ _ _ _ _ HB29.out) Tryz.underlying57 rfl rbk_size) rfl ⟨by rw [HD2.out]; rfl, below_setRow HBW9.out (by omega) _⟩
          · have e8 : j = 64 := by omega
            subst e8
            have HEQ : Hid (el = l.take 64) := by
              refine List.ext_getElem (by rw [List.length_take]; have := HEL.out; have := HL64.out; omega) fun i h1 h2 => ?_
              rw [List.getElem_take]
              exact HSS.out i h1 (by rw [List.length_take] at h2; omega) (by have := HEL.out; omega)
            have HD2 : Hid (decOf l = (0, bkN ep n1 n2 n3 n4 n5 n6 n7)) := by show _ = _; rw [HD.out, if_pos ⟨HOK.out, by rw [← HELL.out]; exact HEQ.out⟩]
            have HB9 := Lib.hid (HB8.out.drewN q)
            have HB29 := Lib.hid ((HB2.out.below HH8.out hg1).drewN q)
            have HBW9 := Lib.hid (HBW.out.trans ((show Below W0.heap.size W0 (w8.drewN q) from HH8.out.trans ⟨rfl, rfl, rfl, Nat.le_refl _, fun _ _ => rfl⟩).mono HBW.out.size))
            go_wp2_with (first
              | (refine wpList_load_row rfl 57 _ rfl W0.heap.size rfl 57 (bkv (bkN ep n1 n2 n3 n4 n5 n6 n7)) (0, 0) _ HB9.out Tryz.underlying57 rfl rbk_size ?_)
              | (refine wpList_store_row rfl 57 _ _ rfl w.heap.size (bkv (bkN ep n1 n2 n3 n4 n5 n6 n7)) rfl rfl 57 (bkv bk0) HB29.out rbk_size rfl (bkv_one _) ?_))
            exact bodyPost_ret (results_blk_tmp rfl _ _ w.heap.size 57 (bkv (bkN ep n1 n2 n3 n4 n5 n6 n7)) _ rfl (setRow_heap _ _ _ _ _ _ HB29.out) Tryz.underlying57 rfl rbk_size) rfl ⟨by rw [HD2.out]; rfl, below_setRow HBW9.out (by omega) _⟩
      · refine (refEncode_bad _ HWF.out hok _).mono ?_
        rintro e w8 ⟨rfl, hb8⟩
        have HH8 := Lib.hid (HHX.out.trans (hb8.mono (by omega)))
        have HB28 := Lib.hid (HB2.out.below HH8.out hg1)
        have HBW8 := Lib.hid (HBW.out.trans (HH8.out.mono HBW.out.size))
        have HD2 : Hid (decOf l = (8, bk0)) := by show _ = _; rw [HD.out, if_neg (fun h => hok h.1)]
        clear hb8 hok HD
        go_wp2_with (refine wpList_store_row rfl 57 _ _ rfl w.heap.size (bkv bk0) rfl rfl 57 (bkv bk0) HB28.out rbk_size rfl (bkv_one _) ?_)
        exact bodyPost_ret (results_blk_tmp rfl _ _ w.heap.size 57 (bkv bk0) _ rfl (setRow_heap _ _ _ _ _ _ HB28.out) Tryz.underlying57 rfl rbk_size) rfl ⟨by rw [HD2.out]; rfl, below_setRow HBW8.out (by omega) _⟩
  · have hd : ((t : Int) != (s : Int)) = true := by simp; omega
    have HD : Hid (decOf l = (15, bk0)) := decOf_sum l HL64.out (by rw [HS.out]; exact fun h => hsum (by rw [← HT.out]; exact (sum_nat_iff _ s hs).1 h))
    clear hsum
    go_wp2_with (refine wpList_store_row rfl 57 _ _ rfl w.heap.size (bkv bk0) rfl rfl 57 (bkv bk0) HB2.out rbk_size rfl (bkv_one _) ?_)
    exact bodyPost_ret (results_blk_tmp rfl _ _ w.heap.size 57 (bkv bk0) _ rfl (setRow_heap _ _ _ _ _ _ HB2.out) Tryz.underlying57 rfl rbk_size) rfl ⟨by rw [HD.out]; rfl, below_setRow HBW.out (by omega) _⟩
theorem refDecode_any (A : Option Addr) (n c B : Nat) (l : List (BitVec 8)) (hl : n = l.length) (hnm : n ≤ maxLen) (hnc : n ≤ c) (hcm : c ≤ maxLen) (w : World) (hr : Reads w B 1 A n (u8s l)) (hB : B ≤ w.heap.size) :
    Calls Tryz.prog 138 #[.slice A n c] w fun e w' => e = .returned (.tuple #[.agg (bkv (decOf l).2), .int .i64 (decOf l).1]) ∧ Below w.heap.size w w' := by
  by_cases h : n < 64
  · rw [decOf_short l (by omega)]
    exact refDecode_short A n c h w
  · exact refDecode_long A n c B l (by omega) hnm hnc hcm hl w hr hB
end Go.Proofs.YtnopljanpjmbgaaGreat
namespace Go.Proofs.YtnopljanpjmbgaaGreat
open Go.RowKit Drum
set_option linter.unusedVariables false
/-- The next superblock: the error's number, and the superblock. -/
def nextOf (b : Bk) (p : Int) : Int × Bk :=
  if b.ok ∧ (p = 1 ∨ p = 2) then (if b.epoch = 1099511627776 then (16, bk0) else (0, ⟨b.epoch + 1, ⟨b.conf.slots, b.conf.size, b.conf.reserve, b.conf.work, b.conf.key, b.conf.value, p⟩⟩)) else (2, bk0)
theorem nextOf_bad {b : Bk} {p : Int} (h : ¬ (b.ok ∧ (p = 1 ∨ p = 2))) : nextOf b p = (2, bk0) := if_neg h
theorem nextOf_last {b : Bk} {p : Int} (h : b.ok) (hp : p = 1 ∨ p = 2) (he : b.epoch = 1099511627776) : nextOf b p = (16, bk0) := by
  unfold nextOf; rw [if_pos ⟨h, hp⟩, if_pos he]
theorem nextOf_ok {b : Bk} {p : Int} (h : b.ok) (hp : p = 1 ∨ p = 2) (he : b.epoch ≠ 1099511627776) :
    nextOf b p = (0, ⟨b.epoch + 1, ⟨b.conf.slots, b.conf.size, b.conf.reserve, b.conf.work, b.conf.key, b.conf.value, p⟩⟩) := by
  unfold nextOf; rw [if_pos ⟨h, hp⟩, if_neg he]
set_option maxHeartbeats 4000000 in
theorem next_lit (e c1 c2 c3 c4 c5 c6 c7 : Int) (p : Int) (hw : Bk.wf ⟨e, ⟨c1, c2, c3, c4, c5, c6, c7⟩⟩) (w : World) :
    Calls Tryz.prog 42 #[.agg #[.int .i64 e, .int .i64 c1, .int .i64 c2, .int .i64 c3, .int .i64 c4, .int .i64 c5, .int .i64 c6, .int .i64 c7], .int .i64 p] w fun ed w' => ed = .returned (.tuple #[.agg (bkv (nextOf ⟨e, ⟨c1, c2, c3, c4, c5, c6, c7⟩⟩ p).2), .int .i64 (nextOf ⟨e, ⟨c1, c2, c3, c4, c5, c6, c7⟩⟩ p).1]) ∧ Below w.heap.size w w' := by
  have HC : Hid (∀ W, Calls Tryz.prog 45 #[.agg #[.int .i64 e, .int .i64 c1, .int .i64 c2, .int .i64 c3, .int .i64 c4, .int .i64 c5, .int .i64 c6, .int .i64 c7]] W fun ed w' => ed = .returned (.int .i64 (okN (Bk.ok ⟨e, ⟨c1, c2, c3, c4, c5, c6, c7⟩⟩))) ∧ Below W.heap.size W w') := fun W => check_any _ hw W
  have hwe : -9223372036854775808 ≤ e ∧ e ≤ 9223372036854775807 := hw.1
  obtain ⟨W0, hW0⟩ : ∃ W0 : World, W0 = (w.alloc (.cells #[.int .i64 e, .int .i64 c1, .int .i64 c2, .int .i64 c3, .int .i64 c4, .int .i64 c5, .int .i64 c6, .int .i64 c7] 33)).alloc (.cells #[.int .i64 0, .int .i64 0, .int .i64 0, .int .i64 0, .int .i64 0, .int .i64 0, .int .i64 0, .int .i64 0] 33) := ⟨_, rfl⟩
  have HB1 : Hid (Blk W0 w.heap.size 33 #[.int .i64 e, .int .i64 c1, .int .i64 c2, .int .i64 c3, .int .i64 c4, .int .i64 c5, .int .i64 c6, .int .i64 c7]) := by rw [hW0]; exact (Blk.new w _ _).alloc _
  have HB2 : Hid (Blk W0 (w.heap.size + 1) 33 (bkv bk0)) := by rw [hW0]; exact blk2 w _ _ _ _
  have HBW : Hid (Below w.heap.size w W0) := by rw [hW0]; exact ((Below.refl w.heap.size w).alloc (Nat.le_refl _) _).alloc (by simp) _
  have hs0 : w.heap.size + 1 < W0.heap.size := HB2.out.lt
  have HW0 := Lib.hid hW0
  clear hW0 hw
  by_cases hok : Bk.ok ⟨e, ⟨c1, c2, c3, c4, c5, c6, c7⟩⟩
  · rw [okN_yes hok] at HC
    by_cases hp : p = 1 ∨ p = 2
    · by_cases he : e = 1099511627776
      · have HD := Lib.hid (nextOf_last hok hp he)
        have hbe : (e == 1099511627776) = true := by simp [he]
        clear hok he
        rcases hp with rfl | rfl
        all_goals
          go_enter Tryz.func42, Tryz.ntmps42
          go_wp2_with fail
          rw [← HW0.out]
          refine (HC.out _).mono ?_
          rintro ed w1 ⟨rfl, hb1⟩
          have HB11 := Lib.hid (HB1.out.below hb1 (by omega))
          have HB21 := Lib.hid (HB2.out.below hb1 hs0)
          have HBW1 := Lib.hid (HBW.out.trans (hb1.mono HBW.out.size))
          have q0 : w1.cell? ⟨w.heap.size, 0, none⟩ = some (.int .i64 e) := HB11.out.cell 0
          clear hb1
          go_wp2_with (refine wpList_store_row rfl 33 _ _ rfl (w.heap.size + 1) (bkv bk0) rfl rfl 33 (bkv bk0) HB21.out bk_size rfl (bkv_one _) ?_)
          exact bodyPost_ret (results_blk_tmp rfl _ _ (w.heap.size + 1) 33 (bkv bk0) _ rfl (setRow_heap _ _ _ _ _ _ HB21.out) Tryz.underlying33 rfl bk_size) rfl ⟨by rw [HD.out]; rfl, below_setRow HBW1.out (by omega) _⟩
      · have HD := Lib.hid (nextOf_ok hok hp he)
        have hbe : (e == 1099511627776) = false := by simp [he]
        have he2 : e ≤ 1099511627776 := hok.1.2
        clear hok he
        rcases hp with rfl | rfl
        · go_enter Tryz.func42, Tryz.ntmps42
          go_wp2_with fail
          rw [← HW0.out]
          refine (HC.out _).mono ?_
          rintro ed w1 ⟨rfl, hb1⟩
          have HB11 := Lib.hid (HB1.out.below hb1 (by omega))
          have HB21 := Lib.hid (HB2.out.below hb1 hs0)
          have HBW1 := Lib.hid (HBW.out.trans (hb1.mono HBW.out.size))
          have q0 : w1.cell? ⟨w.heap.size, 0, none⟩ = some (.int .i64 e) := HB11.out.cell 0
          have f0 : w1.frozen? ⟨w.heap.size, 0, none⟩ = false := HB11.out.frozen 0
          have q7 : w1.cell? ⟨w.heap.size, 7, none⟩ = some (.int .i64 c7) := HB11.out.cell 7
          have f7 : w1.frozen? ⟨w.heap.size, 7, none⟩ = false := HB11.out.frozen 7
          have HB12 : Hid (Blk ((w1.setCell ⟨w.heap.size, 0, none⟩ (.int .i64 (e + 1))).setCell ⟨w.heap.size, 7, none⟩ (.int .i64 1)) w.heap.size 33 (bkv ⟨e + 1, ⟨c1, c2, c3, c4, c5, c6, 1⟩⟩)) := (HB11.out.set_ 0 (.int .i64 (e + 1))).set_ 7 (.int .i64 1)
          have HB22 : Hid (Blk ((w1.setCell ⟨w.heap.size, 0, none⟩ (.int .i64 (e + 1))).setCell ⟨w.heap.size, 7, none⟩ (.int .i64 1)) (w.heap.size + 1) 33 (bkv bk0)) := (HB21.out.far (p := ⟨w.heap.size, 0, none⟩) (by simp) (.int .i64 (e + 1))).far (p := ⟨w.heap.size, 7, none⟩) (by simp) (.int .i64 1)
          have HBW2 := Lib.hid ((HBW1.out.setCell (p := ⟨w.heap.size, 0, none⟩) (Nat.le_refl _) (.int .i64 (e + 1))).setCell (p := ⟨w.heap.size, 7, none⟩) (Nat.le_refl _) (.int .i64 1))
          clear hb1
          go_wp2_with (first
            | (refine wpList_load_row rfl 33 _ rfl w.heap.size rfl 33 (bkv ⟨e + 1, ⟨c1, c2, c3, c4, c5, c6, 1⟩⟩) (0, 0) _ HB12.out Tryz.underlying33 rfl bk_size ?_)
            | (refine wpList_store_row rfl 33 _ _ rfl (w.heap.size + 1) (bkv ⟨e + 1, ⟨c1, c2, c3, c4, c5, c6, 1⟩⟩) rfl rfl 33 (bkv bk0) HB22.out bk_size rfl (bkv_one _) ?_))
          exact bodyPost_ret (results_blk_tmp rfl _ _ (w.heap.size + 1) 33 (bkv ⟨e + 1, ⟨c1, c2, c3, c4, c5, c6, 1⟩⟩) _ rfl (setRow_heap _ _ _ _ _ _ HB22.out) Tryz.underlying33 rfl bk_size) rfl ⟨by rw [HD.out]; rfl, below_setRow HBW2.out (by omega) _⟩
        · go_enter Tryz.func42, Tryz.ntmps42
          go_wp2_with fail
          rw [← HW0.out]
          refine (HC.out _).mono ?_
          rintro ed w1 ⟨rfl, hb1⟩
          have HB11 := Lib.hid (HB1.out.below hb1 (by omega))
          have HB21 := Lib.hid (HB2.out.below hb1 hs0)
          have HBW1 := Lib.hid (HBW.out.trans (hb1.mono HBW.out.size))
          have q0 : w1.cell? ⟨w.heap.size, 0, none⟩ = some (.int .i64 e) := HB11.out.cell 0
          have f0 : w1.frozen? ⟨w.heap.size, 0, none⟩ = false := HB11.out.frozen 0
          have q7 : w1.cell? ⟨w.heap.size, 7, none⟩ = some (.int .i64 c7) := HB11.out.cell 7
          have f7 : w1.frozen? ⟨w.heap.size, 7, none⟩ = false := HB11.out.frozen 7
          have HB12 : Hid (Blk ((w1.setCell ⟨w.heap.size, 0, none⟩ (.int .i64 (e + 1))).setCell ⟨w.heap.size, 7, none⟩ (.int .i64 2)) w.heap.size 33 (bkv ⟨e + 1, ⟨c1, c2, c3, c4, c5, c6, 2⟩⟩)) := (HB11.out.set_ 0 (.int .i64 (e + 1))).set_ 7 (.int .i64 2)
          have HB22 : Hid (Blk ((w1.setCell ⟨w.heap.size, 0, none⟩ (.int .i64 (e + 1))).setCell ⟨w.heap.size, 7, none⟩ (.int .i64 2)) (w.heap.size + 1) 33 (bkv bk0)) := (HB21.out.far (p := ⟨w.heap.size, 0, none⟩) (by simp) (.int .i64 (e + 1))).far (p := ⟨w.heap.size, 7, none⟩) (by simp) (.int .i64 2)
          have HBW2 := Lib.hid ((HBW1.out.setCell (p := ⟨w.heap.size, 0, none⟩) (Nat.le_refl _) (.int .i64 (e + 1))).setCell (p := ⟨w.heap.size, 7, none⟩) (Nat.le_refl _) (.int .i64 2))
          clear hb1
          go_wp2_with (first
            | (refine wpList_load_row rfl 33 _ rfl w.heap.size rfl 33 (bkv ⟨e + 1, ⟨c1, c2, c3, c4, c5, c6, 2⟩⟩) (0, 0) _ HB12.out Tryz.underlying33 rfl bk_size ?_)
            | (refine wpList_store_row rfl 33 _ _ rfl (w.heap.size + 1) (bkv ⟨e + 1, ⟨c1, c2, c3, c4, c5, c6, 2⟩⟩) rfl rfl 33 (bkv bk0) HB22.out bk_size rfl (bkv_one _) ?_))
          exact bodyPost_ret (results_blk_tmp rfl _ _ (w.heap.size + 1) 33 (bkv ⟨e + 1, ⟨c1, c2, c3, c4, c5, c6, 2⟩⟩) _ rfl (setRow_heap _ _ _ _ _ _ HB22.out) Tryz.underlying33 rfl bk_size) rfl ⟨by rw [HD.out]; rfl, below_setRow HBW2.out (by omega) _⟩
    · have HD := Lib.hid (nextOf_bad (b := ⟨e, ⟨c1, c2, c3, c4, c5, c6, c7⟩⟩) (p := p) (fun h => hp h.2))
      have hp1 : (p != 1) = true := by simp; omega
      have hp2 : (p != 2) = true := by simp; omega
      clear hok hp
      go_enter Tryz.func42, Tryz.ntmps42
      go_wp2_with fail
      rw [← HW0.out]
      refine (HC.out _).mono ?_
      rintro ed w1 ⟨rfl, hb1⟩
      have HB21 := Lib.hid (HB2.out.below hb1 hs0)
      have HBW1 := Lib.hid (HBW.out.trans (hb1.mono HBW.out.size))
      clear hb1
      go_wp2_with (refine wpList_store_row rfl 33 _ _ rfl (w.heap.size + 1) (bkv bk0) rfl rfl 33 (bkv bk0) HB21.out bk_size rfl (bkv_one _) ?_)
      exact bodyPost_ret (results_blk_tmp rfl _ _ (w.heap.size + 1) 33 (bkv bk0) _ rfl (setRow_heap _ _ _ _ _ _ HB21.out) Tryz.underlying33 rfl bk_size) rfl ⟨by rw [HD.out]; rfl, below_setRow HBW1.out (by omega) _⟩
  · have HD := Lib.hid (nextOf_bad (p := p) (fun h => hok h.1))
    rw [okN_no hok] at HC
    clear hok
    go_enter Tryz.func42, Tryz.ntmps42
    go_wp2_with fail
    rw [← HW0.out]
    refine (HC.out _).mono ?_
    rintro ed w1 ⟨rfl, hb1⟩
    have HB21 := Lib.hid (HB2.out.below hb1 hs0)
    have HBW1 := Lib.hid (HBW.out.trans (hb1.mono HBW.out.size))
    clear hb1
    go_wp2_with (refine wpList_store_row rfl 33 _ _ rfl (w.heap.size + 1) (bkv bk0) rfl rfl 33 (bkv bk0) HB21.out bk_size rfl (bkv_one _) ?_)
    exact bodyPost_ret (results_blk_tmp rfl _ _ (w.heap.size + 1) 33 (bkv bk0) _ rfl (setRow_heap _ _ _ _ _ _ HB21.out) Tryz.underlying33 rfl bk_size) rfl ⟨by rw [HD.out]; rfl, below_setRow HBW1.out (by omega) _⟩
theorem next_any (b : Bk) (hw : b.wf) (p : Int) (w : World) :
    Calls Tryz.prog 42 #[.agg (bkv b), .int .i64 p] w fun e w' => e = .returned (.tuple #[.agg (bkv (nextOf b p).2), .int .i64 (nextOf b p).1]) ∧ Below w.heap.size w w' :=
  next_lit b.epoch b.conf.slots b.conf.size b.conf.reserve b.conf.work b.conf.key b.conf.value b.conf.policy p hw w
set_option maxHeartbeats 4000000 in
theorem refNext_lit (e c1 c2 c3 c4 c5 c6 c7 : Int) (p : Int) (hw : Bk.wf ⟨e, ⟨c1, c2, c3, c4, c5, c6, c7⟩⟩) (w : World) :
    Calls Tryz.prog 63 #[.agg #[.int .i64 e, .int .i64 c1, .int .i64 c2, .int .i64 c3, .int .i64 c4, .int .i64 c5, .int .i64 c6, .int .i64 c7], .int .i64 p] w fun ed w' => ed = .returned (.tuple #[.agg (bkv (nextOf ⟨e, ⟨c1, c2, c3, c4, c5, c6, c7⟩⟩ p).2), .int .i64 (nextOf ⟨e, ⟨c1, c2, c3, c4, c5, c6, c7⟩⟩ p).1]) ∧ Below w.heap.size w w' := by
  have HC : Hid (∀ W, Calls Tryz.prog 107 #[.agg #[.int .i64 e, .int .i64 c1, .int .i64 c2, .int .i64 c3, .int .i64 c4, .int .i64 c5, .int .i64 c6, .int .i64 c7]] W fun ed w' => ed = .returned (.int .i64 (okN (Bk.ok ⟨e, ⟨c1, c2, c3, c4, c5, c6, c7⟩⟩))) ∧ Below W.heap.size W w') := fun W => refCheck_any _ hw W
  have hwe : -9223372036854775808 ≤ e ∧ e ≤ 9223372036854775807 := hw.1
  obtain ⟨W0, hW0⟩ : ∃ W0 : World, W0 = (w.alloc (.cells #[.int .i64 e, .int .i64 c1, .int .i64 c2, .int .i64 c3, .int .i64 c4, .int .i64 c5, .int .i64 c6, .int .i64 c7] 57)).alloc (.cells #[.int .i64 0, .int .i64 0, .int .i64 0, .int .i64 0, .int .i64 0, .int .i64 0, .int .i64 0, .int .i64 0] 57) := ⟨_, rfl⟩
  have HB1 : Hid (Blk W0 w.heap.size 57 #[.int .i64 e, .int .i64 c1, .int .i64 c2, .int .i64 c3, .int .i64 c4, .int .i64 c5, .int .i64 c6, .int .i64 c7]) := by rw [hW0]; exact (Blk.new w _ _).alloc _
  have HB2 : Hid (Blk W0 (w.heap.size + 1) 57 (bkv bk0)) := by rw [hW0]; exact blk2 w _ _ _ _
  have HBW : Hid (Below w.heap.size w W0) := by rw [hW0]; exact ((Below.refl w.heap.size w).alloc (Nat.le_refl _) _).alloc (by simp) _
  have hs0 : w.heap.size + 1 < W0.heap.size := HB2.out.lt
  have HW0 := Lib.hid hW0
  clear hW0 hw
  by_cases hok : Bk.ok ⟨e, ⟨c1, c2, c3, c4, c5, c6, c7⟩⟩
  · rw [okN_yes hok] at HC
    by_cases hp : p = 1 ∨ p = 2
    · by_cases he : e = 1099511627776
      · have HD := Lib.hid (nextOf_last hok hp he)
        have hbe : (e == 1099511627776) = true := by simp [he]
        clear hok he
        rcases hp with rfl | rfl
        all_goals
          go_enter Tryz.func63, Tryz.ntmps63
          go_wp2_with fail
          rw [← HW0.out]
          refine (HC.out _).mono ?_
          rintro ed w1 ⟨rfl, hb1⟩
          have HB11 := Lib.hid (HB1.out.below hb1 (by omega))
          have HB21 := Lib.hid (HB2.out.below hb1 hs0)
          have HBW1 := Lib.hid (HBW.out.trans (hb1.mono HBW.out.size))
          have q0 : w1.cell? ⟨w.heap.size, 0, none⟩ = some (.int .i64 e) := HB11.out.cell 0
          clear hb1
          go_wp2_with (refine wpList_store_row rfl 57 _ _ rfl (w.heap.size + 1) (bkv bk0) rfl rfl 57 (bkv bk0) HB21.out rbk_size rfl (bkv_one _) ?_)
          exact bodyPost_ret (results_blk_tmp rfl _ _ (w.heap.size + 1) 57 (bkv bk0) _ rfl (setRow_heap _ _ _ _ _ _ HB21.out) Tryz.underlying57 rfl rbk_size) rfl ⟨by rw [HD.out]; rfl, below_setRow HBW1.out (by omega) _⟩
      · have HD := Lib.hid (nextOf_ok hok hp he)
        have hbe : (e == 1099511627776) = false := by simp [he]
        have he2 : e ≤ 1099511627776 := hok.1.2
        clear hok he
        rcases hp with rfl | rfl
        · go_enter Tryz.func63, Tryz.ntmps63
          go_wp2_with fail
          rw [← HW0.out]
          refine (HC.out _).mono ?_
          rintro ed w1 ⟨rfl, hb1⟩
          have HB11 := Lib.hid (HB1.out.below hb1 (by omega))
          have HB21 := Lib.hid (HB2.out.below hb1 hs0)
          have HBW1 := Lib.hid (HBW.out.trans (hb1.mono HBW.out.size))
          have q0 : w1.cell? ⟨w.heap.size, 0, none⟩ = some (.int .i64 e) := HB11.out.cell 0
          have f0 : w1.frozen? ⟨w.heap.size, 0, none⟩ = false := HB11.out.frozen 0
          have q7 : w1.cell? ⟨w.heap.size, 7, none⟩ = some (.int .i64 c7) := HB11.out.cell 7
          have f7 : w1.frozen? ⟨w.heap.size, 7, none⟩ = false := HB11.out.frozen 7
          have HB12 : Hid (Blk ((w1.setCell ⟨w.heap.size, 0, none⟩ (.int .i64 (e + 1))).setCell ⟨w.heap.size, 7, none⟩ (.int .i64 1)) w.heap.size 57 (bkv ⟨e + 1, ⟨c1, c2, c3, c4, c5, c6, 1⟩⟩)) := (HB11.out.set_ 0 (.int .i64 (e + 1))).set_ 7 (.int .i64 1)
          have HB22 : Hid (Blk ((w1.setCell ⟨w.heap.size, 0, none⟩ (.int .i64 (e + 1))).setCell ⟨w.heap.size, 7, none⟩ (.int .i64 1)) (w.heap.size + 1) 57 (bkv bk0)) := (HB21.out.far (p := ⟨w.heap.size, 0, none⟩) (by simp) (.int .i64 (e + 1))).far (p := ⟨w.heap.size, 7, none⟩) (by simp) (.int .i64 1)
          have HBW2 := Lib.hid ((HBW1.out.setCell (p := ⟨w.heap.size, 0, none⟩) (Nat.le_refl _) (.int .i64 (e + 1))).setCell (p := ⟨w.heap.size, 7, none⟩) (Nat.le_refl _) (.int .i64 1))
          clear hb1
          go_wp2_with (first
            | (refine wpList_load_row rfl 57 _ rfl w.heap.size rfl 57 (bkv ⟨e + 1, ⟨c1, c2, c3, c4, c5, c6, 1⟩⟩) (0, 0) _ HB12.out Tryz.underlying57 rfl rbk_size ?_)
            | (refine wpList_store_row rfl 57 _ _ rfl (w.heap.size + 1) (bkv ⟨e + 1, ⟨c1, c2, c3, c4, c5, c6, 1⟩⟩) rfl rfl 57 (bkv bk0) HB22.out rbk_size rfl (bkv_one _) ?_))
          exact bodyPost_ret (results_blk_tmp rfl _ _ (w.heap.size + 1) 57 (bkv ⟨e + 1, ⟨c1, c2, c3, c4, c5, c6, 1⟩⟩) _ rfl (setRow_heap _ _ _ _ _ _ HB22.out) Tryz.underlying57 rfl rbk_size) rfl ⟨by rw [HD.out]; rfl, below_setRow HBW2.out (by omega) _⟩
        · go_enter Tryz.func63, Tryz.ntmps63
          go_wp2_with fail
          rw [← HW0.out]
          refine (HC.out _).mono ?_
          rintro ed w1 ⟨rfl, hb1⟩
          have HB11 := Lib.hid (HB1.out.below hb1 (by omega))
          have HB21 := Lib.hid (HB2.out.below hb1 hs0)
          have HBW1 := Lib.hid (HBW.out.trans (hb1.mono HBW.out.size))
          have q0 : w1.cell? ⟨w.heap.size, 0, none⟩ = some (.int .i64 e) := HB11.out.cell 0
          have f0 : w1.frozen? ⟨w.heap.size, 0, none⟩ = false := HB11.out.frozen 0
          have q7 : w1.cell? ⟨w.heap.size, 7, none⟩ = some (.int .i64 c7) := HB11.out.cell 7
          have f7 : w1.frozen? ⟨w.heap.size, 7, none⟩ = false := HB11.out.frozen 7
          have HB12 : Hid (Blk ((w1.setCell ⟨w.heap.size, 0, none⟩ (.int .i64 (e + 1))).setCell ⟨w.heap.size, 7, none⟩ (.int .i64 2)) w.heap.size 57 (bkv ⟨e + 1, ⟨c1, c2, c3, c4, c5, c6, 2⟩⟩)) := (HB11.out.set_ 0 (.int .i64 (e + 1))).set_ 7 (.int .i64 2)
          have HB22 : Hid (Blk ((w1.setCell ⟨w.heap.size, 0, none⟩ (.int .i64 (e + 1))).setCell ⟨w.heap.size, 7, none⟩ (.int .i64 2)) (w.heap.size + 1) 57 (bkv bk0)) := (HB21.out.far (p := ⟨w.heap.size, 0, none⟩) (by simp) (.int .i64 (e + 1))).far (p := ⟨w.heap.size, 7, none⟩) (by simp) (.int .i64 2)
          have HBW2 := Lib.hid ((HBW1.out.setCell (p := ⟨w.heap.size, 0, none⟩) (Nat.le_refl _) (.int .i64 (e + 1))).setCell (p := ⟨w.heap.size, 7, none⟩) (Nat.le_refl _) (.int .i64 2))
          clear hb1
          go_wp2_with (first
            | (refine wpList_load_row rfl 57 _ rfl w.heap.size rfl 57 (bkv ⟨e + 1, ⟨c1, c2, c3, c4, c5, c6, 2⟩⟩) (0, 0) _ HB12.out Tryz.underlying57 rfl rbk_size ?_)
            | (refine wpList_store_row rfl 57 _ _ rfl (w.heap.size + 1) (bkv ⟨e + 1, ⟨c1, c2, c3, c4, c5, c6, 2⟩⟩) rfl rfl 57 (bkv bk0) HB22.out rbk_size rfl (bkv_one _) ?_))
          exact bodyPost_ret (results_blk_tmp rfl _ _ (w.heap.size + 1) 57 (bkv ⟨e + 1, ⟨c1, c2, c3, c4, c5, c6, 2⟩⟩) _ rfl (setRow_heap _ _ _ _ _ _ HB22.out) Tryz.underlying57 rfl rbk_size) rfl ⟨by rw [HD.out]; rfl, below_setRow HBW2.out (by omega) _⟩
    · have HD := Lib.hid (nextOf_bad (b := ⟨e, ⟨c1, c2, c3, c4, c5, c6, c7⟩⟩) (p := p) (fun h => hp h.2))
      have hp1 : (p != 1) = true := by simp; omega
      have hp2 : (p != 2) = true := by simp; omega
      clear hok hp
      go_enter Tryz.func63, Tryz.ntmps63
      go_wp2_with fail
      rw [← HW0.out]
      refine (HC.out _).mono ?_
      rintro ed w1 ⟨rfl, hb1⟩
      have HB21 := Lib.hid (HB2.out.below hb1 hs0)
      have HBW1 := Lib.hid (HBW.out.trans (hb1.mono HBW.out.size))
      clear hb1
      go_wp2_with (refine wpList_store_row rfl 57 _ _ rfl (w.heap.size + 1) (bkv bk0) rfl rfl 57 (bkv bk0) HB21.out rbk_size rfl (bkv_one _) ?_)
      exact bodyPost_ret (results_blk_tmp rfl _ _ (w.heap.size + 1) 57 (bkv bk0) _ rfl (setRow_heap _ _ _ _ _ _ HB21.out) Tryz.underlying57 rfl rbk_size) rfl ⟨by rw [HD.out]; rfl, below_setRow HBW1.out (by omega) _⟩
  · have HD := Lib.hid (nextOf_bad (p := p) (fun h => hok h.1))
    rw [okN_no hok] at HC
    clear hok
    go_enter Tryz.func63, Tryz.ntmps63
    go_wp2_with fail
    rw [← HW0.out]
    refine (HC.out _).mono ?_
    rintro ed w1 ⟨rfl, hb1⟩
    have HB21 := Lib.hid (HB2.out.below hb1 hs0)
    have HBW1 := Lib.hid (HBW.out.trans (hb1.mono HBW.out.size))
    clear hb1
    go_wp2_with (refine wpList_store_row rfl 57 _ _ rfl (w.heap.size + 1) (bkv bk0) rfl rfl 57 (bkv bk0) HB21.out rbk_size rfl (bkv_one _) ?_)
    exact bodyPost_ret (results_blk_tmp rfl _ _ (w.heap.size + 1) 57 (bkv bk0) _ rfl (setRow_heap _ _ _ _ _ _ HB21.out) Tryz.underlying57 rfl rbk_size) rfl ⟨by rw [HD.out]; rfl, below_setRow HBW1.out (by omega) _⟩
theorem refNext_any (b : Bk) (hw : b.wf) (p : Int) (w : World) :
    Calls Tryz.prog 63 #[.agg (bkv b), .int .i64 p] w fun e w' => e = .returned (.tuple #[.agg (bkv (nextOf b p).2), .int .i64 (nextOf b p).1]) ∧ Below w.heap.size w w' :=
  refNext_lit b.epoch b.conf.slots b.conf.size b.conf.reserve b.conf.work b.conf.key b.conf.value b.conf.policy p hw w
end Go.Proofs.YtnopljanpjmbgaaGreat
