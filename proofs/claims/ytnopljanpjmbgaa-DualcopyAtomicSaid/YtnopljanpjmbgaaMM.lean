/-
  The walk of superblock.Decode; The walks of the document's little, number and Encode; The walks of the document's Decode, of Next and the document's Next, and of the law's sample; The walks of Next and the document's Next, of the law's ref and sample.
-/
import Derived.Test.YtnopljanpjmbgaaML
import Derived.Test.YtnopljanpjmbgaaMK
import Derived.Lib.SlBytesConst
namespace Go.Proofs.Ytnopljanpjmbgaa
open Go.RowKit Drum
set_option linter.unusedVariables false
theorem bk_size : (Try.prog.info? 30).map (·.size) = some 8 := by kernel_rfl
theorem bkv_one (b : Bk) : (bkv b).all (·.oneCell') = true := by simp [bkv, Value.oneCell']
theorem blk2 (w : World) (cs cs' : Array Value) (t t' : TypeId) : Blk ((w.alloc (.cells cs t)).alloc (.cells cs' t')) (w.heap.size + 1) t' cs' := by
  have := Blk.new (w.alloc (.cells cs t)) t' cs'
  rw [World.size_alloc] at this
  exact this
set_option maxHeartbeats 1000000 in
theorem get_any {gb : Nat} {A : Option Addr} {c B : Nat} {l : List (BitVec 8)} (a k : Nat) (hk : k = 4 ∨ k = 8) (ha : a + k ≤ 64) (hl : l.length = 64) {w : World} (hr : Reads w B 1 A 64 (u8s l)) (hB : B ≤ w.heap.size) (hb : Blk w gb 54 #[.slice A 64 c]) :
    Calls Try.prog 93 #[.int .i64 (a : Int), .int .i64 (k : Int), .pointer (some ⟨gb, 0, none⟩)] w fun e w' => e = .returned (.int .u64 (numTo l a k : Int)) ∧ Below w.heap.size w w' := by
  have HC := Lib.hid (uint_any A 64 c B l a k hk ha w hr hB hl.symm (by simp [maxLen]))
  have q0 : w.cell? ⟨gb, 0, none⟩ = some (.slice A 64 c) := hb.cell 0
  clear hr hb hk ha hl
  go_enter Try.func93, Try.ntmps93
  go_wp2_with fail
  refine HC.out.mono ?_
  rintro e w1 ⟨rfl, hb1⟩
  have HB := Lib.hid hb1
  clear hb1
  go_wp2_with fail
  go_ret
  exact ⟨rfl, HB.out⟩
set_option maxHeartbeats 1000000 in
theorem decode_short (A : Option Addr) (n c : Nat) (hn : n < 64) (w : World) :
    Calls Try.prog 63 #[.slice A n c] w fun e w' => e = .returned (.tuple #[.agg (bkv bk0), .int .i64 14]) ∧ Below w.heap.size w w' := by
  go_enter Try.func63, Try.ntmps63
  go_wp2_with fail
  exact bodyPost_ret (results_blk_tmp rfl _ _ (w.heap.size + 1) 30 (bkv bk0) _ rfl (blk2 w _ _ _ _) Try.underlying30 rfl bk_size) rfl ⟨rfl, by go_grown⟩
set_option maxHeartbeats 16000000 in
theorem decode_long (A : Option Addr) (n c B : Nat) (l : List (BitVec 8)) (hn : 64 ≤ n) (hnm : n ≤ maxLen) (hnc : n ≤ c) (hcm : c ≤ maxLen) (hl : l.length = 64) (w : World) (hr : Reads w B 1 A 64 (u8s l)) (hB : B ≤ w.heap.size) :
    Calls Try.prog 63 #[.slice A n c] w fun e w' => e = .returned (.tuple #[.agg (bkv (decOf l).2), .int .i64 (decOf l).1]) ∧ Below w.heap.size w w' := by
  unfold maxLen at hnm hcm
  obtain ⟨ad, rfl, _⟩ := hr.2 (by omega)
  obtain ⟨W0, hW0⟩ : ∃ W0 : World, W0 = (w.alloc (.cells #[.slice (some ad) 64 c] 54)).alloc (.cells #[.int .i64 0, .int .i64 0, .int .i64 0, .int .i64 0, .int .i64 0, .int .i64 0, .int .i64 0, .int .i64 0] 30) := ⟨_, rfl⟩
  have HB1 : Hid (Blk W0 w.heap.size 54 #[.slice (some ad) 64 c]) := by rw [hW0]; exact (Blk.new w _ _).alloc _
  have HB2 : Hid (Blk W0 (w.heap.size + 1) 30 (bkv bk0)) := by rw [hW0]; exact blk2 w _ _ _ _
  have HBW : Hid (Below w.heap.size w W0) := by rw [hW0]; exact ((Below.refl w.heap.size w).alloc (Nat.le_refl _) _).alloc (by simp) _
  have HR := Lib.hid (hr.below (HBW.out.mono hB) : Reads W0 B 1 (some ad) 64 (u8s l))
  have HL := Lib.hid hl
  have hs0 : w.heap.size + 2 = W0.heap.size := by rw [hW0]; simp
  have HS0 := Lib.hid hs0
  have HW0 := Lib.hid hW0
  have q0 : W0.cell? ⟨w.heap.size, 0, none⟩ = some (.slice (some ad) 64 c) := HB1.out.cell 0
  have CG : Hid (∀ W (a k : Nat), (k = 4 ∨ k = 8) → a + k ≤ 64 → Below W0.heap.size W0 W → Calls Try.prog 93 #[.int .i64 (a : Int), .int .i64 (k : Int), .pointer (some ⟨w.heap.size, 0, none⟩)] W fun e W' => e = .returned (.int .u64 (numTo l a k : Int)) ∧ W'.cell? ⟨w.heap.size, 0, none⟩ = some (.slice (some ad) 64 c) ∧ Below W0.heap.size W0 W' ∧ Below W.heap.size W W') := by
    intro W a k hk ha hW
    refine (get_any (c := c) a k hk ha HL.out (HR.out.below (hW.mono (by have := HBW.out.size; omega))) (by have := HBW.out.size; have := hW.size; omega) (HB1.out.below hW (by have := HS0.out; omega))).mono ?_
    rintro e W' ⟨rfl, hb⟩
    have hW' := hW.trans (hb.mono hW.size)
    exact ⟨rfl, (HB1.out.below hW' (by have := HS0.out; omega)).cell 0, hW', hb⟩
  have CV : Hid (∀ W (s : Nat), s < 4294967296 → Below W0.heap.size W0 W → Calls Try.prog 95 #[.slice (some ⟨ad.block, ad.off + 4, none⟩) 60 (c - 4), .int .u32 (IntKind.u32.wrap (s : Int))] W fun e W' => e = .returned (.bool (decide (csum (l.drop 4) = BitVec.ofNat 32 s))) ∧ W'.cell? ⟨w.heap.size, 0, none⟩ = some (.slice (some ad) 64 c) ∧ Below W0.heap.size W0 W') := by
    intro W s hs hW
    have hx : n32 (BitVec.ofNat 32 s) = (s : Int) := by rw [n32_nat, BitVec.toNat_ofNat, Nat.mod_eq_of_lt hs]
    have hr2 := (HR.out.below (hW.mono (by have := HBW.out.size; omega)) : Reads W B 1 (some ad) 64 (u8s l))
    have hr3 : Reads W B 1 (some (ad.add 4)) 60 (u8s (l.drop 4)) := by
      obtain ⟨ad', e1, hb', hc'⟩ := hr2.2 (by omega)
      injection e1 with e1
      subst e1
      refine ⟨by rw [u8s_length, List.length_drop, HL.out], fun _ => ⟨_, rfl, by rw [block_of_add]; exact hb', fun j u hu => ?_⟩⟩
      rw [add_of_add]
      refine hc' _ _ ?_
      rw [← hu, u8s_drop, List.getElem?_drop]
    have h := valid_any (some (ad.add 4)) 60 (c - 4) B (l.drop 4) (BitVec.ofNat 32 s) W hr3 (by have := HBW.out.size; have := hW.size; omega) (by rw [List.length_drop, HL.out]) (by simp [maxLen])
    have hw32 : IntKind.u32.wrap (s : Int) = (s : Int) := by
      simp only [IntKind.wrap, IntKind.signed, IntKind.bits]
      simp
      omega
    have had : (⟨ad.block, ad.off + 4, none⟩ : Addr) = ad.add 4 := by unfold Addr.add; simp
    rw [hx] at h
    rw [hw32, had]
    refine h.mono ?_
    rintro e W' ⟨rfl, hb⟩
    have hW' := hW.trans (hb.mono hW.size)
    exact ⟨rfl, (HB1.out.below hW' (by have := HS0.out; omega)).cell 0, hW'⟩
  clear hW0 hr hl hs0
  go_enter Try.func63, Try.ntmps63
  go_wp2_with fail
  rw [← HW0.out]
  obtain ⟨s, hs, HS⟩ : ∃ s : Nat, s < 4294967296 ∧ Hid (numTo l 0 4 = s) := ⟨_, numTo_lt l 0 4, rfl⟩
  have CG0 : Hid (∀ W, Below W0.heap.size W0 W → Calls Try.prog 93 #[.int .i64 0, .int .i64 4, .pointer (some ⟨w.heap.size, 0, none⟩)] W fun e W' => e = .returned (.int .u64 (s : Int)) ∧ W'.cell? ⟨w.heap.size, 0, none⟩ = some (.slice (some ad) 64 c) ∧ Below W0.heap.size W0 W') := by
    intro W hW
    have := CG.out W 0 4 (.inl rfl) (by omega) hW
    rw [HS.out] at this
    exact this.mono fun e W' ⟨h1, h2, h3, _⟩ => ⟨h1, h2, h3⟩
  go_region_held3 (fun w' => w'.cell? ⟨w.heap.size, 0, none⟩ = some (.slice (some ad) 64 c)) (first | assumption | go_keep)
    (first | (go_at_call 93; refine (CG0.out _ (by first | exact Below.refl _ _ | exact (Below.refl _ _).drew | assumption)).mono ?_; rintro e w4 ⟨rfl, hq1, hb1⟩) | (go_at_call 95; refine (CV.out _ s hs (by assumption)).mono ?_; rintro e w5 ⟨rfl, hq2, hb2⟩))
  have HT : Hid ((l.take 64).drop 4 = l.drop 4) := by show _ = _; rw [List.take_of_length_le (by have := HL.out; omega)]
  have hg1 : w.heap.size + 1 < W0.heap.size := by have := HS0.out; omega
  have HB5 := Lib.hid (HB2.out.below hb2 hg1)
  have HBW5 := Lib.hid (HBW.out.trans (hb2.mono HBW.out.size))
  have HH2 := Lib.hid hb2
  have CG8 := Lib.hid (CG.out w5 8 8 (.inr rfl) (by omega) hb2)
  clear hb1 hb2 hq1 CV CG0
  by_cases hsum : csum (l.drop 4) = BitVec.ofNat 32 s
  · rw [decide_eq_true hsum]
    have HSUM := Lib.hid hsum
    obtain ⟨ep, hep⟩ : ∃ ep : Nat, numTo l 8 8 = ep := ⟨_, rfl⟩
    have hep64 : ep < 18446744073709551616 := by rw [← hep]; exact numTo_lt l 8 8
    rw [hep] at CG8
    have HEP := Lib.hid hep
    clear hsum hep
    go_wp2_with fail
    refine CG8.out.mono ?_
    rintro e w6 ⟨rfl, hq6, hb6, _⟩
    have HH6 := Lib.hid hb6
    have HB6 := Lib.hid (HB2.out.below hb6 hg1)
    have HBW6 := Lib.hid (HBW.out.trans (hb6.mono HBW.out.size))
    clear hb6 CG8 hq2
    by_cases hbig : 1099511627776 < ep
    · have HD : Hid (decOf l = (8, bk0)) := by
        show _ = _
        unfold decOf
        rw [if_neg (by have := HL.out; omega), HT.out, if_neg (by rw [HS.out]; exact fun h => h HSUM.out), if_pos (by rw [HEP.out]; exact hbig)]
      go_wp2_with (refine wpList_store_row rfl 30 _ _ rfl (w.heap.size + 1) (bkv bk0) rfl rfl 30 (bkv bk0) HB6.out bk_size rfl (bkv_one _) ?_)
      exact bodyPost_ret (results_blk_tmp rfl _ _ (w.heap.size + 1) 30 (bkv bk0) _ rfl (setRow_heap _ _ _ _ _ _ HB6.out) Try.underlying30 rfl bk_size) rfl ⟨by rw [HD.out]; rfl, below_setRow HBW6.out (by omega) _⟩
    · have hepb : ep ≤ 1099511627776 := by omega
      obtain ⟨n1, hb1, HN1⟩ : ∃ m : Nat, m < 4294967296 ∧ Hid (numTo l 16 4 = m) := ⟨_, numTo_lt l 16 4, rfl⟩
      have CG_1 : Hid (∀ W, Below W0.heap.size W0 W → Calls Try.prog 93 #[.int .i64 16, .int .i64 4, .pointer (some ⟨w.heap.size, 0, none⟩)] W fun e W' => e = .returned (.int .u64 (n1 : Int)) ∧ Below W0.heap.size W0 W' ∧ Below W.heap.size W W') := by
        intro W hW
        have := CG.out W 16 4 (.inl rfl) (by omega) hW
        rw [HN1.out] at this
        exact this.mono fun e W' ⟨h1, h2, h3, h4⟩ => ⟨h1, h3, h4⟩
      obtain ⟨n2, hb2, HN2⟩ : ∃ m : Nat, m < 4294967296 ∧ Hid (numTo l 20 4 = m) := ⟨_, numTo_lt l 20 4, rfl⟩
      have CG_2 : Hid (∀ W, Below W0.heap.size W0 W → Calls Try.prog 93 #[.int .i64 20, .int .i64 4, .pointer (some ⟨w.heap.size, 0, none⟩)] W fun e W' => e = .returned (.int .u64 (n2 : Int)) ∧ Below W0.heap.size W0 W' ∧ Below W.heap.size W W') := by
        intro W hW
        have := CG.out W 20 4 (.inl rfl) (by omega) hW
        rw [HN2.out] at this
        exact this.mono fun e W' ⟨h1, h2, h3, h4⟩ => ⟨h1, h3, h4⟩
      obtain ⟨n3, hb3, HN3⟩ : ∃ m : Nat, m < 4294967296 ∧ Hid (numTo l 24 4 = m) := ⟨_, numTo_lt l 24 4, rfl⟩
      have CG_3 : Hid (∀ W, Below W0.heap.size W0 W → Calls Try.prog 93 #[.int .i64 24, .int .i64 4, .pointer (some ⟨w.heap.size, 0, none⟩)] W fun e W' => e = .returned (.int .u64 (n3 : Int)) ∧ Below W0.heap.size W0 W' ∧ Below W.heap.size W W') := by
        intro W hW
        have := CG.out W 24 4 (.inl rfl) (by omega) hW
        rw [HN3.out] at this
        exact this.mono fun e W' ⟨h1, h2, h3, h4⟩ => ⟨h1, h3, h4⟩
      obtain ⟨n4, hb4, HN4⟩ : ∃ m : Nat, m < 4294967296 ∧ Hid (numTo l 28 4 = m) := ⟨_, numTo_lt l 28 4, rfl⟩
      have CG_4 : Hid (∀ W, Below W0.heap.size W0 W → Calls Try.prog 93 #[.int .i64 28, .int .i64 4, .pointer (some ⟨w.heap.size, 0, none⟩)] W fun e W' => e = .returned (.int .u64 (n4 : Int)) ∧ Below W0.heap.size W0 W' ∧ Below W.heap.size W W') := by
        intro W hW
        have := CG.out W 28 4 (.inl rfl) (by omega) hW
        rw [HN4.out] at this
        exact this.mono fun e W' ⟨h1, h2, h3, h4⟩ => ⟨h1, h3, h4⟩
      obtain ⟨n5, hb5, HN5⟩ : ∃ m : Nat, m < 4294967296 ∧ Hid (numTo l 32 4 = m) := ⟨_, numTo_lt l 32 4, rfl⟩
      have CG_5 : Hid (∀ W, Below W0.heap.size W0 W → Calls Try.prog 93 #[.int .i64 32, .int .i64 4, .pointer (some ⟨w.heap.size, 0, none⟩)] W fun e W' => e = .returned (.int .u64 (n5 : Int)) ∧ Below W0.heap.size W0 W' ∧ Below W.heap.size W W') := by
        intro W hW
        have := CG.out W 32 4 (.inl rfl) (by omega) hW
        rw [HN5.out] at this
        exact this.mono fun e W' ⟨h1, h2, h3, h4⟩ => ⟨h1, h3, h4⟩
      obtain ⟨n6, hb6, HN6⟩ : ∃ m : Nat, m < 4294967296 ∧ Hid (numTo l 36 4 = m) := ⟨_, numTo_lt l 36 4, rfl⟩
      have CG_6 : Hid (∀ W, Below W0.heap.size W0 W → Calls Try.prog 93 #[.int .i64 36, .int .i64 4, .pointer (some ⟨w.heap.size, 0, none⟩)] W fun e W' => e = .returned (.int .u64 (n6 : Int)) ∧ Below W0.heap.size W0 W' ∧ Below W.heap.size W W') := by
        intro W hW
        have := CG.out W 36 4 (.inl rfl) (by omega) hW
        rw [HN6.out] at this
        exact this.mono fun e W' ⟨h1, h2, h3, h4⟩ => ⟨h1, h3, h4⟩
      obtain ⟨n7, hb7, HN7⟩ : ∃ m : Nat, m < 4294967296 ∧ Hid (numTo l 40 4 = m) := ⟨_, numTo_lt l 40 4, rfl⟩
      have CG_7 : Hid (∀ W, Below W0.heap.size W0 W → Calls Try.prog 93 #[.int .i64 40, .int .i64 4, .pointer (some ⟨w.heap.size, 0, none⟩)] W fun e W' => e = .returned (.int .u64 (n7 : Int)) ∧ Below W0.heap.size W0 W' ∧ Below W.heap.size W W') := by
        intro W hW
        have := CG.out W 40 4 (.inl rfl) (by omega) hW
        rw [HN7.out] at this
        exact this.mono fun e W' ⟨h1, h2, h3, h4⟩ => ⟨h1, h3, h4⟩
      have HX : Hid (readOf l = bkN ep n1 n2 n3 n4 n5 n6 n7) := by
        show _ = _
        unfold readOf bkN
        rw [HEP.out, HN1.out, HN2.out, HN3.out, HN4.out, HN5.out, HN6.out, HN7.out]
      have HD : Hid (decOf l = if (readOf l).ok ∧ encOf (readOf l) = l then (0, readOf l) else (8, bk0)) := by
        show _ = _
        unfold decOf
        rw [if_neg (by have := HL.out; omega), HT.out, if_neg (by rw [HS.out]; exact fun h => h HSUM.out), if_neg (by rw [HEP.out]; omega), List.take_of_length_le (l := l) (by have := HL.out; omega)]
      rw [HX.out] at HD
      clear hq6 CG hbig
      go_wp2_with fail
      obtain ⟨wx, hwx⟩ : ∃ wx : World, wx = w6.alloc (.cells #[.int .i64 (ep : Int), .int .i64 0, .int .i64 0, .int .i64 0, .int .i64 0, .int .i64 0, .int .i64 0, .int .i64 0] 30) := ⟨_, rfl⟩
      rw [← hwx]
      have HBX : Hid (Blk wx w6.heap.size 30 #[.int .i64 (ep : Int), .int .i64 0, .int .i64 0, .int .i64 0, .int .i64 0, .int .i64 0, .int .i64 0, .int .i64 0]) := by rw [hwx]; exact Blk.new _ _ _
      have HHX : Hid (Below W0.heap.size W0 wx) := by rw [hwx]; exact HH6.out.alloc HH6.out.size _
      have hW6 : W0.heap.size ≤ w6.heap.size := HH6.out.size
      clear hwx
      have HNUM := Lib.hid (numbers_any w6.heap.size wx)
      simp only [numPtrs, ptr] at HNUM
      refine HNUM.out.mono ?_
      rintro e w7 ⟨rfl, hb7⟩
      have HB7 := Lib.hid (HBX.out.below hb7 HBX.out.lt)
      have HH7 := Lib.hid (HHX.out.trans (hb7.mono HHX.out.size))
      clear hb7 HNUM HBX HHX
      go_wp2_with fail
      go_loopg [36] 7 (fun q v36 wr => ∃ j : Nat, j + q = 7 ∧ v36 = .int .i64 j ∧ Below W0.heap.size W0 wr ∧ ((j = 0 ∧ Blk wr w6.heap.size 30 #[.int .i64 (ep : Int), .int .i64 0, .int .i64 0, .int .i64 0, .int .i64 0, .int .i64 0, .int .i64 0, .int .i64 0]) ∨ (j = 1 ∧ Blk wr w6.heap.size 30 #[.int .i64 (ep : Int), .int .i64 (n1 : Int), .int .i64 0, .int .i64 0, .int .i64 0, .int .i64 0, .int .i64 0, .int .i64 0]) ∨ (j = 2 ∧ Blk wr w6.heap.size 30 #[.int .i64 (ep : Int), .int .i64 (n1 : Int), .int .i64 (n2 : Int), .int .i64 0, .int .i64 0, .int .i64 0, .int .i64 0, .int .i64 0]) ∨ (j = 3 ∧ Blk wr w6.heap.size 30 #[.int .i64 (ep : Int), .int .i64 (n1 : Int), .int .i64 (n2 : Int), .int .i64 (n3 : Int), .int .i64 0, .int .i64 0, .int .i64 0, .int .i64 0]) ∨
          (j = 4 ∧ Blk wr w6.heap.size 30 #[.int .i64 (ep : Int), .int .i64 (n1 : Int), .int .i64 (n2 : Int), .int .i64 (n3 : Int), .int .i64 (n4 : Int), .int .i64 0, .int .i64 0, .int .i64 0]) ∨ (j = 5 ∧ Blk wr w6.heap.size 30 #[.int .i64 (ep : Int), .int .i64 (n1 : Int), .int .i64 (n2 : Int), .int .i64 (n3 : Int), .int .i64 (n4 : Int), .int .i64 (n5 : Int), .int .i64 0, .int .i64 0]) ∨ (j = 6 ∧ Blk wr w6.heap.size 30 #[.int .i64 (ep : Int), .int .i64 (n1 : Int), .int .i64 (n2 : Int), .int .i64 (n3 : Int), .int .i64 (n4 : Int), .int .i64 (n5 : Int), .int .i64 (n6 : Int), .int .i64 0]) ∨ (j = 7 ∧ Blk wr w6.heap.size 30 #[.int .i64 (ep : Int), .int .i64 (n1 : Int), .int .i64 (n2 : Int), .int .i64 (n3 : Int), .int .i64 (n4 : Int), .int .i64 (n5 : Int), .int .i64 (n6 : Int), .int .i64 (n7 : Int)])))
      case atStart => exact ⟨0, rfl, rfl, HH7.out, .inl ⟨rfl, HB7.out⟩⟩
      case round =>
        obtain ⟨j, hj, rfl, hh, hc⟩ := hrel
        have HJ := Lib.hid hj
        have HHR := Lib.hid hh
        clear hj hh HB7 HH7
        have x0 := index_ptr0 w6.heap.size
        have x1 := index_ptr1 w6.heap.size
        have x2 := index_ptr2 w6.heap.size
        have x3 := index_ptr3 w6.heap.size
        have x4 := index_ptr4 w6.heap.size
        have x5 := index_ptr5 w6.heap.size
        have x6 := index_ptr6 w6.heap.size
        rcases hc with ⟨rfl, hbk⟩ | ⟨rfl, hbk⟩ | ⟨rfl, hbk⟩ | ⟨rfl, hbk⟩ | ⟨rfl, hbk⟩ | ⟨rfl, hbk⟩ | ⟨rfl, hbk⟩ | ⟨rfl, hbk⟩
        · have HBR := Lib.hid hbk
          have hlt : w6.heap.size < wr.heap.size := hbk.lt
          clear hbk
          go_wp2_with fail
          refine (CG_1.out _ HHR.out).mono ?_
          rintro e w8 ⟨rfl, hh8, hb8⟩
          have HH8 := Lib.hid hh8
          have HB8 := Lib.hid (HBR.out.below hb8 hlt)
          have HBS := Lib.hid (HB8.out.set_ 1 (.int .i64 (n1 : Int)))
          have qs := HB8.out.cell 1
          have qf := HB8.out.frozen 1
          clear hh8 hb8
          go_wp2_with fail
          go_roundg (gk - 1)
          case measure => have := HJ.out; omega
          case rel => exact ⟨1, by have := HJ.out; omega, by go_num, HH8.out.setCell hW6 _, .inr (.inl ⟨rfl, HBS.out⟩)⟩
        · have HBR := Lib.hid hbk
          have hlt : w6.heap.size < wr.heap.size := hbk.lt
          clear hbk
          go_wp2_with fail
          refine (CG_2.out _ HHR.out).mono ?_
          rintro e w8 ⟨rfl, hh8, hb8⟩
          have HH8 := Lib.hid hh8
          have HB8 := Lib.hid (HBR.out.below hb8 hlt)
          have HBS := Lib.hid (HB8.out.set_ 2 (.int .i64 (n2 : Int)))
          have qs := HB8.out.cell 2
          have qf := HB8.out.frozen 2
          clear hh8 hb8
          go_wp2_with fail
          go_roundg (gk - 1)
          case measure => have := HJ.out; omega
          case rel => exact ⟨2, by have := HJ.out; omega, by go_num, HH8.out.setCell hW6 _, .inr (.inr (.inl ⟨rfl, HBS.out⟩))⟩
        · have HBR := Lib.hid hbk
          have hlt : w6.heap.size < wr.heap.size := hbk.lt
          clear hbk
          go_wp2_with fail
          refine (CG_3.out _ HHR.out).mono ?_
          rintro e w8 ⟨rfl, hh8, hb8⟩
          have HH8 := Lib.hid hh8
          have HB8 := Lib.hid (HBR.out.below hb8 hlt)
          have HBS := Lib.hid (HB8.out.set_ 3 (.int .i64 (n3 : Int)))
          have qs := HB8.out.cell 3
          have qf := HB8.out.frozen 3
          clear hh8 hb8
          go_wp2_with fail
          go_roundg (gk - 1)
          case measure => have := HJ.out; omega
          case rel => exact ⟨3, by have := HJ.out; omega, by go_num, HH8.out.setCell hW6 _, .inr (.inr (.inr (.inl ⟨rfl, HBS.out⟩)))⟩
        · have HBR := Lib.hid hbk
          have hlt : w6.heap.size < wr.heap.size := hbk.lt
          clear hbk
          go_wp2_with fail
          refine (CG_4.out _ HHR.out).mono ?_
          rintro e w8 ⟨rfl, hh8, hb8⟩
          have HH8 := Lib.hid hh8
          have HB8 := Lib.hid (HBR.out.below hb8 hlt)
          have HBS := Lib.hid (HB8.out.set_ 4 (.int .i64 (n4 : Int)))
          have qs := HB8.out.cell 4
          have qf := HB8.out.frozen 4
          clear hh8 hb8
          go_wp2_with fail
          go_roundg (gk - 1)
          case measure => have := HJ.out; omega
          case rel => exact ⟨4, by have := HJ.out; omega, by go_num, HH8.out.setCell hW6 _, .inr (.inr (.inr (.inr (.inl ⟨rfl, HBS.out⟩))))⟩
        · have HBR := Lib.hid hbk
          have hlt : w6.heap.size < wr.heap.size := hbk.lt
          clear hbk
          go_wp2_with fail
          refine (CG_5.out _ HHR.out).mono ?_
          rintro e w8 ⟨rfl, hh8, hb8⟩
          have HH8 := Lib.hid hh8
          have HB8 := Lib.hid (HBR.out.below hb8 hlt)
          have HBS := Lib.hid (HB8.out.set_ 5 (.int .i64 (n5 : Int)))
          have qs := HB8.out.cell 5
          have qf := HB8.out.frozen 5
          clear hh8 hb8
          go_wp2_with fail
          go_roundg (gk - 1)
          case measure => have := HJ.out; omega
          case rel => exact ⟨5, by have := HJ.out; omega, by go_num, HH8.out.setCell hW6 _, .inr (.inr (.inr (.inr (.inr (.inl ⟨rfl, HBS.out⟩)))))⟩
        · have HBR := Lib.hid hbk
          have hlt : w6.heap.size < wr.heap.size := hbk.lt
          clear hbk
          go_wp2_with fail
          refine (CG_6.out _ HHR.out).mono ?_
          rintro e w8 ⟨rfl, hh8, hb8⟩
          have HH8 := Lib.hid hh8
          have HB8 := Lib.hid (HBR.out.below hb8 hlt)
          have HBS := Lib.hid (HB8.out.set_ 6 (.int .i64 (n6 : Int)))
          have qs := HB8.out.cell 6
          have qf := HB8.out.frozen 6
          clear hh8 hb8
          go_wp2_with fail
          go_roundg (gk - 1)
          case measure => have := HJ.out; omega
          case rel => exact ⟨6, by have := HJ.out; omega, by go_num, HH8.out.setCell hW6 _, .inr (.inr (.inr (.inr (.inr (.inr (.inl ⟨rfl, HBS.out⟩))))))⟩
        · have HBR := Lib.hid hbk
          have hlt : w6.heap.size < wr.heap.size := hbk.lt
          clear hbk
          go_wp2_with fail
          refine (CG_7.out _ HHR.out).mono ?_
          rintro e w8 ⟨rfl, hh8, hb8⟩
          have HH8 := Lib.hid hh8
          have HB8 := Lib.hid (HBR.out.below hb8 hlt)
          have HBS := Lib.hid (HB8.out.set_ 7 (.int .i64 (n7 : Int)))
          have qs := HB8.out.cell 7
          have qf := HB8.out.frozen 7
          clear hh8 hb8
          go_wp2_with fail
          go_roundg (gk - 1)
          case measure => have := HJ.out; omega
          case rel => exact ⟨7, by have := HJ.out; omega, by go_num, HH8.out.setCell hW6 _, .inr (.inr (.inr (.inr (.inr (.inr (.inr (⟨rfl, HBS.out⟩)))))))⟩
        · have HBR := Lib.hid hbk
          clear hbk
          have HWF : Hid ((bkN ep n1 n2 n3 n4 n5 n6 n7).wf) := by
            refine ⟨⟨by simp only [bkN]; omega, by simp only [bkN]; omega⟩, fun n hn => ?_⟩
            simp only [bkN, Cf.nums, List.mem_cons, List.not_mem_nil, or_false] at hn
            rcases hn with rfl | rfl | rfl | rfl | rfl | rfl | rfl <;> omega
          have hHB : w6.heap.size < wr.heap.size := HBR.out.lt
          clear x0 x1 x2 x3 x4 x5 x6
          go_wp2_with (refine wpList_load_row rfl 30 _ rfl w6.heap.size rfl 30 (bkv (bkN ep n1 n2 n3 n4 n5 n6 n7)) (0, 0) _ HBR.out Try.underlying30 rfl bk_size ?_)
          by_cases hok : (bkN ep n1 n2 n3 n4 n5 n6 n7).ok
          · refine (encode_any _ HWF.out hok _).mono ?_
            rintro e w8 ⟨g8, cs8, rfl, hg8, hbk8, htk8, hb8⟩
            have HB8 := Lib.hid (HBR.out.below hb8 hHB)
            have HH8 := Lib.hid (HHR.out.trans (hb8.mono HHR.out.size))
            have HK8 := Lib.hid hbk8
            have HT8 := Lib.hid htk8
            have q1 : w8.cell? ⟨w.heap.size, 0, none⟩ = some (.slice (some ad) 64 c) := (HB1.out.below HH8.out (by omega)).cell 0
            have HE := Lib.hid (equal_any (some ⟨g8, 0, none⟩) (some ad) 64 64 64 c _ _ (encOf (bkN ep n1 n2 n3 n4 n5 n6 n7)) l w8 (encOf_length _).symm HL.out.symm (by simp [maxLen]) (by simp [maxLen]) (reads_blk HK8.out 0 64 _ (encOf_length _) HT8.out) (HR.out.below (HH8.out.mono (by have := HBW.out.size; omega))))
            have HOK := Lib.hid hok
            clear hbk8 htk8 hb8 hok
            by_cases heq : encOf (bkN ep n1 n2 n3 n4 n5 n6 n7) = l
            · have HD2 : Hid (decOf l = (0, bkN ep n1 n2 n3 n4 n5 n6 n7)) := by show _ = _; rw [HD.out, if_pos ⟨HOK.out, heq⟩]
              rw [decide_eq_true heq] at HE
              clear heq HD
              go_wp2_with fail
              refine HE.out.mono ?_
              rintro e w9 ⟨rfl, qq, rfl⟩
              have HB9 := Lib.hid (HB8.out.drewN qq)
              have HB29 := Lib.hid ((HB2.out.below HH8.out hg1).drewN qq)
              have HBW9 := Lib.hid (HBW.out.trans ((show Below W0.heap.size W0 (w8.drewN qq) from HH8.out.trans ⟨rfl, rfl, rfl, Nat.le_refl _, fun _ _ => rfl⟩).mono HBW.out.size))
              go_wp2_with (first
                | (refine wpList_load_row rfl 30 _ rfl w6.heap.size rfl 30 (bkv (bkN ep n1 n2 n3 n4 n5 n6 n7)) (0, 0) _ HB9.out Try.underlying30 rfl bk_size ?_)
                | (refine wpList_store_row rfl 30 _ _ rfl (w.heap.size + 1) (bkv (bkN ep n1 n2 n3 n4 n5 n6 n7)) rfl rfl 30 (bkv bk0) HB29.out bk_size rfl (bkv_one _) ?_))
              exact bodyPost_ret (results_blk_tmp rfl _ _ (w.heap.size + 1) 30 (bkv (bkN ep n1 n2 n3 n4 n5 n6 n7)) _ rfl (setRow_heap _ _ _ _ _ _ HB29.out) Try.underlying30 rfl bk_size) rfl ⟨by rw [HD2.out]; rfl, below_setRow HBW9.out (by omega) _⟩
            · have HD2 : Hid (decOf l = (8, bk0)) := by show _ = _; rw [HD.out, if_neg (fun h => heq h.2)]
              rw [decide_eq_false heq] at HE
              clear heq HD
              go_wp2_with fail
              refine HE.out.mono ?_
              rintro e w9 ⟨rfl, qq, rfl⟩
              have HB29 := Lib.hid ((HB2.out.below HH8.out hg1).drewN qq)
              have HBW9 := Lib.hid (HBW.out.trans ((show Below W0.heap.size W0 (w8.drewN qq) from HH8.out.trans ⟨rfl, rfl, rfl, Nat.le_refl _, fun _ _ => rfl⟩).mono HBW.out.size))
              go_wp2_with (refine wpList_store_row rfl 30 _ _ rfl (w.heap.size + 1) (bkv bk0) rfl rfl 30 (bkv bk0) HB29.out bk_size rfl (bkv_one _) ?_)
              exact bodyPost_ret (results_blk_tmp rfl _ _ (w.heap.size + 1) 30 (bkv bk0) _ rfl (setRow_heap _ _ _ _ _ _ HB29.out) Try.underlying30 rfl bk_size) rfl ⟨by rw [HD2.out]; rfl, below_setRow HBW9.out (by omega) _⟩
          · refine (encode_bad _ HWF.out hok _).mono ?_
            rintro e w8 ⟨rfl, hb8⟩
            have HH8 := Lib.hid (HHR.out.trans (hb8.mono HHR.out.size))
            have HB28 := Lib.hid (HB2.out.below HH8.out hg1)
            have HBW8 := Lib.hid (HBW.out.trans (HH8.out.mono HBW.out.size))
            have HD2 : Hid (decOf l = (8, bk0)) := by show _ = _; rw [HD.out, if_neg (fun h => hok h.1)]
            clear hb8 hok HD
            go_wp2_with (refine wpList_store_row rfl 30 _ _ rfl (w.heap.size + 1) (bkv bk0) rfl rfl 30 (bkv bk0) HB28.out bk_size rfl (bkv_one _) ?_)
            exact bodyPost_ret (results_blk_tmp rfl _ _ (w.heap.size + 1) 30 (bkv bk0) _ rfl (setRow_heap _ _ _ _ _ _ HB28.out) Try.underlying30 rfl bk_size) rfl ⟨by rw [HD2.out]; rfl, below_setRow HBW8.out (by omega) _⟩
  · rw [decide_eq_false hsum]
    have HD : Hid (decOf l = (15, bk0)) := decOf_sum l (by have := HL.out; omega) (by rw [HT.out, HS.out]; exact hsum)
    clear hsum
    go_wp2_with (refine wpList_store_row rfl 30 _ _ rfl (w.heap.size + 1) (bkv bk0) rfl rfl 30 (bkv bk0) HB5.out bk_size rfl (bkv_one _) ?_)
    exact bodyPost_ret (results_blk_tmp rfl _ _ (w.heap.size + 1) 30 (bkv bk0) _ rfl (setRow_heap _ _ _ _ _ _ HB5.out) Try.underlying30 rfl bk_size) rfl ⟨by rw [HD.out]; rfl, below_setRow HBW5.out (by omega) _⟩
theorem decode_any (A : Option Addr) (n c B : Nat) (l : List (BitVec 8)) (hl : n = l.length) (hnm : n ≤ maxLen) (hnc : n ≤ c) (hcm : c ≤ maxLen) (w : World) (hr : Reads w B 1 A n (u8s l)) (hB : B ≤ w.heap.size) :
    Calls Try.prog 63 #[.slice A n c] w fun e w' => e = .returned (.tuple #[.agg (bkv (decOf l).2), .int .i64 (decOf l).1]) ∧ Below w.heap.size w w' := by
  by_cases h : n < 64
  · rw [decOf_short l (by omega)]
    exact decode_short A n c h w
  · have e : decOf l = decOf (l.take 64) := by
      conv => lhs; rw [← List.take_append_drop 64 l]
      exact decOf_append _ _ (by rw [List.length_take]; omega)
    rw [e]
    exact decode_long A n c B (l.take 64) (by omega) hnm hnc hcm (by rw [List.length_take]; omega) w (hr.take (by omega)) hB
end Go.Proofs.Ytnopljanpjmbgaa
namespace Go.Proofs.Ytnopljanpjmbgaa
open Go.RowKit Drum
set_option linter.unusedVariables false
end Go.Proofs.Ytnopljanpjmbgaa
namespace Go.Proofs.Ytnopljanpjmbgaa
open Go.RowKit Drum
set_option linter.unusedVariables false
theorem sum_nat_iff (x : W32) (s : Nat) (hs : s < 4294967296) : (x = BitVec.ofNat 32 s) ↔ x.toNat = s := by
  constructor
  · rintro rfl; rw [BitVec.toNat_ofNat, Nat.mod_eq_of_lt hs]
  · intro h; rw [← h, BitVec.ofNat_toNat, BitVec.setWidth_eq]
end Go.Proofs.Ytnopljanpjmbgaa
namespace Go.Proofs.Ytnopljanpjmbgaa
open Go.RowKit Drum
set_option linter.unusedVariables false
/-- The next superblock: the error's number, and the superblock. -/
def nextOf (b : Bk) (p : Int) : Int × Bk :=
  if b.ok ∧ (p = 1 ∨ p = 2) then (if b.epoch = 1099511627776 then (16, bk0) else (0, ⟨b.epoch + 1, ⟨b.conf.slots, b.conf.size, b.conf.reserve, b.conf.work, b.conf.key, b.conf.value, p⟩⟩)) else (2, bk0)
theorem nextOf_bad {b : Bk} {p : Int} (h : ¬ (b.ok ∧ (p = 1 ∨ p = 2))) : nextOf b p = (2, bk0) := if_neg h
theorem nextOf_last {b : Bk} {p : Int} (h : b.ok) (hp : p = 1 ∨ p = 2) (he : b.epoch = 1099511627776) : nextOf b p = (16, bk0) := by
  unfold nextOf; rw [if_pos ⟨h, hp⟩, if_pos he]
theorem nextOf_ok {b : Bk} {p : Int} (h : b.ok) (hp : p = 1 ∨ p = 2) (he : b.epoch ≠ 1099511627776) :
    nextOf b p = (0, ⟨b.epoch + 1, ⟨b.conf.slots, b.conf.size, b.conf.reserve, b.conf.work, b.conf.key, b.conf.value, p⟩⟩) := by
  unfold nextOf; rw [if_pos ⟨h, hp⟩, if_neg he]
set_option maxHeartbeats 4000000 in
theorem next_lit (e c1 c2 c3 c4 c5 c6 c7 : Int) (p : Int) (hw : Bk.wf ⟨e, ⟨c1, c2, c3, c4, c5, c6, c7⟩⟩) (w : World) :
    Calls Try.prog 25 #[.agg #[.int .i64 e, .int .i64 c1, .int .i64 c2, .int .i64 c3, .int .i64 c4, .int .i64 c5, .int .i64 c6, .int .i64 c7], .int .i64 p] w fun ed w' => ed = .returned (.tuple #[.agg (bkv (nextOf ⟨e, ⟨c1, c2, c3, c4, c5, c6, c7⟩⟩ p).2), .int .i64 (nextOf ⟨e, ⟨c1, c2, c3, c4, c5, c6, c7⟩⟩ p).1]) ∧ Below w.heap.size w w' := by
  have HC : Hid (∀ W, Calls Try.prog 29 #[.agg #[.int .i64 e, .int .i64 c1, .int .i64 c2, .int .i64 c3, .int .i64 c4, .int .i64 c5, .int .i64 c6, .int .i64 c7]] W fun ed w' => ed = .returned (.int .i64 (okN (Bk.ok ⟨e, ⟨c1, c2, c3, c4, c5, c6, c7⟩⟩))) ∧ Below W.heap.size W w') := fun W => check_any _ hw W
  have hwe : -9223372036854775808 ≤ e ∧ e ≤ 9223372036854775807 := hw.1
  obtain ⟨W0, hW0⟩ : ∃ W0 : World, W0 = (w.alloc (.cells #[.int .i64 e, .int .i64 c1, .int .i64 c2, .int .i64 c3, .int .i64 c4, .int .i64 c5, .int .i64 c6, .int .i64 c7] 30)).alloc (.cells #[.int .i64 0, .int .i64 0, .int .i64 0, .int .i64 0, .int .i64 0, .int .i64 0, .int .i64 0, .int .i64 0] 30) := ⟨_, rfl⟩
  have HB1 : Hid (Blk W0 w.heap.size 30 #[.int .i64 e, .int .i64 c1, .int .i64 c2, .int .i64 c3, .int .i64 c4, .int .i64 c5, .int .i64 c6, .int .i64 c7]) := by rw [hW0]; exact (Blk.new w _ _).alloc _
  have HB2 : Hid (Blk W0 (w.heap.size + 1) 30 (bkv bk0)) := by rw [hW0]; exact blk2 w _ _ _ _
  have HBW : Hid (Below w.heap.size w W0) := by rw [hW0]; exact ((Below.refl w.heap.size w).alloc (Nat.le_refl _) _).alloc (by simp) _
  have hs0 : w.heap.size + 1 < W0.heap.size := HB2.out.lt
  have HW0 := Lib.hid hW0
  clear hW0 hw
  by_cases hok : Bk.ok ⟨e, ⟨c1, c2, c3, c4, c5, c6, c7⟩⟩
  · rw [okN_yes hok] at HC
    by_cases hp : p = 1 ∨ p = 2
    · by_cases he : e = 1099511627776
      · have HD := Lib.hid (nextOf_last hok hp he)
        have hbe : (e == 1099511627776) = true := by simp [he]
        clear hok he
        rcases hp with rfl | rfl
        all_goals
          go_enter Try.func25, Try.ntmps25
          go_wp2_with fail
          rw [← HW0.out]
          refine (HC.out _).mono ?_
          rintro ed w1 ⟨rfl, hb1⟩
          have HB11 := Lib.hid (HB1.out.below hb1 (by omega))
          have HB21 := Lib.hid (HB2.out.below hb1 hs0)
          have HBW1 := Lib.hid (HBW.out.trans (hb1.mono HBW.out.size))
          have q0 : w1.cell? ⟨w.heap.size, 0, none⟩ = some (.int .i64 e) := HB11.out.cell 0
          clear hb1
          go_wp2_with (refine wpList_store_row rfl 30 _ _ rfl (w.heap.size + 1) (bkv bk0) rfl rfl 30 (bkv bk0) HB21.out bk_size rfl (bkv_one _) ?_)
          exact bodyPost_ret (results_blk_tmp rfl _ _ (w.heap.size + 1) 30 (bkv bk0) _ rfl (setRow_heap _ _ _ _ _ _ HB21.out) Try.underlying30 rfl bk_size) rfl ⟨by rw [HD.out]; rfl, below_setRow HBW1.out (by omega) _⟩
      · have HD := Lib.hid (nextOf_ok hok hp he)
        have hbe : (e == 1099511627776) = false := by simp [he]
        have he2 : e ≤ 1099511627776 := hok.1.2
        clear hok he
        rcases hp with rfl | rfl
        · go_enter Try.func25, Try.ntmps25
          go_wp2_with fail
          rw [← HW0.out]
          refine (HC.out _).mono ?_
          rintro ed w1 ⟨rfl, hb1⟩
          have HB11 := Lib.hid (HB1.out.below hb1 (by omega))
          have HB21 := Lib.hid (HB2.out.below hb1 hs0)
          have HBW1 := Lib.hid (HBW.out.trans (hb1.mono HBW.out.size))
          have q0 : w1.cell? ⟨w.heap.size, 0, none⟩ = some (.int .i64 e) := HB11.out.cell 0
          have f0 : w1.frozen? ⟨w.heap.size, 0, none⟩ = false := HB11.out.frozen 0
          have q7 : w1.cell? ⟨w.heap.size, 7, none⟩ = some (.int .i64 c7) := HB11.out.cell 7
          have f7 : w1.frozen? ⟨w.heap.size, 7, none⟩ = false := HB11.out.frozen 7
          have HB12 : Hid (Blk ((w1.setCell ⟨w.heap.size, 0, none⟩ (.int .i64 (e + 1))).setCell ⟨w.heap.size, 7, none⟩ (.int .i64 1)) w.heap.size 30 (bkv ⟨e + 1, ⟨c1, c2, c3, c4, c5, c6, 1⟩⟩)) := (HB11.out.set_ 0 (.int .i64 (e + 1))).set_ 7 (.int .i64 1)
          have HB22 : Hid (Blk ((w1.setCell ⟨w.heap.size, 0, none⟩ (.int .i64 (e + 1))).setCell ⟨w.heap.size, 7, none⟩ (.int .i64 1)) (w.heap.size + 1) 30 (bkv bk0)) := (HB21.out.far (p := ⟨w.heap.size, 0, none⟩) (by simp) (.int .i64 (e + 1))).far (p := ⟨w.heap.size, 7, none⟩) (by simp) (.int .i64 1)
          have HBW2 := Lib.hid ((HBW1.out.setCell (p := ⟨w.heap.size, 0, none⟩) (Nat.le_refl _) (.int .i64 (e + 1))).setCell (p := ⟨w.heap.size, 7, none⟩) (Nat.le_refl _) (.int .i64 1))
          clear hb1
          go_wp2_with (first
            | (refine wpList_load_row rfl 30 _ rfl w.heap.size rfl 30 (bkv ⟨e + 1, ⟨c1, c2, c3, c4, c5, c6, 1⟩⟩) (0, 0) _ HB12.out Try.underlying30 rfl bk_size ?_)
            | (refine wpList_store_row rfl 30 _ _ rfl (w.heap.size + 1) (bkv ⟨e + 1, ⟨c1, c2, c3, c4, c5, c6, 1⟩⟩) rfl rfl 30 (bkv bk0) HB22.out bk_size rfl (bkv_one _) ?_))
          exact bodyPost_ret (results_blk_tmp rfl _ _ (w.heap.size + 1) 30 (bkv ⟨e + 1, ⟨c1, c2, c3, c4, c5, c6, 1⟩⟩) _ rfl (setRow_heap _ _ _ _ _ _ HB22.out) Try.underlying30 rfl bk_size) rfl ⟨by rw [HD.out]; rfl, below_setRow HBW2.out (by omega) _⟩
        · go_enter Try.func25, Try.ntmps25
          go_wp2_with fail
          rw [← HW0.out]
          refine (HC.out _).mono ?_
          rintro ed w1 ⟨rfl, hb1⟩
          have HB11 := Lib.hid (HB1.out.below hb1 (by omega))
          have HB21 := Lib.hid (HB2.out.below hb1 hs0)
          have HBW1 := Lib.hid (HBW.out.trans (hb1.mono HBW.out.size))
          have q0 : w1.cell? ⟨w.heap.size, 0, none⟩ = some (.int .i64 e) := HB11.out.cell 0
          have f0 : w1.frozen? ⟨w.heap.size, 0, none⟩ = false := HB11.out.frozen 0
          have q7 : w1.cell? ⟨w.heap.size, 7, none⟩ = some (.int .i64 c7) := HB11.out.cell 7
          have f7 : w1.frozen? ⟨w.heap.size, 7, none⟩ = false := HB11.out.frozen 7
          have HB12 : Hid (Blk ((w1.setCell ⟨w.heap.size, 0, none⟩ (.int .i64 (e + 1))).setCell ⟨w.heap.size, 7, none⟩ (.int .i64 2)) w.heap.size 30 (bkv ⟨e + 1, ⟨c1, c2, c3, c4, c5, c6, 2⟩⟩)) := (HB11.out.set_ 0 (.int .i64 (e + 1))).set_ 7 (.int .i64 2)
          have HB22 : Hid (Blk ((w1.setCell ⟨w.heap.size, 0, none⟩ (.int .i64 (e + 1))).setCell ⟨w.heap.size, 7, none⟩ (.int .i64 2)) (w.heap.size + 1) 30 (bkv bk0)) := (HB21.out.far (p := ⟨w.heap.size, 0, none⟩) (by simp) (.int .i64 (e + 1))).far (p := ⟨w.heap.size, 7, none⟩) (by simp) (.int .i64 2)
          have HBW2 := Lib.hid ((HBW1.out.setCell (p := ⟨w.heap.size, 0, none⟩) (Nat.le_refl _) (.int .i64 (e + 1))).setCell (p := ⟨w.heap.size, 7, none⟩) (Nat.le_refl _) (.int .i64 2))
          clear hb1
          go_wp2_with (first
            | (refine wpList_load_row rfl 30 _ rfl w.heap.size rfl 30 (bkv ⟨e + 1, ⟨c1, c2, c3, c4, c5, c6, 2⟩⟩) (0, 0) _ HB12.out Try.underlying30 rfl bk_size ?_)
            | (refine wpList_store_row rfl 30 _ _ rfl (w.heap.size + 1) (bkv ⟨e + 1, ⟨c1, c2, c3, c4, c5, c6, 2⟩⟩) rfl rfl 30 (bkv bk0) HB22.out bk_size rfl (bkv_one _) ?_))
          exact bodyPost_ret (results_blk_tmp rfl _ _ (w.heap.size + 1) 30 (bkv ⟨e + 1, ⟨c1, c2, c3, c4, c5, c6, 2⟩⟩) _ rfl (setRow_heap _ _ _ _ _ _ HB22.out) Try.underlying30 rfl bk_size) rfl ⟨by rw [HD.out]; rfl, below_setRow HBW2.out (by omega) _⟩
    · have HD := Lib.hid (nextOf_bad (b := ⟨e, ⟨c1, c2, c3, c4, c5, c6, c7⟩⟩) (p := p) (fun h => hp h.2))
      have hp1 : (p != 1) = true := by simp; omega
      have hp2 : (p != 2) = true := by simp; omega
      clear hok hp
      go_enter Try.func25, Try.ntmps25
      go_wp2_with fail
      rw [← HW0.out]
      refine (HC.out _).mono ?_
      rintro ed w1 ⟨rfl, hb1⟩
      have HB21 := Lib.hid (HB2.out.below hb1 hs0)
      have HBW1 := Lib.hid (HBW.out.trans (hb1.mono HBW.out.size))
      clear hb1
      go_wp2_with (refine wpList_store_row rfl 30 _ _ rfl (w.heap.size + 1) (bkv bk0) rfl rfl 30 (bkv bk0) HB21.out bk_size rfl (bkv_one _) ?_)
      exact bodyPost_ret (results_blk_tmp rfl _ _ (w.heap.size + 1) 30 (bkv bk0) _ rfl (setRow_heap _ _ _ _ _ _ HB21.out) Try.underlying30 rfl bk_size) rfl ⟨by rw [HD.out]; rfl, below_setRow HBW1.out (by omega) _⟩
  · have HD := Lib.hid (nextOf_bad (p := p) (fun h => hok h.1))
    rw [okN_no hok] at HC
    clear hok
    go_enter Try.func25, Try.ntmps25
    go_wp2_with fail
    rw [← HW0.out]
    refine (HC.out _).mono ?_
    rintro ed w1 ⟨rfl, hb1⟩
    have HB21 := Lib.hid (HB2.out.below hb1 hs0)
    have HBW1 := Lib.hid (HBW.out.trans (hb1.mono HBW.out.size))
    clear hb1
    go_wp2_with (refine wpList_store_row rfl 30 _ _ rfl (w.heap.size + 1) (bkv bk0) rfl rfl 30 (bkv bk0) HB21.out bk_size rfl (bkv_one _) ?_)
    exact bodyPost_ret (results_blk_tmp rfl _ _ (w.heap.size + 1) 30 (bkv bk0) _ rfl (setRow_heap _ _ _ _ _ _ HB21.out) Try.underlying30 rfl bk_size) rfl ⟨by rw [HD.out]; rfl, below_setRow HBW1.out (by omega) _⟩
theorem next_any (b : Bk) (hw : b.wf) (p : Int) (w : World) :
    Calls Try.prog 25 #[.agg (bkv b), .int .i64 p] w fun e w' => e = .returned (.tuple #[.agg (bkv (nextOf b p).2), .int .i64 (nextOf b p).1]) ∧ Below w.heap.size w w' :=
  next_lit b.epoch b.conf.slots b.conf.size b.conf.reserve b.conf.work b.conf.key b.conf.value b.conf.policy p hw w
end Go.Proofs.Ytnopljanpjmbgaa
