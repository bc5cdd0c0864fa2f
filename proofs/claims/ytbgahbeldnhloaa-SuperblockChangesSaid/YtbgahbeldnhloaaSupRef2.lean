/-
  The walks of the document's Decode, of Next and the document's Next, and of the law's sample. Condition: the bytes can be read; the numbers are ints.
-/
import Derived.Test.YtbgahbeldnhloaaSupRef
namespace Go.Proofs.Ytbgahbeldnhloaa
open Go.RowKit Drum
set_option linter.unusedVariables false
theorem rbk_size : (Try.prog.info? 31).map (·.size) = some 8 := by kernel_rfl
theorem sum_nat_iff (x : W32) (s : Nat) (hs : s < 4294967296) : (x = BitVec.ofNat 32 s) ↔ x.toNat = s := by
  constructor
  · rintro rfl; rw [BitVec.toNat_ofNat, Nat.mod_eq_of_lt hs]
  · intro h; rw [← h, BitVec.ofNat_toNat, BitVec.setWidth_eq]
set_option maxHeartbeats 1000000 in
theorem refDecode_short (A : Option Addr) (n c : Nat) (hn : n < 64) (w : World) :
    Calls Try.prog 19 #[.slice A n c] w fun e w' => e = .returned (.tuple #[.agg (bkv bk0), .int .i64 14]) ∧ Below w.heap.size w w' := by
  go_enter Try.func19, Try.ntmps19
  go_wp2_with fail
  exact bodyPost_ret (results_blk_tmp rfl _ _ w.heap.size 31 (bkv bk0) _ rfl (Blk.new w _ _) Try.underlying31 rfl rbk_size) rfl ⟨rfl, by go_grown⟩
set_option maxHeartbeats 16000000 in
theorem refDecode_long (A : Option Addr) (n c B : Nat) (l : List (BitVec 8)) (hn : 64 ≤ n) (hnm : n ≤ maxLen) (hnc : n ≤ c) (hcm : c ≤ maxLen) (hl : n = l.length) (w : World) (hr : Reads w B 1 A n (u8s l)) (hB : B ≤ w.heap.size) :
    Calls Try.prog 19 #[.slice A n c] w fun e w' => e = .returned (.tuple #[.agg (bkv (decOf l).2), .int .i64 (decOf l).1]) ∧ Below w.heap.size w w' := by
  have HNM := Lib.hid hnm
  unfold maxLen at hnm hcm
  obtain ⟨ad, rfl, _, hcells⟩ := hr.2 (by omega)
  obtain ⟨W0, hW0⟩ : ∃ W0 : World, W0 = w.alloc (.cells #[.int .i64 0, .int .i64 0, .int .i64 0, .int .i64 0, .int .i64 0, .int .i64 0, .int .i64 0, .int .i64 0] 31) := ⟨_, rfl⟩
  have HB2 : Hid (Blk W0 w.heap.size 31 (bkv bk0)) := by rw [hW0]; exact Blk.new w _ _
  have HBW : Hid (Below w.heap.size w W0) := by rw [hW0]; exact ((Below.refl w.heap.size w).alloc (Nat.le_refl _) _)
  have HR := Lib.hid (hr.below (HBW.out.mono hB) : Reads W0 B 1 (some ad) n (u8s l))
  have HL := Lib.hid hl
  have HS0 : Hid (w.heap.size + 1 = W0.heap.size) := by rw [hW0]; show _ = _; simp
  have HW0 := Lib.hid hW0
  have HCL := Lib.hid hcells
  have CN : Hid (∀ W (a k : Nat), (k = 4 ∨ k = 8) → a + k ≤ 64 → Below W0.heap.size W0 W → Calls Try.prog 36 #[.slice (some ad) n c, .int .i64 (a : Int), .int .i64 (k : Int)] W fun e W' => e = .returned (.int .u64 (numTo l a k : Int)) ∧ W = W') := by
    intro W a k hk ha hW
    exact number_any (some ad) n c B l a k hk (by omega) W (HR.out.below (hW.mono (by have := HBW.out.size; omega))) HL.out HNM.out
  have CS : Hid (∀ W, Below W0.heap.size W0 W → Calls Try.prog 29 #[.slice (some ⟨ad.block, ad.off + 4, none⟩) 60 (c - 4)] W fun e W' => e = .returned (.int .u32 ((csum ((l.take 64).drop 4)).toNat : Int)) ∧ W = W') := by
    intro W hW
    have had : (⟨ad.block, ad.off + 4, none⟩ : Addr) = ad.add 4 := by unfold Addr.add; simp
    have hr2 := (HR.out.below (hW.mono (by have := HBW.out.size; omega)) : Reads W B 1 (some ad) n (u8s l))
    have hr3 : Reads W B 1 (some (ad.add 4)) 60 (u8s ((l.take 64).drop 4)) := by
      obtain ⟨ad', e1, hb', hc'⟩ := hr2.2 (by omega)
      injection e1 with e1
      subst e1
      refine ⟨by rw [u8s_length, List.length_drop, List.length_take]; have := HL.out; omega, fun _ => ⟨_, rfl, by rw [block_of_add]; exact hb', fun j u hu => ?_⟩⟩
      have hj : j < 60 := by have := (List.getElem?_eq_some_iff.1 hu).1; rw [u8s_length, List.length_drop, List.length_take] at this; omega
      rw [add_of_add]
      refine hc' _ _ ?_
      rw [← hu, u8s_drop, u8s_take, List.getElem?_drop, List.getElem?_take, if_pos (by omega)]
    have h := refSum_any (some (ad.add 4)) 60 (c - 4) B ((l.take 64).drop 4) W hr3 (by rw [List.length_drop, List.length_take]; have := HL.out; omega) (by simp [maxLen])
    rw [n32_nat] at h
    rw [had]
    exact h
  clear hW0 hr hl hcells
  have hl64 : 64 ≤ l.length := by have := HL.out; omega
  have HL64 := Lib.hid hl64
  obtain ⟨s, hs, HS⟩ : ∃ s : Nat, s < 4294967296 ∧ Hid (numTo l 0 4 = s) := ⟨_, numTo_lt l 0 4, rfl⟩
  obtain ⟨t, ht, HT⟩ : ∃ t : Nat, t < 4294967296 ∧ Hid ((csum ((l.take 64).drop 4)).toNat = t) := ⟨_, (csum ((l.take 64).drop 4)).isLt, rfl⟩
  rw [HT.out] at CS
  have CN0 : Hid (∀ W, Below W0.heap.size W0 W → Calls Try.prog 36 #[.slice (some ad) n c, .int .i64 0, .int .i64 4] W fun e W' => e = .returned (.int .u64 (s : Int)) ∧ W = W') := fun W hW => by
    have := CN.out W 0 4 (.inl rfl) (by omega) hW
    rw [HS.out] at this
    exact this
  clear hl64
  go_enter Try.func19, Try.ntmps19
  go_wp2_with fail
  rw [← HW0.out]
  refine (CS.out W0 (Below.refl _ _)).mono ?_
  rintro e wa ⟨rfl, rfl⟩
  go_wp2_with fail
  refine (CN0.out W0 (Below.refl _ _)).mono ?_
  rintro e wa ⟨rfl, rfl⟩
  by_cases hsum : t = s
  · have hd : ((t : Int) != (s : Int)) = false := by rw [hsum]; simp
    have HSUM : Hid (csum ((l.take 64).drop 4) = BitVec.ofNat 32 (numTo l 0 4)) := by rw [HS.out]; exact (sum_nat_iff _ s hs).2 (by rw [HT.out, hsum])
    obtain ⟨ep, hep⟩ : ∃ ep : Nat, numTo l 8 8 = ep := ⟨_, rfl⟩
    have hep64 : ep < 18446744073709551616 := by rw [← hep]; exact numTo_lt l 8 8
    have CG8 := CN.out W0 8 8 (.inr rfl) (by omega) (Below.refl _ _)
    rw [hep] at CG8
    have CG8' := Lib.hid CG8
    have HEP := Lib.hid hep
    clear hsum hep CG8
    go_wp2_with fail
    refine CG8'.out.mono ?_
    rintro e wa ⟨rfl, rfl⟩
    clear hd
    by_cases hbig : 1099511627776 < ep
    · have HD : Hid (decOf l = (8, bk0)) := by
        show _ = _
        unfold decOf
        rw [if_neg (by have := HL64.out; omega), if_neg (fun h => h HSUM.out), if_pos (by rw [HEP.out]; exact hbig)]
      go_wp2_with (refine wpList_store_row rfl 31 _ _ rfl w.heap.size (bkv bk0) rfl rfl 31 (bkv bk0) HB2.out rbk_size rfl (bkv_one _) ?_)
      exact bodyPost_ret (results_blk_tmp rfl _ _ w.heap.size 31 (bkv bk0) _ rfl (setRow_heap _ _ _ _ _ _ HB2.out) Try.underlying31 rfl rbk_size) rfl ⟨by rw [HD.out]; rfl, below_setRow HBW.out (by omega) _⟩
    · have hepb : ep ≤ 1099511627776 := by omega
      obtain ⟨n1, hb1, HN1⟩ : ∃ m : Nat, m < 4294967296 ∧ Hid (numTo l 16 4 = m) := ⟨_, numTo_lt l 16 4, rfl⟩
      have CG_1 := CN.out W0 16 4 (.inl rfl) (by omega) (Below.refl _ _)
      rw [HN1.out] at CG_1
      have CH_1 := Lib.hid CG_1
      clear CG_1
      obtain ⟨n2, hb2, HN2⟩ : ∃ m : Nat, m < 4294967296 ∧ Hid (numTo l 20 4 = m) := ⟨_, numTo_lt l 20 4, rfl⟩
      have CG_2 := CN.out W0 20 4 (.inl rfl) (by omega) (Below.refl _ _)
      rw [HN2.out] at CG_2
      have CH_2 := Lib.hid CG_2
      clear CG_2
      obtain ⟨n3, hb3, HN3⟩ : ∃ m : Nat, m < 4294967296 ∧ Hid (numTo l 24 4 = m) := ⟨_, numTo_lt l 24 4, rfl⟩
      have CG_3 := CN.out W0 24 4 (.inl rfl) (by omega) (Below.refl _ _)
      rw [HN3.out] at CG_3
      have CH_3 := Lib.hid CG_3
      clear CG_3
      obtain ⟨n4, hb4, HN4⟩ : ∃ m : Nat, m < 4294967296 ∧ Hid (numTo l 28 4 = m) := ⟨_, numTo_lt l 28 4, rfl⟩
      have CG_4 := CN.out W0 28 4 (.inl rfl) (by omega) (Below.refl _ _)
      rw [HN4.out] at CG_4
      have CH_4 := Lib.hid CG_4
      clear CG_4
      obtain ⟨n5, hb5, HN5⟩ : ∃ m : Nat, m < 4294967296 ∧ Hid (numTo l 32 4 = m) := ⟨_, numTo_lt l 32 4, rfl⟩
      have CG_5 := CN.out W0 32 4 (.inl rfl) (by omega) (Below.refl _ _)
      rw [HN5.out] at CG_5
      have CH_5 := Lib.hid CG_5
      clear CG_5
      obtain ⟨n6, hb6, HN6⟩ : ∃ m : Nat, m < 4294967296 ∧ Hid (numTo l 36 4 = m) := ⟨_, numTo_lt l 36 4, rfl⟩
      have CG_6 := CN.out W0 36 4 (.inl rfl) (by omega) (Below.refl _ _)
      rw [HN6.out] at CG_6
      have CH_6 := Lib.hid CG_6
      clear CG_6
      obtain ⟨n7, hb7, HN7⟩ : ∃ m : Nat, m < 4294967296 ∧ Hid (numTo l 40 4 = m) := ⟨_, numTo_lt l 40 4, rfl⟩
      have CG_7 := CN.out W0 40 4 (.inl rfl) (by omega) (Below.refl _ _)
      rw [HN7.out] at CG_7
      have CH_7 := Lib.hid CG_7
      clear CG_7
      have HX : Hid (readOf l = bkN ep n1 n2 n3 n4 n5 n6 n7) := by
        show _ = _
        unfold readOf bkN
        rw [HEP.out, HN1.out, HN2.out, HN3.out, HN4.out, HN5.out, HN6.out, HN7.out]
      have HD : Hid (decOf l = if (readOf l).ok ∧ encOf (readOf l) = l.take 64 then (0, readOf l) else (8, bk0)) := by
        show _ = _
        unfold decOf
        rw [if_neg (by have := HL64.out; omega), if_neg (fun h => h HSUM.out), if_neg (by rw [HEP.out]; omega)]
      rw [HX.out] at HD
      clear CN hbig
      go_wp2_with fail
      refine CH_1.out.mono ?_
      rintro e wa ⟨rfl, rfl⟩
      go_wp2_with fail
      refine CH_2.out.mono ?_
      rintro e wa ⟨rfl, rfl⟩
      go_wp2_with fail
      refine CH_3.out.mono ?_
      rintro e wa ⟨rfl, rfl⟩
      go_wp2_with fail
      refine CH_4.out.mono ?_
      rintro e wa ⟨rfl, rfl⟩
      go_wp2_with fail
      refine CH_5.out.mono ?_
      rintro e wa ⟨rfl, rfl⟩
      go_wp2_with fail
      refine CH_6.out.mono ?_
      rintro e wa ⟨rfl, rfl⟩
      go_wp2_with fail
      refine CH_7.out.mono ?_
      rintro e wa ⟨rfl, rfl⟩
      have HWF : Hid ((bkN ep n1 n2 n3 n4 n5 n6 n7).wf) := by
        refine ⟨⟨by simp only [bkN]; omega, by simp only [bkN]; omega⟩, fun n hn => ?_⟩
        simp only [bkN, Cf.nums, List.mem_cons, List.not_mem_nil, or_false] at hn
        rcases hn with rfl | rfl | rfl | rfl | rfl | rfl | rfl <;> omega
      go_wp2_with fail
      obtain ⟨wx, hwx⟩ : ∃ wx : World, wx = W0.alloc (.cells #[.int .i64 (ep : Int), .int .i64 (n1 : Int), .int .i64 (n2 : Int), .int .i64 (n3 : Int), .int .i64 (n4 : Int), .int .i64 (n5 : Int), .int .i64 (n6 : Int), .int .i64 (n7 : Int)] 31) := ⟨_, rfl⟩
      have HBX : Hid (Blk wx W0.heap.size 31 (bkv (bkN ep n1 n2 n3 n4 n5 n6 n7))) := by rw [hwx]; exact Blk.new _ _ _
      have HHX : Hid (Below W0.heap.size W0 wx) := by rw [hwx]; exact (Below.refl W0.heap.size W0).alloc (Nat.le_refl _) _
      have hx0 : W0.heap.size < wx.heap.size := HBX.out.lt
      rw [← hwx]
      clear hwx
      have hg1 : w.heap.size < W0.heap.size := by have := HS0.out; omega
      by_cases hok : (bkN ep n1 n2 n3 n4 n5 n6 n7).ok
      · refine (refEncode_any _ HWF.out hok _).mono ?_
        rintro e w8 ⟨v8, rfl, hown8, hb8⟩
        have HB8 := Lib.hid (HBX.out.below hb8 hx0)
        have HH8 := Lib.hid (HHX.out.trans (hb8.mono (by omega)))
        obtain ⟨g8, c8, cur8, rfl, _, _, hA8, hc8, _, _⟩ := own_form hown8 (by omega)
        have HR8 := Lib.hid (Reads.of_own hown8)
        have HOK := Lib.hid hok
        have HRL := Lib.hid (HR.out.below (HH8.out.mono (by have := HBW.out.size; omega)) : Reads w8 B 1 (some ad) n (u8s l))
        have HEL := Lib.hid (encOf_length (bkN ep n1 n2 n3 n4 n5 n6 n7))
        obtain ⟨el, HELL⟩ : ∃ el : List (BitVec 8), Hid (el = encOf (bkN ep n1 n2 n3 n4 n5 n6 n7)) := ⟨_, rfl⟩
        rw [← HELL.out] at HR8 HEL
        clear hown8 hb8 hok CS CN0
        go_wp2_with fail
        go_loopg [8] 64 (fun q v8 wr => ∃ j : Nat, j + q = 64 ∧ v8 = .int .i64 j ∧ (∀ i (h1 : i < el.length) (h2 : i < l.length), i < j → el[i] = l[i]) ∧ (∃ q, wr = w8.drewN q))
        case atStart => exact ⟨0, rfl, rfl, fun i _ _ h => by omega, 0, rfl⟩
        case round =>
          obtain ⟨j, hj, rfl, hs, q, rfl⟩ := hrel
          have HJ := Lib.hid hj
          have HSS := Lib.hid hs
          have hj' : j ≤ 64 := by omega
          clear hj hs
          by_cases hlt : j < 64
          · obtain ⟨ad1, u, e1, _, hx, hc⟩ := HR8.out.at_ hlt
            injection e1 with e1
            subst e1
            obtain ⟨ad2, u', e2, _, hx', hc'⟩ := HRL.out.at_ (show j < n by omega)
            injection e2 with e2
            subst e2
            obtain ⟨hjl, rfl⟩ := u8s_at hx
            obtain ⟨hjm, rfl⟩ := u8s_at hx'
            rw [add_zero_addr] at hc
            clear hx hx'
            by_cases he : el[j] = l[j]
            · have hb : (n8 el[j] != n8 l[j]) = false := by rw [he]; simp
              have HE := Lib.hid he
              clear he
              go_wp2_with fail
              go_region
              all_goals go_wp2_with fail
              all_goals go_roundg (gk - 1)
              case measure => have := HJ.out; omega
              case rel =>
                refine ⟨j + 1, by have := HJ.out; omega, by go_num, fun i h1 h2 hi => ?_, q + 1, rfl⟩
                by_cases e : i = j
                · subst e; exact HE.out
                · exact HSS.out i h1 h2 (by omega)
            · have hb : (n8 el[j] != n8 l[j]) = true := by simp only [bne_iff_ne, ne_eq]; exact fun h => he (n8_eq.1 h)
              have HD2 : Hid (decOf l = (8, bk0)) := by
                show _ = _
                rw [HD.out, if_neg (fun h => he ?_)]
                have := h.2
                rw [← HELL.out] at this
                rw [List.getElem_of_eq this, List.getElem_take]
              clear he
              go_wp2_with fail
              go_region
              have HB29 := Lib.hid ((HB2.out.below HH8.out hg1).drewN (q + 1))
              have HBW9 := Lib.hid (HBW.out.trans ((show Below W0.heap.size W0 (w8.drewN (q + 1)) from HH8.out.trans ⟨rfl, rfl, rfl, Nat.le_refl _, fun _ _ => rfl⟩).mono HBW.out.size))
              all_goals go_wp2_with (refine wpList_store_row rfl 31 _ _ rfl w.heap.size (bkv bk0) rfl rfl 31 (bkv bk0) HB29.out rbk_size rfl (bkv_one _) ?_)
              exact bodyPost_ret (results_blk_tmp rfl _ _ w.heap.size 31 (bkv bk0) _ rfl (setRow_heap _ _ _ _ _ _ HB29.out) Try.underlying31 rfl rbk_size) rfl ⟨by rw [HD2.out]; rfl, below_setRow HBW9.out (by omega) _⟩
          · have e8 : j = 64 := by omega
            subst e8
            have HEQ : Hid (el = l.take 64) := by
              refine List.ext_getElem (by rw [List.length_take]; have := HEL.out; have := HL64.out; omega) fun i h1 h2 => ?_
              rw [List.getElem_take]
              exact HSS.out i h1 (by rw [List.length_take] at h2; omega) (by have := HEL.out; omega)
            have HD2 : Hid (decOf l = (0, bkN ep n1 n2 n3 n4 n5 n6 n7)) := by show _ = _; rw [HD.out, if_pos ⟨HOK.out, by rw [← HELL.out]; exact HEQ.out⟩]
            have HB9 := Lib.hid (HB8.out.drewN q)
            have HB29 := Lib.hid ((HB2.out.below HH8.out hg1).drewN q)
            have HBW9 := Lib.hid (HBW.out.trans ((show Below W0.heap.size W0 (w8.drewN q) from HH8.out.trans ⟨rfl, rfl, rfl, Nat.le_refl _, fun _ _ => rfl⟩).mono HBW.out.size))
            go_wp2_with (first
              | (refine wpList_load_row rfl 31 _ rfl W0.heap.size rfl 31 (bkv (bkN ep n1 n2 n3 n4 n5 n6 n7)) (0, 0) _ HB9.out Try.underlying31 rfl rbk_size ?_)
              | (refine wpList_store_row rfl 31 _ _ rfl w.heap.size (bkv (bkN ep n1 n2 n3 n4 n5 n6 n7)) rfl rfl 31 (bkv bk0) HB29.out rbk_size rfl (bkv_one _) ?_))
            exact bodyPost_ret (results_blk_tmp rfl _ _ w.heap.size 31 (bkv (bkN ep n1 n2 n3 n4 n5 n6 n7)) _ rfl (setRow_heap _ _ _ _ _ _ HB29.out) Try.underlying31 rfl rbk_size) rfl ⟨by rw [HD2.out]; rfl, below_setRow HBW9.out (by omega) _⟩
      · refine (refEncode_bad _ HWF.out hok _).mono ?_
        rintro e w8 ⟨rfl, hb8⟩
        have HH8 := Lib.hid (HHX.out.trans (hb8.mono (by omega)))
        have HB28 := Lib.hid (HB2.out.below HH8.out hg1)
        have HBW8 := Lib.hid (HBW.out.trans (HH8.out.mono HBW.out.size))
        have HD2 : Hid (decOf l = (8, bk0)) := by show _ = _; rw [HD.out, if_neg (fun h => hok h.1)]
        clear hb8 hok HD
        go_wp2_with (refine wpList_store_row rfl 31 _ _ rfl w.heap.size (bkv bk0) rfl rfl 31 (bkv bk0) HB28.out rbk_size rfl (bkv_one _) ?_)
        exact bodyPost_ret (results_blk_tmp rfl _ _ w.heap.size 31 (bkv bk0) _ rfl (setRow_heap _ _ _ _ _ _ HB28.out) Try.underlying31 rfl rbk_size) rfl ⟨by rw [HD2.out]; rfl, below_setRow HBW8.out (by omega) _⟩
  · have hd : ((t : Int) != (s : Int)) = true := by simp; omega
    have HD : Hid (decOf l = (15, bk0)) := decOf_sum l HL64.out (by rw [HS.out]; exact fun h => hsum (by rw [← HT.out]; exact (sum_nat_iff _ s hs).1 h))
    clear hsum
    go_wp2_with (refine wpList_store_row rfl 31 _ _ rfl w.heap.size (bkv bk0) rfl rfl 31 (bkv bk0) HB2.out rbk_size rfl (bkv_one _) ?_)
    exact bodyPost_ret (results_blk_tmp rfl _ _ w.heap.size 31 (bkv bk0) _ rfl (setRow_heap _ _ _ _ _ _ HB2.out) Try.underlying31 rfl rbk_size) rfl ⟨by rw [HD.out]; rfl, below_setRow HBW.out (by omega) _⟩
theorem refDecode_any (A : Option Addr) (n c B : Nat) (l : List (BitVec 8)) (hl : n = l.length) (hnm : n ≤ maxLen) (hnc : n ≤ c) (hcm : c ≤ maxLen) (w : World) (hr : Reads w B 1 A n (u8s l)) (hB : B ≤ w.heap.size) :
    Calls Try.prog 19 #[.slice A n c] w fun e w' => e = .returned (.tuple #[.agg (bkv (decOf l).2), .int .i64 (decOf l).1]) ∧ Below w.heap.size w w' := by
  by_cases h : n < 64
  · rw [decOf_short l (by omega)]
    exact refDecode_short A n c h w
  · exact refDecode_long A n c B l (by omega) hnm hnc hcm hl w hr hB
end Go.Proofs.Ytbgahbeldnhloaa
