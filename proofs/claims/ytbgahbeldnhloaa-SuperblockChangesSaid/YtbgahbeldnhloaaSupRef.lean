/-
  The walks of the document's little, number and Encode. Condition: the bytes can be read; the numbers fit.
-/
import Derived.Test.YtbgahbeldnhloaaSupDec
import Derived.Test.YtbgahbeldnhloaaAppendF
import Derived.Lib.SlBytesConst
namespace Go.Proofs.Ytbgahbeldnhloaa
open Go.RowKit Drum
set_option linter.unusedVariables false
set_option maxHeartbeats 1000000 in
theorem little_any (x k : Nat) (hk : k = 4 ∨ k = 8) (w : World) :
    Calls Try.prog 28 #[.int .u64 (x : Int), .int .i64 (k : Int)] w fun e w' => ∃ v, e = .returned v ∧ w'.ownsRow w.heap.size 5 1 v k (u8s (le k x)) ∧ Below w.heap.size w w' := by
  obtain ⟨i0, hi0, hz0, hz1, hz2⟩ := info_parts u8_info
  have hk8 : k ≤ 8 := by omega
  clear hk
  go_enter Try.func28, Try.ntmps28
  go_wp2_with fail
  go_loopg [5, 6] k (fun q v5 v6 wr => ∃ j : Nat, j + q = k ∧ v6 = .int .i64 j ∧ wr.ownsRow w.heap.size 5 1 v5 j (u8s (le j x)) ∧ Below w.heap.size w wr)
  case atStart => exact ⟨0, by omega, rfl, World.ownsRow_nil _ _ _ _, Below.refl _ _⟩
  case round =>
    obtain ⟨j, hj, rfl, ho, hb⟩ := hrel
    have hj' : j ≤ k := by omega
    have HJ := Lib.hid hj
    have HO := Lib.hid ho
    have HB := Lib.hid hb
    clear hj ho hb
    by_cases hlt : j < k
    · obtain ⟨wo, rfl⟩ : ∃ wo : World, wo = wr := ⟨_, rfl⟩
      have HN := Lib.hid (reads_new wo 5 #[.int .u8 ((x : Int) / 256 ^ j % 256)] (0, 0) [BitVec.ofNat 8 (x / 256 ^ j)] 1 rfl (by rw [byte_of']; rfl))
      go_wp2_with (first
        | (with_reducible refine wpList_shr_u64 rfl _ _ _ _ x j (by omega) _ rfl rfl rfl ?_)
        | (at_builtin
           refine wpList_append_g _ rfl (.tmp 12) (.tmp 19) _ rfl w.heap.size 5 i0 _ 1 1 Try.underlying26 hi0 hz0 hz1 hz2 rfl (by omega) _ j (u8s (le j x)) rfl
             (own_below' HO.out (ba (Below.refl _ _) _)) (wo.heap.size + 1) (some ⟨wo.heap.size, 0, none⟩) 1 1 (u8s [BitVec.ofNat 8 (x / 256 ^ j)]) rfl HN.out (u8s_one _) (by simp only [maxLen]; omega) (by omega) (by simp; have := HB.out.size; omega) ?_
           intro v1 w6 hown1 hg1 hat1
           rw [u8s_append, ← le_snoc] at hown1
           have HO1 := Lib.hid hown1
           have HB6 := Lib.hid ((ba HB.out (.cells #[.int .u8 ((x : Int) / 256 ^ j % 256)] 5)).grown hg1 (by simp; have := HB.out.size; omega) (fun q hq => (HO.out.lt q hq).1))
           clear hown1 hg1 hat1))
      go_roundg (gk - 1)
      case measure => have := HJ.out; omega
      case rel => exact ⟨j + 1, by have := HJ.out; omega, by go_num, HO1.out, HB6.out⟩
    · have e8 : j = k := by omega
      subst e8
      go_wp2_with fail
      go_ret
      exact ⟨_, rfl, HO.out, HB.out⟩
set_option maxHeartbeats 1000000 in
theorem number_any (A : Option Addr) (n c B : Nat) (l : List (BitVec 8)) (a k : Nat) (hk : k = 4 ∨ k = 8) (ha : a + k ≤ n) (w : World) (hr : Reads w B 1 A n (u8s l)) (hn : n = l.length) (hm : n ≤ maxLen) :
    Calls Try.prog 36 #[.slice A n c, .int .i64 (a : Int), .int .i64 (k : Int)] w fun e w' => e = .returned (.int .u64 (numTo l a k : Int)) ∧ w = w' := by
  unfold maxLen at hm
  have HR := Lib.hid hr
  have hk8 : k ≤ 8 := by omega
  clear hr hn hk
  go_enter Try.func36, Try.ntmps36
  go_wp2_with fail
  go_loopg [7, 8] k (fun q v7 v8 wr => ∃ j : Nat, j + q = k ∧ v8 = .int .i64 j ∧ v7 = .int .u64 (numTo l a j : Int) ∧ w = wr)
  case atStart => exact ⟨0, by omega, rfl, rfl, rfl⟩
  case round =>
    obtain ⟨j, hj, rfl, rfl, rfl⟩ := hrel
    have hj' : j ≤ k := by omega
    have HJ := Lib.hid hj
    clear hj
    by_cases hlt : j < k
    · have hlt2 : a + j < n := by omega
      obtain ⟨ad, u, rfl, _, hx, hc⟩ := HR.out.at_ hlt2
      obtain ⟨hjl, rfl⟩ := u8s_at hx
      have HO := Lib.hid (or_step l a j (by omega) l[a + j] (getD_of hjl))
      rw [n8_nat] at hc
      have hlb := (l[a + j]).isLt
      clear hx
      go_wp2_with (with_reducible refine wpList_shl_u64 rfl _ _ _ _ (l[a + j]).toNat j (by omega) (by omega) _ rfl rfl rfl ?_)
      go_roundg (gk - 1)
      case measure => have := HJ.out; omega
      case rel => exact ⟨j + 1, by have := HJ.out; omega, by go_num, by rw [← HO.out, Int.natCast_mul, Int.natCast_pow]; rfl, rfl⟩
    · have e8 : j = k := by omega
      subst e8
      go_wp2_with fail
      go_ret
      exact ⟨rfl, rfl⟩
set_option maxHeartbeats 1000000 in
theorem refEncode_bad (b : Bk) (hb : b.wf) (hn : ¬ b.ok) (w : World) :
    Calls Try.prog 12 #[.agg (bkv b)] w fun e w' => e = .returned (.tuple #[.slice none 0 0, .int .i64 2]) ∧ Below w.heap.size w w' := by
  have HC := Lib.hid (fun W => refCheck_any b hb W)
  rw [okN_no hn] at HC
  clear hb hn
  unfold bkv at HC ⊢
  go_enter Try.func12, Try.ntmps12
  go_wp2_with fail
  refine (HC.out _).mono ?_
  rintro e w1 ⟨rfl, hb1⟩
  have HB := Lib.hid (bt (ba (Below.refl w.heap.size w) _) hb1)
  clear hb1
  go_wp2_with fail
  go_ret2
  exact ⟨rfl, HB.out⟩
set_option maxHeartbeats 8000000 in
theorem refEncode_ok (e n1 n2 n3 n4 n5 n6 n7 : Nat) (hw : (bkN e n1 n2 n3 n4 n5 n6 n7).wf) (hok : (bkN e n1 n2 n3 n4 n5 n6 n7).ok)
    (he : e ≤ 1099511627776) (h1 : n1 ≤ 65536) (h2 : n2 ≤ 65536) (h3 : n3 ≤ 65536) (h4 : n4 ≤ 65536) (h5 : n5 ≤ 65536) (h6 : n6 ≤ 65536) (h7 : n7 ≤ 65536) (w : World) :
    Calls Try.prog 12 #[.agg (bkv (bkN e n1 n2 n3 n4 n5 n6 n7))] w fun ed w' => ∃ v, ed = .returned (.tuple #[v, .int .i64 0]) ∧ w'.ownsRow w.heap.size 5 1 v 64 (u8s (encOf (bkN e n1 n2 n3 n4 n5 n6 n7))) ∧ Below w.heap.size w w' := by
  have HC := Lib.hid (fun W => refCheck_any _ hw W)
  rw [okN_yes hok] at HC
  obtain ⟨BB, hBB⟩ : ∃ b : Bk, b = bkN e n1 n2 n3 n4 n5 n6 n7 := ⟨_, rfl⟩
  have HBB := Lib.hid hBB
  have hcells : bkv (bkN e n1 n2 n3 n4 n5 n6 n7) = #[.int .i64 (e : Int), .int .i64 (n1 : Int), .int .i64 (n2 : Int), .int .i64 (n3 : Int), .int .i64 (n4 : Int), .int .i64 (n5 : Int), .int .i64 (n6 : Int), .int .i64 (n7 : Int)] := rfl
  rw [hcells] at HC ⊢
  obtain ⟨i0, hi0, hz0, hz1, hz2⟩ := info_parts u8_info
  have HH : Hid (encOf (bkN e n1 n2 n3 n4 n5 n6 n7) = encOf BB) := by rw [hBB]; rfl
  rw [HH.out]
  clear hw hok hcells hBB
  go_enter Try.func12, Try.ntmps12
  go_wp2_with fail
  refine (HC.out _).mono ?_
  rintro ed w1 ⟨rfl, hb1⟩
  have HB := Lib.hid (bt (ba (Below.refl w.heap.size w) _) hb1)
  have hbb : Blk w1 w.heap.size 31 #[.int .i64 (e : Int), .int .i64 (n1 : Int), .int .i64 (n2 : Int), .int .i64 (n3 : Int), .int .i64 (n4 : Int), .int .i64 (n5 : Int), .int .i64 (n6 : Int), .int .i64 (n7 : Int)] := (Blk.new w _ _).below hb1 (by simp)
  have HBB1 := Lib.hid hbb
  have hs1 : w.heap.size < w1.heap.size := hbb.lt
  have q0 : w1.cell? ⟨w.heap.size, 0, none⟩ = some (.int .i64 (e : Int)) := hbb.cell 0
  have q1 : w1.cell? ⟨w.heap.size, 1, none⟩ = some (.int .i64 (n1 : Int)) := hbb.cell 1
  have q2 : w1.cell? ⟨w.heap.size, 2, none⟩ = some (.int .i64 (n2 : Int)) := hbb.cell 2
  have q3 : w1.cell? ⟨w.heap.size, 3, none⟩ = some (.int .i64 (n3 : Int)) := hbb.cell 3
  have q4 : w1.cell? ⟨w.heap.size, 4, none⟩ = some (.int .i64 (n4 : Int)) := hbb.cell 4
  have q5 : w1.cell? ⟨w.heap.size, 5, none⟩ = some (.int .i64 (n5 : Int)) := hbb.cell 5
  have q6 : w1.cell? ⟨w.heap.size, 6, none⟩ = some (.int .i64 (n6 : Int)) := hbb.cell 6
  have q7 : w1.cell? ⟨w.heap.size, 7, none⟩ = some (.int .i64 (n7 : Int)) := hbb.cell 7
  clear hb1 hbb HC
  obtain ⟨W3, hW3⟩ : ∃ W : World, W = (w1.alloc (.cells #[.int .i64 (n1 : Int), .int .i64 (n2 : Int), .int .i64 (n3 : Int), .int .i64 (n4 : Int), .int .i64 (n5 : Int), .int .i64 (n6 : Int), .int .i64 (n7 : Int)] 23)).alloc (.cells #[.int .i64 (n1 : Int), .int .i64 (n2 : Int), .int .i64 (n3 : Int), .int .i64 (n4 : Int), .int .i64 (n5 : Int), .int .i64 (n6 : Int), .int .i64 (n7 : Int)] 3) := ⟨_, rfl⟩
  have hs3 : W3.heap.size = w1.heap.size + 1 + 1 := by rw [hW3]; simp
  have hcv := Lib.run_convert_bytes_const (P := Try.prog) W3 26 5 #[.int .u8 68, .int .u8 82, .int .u8 85, .int .u8 77] 4 4 Try.underlying26 Try.underlying5
  rw [hs3, hW3] at hcv
  obtain ⟨W4, hW4⟩ : ∃ W : World, W = W3.alloc (.cells #[.int .u8 68, .int .u8 82, .int .u8 85, .int .u8 77] 5 (4, 5)) := ⟨_, rfl⟩
  have HBW4 : Hid (Below w.heap.size w W4) := by rw [hW4, hW3]; exact ((HB.out.alloc HB.out.size _).alloc (by simp; have := HB.out.size; omega) _).alloc (by simp; have := HB.out.size; omega) _
  have HN4 : Hid (Blk W4 (w1.heap.size + 1) 3 #[.int .i64 (n1 : Int), .int .i64 (n2 : Int), .int .i64 (n3 : Int), .int .i64 (n4 : Int), .int .i64 (n5 : Int), .int .i64 (n6 : Int), .int .i64 (n7 : Int)]) := by rw [hW4, hW3]; exact (blk2 w1 _ _ _ _).alloc _
  have hs4 : W4.heap.size = w1.heap.size + 3 := by rw [hW4]; simp [hs3]
  have HS4 := Lib.hid hs4
  have HD4 : Hid (Reads W4 W4.heap.size 1 (some ⟨w1.heap.size + 1 + 1, 0, none⟩) 4 (u8s drum)) := by
    have e : #[Value.int .u8 68, .int .u8 82, .int .u8 85, .int .u8 77] = (u8s drum).toArray := by simp [u8s, drum, u8v, n8]
    have h := reads_new W3 5 #[.int .u8 68, .int .u8 82, .int .u8 85, .int .u8 77] (4, 5) drum 4 rfl e
    have e2 : W3.heap.size + 1 = W4.heap.size := by rw [hs4]; omega
    rw [← hW4, e2, hs3] at h
    exact h
  have HW4 : Hid (W4 = ((w1.alloc (.cells #[.int .i64 (n1 : Int), .int .i64 (n2 : Int), .int .i64 (n3 : Int), .int .i64 (n4 : Int), .int .i64 (n5 : Int), .int .i64 (n6 : Int), .int .i64 (n7 : Int)] 23)).alloc (.cells #[.int .i64 (n1 : Int), .int .i64 (n2 : Int), .int .i64 (n3 : Int), .int .i64 (n4 : Int), .int .i64 (n5 : Int), .int .i64 (n6 : Int), .int .i64 (n7 : Int)] 3)).alloc (.cells #[.int .u8 68, .int .u8 82, .int .u8 85, .int .u8 77] 5 (4, 5))) := by rw [hW4, hW3]; rfl
  have q0' : W4.cell? ⟨w.heap.size, 0, none⟩ = some (.int .i64 (e : Int)) := by rw [hW4, hW3]; exact (((HBB1.out.alloc _).alloc _).alloc _).cell 0
  rw [HW4.out] at q0'
  clear hW4 hs4 hW3 hs3
  go_wp2_with fail
  rw [← HW4.out]
  refine (little_any e 8 (.inr rfl) W4).mono ?_
  rintro ed w5 ⟨v5, rfl, hown5, hb5⟩
  obtain ⟨g5, c5, cur5, rfl, _, _, hA5, hc5, _, _⟩ := own_form hown5 (by omega)
  have HR5 := Lib.hid (Reads.of_own hown5)
  have HB5 := Lib.hid hb5
  have HS5 : Hid (W4.heap.size ≤ w5.heap.size) := hb5.size
  have HD5 := Lib.hid (HD4.out.below hb5)
  clear hown5 hb5 hcv q0' q0 q1 q2 q3 q4 q5 q6 q7
  go_wp2_with (at_builtin
               refine wpList_append_full _ rfl _ _ 26 rfl (w1.heap.size + 2) 5 i0 Try.underlying26 hi0 hz0 hz1 hz2 ⟨w1.heap.size + 1 + 1, 0, none⟩ 4 4 _ drum rfl HD5.out ⟨g5, 0, none⟩ 8 c5 _ (le 8 e) rfl HR5.out (by omega) (by omega) (by omega) (by omega) (by have := HS5.out; have := HS4.out; omega) ?_
               intro v6 w6 hown6 hb6 _
               have HO6 := Lib.hid hown6
               have HBB6 : Hid (Below (w1.heap.size + 2) W4 w6) := (HB5.out.trans (hb6.mono HS5.out)).mono (by have := HS4.out; omega)
               clear hown6 hb6)
  go_loopg [6, 7] 7 (fun q v6 v7 wr => ∃ j : Nat, j + q = 7 ∧ v7 = .int .i64 j ∧ wr.ownsRow (w1.heap.size + 2) 5 1 v6 (12 + 4 * j) (u8s (drum ++ le 8 e ++ numBytes (([(n1 : Int), n2, n3, n4, n5, n6, n7]).take j))) ∧ Below (w1.heap.size + 2) W4 wr)
  case atStart => exact ⟨0, rfl, rfl, by simpa [numBytes] using HO6.out, HBB6.out⟩
  case round =>
    obtain ⟨j, hj, rfl, ho, hb⟩ := hrel
    have HJ := Lib.hid hj
    have HO := Lib.hid ho
    have HBR := Lib.hid hb
    have hj7 : j ≤ 7 := by omega
    have HSR : Hid (w1.heap.size + 3 ≤ wr.heap.size) := by have := hb.size; have := HS4.out; show _ ≤ _; omega
    clear hj ho hb HO6 HBB6
    by_cases hlt : j < 7
    · have hbn : Blk wr (w1.heap.size + 1) 3 #[.int .i64 (n1 : Int), .int .i64 (n2 : Int), .int .i64 (n3 : Int), .int .i64 (n4 : Int), .int .i64 (n5 : Int), .int .i64 (n6 : Int), .int .i64 (n7 : Int)] := HN4.out.below HBR.out (by omega)
      have q0 : wr.cell? ⟨w1.heap.size + 1, 0, none⟩ = some (.int .i64 (n1 : Int)) := hbn.cell 0
      have q1 : wr.cell? ⟨w1.heap.size + 1, 1, none⟩ = some (.int .i64 (n2 : Int)) := hbn.cell 1
      have q2 : wr.cell? ⟨w1.heap.size + 1, 2, none⟩ = some (.int .i64 (n3 : Int)) := hbn.cell 2
      have q3 : wr.cell? ⟨w1.heap.size + 1, 3, none⟩ = some (.int .i64 (n4 : Int)) := hbn.cell 3
      have q4 : wr.cell? ⟨w1.heap.size + 1, 4, none⟩ = some (.int .i64 (n5 : Int)) := hbn.cell 4
      have q5 : wr.cell? ⟨w1.heap.size + 1, 5, none⟩ = some (.int .i64 (n6 : Int)) := hbn.cell 5
      have q6 : wr.cell? ⟨w1.heap.size + 1, 6, none⟩ = some (.int .i64 (n7 : Int)) := hbn.cell 6
      clear hbn
      rcases (show j = 0 ∨ j = 1 ∨ j = 2 ∨ j = 3 ∨ j = 4 ∨ j = 5 ∨ j = 6 by omega) with rfl | rfl | rfl | rfl | rfl | rfl | rfl
      · go_wp2_with fail
        refine (little_any n1 4 (.inl rfl) wr).mono ?_
        rintro ed wa ⟨va, rfl, howna, hba⟩
        obtain ⟨Aa, ca, rfl, hAa, hca, hra⟩ := own_slice howna
        have HRa := Lib.hid hra
        have HBa := Lib.hid hba
        have HOa := Lib.hid (own_below' HO.out hba)
        clear howna hba hra
        go_wp2_with (at_builtin
                     refine wpList_append_g _ rfl _ _ _ rfl (w1.heap.size + 2) 5 i0 _ 1 1 Try.underlying26 hi0 hz0 hz1 hz2 rfl (by omega) _ 12 _ rfl
                       HOa.out wa.heap.size Aa 4 ca (u8s (le 4 n1)) rfl HRa.out (u8s_one _) (by simp only [maxLen]; omega) (by omega) (by have := HSR.out; have := HBa.out.size; omega) ?_
                     intro vb wb hownb hgb hatb
                     rw [u8s_append] at hownb
                     have HOb := Lib.hid hownb
                     have HBb : Hid (Below (w1.heap.size + 2) W4 wb) := (HBR.out.trans (HBa.out.mono (by have := HSR.out; omega))).grown hgb (by have := HSR.out; have := HBa.out.size; omega) (fun q hq => (HOa.out.lt q hq).1)
                     clear hownb hgb hatb)
        go_roundg (gk - 1)
        case measure => have := HJ.out; omega
        case rel => exact ⟨1, by have := HJ.out; omega, by go_num, by simpa [numBytes] using HOb.out, HBb.out⟩
      · go_wp2_with fail
        refine (little_any n2 4 (.inl rfl) wr).mono ?_
        rintro ed wa ⟨va, rfl, howna, hba⟩
        obtain ⟨Aa, ca, rfl, hAa, hca, hra⟩ := own_slice howna
        have HRa := Lib.hid hra
        have HBa := Lib.hid hba
        have HOa := Lib.hid (own_below' HO.out hba)
        clear howna hba hra
        go_wp2_with (at_builtin
                     refine wpList_append_g _ rfl _ _ _ rfl (w1.heap.size + 2) 5 i0 _ 1 1 Try.underlying26 hi0 hz0 hz1 hz2 rfl (by omega) _ 16 _ rfl
                       HOa.out wa.heap.size Aa 4 ca (u8s (le 4 n2)) rfl HRa.out (u8s_one _) (by simp only [maxLen]; omega) (by omega) (by have := HSR.out; have := HBa.out.size; omega) ?_
                     intro vb wb hownb hgb hatb
                     rw [u8s_append] at hownb
                     have HOb := Lib.hid hownb
                     have HBb : Hid (Below (w1.heap.size + 2) W4 wb) := (HBR.out.trans (HBa.out.mono (by have := HSR.out; omega))).grown hgb (by have := HSR.out; have := HBa.out.size; omega) (fun q hq => (HOa.out.lt q hq).1)
                     clear hownb hgb hatb)
        go_roundg (gk - 1)
        case measure => have := HJ.out; omega
        case rel => exact ⟨2, by have := HJ.out; omega, by go_num, by simpa [numBytes] using HOb.out, HBb.out⟩
      · go_wp2_with fail
        refine (little_any n3 4 (.inl rfl) wr).mono ?_
        rintro ed wa ⟨va, rfl, howna, hba⟩
        obtain ⟨Aa, ca, rfl, hAa, hca, hra⟩ := own_slice howna
        have HRa := Lib.hid hra
        have HBa := Lib.hid hba
        have HOa := Lib.hid (own_below' HO.out hba)
        clear howna hba hra
        go_wp2_with (at_builtin
                     refine wpList_append_g _ rfl _ _ _ rfl (w1.heap.size + 2) 5 i0 _ 1 1 Try.underlying26 hi0 hz0 hz1 hz2 rfl (by omega) _ 20 _ rfl
                       HOa.out wa.heap.size Aa 4 ca (u8s (le 4 n3)) rfl HRa.out (u8s_one _) (by simp only [maxLen]; omega) (by omega) (by have := HSR.out; have := HBa.out.size; omega) ?_
                     intro vb wb hownb hgb hatb
                     rw [u8s_append] at hownb
                     have HOb := Lib.hid hownb
                     have HBb : Hid (Below (w1.heap.size + 2) W4 wb) := (HBR.out.trans (HBa.out.mono (by have := HSR.out; omega))).grown hgb (by have := HSR.out; have := HBa.out.size; omega) (fun q hq => (HOa.out.lt q hq).1)
                     clear hownb hgb hatb)
        go_roundg (gk - 1)
        case measure => have := HJ.out; omega
        case rel => exact ⟨3, by have := HJ.out; omega, by go_num, by simpa [numBytes] using HOb.out, HBb.out⟩
      · go_wp2_with fail
        refine (little_any n4 4 (.inl rfl) wr).mono ?_
        rintro ed wa ⟨va, rfl, howna, hba⟩
        obtain ⟨Aa, ca, rfl, hAa, hca, hra⟩ := own_slice howna
        have HRa := Lib.hid hra
        have HBa := Lib.hid hba
        have HOa := Lib.hid (own_below' HO.out hba)
        clear howna hba hra
        go_wp2_with (at_builtin
                     refine wpList_append_g _ rfl _ _ _ rfl (w1.heap.size + 2) 5 i0 _ 1 1 Try.underlying26 hi0 hz0 hz1 hz2 rfl (by omega) _ 24 _ rfl
                       HOa.out wa.heap.size Aa 4 ca (u8s (le 4 n4)) rfl HRa.out (u8s_one _) (by simp only [maxLen]; omega) (by omega) (by have := HSR.out; have := HBa.out.size; omega) ?_
                     intro vb wb hownb hgb hatb
                     rw [u8s_append] at hownb
                     have HOb := Lib.hid hownb
                     have HBb : Hid (Below (w1.heap.size + 2) W4 wb) := (HBR.out.trans (HBa.out.mono (by have := HSR.out; omega))).grown hgb (by have := HSR.out; have := HBa.out.size; omega) (fun q hq => (HOa.out.lt q hq).1)
                     clear hownb hgb hatb)
        go_roundg (gk - 1)
        case measure => have := HJ.out; omega
        case rel => exact ⟨4, by have := HJ.out; omega, by go_num, by simpa [numBytes] using HOb.out, HBb.out⟩
      · go_wp2_with fail
        refine (little_any n5 4 (.inl rfl) wr).mono ?_
        rintro ed wa ⟨va, rfl, howna, hba⟩
        obtain ⟨Aa, ca, rfl, hAa, hca, hra⟩ := own_slice howna
        have HRa := Lib.hid hra
        have HBa := Lib.hid hba
        have HOa := Lib.hid (own_below' HO.out hba)
        clear howna hba hra
        go_wp2_with (at_builtin
                     refine wpList_append_g _ rfl _ _ _ rfl (w1.heap.size + 2) 5 i0 _ 1 1 Try.underlying26 hi0 hz0 hz1 hz2 rfl (by omega) _ 28 _ rfl
                       HOa.out wa.heap.size Aa 4 ca (u8s (le 4 n5)) rfl HRa.out (u8s_one _) (by simp only [maxLen]; omega) (by omega) (by have := HSR.out; have := HBa.out.size; omega) ?_
                     intro vb wb hownb hgb hatb
                     rw [u8s_append] at hownb
                     have HOb := Lib.hid hownb
                     have HBb : Hid (Below (w1.heap.size + 2) W4 wb) := (HBR.out.trans (HBa.out.mono (by have := HSR.out; omega))).grown hgb (by have := HSR.out; have := HBa.out.size; omega) (fun q hq => (HOa.out.lt q hq).1)
                     clear hownb hgb hatb)
        go_roundg (gk - 1)
        case measure => have := HJ.out; omega
        case rel => exact ⟨5, by have := HJ.out; omega, by go_num, by simpa [numBytes] using HOb.out, HBb.out⟩
      · go_wp2_with fail
        refine (little_any n6 4 (.inl rfl) wr).mono ?_
        rintro ed wa ⟨va, rfl, howna, hba⟩
        obtain ⟨Aa, ca, rfl, hAa, hca, hra⟩ := own_slice howna
        have HRa := Lib.hid hra
        have HBa := Lib.hid hba
        have HOa := Lib.hid (own_below' HO.out hba)
        clear howna hba hra
        go_wp2_with (at_builtin
                     refine wpList_append_g _ rfl _ _ _ rfl (w1.heap.size + 2) 5 i0 _ 1 1 Try.underlying26 hi0 hz0 hz1 hz2 rfl (by omega) _ 32 _ rfl
                       HOa.out wa.heap.size Aa 4 ca (u8s (le 4 n6)) rfl HRa.out (u8s_one _) (by simp only [maxLen]; omega) (by omega) (by have := HSR.out; have := HBa.out.size; omega) ?_
                     intro vb wb hownb hgb hatb
                     rw [u8s_append] at hownb
                     have HOb := Lib.hid hownb
                     have HBb : Hid (Below (w1.heap.size + 2) W4 wb) := (HBR.out.trans (HBa.out.mono (by have := HSR.out; omega))).grown hgb (by have := HSR.out; have := HBa.out.size; omega) (fun q hq => (HOa.out.lt q hq).1)
                     clear hownb hgb hatb)
        go_roundg (gk - 1)
        case measure => have := HJ.out; omega
        case rel => exact ⟨6, by have := HJ.out; omega, by go_num, by simpa [numBytes] using HOb.out, HBb.out⟩
      · go_wp2_with fail
        refine (little_any n7 4 (.inl rfl) wr).mono ?_
        rintro ed wa ⟨va, rfl, howna, hba⟩
        obtain ⟨Aa, ca, rfl, hAa, hca, hra⟩ := own_slice howna
        have HRa := Lib.hid hra
        have HBa := Lib.hid hba
        have HOa := Lib.hid (own_below' HO.out hba)
        clear howna hba hra
        go_wp2_with (at_builtin
                     refine wpList_append_g _ rfl _ _ _ rfl (w1.heap.size + 2) 5 i0 _ 1 1 Try.underlying26 hi0 hz0 hz1 hz2 rfl (by omega) _ 36 _ rfl
                       HOa.out wa.heap.size Aa 4 ca (u8s (le 4 n7)) rfl HRa.out (u8s_one _) (by simp only [maxLen]; omega) (by omega) (by have := HSR.out; have := HBa.out.size; omega) ?_
                     intro vb wb hownb hgb hatb
                     rw [u8s_append] at hownb
                     have HOb := Lib.hid hownb
                     have HBb : Hid (Below (w1.heap.size + 2) W4 wb) := (HBR.out.trans (HBa.out.mono (by have := HSR.out; omega))).grown hgb (by have := HSR.out; have := HBa.out.size; omega) (fun q hq => (HOa.out.lt q hq).1)
                     clear hownb hgb hatb)
        go_roundg (gk - 1)
        case measure => have := HJ.out; omega
        case rel => exact ⟨7, by have := HJ.out; omega, by go_num, by simpa [numBytes] using HOb.out, HBb.out⟩
    · have hj7 : j = 7 := by omega
      subst hj7
      have HO7 : Hid (wr.ownsRow (w1.heap.size + 2) 5 1 u6 40 (u8s (drum ++ le 8 e ++ numBytes [(n1 : Int), n2, n3, n4, n5, n6, n7]))) := HO.out
      have HREST : Hid (drum ++ le 8 e ++ numBytes [(n1 : Int), n2, n3, n4, n5, n6, n7] ++ zbytes 20 = restOf BB) := by show _ = _; rw [HBB.out]; simp [restOf, bkN, Cf.nums, zbytes, List.append_assoc]
      have HBWR : Hid (Below w.heap.size w wr) := HBW4.out.trans (HBR.out.mono (by have := HB.out.size; omega))
      clear HO hlt hj7
      go_wp2_with (at_builtin
                   refine wpList_append_zeros _ rfl _ _ 26 3 rfl w.heap.size 9 5 i0 Try.underlying26 Try.underlying3 Try.underlying9 hi0 hz0 hz1 hz2 _ 40 _ rfl (own_base HO7.out (fun q hq => by have := (HO7.out.lt q hq).1; omega)) 20 _ rfl rfl (by omega) (by omega) HBWR.out.size ?_
                   intro v8 w8 hown8 hg8
                   rw [u8s_append, HREST.out] at hown8
                   have HO8 := Lib.hid hown8
                   have HB8 := Lib.hid (HBWR.out.grown hg8 HBWR.out.size (fun q hq => by have := (HO7.out.lt q hq).1; omega))
                   clear hown8 hg8)
      obtain ⟨A8, c8, rfl, hA8, hc8, hr8⟩ := own_slice HO8.out
      refine (refSum_any A8 (40 + 20) c8 _ (restOf BB) w8 hr8 (restOf_length BB).symm (by simp [maxLen])).mono ?_
      rintro ed w9 ⟨rfl, rfl⟩
      have hb9 : Below w8.heap.size w8 w8 := Below.refl _ _
      obtain ⟨s, hs, HS⟩ : ∃ s : Nat, s < 4294967296 ∧ Hid (s = (csum (restOf BB)).toNat) := ⟨_, (csum (restOf BB)).isLt, rfl⟩
      rw [n32_nat, ← HS.out]
      have HO9 := Lib.hid HO8.out
      have HB9 := Lib.hid (HB8.out.trans (hb9.mono HB8.out.size))
      clear hb9 hr8
      go_wp2_with fail
      refine (little_any s 4 (.inl rfl) w8).mono ?_
      rintro ed w10 ⟨v10, rfl, hown10, hb10⟩
      have HO10 := Lib.hid (own_base (base' := w.heap.size) hown10 (fun q hq => by have := (hown10.lt q hq).1; have := HB9.out.size; omega))
      have hO9 := own_below' HO9.out hb10
      have HR9 := Lib.hid (Reads.of_own hO9)
      have HB10 := Lib.hid (HB9.out.trans (hb10.mono HB9.out.size))
      clear hown10 hb10 hO9
      go_wp2_with (at_builtin
                   refine wpList_append_g _ rfl _ _ _ rfl w.heap.size 5 i0 _ 1 1 Try.underlying26 hi0 hz0 hz1 hz2 rfl (by omega) _ 4 (u8s (le 4 s)) rfl
                     HO10.out w10.heap.size A8 (40 + 20) c8 (u8s (restOf BB)) rfl HR9.out (u8s_one _) (by simp only [maxLen]; omega) (by omega) HB10.out.size ?_
                   intro v11 w11 hown11 hg11 hat11
                   rw [u8s_append, HS.out] at hown11
                   have HO11 : Hid (w11.ownsRow w.heap.size 5 1 v11 64 (u8s (encOf BB))) := hown11
                   have HB11 := Lib.hid (HB10.out.grown hg11 HB10.out.size (fun q hq => (HO10.out.lt q hq).1))
                   clear hown11 hg11 hat11)
      go_ret2
      exact ⟨_, rfl, HO11.out, HB11.out⟩
theorem refEncode_any (b : Bk) (hw : b.wf) (hok : b.ok) (w : World) :
    Calls Try.prog 12 #[.agg (bkv b)] w fun ed w' => ∃ v, ed = .returned (.tuple #[v, .int .i64 0]) ∧ w'.ownsRow w.heap.size 5 1 v 64 (u8s (encOf b)) ∧ Below w.heap.size w w' := by
  obtain ⟨e, n1, n2, n3, n4, n5, n6, n7, rfl, he, h1, h2, h3, h4, h5, h6, h7⟩ := bkN_of b hok
  exact refEncode_ok e n1 n2 n3 n4 n5 n6 n7 hw hok he h1 h2 h3 h4 h5 h6 h7 w
end Go.Proofs.Ytbgahbeldnhloaa
