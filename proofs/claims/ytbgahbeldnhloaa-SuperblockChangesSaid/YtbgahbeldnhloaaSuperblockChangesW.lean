/-
  The walk of the law SuperblockChanges: it returns true and writes nothing that was there. No condition.
-/
import Derived.Test.YtbgahbeldnhloaaSuperblockEpochsW
import Derived.Test.YtbgahbeldnhloaaSupBurst
namespace Go.Proofs.Ytbgahbeldnhloaa
open Go.RowKit Drum
set_option linter.unusedVariables false
theorem shrj_u32 (x : W32) (j : Nat) : n32 x / (2 : Int) ^ j = n32 (x >>> j) := by
  unfold n32; rw [BitVec.toNat_ushiftRight, Nat.shiftRight_eq_div_pow]; simp
theorem bit_decide {x : W32} {j : Nat} : ((x >>> j) &&& 1#32 = 1#32) ↔ x.getLsbD j = true := by
  rw [and_one]; simp
theorem chB_true {x : W32} {N j : Nat} (h : cbits x N j ≠ 0#32) : chB x N j = true := decide_eq_true h
set_option maxHeartbeats 4000000 in
theorem SuperblockChanges_w (d : Dr) (hd : d.wf) (x : W32) (f : Nat) (hf : f < 65536) (w : World) :
    Calls Try.prog 8 #[.agg (drv d), .int .u32 (n32 x), .int .u16 (f : Int)] w fun ed w' => ed = .returned (.bool true) ∧ Below w.heap.size w w' := by
  obtain ⟨x0, x1, x2, x3, x4, x5, x6, x7, hX⟩ := dr_ex d
  have hok := d.bk_ok
  rw [hX] at hok
  have HBL := Lib.hid (fun W => block_x hX hd W)
  have HOK := Lib.hid hok
  have HWF := Lib.hid (wf_ok hok)
  obtain ⟨de, s, z, r, ww, k, v, dp⟩ := d
  unfold drv at HBL ⊢
  obtain ⟨a, ha, ha5⟩ : ∃ a : Nat, (f : Int) % 512 = (a : Int) ∧ a < 512 := ⟨f % 512, by omega, by omega⟩
  have HA := Lib.hid ha
  have HA5 := Lib.hid ha5
  clear hX hd hok ha ha5
  go_enter Try.func8, Try.ntmps8
  go_wp2_with fail
  refine (HBL.out _).mono ?_
  rintro ed w1 ⟨rfl, hb1⟩
  have HB1 := Lib.hid (bt (ba (Below.refl w.heap.size w) (.cells (drv ⟨de, s, z, r, ww, k, v, dp⟩) 49)) hb1)
  clear hb1
  go_wp2_with fail
  refine (encode_any ⟨x0, ⟨x1, x2, x3, x4, x5, x6, x7⟩⟩ HWF.out HOK.out _).mono ?_
  rintro ed w2 ⟨g, cs, rfl, hg, hbk, htk, hb2⟩
  have HB2 := Lib.hid (bt HB1.out hb2)
  have HBK2 := Lib.hid hbk
  have HTK2 := Lib.hid htk
  have hgw : w.heap.size ≤ g := by have := HB1.out.size; omega
  clear hb2 hbk htk
  go_wp2_with fail
  rw [HA.out]
  have HST := Lib.hid (Bst.start (encOf_length ⟨x0, ⟨x1, x2, x3, x4, x5, x6, x7⟩⟩) x a)
  go_loopg [10, 11] 32 (fun q v10 v11 wr => ∃ (j : Nat) (m : List (BitVec 8)) (cs' : Array Value), j + q = 32 ∧ v11 = .int .i64 j ∧ v10 = .bool (chB x (burstN a) j) ∧ Below w.heap.size w wr ∧ Blk wr g 5 cs' ∧ cs'.toList.take 64 = u8s m ∧ Bst (encOf ⟨x0, ⟨x1, x2, x3, x4, x5, x6, x7⟩⟩) m x a j)
  case atStart => exact ⟨0, _, cs, rfl, rfl, rfl, HB2.out, HBK2.out, HTK2.out, HST.out⟩
  case round =>
    obtain ⟨j, m, cs', hj, rfl, rfl, hb, hbk, htk, hbs⟩ := hrel
    have HJ := Lib.hid hj
    have HB := Lib.hid hb
    have HBK := Lib.hid hbk
    have HTK := Lib.hid htk
    have HBS := Lib.hid hbs
    have hml := hbs.len
    have HML := Lib.hid hml
    have hj32 : j ≤ 32 := by omega
    clear hj hb htk hbs hml HST HBK2 HTK2 HB2
    by_cases hlt : j < 32
    · by_cases hb0 : x.getLsbD j = true
      · have hbt : (bits .and .u32 (n32 x / (2 : Int) ^ j) 1 == 1) = true := by rw [shrj_u32, odd_u32]; simpa using bit_decide.2 hb0
        obtain ⟨K, hK, HK⟩ : ∃ K : Int, wrap64 ((a : Int) + (j : Int)) = K ∧ Hid (K = ((a + j : Nat) : Int)) := ⟨_, rfl, by show _ = _; rw [IntWalk.wrap64_in _ (by have := HA5.out; omega)]; simp⟩
        by_cases hin : j < burstN a
        · have hk5 : a + j < 512 := by have := HA5.out; unfold burstN at hin; split at hin <;> omega
          have hd5 : K < 512 := by have := HK.out; omega
          have hkk : (decide (K < 32) == decide ((a : Int) < 32)) = true := by
            have := HK.out
            unfold burstN at hin
            split at hin
            · have e1 : K < 32 := by omega
              have e2 : ((a : Int) < 32) := by omega
              simp [e1, e2]
            · have e1 : ¬ (K < 32) := by omega
              have e2 : ¬ ((a : Int) < 32) := by omega
              simp [e1, e2]
          obtain ⟨q, hq64, hq8, HQ⟩ : ∃ q : Nat, q < 64 ∧ K.tdiv 8 = (q : Int) ∧ Hid (q = (a + j) / 8) := ⟨(a + j) / 8, by omega, by rw [HK.out]; rfl, rfl⟩
          obtain ⟨r8, hr8, hrr, HR8⟩ : ∃ r8 : Nat, r8 < 8 ∧ K.tmod 8 = (r8 : Int) ∧ Hid (r8 = (a + j) % 8) := ⟨(a + j) % 8, by omega, by rw [HK.out]; rfl, rfl⟩
          have hq : q < m.length := by have := HML.out; omega
          have hcell : wr.cell? ⟨g, q, none⟩ = some (.int .u8 (n8 m[q])) := by
            rw [hbk.cell]
            have h1 : cs'.toList[q]? = (cs'.toList.take 64)[q]? := by rw [List.getElem?_take, if_pos hq64]
            rw [HTK.out, u8s_get hq] at h1
            simpa using h1
          have hfr := hbk.frozen q
          have HF : Hid (Bst (encOf ⟨x0, ⟨x1, x2, x3, x4, x5, x6, x7⟩⟩) (m.set q (m[q] ^^^ 1#8 <<< r8)) x a (j + 1)) := by
            have hqe := HQ.out
            have hre := HR8.out
            subst hqe hre
            exact HBS.out.flip HA5.out hlt hb0 hin hq
          have HNE := Lib.hid (chB_true (cbits_ne x (burstN a) j hlt hb0 hin))
          have HT2 : Hid ((cs'.setIfInBounds q (.int .u8 (n8 (m[q] ^^^ 1#8 <<< r8)))).toList.take 64 = u8s (m.set q (m[q] ^^^ 1#8 <<< r8))) := by
            show _ = _
            rw [u8s_set, ← HTK.out, Array.toList_setIfInBounds, List.take_set]
          clear hbk hb0 hin hk5
          go_wp2_with (with_reducible refine wpList_shl_one8 rfl _ _ _ _ hr8 _ _ rfl rfl rfl ?_)
          go_roundg (gk - 1)
          case measure => have := HJ.out; omega
          case rel => exact ⟨j + 1, _, _, by have := HJ.out; omega, by go_num, by rw [HNE.out], HB.out.setCell (p := ⟨g, q, none⟩) hgw _, HBK.out.set_ _ _, HT2.out, HF.out⟩
        · have HS := Lib.hid (HBS.out.skip (by simp [hin]))
          have HC : Hid (chB x (burstN a) (j + 1) = chB x (burstN a) j) := by
            show _ = _
            unfold chB
            rw [cbits_same x (burstN a) j (by simp [hin])]
          by_cases hk5 : a + j < 512
          · have hd5 : K < 512 := by have := HK.out; omega
            have hkk : (decide (K < 32) == decide ((a : Int) < 32)) = false := by
              have := HK.out
              unfold burstN at hin
              split at hin
              · have e1 : ¬ (K < 32) := by omega
                have e2 : ((a : Int) < 32) := by omega
                simp [e1, e2]
              · have := HA5.out; omega
            clear hbk hb0 hin hk5
            go_wp2_with fail
            go_roundg (gk - 1)
            case measure => have := HJ.out; omega
            case rel => exact ⟨j + 1, m, cs', by have := HJ.out; omega, by go_num, by rw [HC.out], HB.out, HBK.out, HTK.out, HS.out⟩
          · have hd5 : 512 ≤ K := by have := HK.out; omega
            clear hbk hb0 hin hk5
            go_wp2_with fail
            go_roundg (gk - 1)
            case measure => have := HJ.out; omega
            case rel => exact ⟨j + 1, m, cs', by have := HJ.out; omega, by go_num, by rw [HC.out], HB.out, HBK.out, HTK.out, HS.out⟩
      · have hbt : (bits .and .u32 (n32 x / (2 : Int) ^ j) 1 == 1) = false := by rw [shrj_u32, odd_u32]; simpa using fun e => hb0 (bit_decide.1 e)
        have HS := Lib.hid (HBS.out.skip (by simp at hb0; simp [hb0]))
        have HC : Hid (chB x (burstN a) (j + 1) = chB x (burstN a) j) := by
          show _ = _
          unfold chB
          rw [cbits_same x (burstN a) j (by simp at hb0; simp [hb0])]
        clear hbk hb0
        go_wp2_with fail
        go_roundg (gk - 1)
        case measure => have := HJ.out; omega
        case rel => exact ⟨j + 1, m, cs', by have := HJ.out; omega, by go_num, by rw [HC.out], HB.out, HBK.out, HTK.out, HS.out⟩
    · have e8 : j = 32 := by omega
      subst e8
      have hdec := HBS.out.dec HOK.out HA5.out
      have HRD := Lib.hid (reads_blk HBK.out 0 64 m HML.out HTK.out)
      cases hq : chB x (burstN a) 32 with
      | true =>
        rw [if_neg (by unfold chB at hq; simpa using hq)] at hdec
        have HD := Lib.hid hdec
        clear hbk hlt hq hdec
        go_wp2_with fail
        refine (decode_zero (some ⟨g, 0, none⟩) 64 64 _ m 15 HD.out HML.out.symm (by simp [maxLen]) (by omega) (by simp [maxLen]) wr HRD.out (Nat.le_refl _)).mono ?_
        rintro ed w5 ⟨rfl, hb5⟩
        have HB5 := Lib.hid (ba (bt HB.out hb5) (.cells #[.int .i64 0, .int .i64 0, .int .i64 0, .int .i64 0, .int .i64 0, .int .i64 0, .int .i64 0, .int .i64 0] 25))
        clear hb5
        go_wp2_with fail
        refine (works_any _).mono ?_
        rintro ed w6 ⟨rfl, hb6⟩
        have HB6 := Lib.hid (bt HB5.out hb6)
        clear hb6
        go_wp2_with fail
        go_ret
        exact ⟨rfl, HB6.out⟩
      | false =>
        rw [if_pos (by unfold chB at hq; simpa using hq)] at hdec
        have HD := Lib.hid hdec
        clear hbk hlt hq hdec
        go_wp2_with fail
        refine (decode_lit (some ⟨g, 0, none⟩) 64 64 _ m 0 ⟨x0, ⟨x1, x2, x3, x4, x5, x6, x7⟩⟩ HD.out HML.out.symm (by simp [maxLen]) (by omega) (by simp [maxLen]) wr HRD.out (Nat.le_refl _)).mono ?_
        rintro ed w5 ⟨rfl, hb5⟩
        have HB5 := Lib.hid (ba (bt HB.out hb5) (.cells #[.int .i64 x0, .int .i64 x1, .int .i64 x2, .int .i64 x3, .int .i64 x4, .int .i64 x5, .int .i64 x6, .int .i64 x7] 25))
        clear hb5
        go_wp2_with fail
        refine (works_any _).mono ?_
        rintro ed w6 ⟨rfl, hb6⟩
        have HB6 := Lib.hid (bt HB5.out hb6)
        clear hb6
        go_wp2_with fail
        go_ret
        exact ⟨rfl, HB6.out⟩
theorem SuperblockChanges_walk (v0 v1 v2 : Value) (w : World) (h0 : ArgIn Try.prog w 49 v0) (h1 : ArgIn Try.prog w 53 v1) (h2 : ArgIn Try.prog w 47 v2) :
    Calls Try.prog 8 #[v0, v1, v2] w fun e w' => e = .returned (.bool true) ∧ Below w.heap.size w w' := by
  obtain ⟨d, rfl, hd⟩ := draft_arg h0
  obtain ⟨b, rfl, hb⟩ := h1.int Try.underlying53
  obtain ⟨x, rfl⟩ := u32_of_wf hb
  obtain ⟨m, rfl, hm⟩ := h2.int Try.underlying47
  obtain ⟨f, hf, rfl⟩ := u16n_of_wf hm
  exact SuperblockChanges_w d hd x f hf w
end Go.Proofs.Ytbgahbeldnhloaa
