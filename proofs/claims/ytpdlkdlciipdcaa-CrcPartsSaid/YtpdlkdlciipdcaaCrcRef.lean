/-
  The walks of the reference's apply, Shift and Combine. Condition: none but what every row bears.
-/
import Derived.Test.YtpdlkdlciipdcaaCrcComb
namespace Go.Proofs.Ytpdlkdlciipdcaa
open Go.RowKit Drum
set_option linter.unusedVariables false
theorem shrj_u32 (x : W32) (j : Nat) : n32 x / (2 : Int) ^ j = n32 (x >>> j) := by
  unfold n32; rw [BitVec.toNat_ushiftRight, Nat.shiftRight_eq_div_pow]; simp
set_option maxHeartbeats 1000000 in
theorem refApply_any (b c : Nat) (m : Nat → W32) (x : W32) (w : World) (hmat : IsMat w b m) :
    Calls Try.prog 27 #[.slice (some ⟨b, 0, none⟩) 32 c, .int .u32 (n32 x)] w fun e w' => e = .returned (.int .u32 (n32 (capply m x))) ∧ w = w' := by
  have HM := Lib.hid hmat
  clear hmat
  go_enter Try.func27, Try.ntmps27
  go_wp2
  go_loopg [5, 6] 32 (fun k v5 v6 wr => ∃ j : Nat, j + k = 32 ∧ v6 = .int .i64 j ∧ v5 = .int .u32 (n32 (cpart m x j)) ∧ w = wr)
  case atStart => exact ⟨0, rfl, rfl, by unfold n32; rfl, rfl⟩
  case round =>
    obtain ⟨j, hj, rfl, rfl, rfl⟩ := hrel
    have hj' : j ≤ 32 := by omega
    have HJ := Lib.hid hj
    by_cases hlt : j < 32
    · have hc := HM.out j hlt
      clear hj
      by_cases hod : (x >>> j) &&& 1#32 = 1#32
      · have hb : (bits .and .u32 (n32 x / (2 : Int) ^ j) 1 == 1) = true := by rw [shrj_u32, odd_u32, hod]; rfl
        have HP := Lib.hid (cpart_yes (m := m) hod)
        clear hod
        go_wp2
        go_roundg (gk - 1)
        case measure => have := HJ.out; omega
        case rel => exact ⟨j + 1, by have := HJ.out; omega, by go_num, u32_eq HP.out.symm, rfl⟩
      · have hb : (bits .and .u32 (n32 x / (2 : Int) ^ j) 1 == 1) = false := by rw [shrj_u32, odd_u32]; simpa using hod
        have HP := Lib.hid (cpart_no (m := m) hod)
        clear hod
        go_wp2
        go_roundg (gk - 1)
        case measure => have := HJ.out; omega
        case rel => exact ⟨j + 1, by have := HJ.out; omega, by go_num, u32_eq HP.out.symm, rfl⟩
    · have e8 : j = 32 := by omega
      subst e8
      clear hj
      go_wp2
      go_ret
      exact ⟨rfl, rfl⟩

theorem make_mat (w : World) : (Instr.makeSlice 51 (.int .i64 32) (.int .i64 32)).run Try.prog w = .ok (.slice (some ⟨w.heap.size, 0, none⟩) 32 32) (w.alloc (.cells (matTo (fun _ => 0#32) 0) 23)) := by kernel_rfl
theorem feed_zero (x : W32) (w : World) :
    Calls Try.prog 22 #[.int .u32 (n32 x), .int .u8 0] w fun e w' => e = .returned (.int .u32 (n32 (cfeed x 0#8))) ∧ w = w' := by
  have h := feed_any x 0#8 w
  rw [show n8 0#8 = 0 by unfold n8; rfl] at h
  exact h
set_option maxHeartbeats 1000000 in
theorem refShift_any (a : W32) (n : Int) (h0 : 0 ≤ n) (hn : n ≤ 9223372036854775807) (w : World) :
    Calls Try.prog 25 #[.int .u32 (n32 a), .int .i64 n] w fun e w' => e = .returned (.int .u32 (n32 (cshift n.toNat a))) ∧ Below w.heap.size w w' := by
  obtain ⟨n, rfl⟩ := Int.eq_ofNat_of_zero_le h0
  rw [Int.toNat_natCast]
  have hmk := make_mat
  rw [matTo_zero _ zm] at hmk
  go_enter Try.func25, Try.ntmps25
  go_wp2_with fail
  clear hmk
  go_loopg [6] 32 (fun k v6 wr => ∃ j : Nat, j + k = 32 ∧ v6 = .int .i64 j ∧ Blk wr w.heap.size 23 (matTo zm j) ∧ Below w.heap.size w wr)
  case atStart => exact ⟨0, rfl, rfl, Blk.new w _ _, by go_grown⟩
  case round =>
    obtain ⟨j, hj, rfl, hbm, hbel⟩ := hrel
    have hj' : j ≤ 32 := by omega
    have HJ := Lib.hid hj
    have HBM := Lib.hid hbm
    have HBE := Lib.hid hbel
    by_cases hlt : j < 32
    · have hcell := hbm.cell j
      rw [matTo_next _ j hlt] at hcell
      have hfr := hbm.frozen j
      have HZ := Lib.hid (show cfeed (1#32 <<< j) 0#8 = zm j from cfeed_zero _)
      clear hj hbm hbel
      go_wp2_with (with_reducible refine wpList_shl_one rfl _ _ _ j hlt _ rfl rfl ?_)
      refine (feed_zero _ _).mono ?_
      rintro e w' ⟨rfl, rfl⟩
      go_wp2_with fail
      go_roundg (gk - 1)
      case measure => have := HJ.out; omega
      case rel =>
        refine ⟨j + 1, by have := HJ.out; omega, by go_num, ?_, HBE.out.setCell (Nat.le_refl _) _⟩
        rw [← matTo_set, ← HZ.out]; exact HBM.out.set_ j _
    · have e8 : j = 32 := by omega
      subst e8
      have HM0 : Hid (IsMat wr w.heap.size zm) := IsMat.of_blk hbm
      clear hj hbm hbel
      obtain ⟨wo, rfl⟩ : ∃ wo : World, wo = wr := ⟨_, rfl⟩
      obtain ⟨go, rfl⟩ : ∃ go : Nat, go = gk := ⟨_, rfl⟩
      clear hj' hlt
      go_wp2_with fail
      go_loopg [0, 1, 5] n (fun k v0 v1 v5 wr => ∃ (x : W32) (P g : Nat), k ≤ n ∧ v0 = .int .u32 (n32 x) ∧ v1 = .int .i64 k ∧ v5 = .slice (some ⟨g, 0, none⟩) 32 32 ∧ IsMat wr g (fun i => it cz P (1#32 <<< i)) ∧ it cz (P * k) x = cshift n a ∧ Below w.heap.size w wr)
      case atStart => exact ⟨a, 1, w.heap.size, Nat.le_refl _, rfl, rfl, rfl, HM0.out, by rw [Nat.one_mul]; rfl, HBE.out⟩
      case round =>
        obtain ⟨x, P, g, hkn, rfl, rfl, rfl, hm, hx, hbel⟩ := hrel
        have HM := Lib.hid hm
        have HX := Lib.hid hx
        have HBL := Lib.hid hbel
        have HA := Lib.hid (refApply_any g 32 _ x wr hm)
        have HL := Lib.hid (it_lin cz_lin P)
        have hgl := hm.lt
        clear hm hx hbel
        by_cases hpos : 0 < gk
        · obtain ⟨zq, hzq⟩ : ∃ f : Nat → W32, f = fun i => it cz (2 * P) (1#32 <<< i) := ⟨_, rfl⟩
          have HQ := Lib.hid hzq
          have HQa : Hid (∀ i, capply (fun j => it cz P (1#32 <<< j)) (it cz P (1#32 <<< i)) = zq i) := fun i => by
            rw [hzq, capply_lin HL.out (fun _ _ => rfl), ← it_add, ← Nat.two_mul]
          have hmk := make_mat
          rw [matTo_zero _ zq] at hmk
          have HK := Lib.hid hmk
          clear hzq hmk
          obtain ⟨wi, rfl⟩ : ∃ wi : World, wi = wr := ⟨_, rfl⟩
          obtain ⟨gi, rfl⟩ : ∃ gi : Nat, gi = gk := ⟨_, rfl⟩
          have hx' : ∃ x', (if gi % 2 = 1 then it cz P x else x) = x' := ⟨_, rfl⟩
          obtain ⟨x', hx'⟩ := hx'
          have HX' : Hid (it cz (2 * P * (gi / 2)) x' = cshift n a) := by rw [← hx']; show _ = _; rw [← it_even]; exact HX.out
          have hodd : (gi % 2 = 1 ∧ Hid (capply (fun j => it cz P (1#32 <<< j)) x = x')) ∨ (gi % 2 = 0 ∧ Hid (x = x')) := by
            rcases Nat.mod_two_eq_zero_or_one gi with h | h
            · exact .inr ⟨h, by rw [← hx', if_neg (by omega)]; rfl⟩
            · exact .inl ⟨h, by rw [← hx', if_pos h]; exact capply_lin HL.out (fun _ _ => rfl) x⟩
          clear hx'
          rcases hodd with ⟨hod, HC⟩ | ⟨hod, HC⟩
          · have hb : ((gi : Int) % 2 == 1) = true := by rw [beq_iff_eq]; omega
            go_wp2_with fail
            refine HA.out.mono ?_
            rw [HC.out]
            rintro e w' ⟨rfl, rfl⟩
            have hmk := HK.out
            go_wp2_with fail
            clear hmk
            go_loopg [8] 32 (fun k v8 wr => ∃ j : Nat, j + k = 32 ∧ v8 = .int .i64 j ∧ Blk wr wi.heap.size 23 (matTo zq j) ∧ Below wi.heap.size wi wr)
            case atStart => exact ⟨0, rfl, rfl, Blk.new wi _ _, by go_grown⟩
            case round =>
              obtain ⟨j, hj, rfl, hbm, hbel⟩ := hrel
              have hj' : j ≤ 32 := by omega
              have HJ := Lib.hid hj
              have HBM := Lib.hid hbm
              have HBE := Lib.hid hbel
              by_cases hlt : j < 32
              · have hcell := hbm.cell j
                rw [matTo_next _ j hlt] at hcell
                have hfr := hbm.frozen j
                have HMW := Lib.hid (HM.out.below hbel hgl)
                have hmc := HMW.out j hlt
                clear hj hbm hbel
                go_wp2_with (go_at_call 27; refine (refApply_any g 32 _ _ _ HMW.out).mono ?_; rw [HQa.out]; rintro e w' ⟨rfl, rfl⟩)
                go_roundg (gk - 1)
                case measure => have := HJ.out; omega
                case rel =>
                  refine ⟨j + 1, by have := HJ.out; omega, by go_num, ?_, HBE.out.setCell (Nat.le_refl _) _⟩
                  rw [← matTo_set]; exact HBM.out.set_ j _
              · have e8 : j = 32 := by omega
                subst e8
                have HM2 : Hid (IsMat wr wi.heap.size (fun i => it cz (2 * P) (1#32 <<< i))) := by
                  have := IsMat.of_blk hbm
                  rw [HQ.out] at this; exact this
                clear hj hbm hbel
                go_wp2_with fail
                go_roundg (gi / 2)
                case measure => omega
                case rel => exact ⟨_, 2 * P, wi.heap.size, by omega, rfl, by go_num, rfl, HM2.out, HX'.out, HBL.out.trans (HBE.out.mono HBL.out.size)⟩
          · have hb : ((gi : Int) % 2 == 1) = false := by rw [beq_eq_false_iff_ne]; omega
            obtain rfl := HC.out
            have hmk := HK.out
            go_wp2_with fail
            clear hmk
            go_loopg [8] 32 (fun k v8 wr => ∃ j : Nat, j + k = 32 ∧ v8 = .int .i64 j ∧ Blk wr wi.heap.size 23 (matTo zq j) ∧ Below wi.heap.size wi wr)
            case atStart => exact ⟨0, rfl, rfl, Blk.new wi _ _, by go_grown⟩
            case round =>
              obtain ⟨j, hj, rfl, hbm, hbel⟩ := hrel
              have hj' : j ≤ 32 := by omega
              have HJ := Lib.hid hj
              have HBM := Lib.hid hbm
              have HBE := Lib.hid hbel
              by_cases hlt : j < 32
              · have hcell := hbm.cell j
                rw [matTo_next _ j hlt] at hcell
                have hfr := hbm.frozen j
                have HMW := Lib.hid (HM.out.below hbel hgl)
                have hmc := HMW.out j hlt
                clear hj hbm hbel
                go_wp2_with (go_at_call 27; refine (refApply_any g 32 _ _ _ HMW.out).mono ?_; rw [HQa.out]; rintro e w' ⟨rfl, rfl⟩)
                go_roundg (gk - 1)
                case measure => have := HJ.out; omega
                case rel =>
                  refine ⟨j + 1, by have := HJ.out; omega, by go_num, ?_, HBE.out.setCell (Nat.le_refl _) _⟩
                  rw [← matTo_set]; exact HBM.out.set_ j _
              · have e8 : j = 32 := by omega
                subst e8
                have HM2 : Hid (IsMat wr wi.heap.size (fun i => it cz (2 * P) (1#32 <<< i))) := by
                  have := IsMat.of_blk hbm
                  rw [HQ.out] at this; exact this
                clear hj hbm hbel
                go_wp2_with fail
                go_roundg (gi / 2)
                case measure => omega
                case rel => exact ⟨_, 2 * P, wi.heap.size, by omega, rfl, by go_num, rfl, HM2.out, HX'.out, HBL.out.trans (HBE.out.mono HBL.out.size)⟩
        · have h00 : gk = 0 := by omega
          subst h00
          go_wp2_with fail
          go_ret
          exact ⟨by rw [← HX.out, Nat.mul_zero]; rfl, HBL.out⟩

set_option maxHeartbeats 400000 in
theorem refCombine_neg (a b : W32) (n : Int) (hn : n < 0) (w : World) :
    Calls Try.prog 20 #[.int .u32 (n32 a), .int .u32 (n32 b), .int .i64 n] w fun e w' => e = .returned (.tuple #[.int .u32 0, .int .i64 2]) ∧ Below w.heap.size w w' := by
  go_enter Try.func20, Try.ntmps20
  go_wp2_with fail
  go_ret2
  exact ⟨rfl, Below.refl _ _⟩
set_option maxHeartbeats 400000 in
theorem refCombine_any (a b : W32) (n : Int) (h0 : 0 ≤ n) (hn : n ≤ 9223372036854775807) (w : World) :
    Calls Try.prog 20 #[.int .u32 (n32 a), .int .u32 (n32 b), .int .i64 n] w fun e w' => e = .returned (.tuple #[.int .u32 (n32 (cshift n.toNat a ^^^ b)), .int .i64 0]) ∧ Below w.heap.size w w' := by
  have H := Lib.hid (refShift_any a n h0 hn w)
  go_enter Try.func20, Try.ntmps20
  go_wp2_with fail
  refine H.out.mono ?_
  rintro e w1 ⟨rfl, hb1⟩
  have HB := Lib.hid hb1
  clear hb1
  go_wp2_with fail
  go_ret2
  exact ⟨rfl, HB.out⟩
end Go.Proofs.Ytpdlkdlciipdcaa
