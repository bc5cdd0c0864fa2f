/-
  The walk of the device laws' examples (works): it returns true and writes nothing that was there; Values that hold numbers; The device laws' steps as data, and short; A device's methods on a device that is nil, or was not made by New.
-/
import Derived.Test.YteglaedkhopbgaaGreatMI
import Derived.Lib.SlBytesConst
import Derived.Test.YteglaedkhopbgaaGreatMC
namespace Go.Proofs.YteglaedkhopbgaaGreat
open Go.RowKit Go.Shelf
set_option linter.unusedVariables false
theorem vlit0 : #[Value.int .u8 97, .int .u8 98, .int .u8 99] = (u8s [97#8, 98#8, 99#8]).toArray := by simp [u8s, u8v, n8_nat]
theorem vlit1 : #[Value.int .u8 100, .int .u8 101] = (u8s [100#8, 101#8]).toArray := by simp [u8s, u8v, n8_nat]
theorem vlit2 : #[Value.int .u8 97] = (u8s [97#8]).toArray := by simp [u8s, u8v, n8_nat]
theorem vlit3 : #[Value.int .u8 120, .int .u8 121, .int .u8 122] = (u8s [120#8, 121#8, 122#8]).toArray := by simp [u8s, u8v, n8_nat]
theorem vlit4 : #[Value.int .u8 102] = (u8s [102#8]).toArray := by simp [u8s, u8v, n8_nat]
set_option maxRecDepth 100000 in
set_option maxHeartbeats 400000 in
theorem plan_any (at_ : Int) (dn : Bool) (A : Option Addr) (n c : Nat) (w : World) :
    Calls Tryz.prog 38 #[.int .i64 at_, .bool dn, .slice A n c] w fun e w' => e = .returned (planV at_ dn A n c) ∧ Below w.heap.size w w' := by
  obtain ⟨W1, hW1⟩ : ∃ W1, W1 = w.alloc (.cells #[.int .i64 at_, .bool dn, .slice A n c] 35) := ⟨_, rfl⟩
  have k1 : Blk W1 w.heap.size 35 #[.int .i64 at_, .bool dn, .slice A n c] := by rw [hW1]; exact Blk.new _ _ _
  have e0 : W1.cell? ⟨w.heap.size, 0, none⟩ = some (.int .i64 at_) := k1.cell 0
  have e1 : W1.cell? ⟨w.heap.size, 1, none⟩ = some (.bool dn) := k1.cell 1
  have e2 : W1.cell? ⟨w.heap.size, 2, none⟩ = some (.slice A n c) := k1.cell 2
  have HB : Hid (Below w.heap.size w W1) := by rw [hW1]; exact (Below.refl _ _).alloc (Nat.le_refl _) _
  have HW := Lib.hid hW1
  clear hW1 k1
  go_enter Tryz.func38, Tryz.ntmps38
  go_wp2_with fail
  rw [← HW.out]
  refine bodyPost_ret (v := .agg #[.int .i64 at_, .bool dn, .slice A n c]) (by simp [results, Tryz.f38, go_sem, e0, e1, e2]) rfl ?_
  exact ⟨rfl, HB.out⟩
set_option maxHeartbeats 4000000 in
set_option maxRecDepth 100000 in
theorem works_any (w : World) :
    Calls Tryz.prog 5 #[] w fun e w' => e = .returned (.bool true) ∧ Below w.heap.size w w' := by
  have kc : ∀ (W : World) (C : Array Value) (n c : Nat), (convert 32 32 (.slice (some ⟨W.heap.size, 0, none⟩) n c)).run Tryz.prog (W.alloc (.cells C 5)) = .ok (.slice (some ⟨W.heap.size, 0, none⟩) n c) (W.alloc (.cells C 5 (C.size, C.size + 1))) :=
    fun W C n c => Lib.run_convert_bytes_const (P := Tryz.prog) W 32 5 C n c Tryz.underlying32 Tryz.underlying5
  go_enter Tryz.func5, Tryz.ntmps5
  go_wp2_with fail
  refine (sep_vnew (Sep.start w) 2 8 (by omega) (by omega) (by omega) (by omega)).mono ?_
  rintro e w0 ⟨v, L0, rfl, hs⟩
  have H0 : Hid (Sep w.heap.size w w0 (devOb v L0 ⟨2, fD ⟨8, [], 0⟩ ⟨8, [], 0⟩ ⟨64, [], 0⟩ ⟨64, [], 0⟩, none, 0, false⟩ :: [])) := hs.vto rfl rfl rfl rfl (fD_of rfl rfl rfl rfl)
  clear hs
  go_wp2_with fail
  refine (sep_vappend_obj (H0.out.newObj _ _ rfl) AllCells.nil (by decide) 0 [97#8, 98#8, 99#8] 3 3 vlit0 rfl (by omega) (by unfold maxLen; omega)).mono ?_
  rintro e w1 ⟨rfl, L1, hs⟩
  rw [show appVE ⟨2, fD ⟨8, [], 0⟩ ⟨8, [], 0⟩ ⟨64, [], 0⟩ ⟨64, [], 0⟩, none, 0, false⟩ 0 [97#8, 98#8, 99#8] = 0 from rfl]
  have H1 : Hid (Sep w.heap.size w w1 (devOb v L1 ⟨2, fD ⟨8, [97#8, 98#8, 99#8], 0⟩ ⟨8, [], 0⟩ ⟨64, [], 0⟩ ⟨64, [], 0⟩, none, 1, false⟩ :: [])) := hs.vto rfl rfl rfl rfl (fD_of rfl rfl rfl rfl)
  clear hs
  go_wp2_with fail
  refine (sep_vsync H1.out AllCells.nil (by decide) 0).mono ?_
  rintro e w2 ⟨rfl, L2, hs⟩
  rw [show oneVE ⟨2, fD ⟨8, [97#8, 98#8, 99#8], 0⟩ ⟨8, [], 0⟩ ⟨64, [], 0⟩ ⟨64, [], 0⟩, none, 1, false⟩ 0 = 0 from rfl]
  have H2 : Hid (Sep w.heap.size w w2 (devOb v L2 ⟨2, fD ⟨8, [97#8, 98#8, 99#8], 3⟩ ⟨8, [], 0⟩ ⟨64, [], 0⟩ ⟨64, [], 0⟩, none, 2, false⟩ :: [])) := hs.vto rfl rfl rfl rfl (fD_of rfl rfl rfl rfl)
  clear hs
  go_wp2_with fail
  refine (sep_vappend_obj (H2.out.newObj _ _ rfl) AllCells.nil (by decide) 0 [100#8, 101#8] 2 2 vlit1 rfl (by omega) (by unfold maxLen; omega)).mono ?_
  rintro e w3 ⟨rfl, L3, hs⟩
  rw [show appVE ⟨2, fD ⟨8, [97#8, 98#8, 99#8], 3⟩ ⟨8, [], 0⟩ ⟨64, [], 0⟩ ⟨64, [], 0⟩, none, 2, false⟩ 0 [100#8, 101#8] = 0 from rfl]
  have H3 : Hid (Sep w.heap.size w w3 (devOb v L3 ⟨2, fD ⟨8, [97#8, 98#8, 99#8, 100#8, 101#8], 3⟩ ⟨8, [], 0⟩ ⟨64, [], 0⟩ ⟨64, [], 0⟩, none, 3, false⟩ :: [])) := hs.vto rfl rfl rfl rfl (fD_of rfl rfl rfl rfl)
  clear hs
  go_wp2_with fail
  refine (sep_vappend_obj (H3.out.newObj _ _ rfl) AllCells.nil (by decide) 4 [97#8] 1 1 vlit2 rfl (by omega) (by unfold maxLen; omega)).mono ?_
  rintro e w4 ⟨rfl, L4, hs⟩
  rw [show appVE ⟨2, fD ⟨8, [97#8, 98#8, 99#8, 100#8, 101#8], 3⟩ ⟨8, [], 0⟩ ⟨64, [], 0⟩ ⟨64, [], 0⟩, none, 3, false⟩ 4 [97#8] = 3 from rfl]
  have H4 : Hid (Sep w.heap.size w w4 (devOb v L4 ⟨2, fD ⟨8, [97#8, 98#8, 99#8, 100#8, 101#8], 3⟩ ⟨8, [], 0⟩ ⟨64, [], 0⟩ ⟨64, [], 0⟩, none, 3, false⟩ :: [])) := hs.vto rfl rfl rfl rfl (fD_of rfl rfl rfl rfl)
  clear hs
  go_wp2_with fail
  refine (dev_unsynced H4.out.dev 0).mono ?_
  rintro e w5 ⟨rfl, hb⟩
  have H5 := Lib.hid (H4.out.below hb)
  obtain ⟨L5, hL⟩ : ∃ L5, L4 = L5 := ⟨_, rfl⟩
  rw [hL] at H5
  clear hb hL
  rw [show unsV ⟨2, fD ⟨8, [97#8, 98#8, 99#8, 100#8, 101#8], 3⟩ ⟨8, [], 0⟩ ⟨64, [], 0⟩ ⟨64, [], 0⟩, none, 3, false⟩ 0 = 2 from rfl, show chkE ⟨2, fD ⟨8, [97#8, 98#8, 99#8, 100#8, 101#8], 3⟩ ⟨8, [], 0⟩ ⟨64, [], 0⟩ ⟨64, [], 0⟩, none, 3, false⟩ 0 = 0 from rfl]
  go_wp2_with fail
  refine (plan_any 2 false _ 1 1 _).mono ?_
  rintro e w5b ⟨rfl, hb⟩
  have H5b := Lib.hid ((H5.out.newBlk _ 3 #[Value.int .i64 1] rfl).below hb)
  clear hb
  go_wp2_with fail
  refine (sep_varm_blk H5b.out AllCells.nil 2 false [1] 1 rfl rfl (by unfold maxLen; omega) (by omega)).mono ?_
  rintro e w6 ⟨rfl, L6, hs⟩
  rw [show armE 2 [1] = 0 from rfl]
  have H6 : Hid (Sep w.heap.size w w6 (devOb v L6 ⟨2, fD ⟨8, [97#8, 98#8, 99#8, 100#8, 101#8], 3⟩ ⟨8, [], 0⟩ ⟨64, [], 0⟩ ⟨64, [], 0⟩, (some ⟨2, false, [1]⟩), 3, false⟩ :: [])) := hs.vto rfl rfl rfl rfl (fD_of rfl rfl rfl rfl)
  clear hs
  go_wp2_with fail
  refine (sep_vappend_obj (H6.out.newObj _ _ rfl) AllCells.nil (by decide) 1 [120#8, 121#8, 122#8] 3 3 vlit3 rfl (by omega) (by unfold maxLen; omega)).mono ?_
  rintro e w7 ⟨rfl, L7, hs⟩
  rw [show appVE ⟨2, fD ⟨8, [97#8, 98#8, 99#8, 100#8, 101#8], 3⟩ ⟨8, [], 0⟩ ⟨64, [], 0⟩ ⟨64, [], 0⟩, (some ⟨2, false, [1]⟩), 3, false⟩ 1 [120#8, 121#8, 122#8] = 0 from rfl]
  have H7 : Hid (Sep w.heap.size w w7 (devOb v L7 ⟨2, fD ⟨8, [97#8, 98#8, 99#8, 100#8, 101#8], 3⟩ ⟨8, [120#8, 121#8, 122#8], 0⟩ ⟨64, [], 0⟩ ⟨64, [], 0⟩, (some ⟨1, false, [1]⟩), 4, false⟩ :: [])) := hs.vto rfl rfl rfl rfl (fD_of rfl rfl rfl rfl)
  clear hs
  go_wp2_with fail
  refine (sep_vappend_obj (H7.out.newObj _ _ rfl) AllCells.nil (by decide) 0 [102#8] 1 1 vlit4 rfl (by omega) (by unfold maxLen; omega)).mono ?_
  rintro e w8 ⟨rfl, L8, hs⟩
  rw [show appVE ⟨2, fD ⟨8, [97#8, 98#8, 99#8, 100#8, 101#8], 3⟩ ⟨8, [120#8, 121#8, 122#8], 0⟩ ⟨64, [], 0⟩ ⟨64, [], 0⟩, (some ⟨1, false, [1]⟩), 4, false⟩ 0 [102#8] = 13 from rfl]
  have H8 : Hid (Sep w.heap.size w w8 (devOb v L8 ⟨2, fD ⟨8, [97#8, 98#8, 99#8, 100#8], 4⟩ ⟨8, [120#8], 1⟩ ⟨64, [], 0⟩ ⟨64, [], 0⟩, none, 5, true⟩ :: [])) := hs.vto rfl rfl rfl rfl (fD_of rfl rfl rfl rfl)
  clear hs
  go_wp2_with fail
  refine (dev_down H8.out.dev).mono ?_
  rintro e w9 ⟨rfl, hq⟩
  have H9 : Hid (Sep w.heap.size w w9 (devOb v L8 ⟨2, fD ⟨8, [97#8, 98#8, 99#8, 100#8], 4⟩ ⟨8, [120#8], 1⟩ ⟨64, [], 0⟩ ⟨64, [], 0⟩, none, 5, true⟩ :: [])) := by rw [← hq]; exact H8.out
  obtain ⟨L9, hL⟩ : ∃ L9, L8 = L9 := ⟨_, rfl⟩
  rw [hL] at H9
  clear hq hL
  go_wp2_with fail
  refine (sep_vrestart H9.out).mono ?_
  rintro e w10 ⟨rfl, hs⟩
  have H10 : Hid (Sep w.heap.size w w10 (devOb v L9 ⟨2, fD ⟨8, [97#8, 98#8, 99#8, 100#8], 4⟩ ⟨8, [120#8], 1⟩ ⟨64, [], 0⟩ ⟨64, [], 0⟩, none, 5, false⟩ :: [])) := hs.vto rfl rfl rfl rfl (fD_of rfl rfl rfl rfl)
  obtain ⟨L10, hL⟩ : ∃ L10, L9 = L10 := ⟨_, rfl⟩
  rw [hL] at H10
  clear hs hL
  go_wp2_with fail
  refine (dev_read H10.out.dev 0 0 4).mono ?_
  rintro e w11 ⟨u, r, rfl, hq, hb⟩
  obtain ⟨rfl, ho⟩ := read_ok (s := 0) (a := 0) (b := 4) hq rfl (by decide)
  obtain ⟨Ar, cr, rfl, hcr, hrr⟩ := own_reads ho (by omega)
  have HV11 : Hid (Reads w11 w11.heap.size 1 Ar 4 (u8s [97#8, 98#8, 99#8, 100#8])) := hrr
  have H11 := Lib.hid (H10.out.below hb)
  obtain ⟨L11, hL⟩ : ∃ L11, L10 = L11 := ⟨_, rfl⟩
  rw [hL] at H11
  clear hb hL hq ho hrr
  go_wp2_with fail
  refine (dev_len H11.out.dev 1).mono ?_
  rintro e w12 ⟨rfl, hb⟩
  have H12 := Lib.hid (H11.out.below hb)
  obtain ⟨L12, hL⟩ : ∃ L12, L11 = L12 := ⟨_, rfl⟩
  rw [hL] at H12
  have HV12 := Lib.hid ((HV11.out.below hb).more hb.size)
  clear hb hL
  rw [show lenV ⟨2, fD ⟨8, [97#8, 98#8, 99#8, 100#8], 4⟩ ⟨8, [120#8], 1⟩ ⟨64, [], 0⟩ ⟨64, [], 0⟩, none, 5, false⟩ 1 = 1 from rfl, show chkE ⟨2, fD ⟨8, [97#8, 98#8, 99#8, 100#8], 4⟩ ⟨8, [120#8], 1⟩ ⟨64, [], 0⟩ ⟨64, [], 0⟩, none, 5, false⟩ 1 = 0 from rfl]
  have s1 : (convert 32 9 (.slice Ar 4 cr)).run Tryz.prog w12 = .ok (.string ⟨#[97, 98, 99, 100]⟩) w12 := by
    rw [← strOf_lit (l := [97#8, 98#8, 99#8, 100#8]) (a := #[97, 98, 99, 100]) rfl]
    exact str_bytes HV12.out
  go_wp2_with fail
  refine (dev_ops H12.out.dev).mono ?_
  rintro e w13 ⟨rfl, hq⟩
  have H13 : Hid (Sep w.heap.size w w13 (devOb v L12 ⟨2, fD ⟨8, [97#8, 98#8, 99#8, 100#8], 4⟩ ⟨8, [120#8], 1⟩ ⟨64, [], 0⟩ ⟨64, [], 0⟩, none, 5, false⟩ :: [])) := by rw [← hq]; exact H12.out
  obtain ⟨L13, hL⟩ : ∃ L13, L12 = L13 := ⟨_, rfl⟩
  rw [hL] at H13
  clear hq hL
  go_wp2_with fail
  clear s1
  refine (plan_any 1 true _ 1 1 _).mono ?_
  rintro e w13b ⟨rfl, hb⟩
  have H13b := Lib.hid ((H13.out.newBlk _ 3 #[Value.int .i64 0] rfl).below hb)
  clear hb
  go_wp2_with fail
  refine (sep_varm_blk H13b.out AllCells.nil 1 true [0] 1 rfl rfl (by unfold maxLen; omega) (by omega)).mono ?_
  rintro e w14 ⟨rfl, L14, hs⟩
  rw [show armE 1 [0] = 0 from rfl]
  have H14 : Hid (Sep w.heap.size w w14 (devOb v L14 ⟨2, fD ⟨8, [97#8, 98#8, 99#8, 100#8], 4⟩ ⟨8, [120#8], 1⟩ ⟨64, [], 0⟩ ⟨64, [], 0⟩, (some ⟨1, true, [0]⟩), 5, false⟩ :: [])) := hs.vto rfl rfl rfl rfl (fD_of rfl rfl rfl rfl)
  clear hs
  go_wp2_with fail
  refine (sep_verase H14.out AllCells.nil (by decide) 0).mono ?_
  rintro e w15 ⟨rfl, L15, hs⟩
  rw [show oneVE ⟨2, fD ⟨8, [97#8, 98#8, 99#8, 100#8], 4⟩ ⟨8, [120#8], 1⟩ ⟨64, [], 0⟩ ⟨64, [], 0⟩, (some ⟨1, true, [0]⟩), 5, false⟩ 0 = 13 from rfl]
  have H15 : Hid (Sep w.heap.size w w15 (devOb v L15 ⟨2, fD ⟨8, [], 0⟩ ⟨8, [120#8], 1⟩ ⟨64, [], 0⟩ ⟨64, [], 0⟩, none, 6, true⟩ :: [])) := hs.vto rfl rfl rfl rfl (fD_of rfl rfl rfl rfl)
  clear hs
  go_wp2_with fail
  refine (sep_vrestart H15.out).mono ?_
  rintro e w16 ⟨rfl, hs⟩
  have H16 : Hid (Sep w.heap.size w w16 (devOb v L15 ⟨2, fD ⟨8, [], 0⟩ ⟨8, [120#8], 1⟩ ⟨64, [], 0⟩ ⟨64, [], 0⟩, none, 6, false⟩ :: [])) := hs.vto rfl rfl rfl rfl (fD_of rfl rfl rfl rfl)
  obtain ⟨L16, hL⟩ : ∃ L16, L15 = L16 := ⟨_, rfl⟩
  rw [hL] at H16
  clear hs hL
  go_wp2_with fail
  refine (dev_len H16.out.dev 0).mono ?_
  rintro e w17 ⟨rfl, hb⟩
  have H17 := Lib.hid (H16.out.below hb)
  obtain ⟨L17, hL⟩ : ∃ L17, L16 = L17 := ⟨_, rfl⟩
  rw [hL] at H17
  clear hb hL
  rw [show lenV ⟨2, fD ⟨8, [], 0⟩ ⟨8, [120#8], 1⟩ ⟨64, [], 0⟩ ⟨64, [], 0⟩, none, 6, false⟩ 0 = 0 from rfl, show chkE ⟨2, fD ⟨8, [], 0⟩ ⟨8, [120#8], 1⟩ ⟨64, [], 0⟩ ⟨64, [], 0⟩, none, 6, false⟩ 0 = 0 from rfl]
  go_wp2_with fail
  refine (plan_any 0 false _ 1 1 _).mono ?_
  rintro e w17b ⟨rfl, hb⟩
  have H17b := Lib.hid ((H17.out.newBlk _ 3 #[Value.int .i64 0] rfl).below hb)
  clear hb
  go_wp2_with fail
  refine (sep_varm_blk H17b.out AllCells.nil 0 false [0] 1 rfl rfl (by unfold maxLen; omega) (by omega)).mono ?_
  rintro e w18 ⟨rfl, L18, hs⟩
  rw [show armE 0 [0] = 0 from rfl]
  have H18 : Hid (Sep w.heap.size w w18 (devOb v L18 ⟨2, fD ⟨8, [], 0⟩ ⟨8, [120#8], 1⟩ ⟨64, [], 0⟩ ⟨64, [], 0⟩, none, 6, true⟩ :: [])) := hs.vto rfl rfl rfl rfl (fD_of rfl rfl rfl rfl)
  clear hs
  go_wp2_with fail
  refine (dev_down H18.out.dev).mono ?_
  rintro e w19 ⟨rfl, hq⟩
  have H19 : Hid (Sep w.heap.size w w19 (devOb v L18 ⟨2, fD ⟨8, [], 0⟩ ⟨8, [120#8], 1⟩ ⟨64, [], 0⟩ ⟨64, [], 0⟩, none, 6, true⟩ :: [])) := by rw [← hq]; exact H18.out
  obtain ⟨L19, hL⟩ : ∃ L19, L18 = L19 := ⟨_, rfl⟩
  rw [hL] at H19
  clear hq hL
  go_wp2_with fail
  refine (sep_vsync H19.out AllCells.nil (by decide) 0).mono ?_
  rintro e w20 ⟨rfl, L20, hs⟩
  rw [show oneVE ⟨2, fD ⟨8, [], 0⟩ ⟨8, [120#8], 1⟩ ⟨64, [], 0⟩ ⟨64, [], 0⟩, none, 6, true⟩ 0 = 13 from rfl]
  have H20 : Hid (Sep w.heap.size w w20 (devOb v L20 ⟨2, fD ⟨8, [], 0⟩ ⟨8, [120#8], 1⟩ ⟨64, [], 0⟩ ⟨64, [], 0⟩, none, 6, true⟩ :: [])) := hs.vto rfl rfl rfl rfl (fD_of rfl rfl rfl rfl)
  clear hs
  go_wp2_with fail
  go_ret
  exact ⟨rfl, H20.out.bel⟩
end Go.Proofs.YteglaedkhopbgaaGreat
namespace Go.Proofs.YteglaedkhopbgaaGreat
open Go.RowKit
set_option linter.unusedVariables false
/-- A value that holds numbers. -/
def HoldsI (w : World) (v : Value) (zs : List Int) : Prop := (∃ A n c, v = .slice A n c ∧ n = zs.length ∧ n ≤ c ∧ c ≤ maxLen ∧ Reads w w.heap.size 1 A n (ints zs)) ∧ ∀ z ∈ zs, -9223372036854775808 ≤ z ∧ z ≤ 9223372036854775807
theorem HoldsI.below {w w' : World} {v : Value} {zs : List Int} (h : HoldsI w v zs) (hb : Below w.heap.size w w') : HoldsI w' v zs := by
  obtain ⟨⟨A, n, c, rfl, h0, h1, h2, h3⟩, h4⟩ := h
  exact ⟨⟨A, n, c, rfl, h0, h1, h2, (h3.below hb).more hb.size⟩, h4⟩
theorem bytes_of_rd {w : World} {n c : Nat} {A : Option Addr} {xs : List Value} (h1 : n ≤ c) (h2 : c ≤ maxLen) (hr : Reads w w.heap.size 1 A n xs) (hd : ∀ i, i < n → Rd Tryz.prog w 5 ((xs.drop (i * 1)).take 1)) :
    ∃ l, Holds w (.slice A n c) l := by
  have hl : xs.length = n := by have := hr.1; omega
  obtain ⟨l, rfl⟩ := bytes_of_all xs (fun k hk => by
    have h := hd k (by omega)
    rw [Nat.mul_one, List.drop_eq_getElem_cons hk] at h
    obtain ⟨m, e, hw⟩ := Rd.int (k := .u8) Tryz.underlying5 h
    obtain ⟨b, rfl⟩ := u8_of_wf hw
    refine ⟨b, ?_⟩
    have e2 : [xs[k]] = [Value.int .u8 (n8 b)] := e
    have e' : xs[k] = .int .u8 (n8 b) := by injection e2
    rw [List.getElem?_eq_getElem hk, e'])
  rw [u8s_length] at hl
  exact ⟨l, A, n, c, rfl, hl.symm, h1, h2, hr⟩
theorem ints_of_all : ∀ zs : List Value, (∀ k, k < zs.length → ∃ b : Int, (-9223372036854775808 ≤ b ∧ b ≤ 9223372036854775807) ∧ zs[k]? = some (.int .i64 b)) → ∃ l : List Int, zs = ints l ∧ ∀ z ∈ l, -9223372036854775808 ≤ z ∧ z ≤ 9223372036854775807 := by
  intro zs
  induction zs with
  | nil => intro _; exact ⟨[], rfl, fun z hz => by cases hz⟩
  | cons z zs ih =>
    intro h
    obtain ⟨b, hbb, hb⟩ := h 0 (by simp)
    obtain ⟨l, rfl, hl⟩ := ih (fun k hk => by simpa using h (k + 1) (by simpa using hk))
    have : z = .int .i64 b := by simpa using hb
    subst this
    exact ⟨b :: l, rfl, fun z hz => by
      rcases List.mem_cons.1 hz with rfl | hz
      · exact hbb
      · exact hl z hz⟩
theorem ints_of_rd {w : World} {n c : Nat} {A : Option Addr} {xs : List Value} (h1 : n ≤ c) (h2 : c ≤ maxLen) (hr : Reads w w.heap.size 1 A n xs) (hd : ∀ i, i < n → Rd Tryz.prog w 3 ((xs.drop (i * 1)).take 1)) :
    ∃ l, HoldsI w (.slice A n c) l := by
  have hl : xs.length = n := by have := hr.1; omega
  obtain ⟨l, rfl, hall⟩ := ints_of_all xs (fun k hk => by
    have h := hd k (by omega)
    rw [Nat.mul_one, List.drop_eq_getElem_cons hk] at h
    obtain ⟨m, e, hw⟩ := Rd.int (k := .i64) Tryz.underlying3 h
    refine ⟨m, i64_of_wf hw, ?_⟩
    have e2 : [xs[k]] = [Value.int .i64 m] := e
    have e' : xs[k] = .int .i64 m := by injection e2
    rw [List.getElem?_eq_getElem hk, e'])
  rw [ints_length] at hl
  exact ⟨l, ⟨A, n, c, rfl, hl.symm, h1, h2, hr⟩, hall⟩
end Go.Proofs.YteglaedkhopbgaaGreat
namespace Go.Proofs.YteglaedkhopbgaaGreat
open Go.RowKit Go.Shelf
set_option linter.unusedVariables false
theorem Rd.slice_z {P : Program} {w : World} {t e : TypeId} {A : Option Addr} {n c : Nat} (ht : P.underlying t = some (.slice e)) (h : Rd P w t [.slice A n c]) : A = none → c = 0 := by
  obtain ⟨H, enc, base, sp, hd, fuel, x, hx⟩ := h
  rcases Go.Deep.open_slice ht hx with ⟨h1, _⟩ | ⟨a, len, cap, m, k, D, Pl, h1, _⟩
  · intro _
    injection h1 with h1 _
    injection h1
  · rintro rfl
    injection h1 with h1 _
    injection h1 with h1 _ _
    cases h1
structure VStep where
  what : Int
  slot : Int
  off : Int
  n : Int
  b : List (BitVec 8)
  at_ : Int
  dn : Bool
  keep : List Int
structure VStep.Ok (w : World) (st : VStep) (v4 v7 : Value) : Prop where
  hv : Holds w v4 st.b
  hk : HoldsI w v7 st.keep
  ha : -9223372036854775808 ≤ st.at_ ∧ st.at_ ≤ 9223372036854775807
  hz : ∀ n c, v7 = .slice none n c → c = 0
def VStep.cells (st : VStep) (v4 v7 : Value) : Array Value := #[.int .i64 st.what, .int .i64 st.slot, .int .i64 st.off, .int .i64 st.n, v4, .int .i64 st.at_, .bool st.dn, v7]
structure VStepAt (w : World) (B : Nat) (A : Option Addr) (i : Nat) (ad : Addr) (st : VStep) (v4 v7 : Value) : Prop where
  a : A = some ad
  lt : ad.block < B
  c0 : w.cell? (ad.add (i * 8)) = some (.int .i64 st.what)
  c1 : w.cell? ⟨(ad.add (i * 8)).block, (ad.add (i * 8)).off + 1, none⟩ = some (.int .i64 st.slot)
  c2 : w.cell? ⟨(ad.add (i * 8)).block, (ad.add (i * 8)).off + 2, none⟩ = some (.int .i64 st.off)
  c3 : w.cell? ⟨(ad.add (i * 8)).block, (ad.add (i * 8)).off + 3, none⟩ = some (.int .i64 st.n)
  c4 : w.cell? ⟨(ad.add (i * 8)).block, (ad.add (i * 8)).off + 4, none⟩ = some (v4)
  c5 : w.cell? ⟨(ad.add (i * 8)).block, (ad.add (i * 8)).off + 5, none⟩ = some (.int .i64 st.at_)
  c6 : w.cell? ⟨(ad.add (i * 8)).block, (ad.add (i * 8)).off + 6, none⟩ = some (.bool st.dn)
  c7 : w.cell? ⟨(ad.add (i * 8)).block, (ad.add (i * 8)).off + 7, none⟩ = some (v7)
  ok : st.Ok w v4 v7
def VStepsAt (w : World) (B : Nat) (A : Option Addr) (n : Nat) (sts : Nat → VStep) : Prop := ∀ i, i < n → ∃ ad v4 v7, VStepAt w B A i ad (sts i) v4 v7
theorem VStepAt.below {w w' : World} {A : Option Addr} {i : Nat} {ad : Addr} {st : VStep} {v4 v7 : Value} (h : VStepAt w w.heap.size A i ad st v4 v7) (hb : Below w.heap.size w w') : VStepAt w' w.heap.size A i ad st v4 v7 := by
  have key : ∀ p : Addr, p.block = ad.block → w'.cell? p = w.cell? p := fun p hp => hb.cell (by rw [hp]; exact h.lt)
  exact ⟨h.a, h.lt, (key _ (block_of_add _ _)).trans h.c0, (key ⟨(ad.add (i * 8)).block, _, none⟩ (block_of_add ad (i * 8))).trans h.c1, (key ⟨(ad.add (i * 8)).block, _, none⟩ (block_of_add ad (i * 8))).trans h.c2, (key ⟨(ad.add (i * 8)).block, _, none⟩ (block_of_add ad (i * 8))).trans h.c3, (key ⟨(ad.add (i * 8)).block, _, none⟩ (block_of_add ad (i * 8))).trans h.c4, (key ⟨(ad.add (i * 8)).block, _, none⟩ (block_of_add ad (i * 8))).trans h.c5, (key ⟨(ad.add (i * 8)).block, _, none⟩ (block_of_add ad (i * 8))).trans h.c6, (key ⟨(ad.add (i * 8)).block, _, none⟩ (block_of_add ad (i * 8))).trans h.c7, ⟨h.ok.hv.below hb, h.ok.hk.below hb, h.ok.ha, h.ok.hz⟩⟩
set_option maxRecDepth 100000 in
set_option maxHeartbeats 1000000 in
/-- A step's cells, out of what can be read. -/
theorem vstep_of_rd {w : World} {cs : List Value} (hl : cs.length = Tryz.prog.cellsOf 37)
    (hf : ∀ (i : Nat) (f : Field), (match Tryz.prog.underlying 37 with | some (.struct fs) => fs[i]? | _ => none) = some f → Rd Tryz.prog w f.type ((cs.drop f.offset).take (Tryz.prog.cellsOf f.type))) :
    ∃ (st : VStep) (v4 v7 : Value), cs = (st.cells v4 v7).toList ∧ st.Ok w v4 v7 := by
  have hC : Tryz.prog.cellsOf 37 = 8 := by kernel_rfl
  have hC1 : Tryz.prog.cellsOf 3 = 1 := by kernel_rfl
  have hC2 : Tryz.prog.cellsOf 32 = 1 := by kernel_rfl
  have hC3 : Tryz.prog.cellsOf 5 = 1 := by kernel_rfl
  have hC4 : Tryz.prog.cellsOf 33 = 1 := by kernel_rfl
  have hC5 : Tryz.prog.cellsOf 35 = 3 := by kernel_rfl
  have hC6 : Tryz.prog.cellsOf 4 = 1 := by kernel_rfl
  rw [hC] at hl
  obtain ⟨x0, x1, x2, x3, x4, x5, x6, x7, rfl⟩ : ∃ a b c d e f g h, cs = [a, b, c, d, e, f, g, h] := by
    match cs, hl with
    | [a, b, c, d, e, f, g, h], _ => exact ⟨a, b, c, d, e, f, g, h, rfl⟩
  rw [Tryz.underlying37] at hf
  have g0 : Rd Tryz.prog w 3 [x0] := by simpa [hC1] using hf 0 _ rfl
  have g1 : Rd Tryz.prog w 3 [x1] := by simpa [hC1] using hf 1 _ rfl
  have g2 : Rd Tryz.prog w 3 [x2] := by simpa [hC1] using hf 2 _ rfl
  have g3 : Rd Tryz.prog w 3 [x3] := by simpa [hC1] using hf 3 _ rfl
  have g4 : Rd Tryz.prog w 32 [x4] := by simpa [hC2] using hf 4 _ rfl
  have gp : Rd Tryz.prog w 35 [x5, x6, x7] := by simpa [hC5] using hf 5 _ rfl
  obtain ⟨hpl, hpf⟩ := Rd.struct Tryz.underlying35 gp
  have g5 : Rd Tryz.prog w 3 [x5] := by simpa [hC1] using hpf 0 _ rfl
  have g6 : Rd Tryz.prog w 4 [x6] := by simpa [hC6] using hpf 1 _ rfl
  have g7 : Rd Tryz.prog w 33 [x7] := by simpa [hC4] using hpf 2 _ rfl
  obtain ⟨d0, e0, _⟩ := Rd.int (k := .i64) Tryz.underlying3 g0
  obtain ⟨d1, e1, _⟩ := Rd.int (k := .i64) Tryz.underlying3 g1
  obtain ⟨d2, e2, _⟩ := Rd.int (k := .i64) Tryz.underlying3 g2
  obtain ⟨d3, e3, _⟩ := Rd.int (k := .i64) Tryz.underlying3 g3
  obtain ⟨d5, e5, hw5⟩ := Rd.int (k := .i64) Tryz.underlying3 g5
  obtain ⟨d6, e6⟩ := Rd.bool Tryz.underlying4 g6
  obtain ⟨A1, n1, c1, ys, e4, y1, y2, y3, y4⟩ := g4.slice (e := 5) Tryz.underlying32 (by rw [hC3]; omega)
  rw [hC3] at y3 y4
  obtain ⟨b, hb⟩ := bytes_of_rd y1 y2 y3 y4
  obtain ⟨A2, n2, c2, zs, e7, z1, z2, z3, z4⟩ := g7.slice (e := 3) Tryz.underlying33 (by rw [hC1]; omega)
  rw [hC1] at z3 z4
  obtain ⟨k, hk⟩ := ints_of_rd z1 z2 z3 z4
  have q0 : x0 = .int .i64 d0 := by simpa using e0
  have q1 : x1 = .int .i64 d1 := by simpa using e1
  have q2 : x2 = .int .i64 d2 := by simpa using e2
  have q3 : x3 = .int .i64 d3 := by simpa using e3
  have q4 : x4 = .slice A1 n1 c1 := by simpa using e4
  have q5 : x5 = .int .i64 d5 := by simpa using e5
  have q6 : x6 = .bool d6 := by simpa using e6
  have q7 : x7 = .slice A2 n2 c2 := by simpa using e7
  subst q0 q1 q2 q3 q4 q5 q6 q7
  refine ⟨⟨d0, d1, d2, d3, b, d5, d6, k⟩, _, _, rfl, hb, hk, i64_of_wf hw5, fun n c he => ?_⟩
  injection he with h1 h2 h3
  subst h1 h2 h3
  exact Rd.slice_z Tryz.underlying33 g7 rfl
set_option maxRecDepth 100000 in
theorem vstep_arg {w : World} {v : Value} (h : ArgIn Tryz.prog w 37 v) : ∃ (st : VStep) (v4 v7 : Value), v = .agg (st.cells v4 v7) ∧ st.Ok w v4 v7 := by
  obtain ⟨cs, rfl, h1, h2⟩ := h.struct Tryz.underlying37
  obtain ⟨st, v4, v7, e, ok⟩ := vstep_of_rd h1 (fun i f hf => by rw [Tryz.underlying37] at hf; exact h2 i f hf)
  exact ⟨st, v4, v7, by rw [← Array.toList_inj.1 e], ok⟩
set_option maxRecDepth 100000 in
theorem vsteps_arg {w : World} {v : Value} (h : ArgIn Tryz.prog w 22 v) : ∃ A n c sts, v = .slice A n c ∧ n ≤ c ∧ c ≤ maxLen ∧ VStepsAt w w.heap.size A n sts := by
  obtain ⟨A, n, c, xs, rfl, h1, h2, h3, h4⟩ := h.slice (e := 37) rfl (by decide +kernel)
  have hC : Tryz.prog.cellsOf 37 = 8 := by kernel_rfl
  have key : ∀ i, ∃ st : VStep, i < n → ∃ ad v4 v7, VStepAt w w.heap.size A i ad st v4 v7 := fun i => by
    by_cases hi : i < n
    · obtain ⟨hl, hf⟩ := Rd.struct Tryz.underlying37 (h4 i hi)
      obtain ⟨st, v4, v7, e, ok⟩ := vstep_of_rd hl (fun i f hf' => by rw [Tryz.underlying37] at hf'; exact hf i f hf')
      rw [hC] at h3 e
      obtain ⟨ad, ea, hbk, hc⟩ := h3.2 (by omega)
      have at_ : ∀ q v, (st.cells v4 v7).toList[q]? = some v → q < 8 → w.cell? ((ad.add (i * 8)).add q) = some v := by
        intro q v hq hq3
        rw [← e, List.getElem?_take, if_pos hq3, List.getElem?_drop] at hq
        rw [add_of_add]
        exact hc _ _ hq
      refine ⟨st, fun _ => ⟨ad, v4, v7, ea, hbk, ?_, ?_, ?_, ?_, ?_, ?_, ?_, ?_, ok⟩⟩
      · have := at_ 0 _ rfl (by omega); rw [add_of_add, Nat.add_zero] at this; exact this
      · exact at_ 1 _ rfl (by omega)
      · exact at_ 2 _ rfl (by omega)
      · exact at_ 3 _ rfl (by omega)
      · exact at_ 4 _ rfl (by omega)
      · exact at_ 5 _ rfl (by omega)
      · exact at_ 6 _ rfl (by omega)
      · exact at_ 7 _ rfl (by omega)
    · exact ⟨⟨0, 0, 0, 0, [], 0, false, []⟩, fun h => absurd h hi⟩
  exact ⟨A, n, c, fun i => (key i).choose, rfl, h1, h2, fun i hi => (key i).choose_spec hi⟩
def vshortS (st : VStep) : Prop := st.b.length ≤ 200 ∧ st.keep.length ≤ 40
def VShortQ (w : World) (n most : Nat) (sts : Nat → VStep) (e : Ending) (w' : World) : Prop := ∃ r, e = .returned (.bool r) ∧ (r = true → n ≤ most ∧ ∀ i, i < n → vshortS (sts i)) ∧ w = w'
set_option maxRecDepth 100000 in
set_option maxHeartbeats 1000000 in
theorem vshort_any (A : Option Addr) (n c : Nat) (sts : Nat → VStep) (most : Nat) (w : World) (h : VStepsAt w w.heap.size A n sts) (hn : n ≤ c) (hc : c ≤ maxLen) :
    Calls Tryz.prog 4 #[.slice A n c, .int .i64 (most : Int)] w (VShortQ w n most sts) := by
  have H := Lib.hid h
  unfold maxLen at hc
  clear h
  by_cases hm : most < n
  · go_enter Tryz.func4, Tryz.ntmps4
    go_wp2_with fail
    go_ret
    exact ⟨false, rfl, (fun h => by cases h), rfl⟩
  · go_enter Tryz.func4, Tryz.ntmps4
    go_wp2_with fail
    go_loopg [5] n (fun q v5 wr => ∃ (j : Nat), j + q = n ∧ v5 = .int .i64 j ∧ (∀ i, i < j → vshortS (sts i)) ∧ w = wr)
    case atStart => exact ⟨0, by omega, rfl, fun i hi => by omega, rfl⟩
    case round =>
      obtain ⟨j, hj, rfl, hp, rfl⟩ := hrel
      have HJ := Lib.hid hj
      have HP := Lib.hid hp
      have hj' : j ≤ n := by omega
      by_cases hlt : j < n
      · obtain ⟨ad, v4, v7, hst⟩ := H.out j hlt
        obtain ⟨A4, n4, c4, rfl, e4, h41, h42, _⟩ := hst.ok.hv
        obtain ⟨⟨A5, n5, c5, rfl, e5, h51, h52, _⟩, _⟩ := hst.ok.hk
        have k4 := hst.c4
        have k5 := hst.c7
        obtain rfl := hst.a
        have HE4 := Lib.hid e4
        have HE5 := Lib.hid e5
        unfold maxLen at h42 h52
        clear hst hj hp e4 e5
        by_cases b4 : 200 < n4
        · go_wp2_with fail
          go_ret
          exact ⟨false, rfl, (fun h => by cases h), rfl⟩
        · by_cases b5 : 40 < n5
          · go_wp2_with fail
            go_ret
            exact ⟨false, rfl, (fun h => by cases h), rfl⟩
          · go_wp2_with fail
            go_roundg (gk - 1)
            case measure => have := HJ.out; omega
            case rel =>
              refine ⟨j + 1, by have := HJ.out; omega, by go_num, fun i hi => ?_, rfl⟩
              by_cases e : i = j
              · subst e
                exact ⟨by have := HE4.out; omega, by have := HE5.out; omega⟩
              · exact HP.out i (by omega)
      · have e8 : j = n := by omega
        subst e8
        clear hj
        go_wp2_with fail
        go_ret
        exact ⟨true, rfl, fun _ => ⟨by omega, HP.out⟩, rfl⟩
end Go.Proofs.YteglaedkhopbgaaGreat
namespace Go.Proofs.YteglaedkhopbgaaGreat
open Go.RowKit Go.Shelf
set_option linter.unusedVariables false
/-- A device that is nil, or was not made by New. -/
def NoDev (w : World) (p : Option Addr) : Prop := p = none ∨ ∃ g, p = some ⟨g, 0, none⟩ ∧ w.cell? ⟨g, 2, none⟩ = some (.int .i64 0)
theorem NoDev.below {w w' : World} {p : Option Addr} (h : NoDev w p) (hb : Below w.heap.size w w') : NoDev w' p := by
  rcases h with rfl | ⟨g, rfl, hc⟩
  · exact .inl rfl
  · exact .inr ⟨g, rfl, (hb.cell (p := ⟨g, 2, none⟩) (block_lt_of_cell hc)).trans hc⟩
section
variable {w w' : World} {p : Option Addr}
set_option maxRecDepth 100000 in
set_option maxHeartbeats 400000 in
theorem valid_nodev (h : NoDev w p) :
    Calls Tryz.prog 62 #[.pointer p] w fun e w' => e = .returned (.bool false) ∧ w = w' := by
  rcases h with rfl | ⟨g, rfl, hc⟩
  · go_enter Tryz.func62, Tryz.ntmps62
    go_wp2_with fail
    go_ret
    exact ⟨rfl, rfl⟩
  · go_enter Tryz.func62, Tryz.ntmps62
    go_wp2_with fail
    go_ret
    exact ⟨rfl, rfl⟩
set_option maxRecDepth 100000 in
set_option maxHeartbeats 400000 in
theorem check_nodev (h : NoDev w p) (i : Int) :
    Calls Tryz.prog 44 #[.pointer p, .int .i64 i] w fun e w' => e = .returned (.int .i64 1) ∧ w = w' := by
  have HV := Lib.hid (valid_nodev h)
  clear h
  go_enter Tryz.func44, Tryz.ntmps44
  go_wp2_with fail
  refine HV.out.mono ?_
  rintro e w' ⟨rfl, rfl⟩
  go_wp2_with fail
  go_ret
  exact ⟨rfl, rfl⟩
set_option maxRecDepth 100000 in
set_option maxHeartbeats 400000 in
theorem len_nodev (h : NoDev w p) (i : Int) :
    Calls Tryz.prog 22 #[.pointer p, .int .i64 i] w fun e w' => e = .returned (.tuple #[.int .i64 0, .int .i64 1]) ∧ Below w.heap.size w w' := by
  have HC := Lib.hid (check_nodev h i)
  clear h
  go_enter Tryz.func22, Tryz.ntmps22
  go_wp2_with fail
  refine HC.out.mono ?_
  rintro e w1 ⟨rfl, rfl⟩
  go_wp2_with fail
  go_ret2
  exact ⟨rfl, Below.refl _ _⟩
set_option maxRecDepth 100000 in
set_option maxHeartbeats 400000 in
theorem room_nodev (h : NoDev w p) (i : Int) :
    Calls Tryz.prog 26 #[.pointer p, .int .i64 i] w fun e w' => e = .returned (.tuple #[.int .i64 0, .int .i64 1]) ∧ Below w.heap.size w w' := by
  have HC := Lib.hid (check_nodev h i)
  clear h
  go_enter Tryz.func26, Tryz.ntmps26
  go_wp2_with fail
  refine HC.out.mono ?_
  rintro e w1 ⟨rfl, rfl⟩
  go_wp2_with fail
  go_ret2
  exact ⟨rfl, Below.refl _ _⟩
set_option maxRecDepth 100000 in
set_option maxHeartbeats 400000 in
theorem uns_nodev (h : NoDev w p) (i : Int) :
    Calls Tryz.prog 24 #[.pointer p, .int .i64 i] w fun e w' => e = .returned (.tuple #[.int .i64 0, .int .i64 1]) ∧ Below w.heap.size w w' := by
  have HC := Lib.hid (len_nodev h i)
  clear h
  go_enter Tryz.func24, Tryz.ntmps24
  go_wp2_with fail
  refine HC.out.mono ?_
  rintro e w1 ⟨rfl, hb⟩
  have HB := Lib.hid hb
  clear hb
  go_wp2_with fail
  go_ret2
  exact ⟨rfl, HB.out⟩
set_option maxRecDepth 100000 in
set_option maxHeartbeats 400000 in
theorem read_nodev (h : NoDev w p) (i off m : Int) :
    Calls Tryz.prog 20 #[.pointer p, .int .i64 i, .int .i64 off, .int .i64 m] w fun e w' => e = .returned (.tuple #[.slice none 0 0, .int .i64 1]) ∧ Below w.heap.size w w' := by
  have HC := Lib.hid (check_nodev h i)
  clear h
  go_enter Tryz.func20, Tryz.ntmps20
  go_wp2_with fail
  refine HC.out.mono ?_
  rintro e w1 ⟨rfl, rfl⟩
  go_wp2_with fail
  go_ret2
  exact ⟨rfl, Below.refl _ _⟩
set_option maxRecDepth 100000 in
set_option maxHeartbeats 400000 in
theorem down_nodev (h : NoDev w p) :
    Calls Tryz.prog 29 #[.pointer p] w fun e w' => e = .returned (.bool false) ∧ Below w.heap.size w w' := by
  have HC := Lib.hid (valid_nodev h)
  clear h
  go_enter Tryz.func29, Tryz.ntmps29
  go_wp2_with fail
  refine HC.out.mono ?_
  rintro e w1 ⟨rfl, rfl⟩
  go_wp2_with fail
  go_ret
  exact ⟨rfl, Below.refl _ _⟩
set_option maxRecDepth 100000 in
set_option maxHeartbeats 400000 in
theorem ops_nodev (h : NoDev w p) :
    Calls Tryz.prog 31 #[.pointer p] w fun e w' => e = .returned (.int .i64 0) ∧ Below w.heap.size w w' := by
  have HC := Lib.hid (valid_nodev h)
  clear h
  go_enter Tryz.func31, Tryz.ntmps31
  go_wp2_with fail
  refine HC.out.mono ?_
  rintro e w1 ⟨rfl, rfl⟩
  go_wp2_with fail
  go_ret
  exact ⟨rfl, Below.refl _ _⟩
set_option maxRecDepth 100000 in
set_option maxHeartbeats 400000 in
theorem slots_nodev (h : NoDev w p) :
    Calls Tryz.prog 33 #[.pointer p] w fun e w' => e = .returned (.int .i64 0) ∧ Below w.heap.size w w' := by
  have HC := Lib.hid (valid_nodev h)
  clear h
  go_enter Tryz.func33, Tryz.ntmps33
  go_wp2_with fail
  refine HC.out.mono ?_
  rintro e w1 ⟨rfl, rfl⟩
  go_wp2_with fail
  go_ret
  exact ⟨rfl, Below.refl _ _⟩
set_option maxRecDepth 100000 in
set_option maxHeartbeats 400000 in
theorem disk_nodev (h : NoDev w p) :
    Calls Tryz.prog 36 #[.pointer p] w fun e w' => e = .returned (.pointer none) ∧ Below w.heap.size w w' := by
  have HC := Lib.hid (valid_nodev h)
  clear h
  go_enter Tryz.func36, Tryz.ntmps36
  go_wp2_with fail
  refine HC.out.mono ?_
  rintro e w1 ⟨rfl, rfl⟩
  go_wp2_with fail
  go_ret
  exact ⟨rfl, Below.refl _ _⟩
set_option maxRecDepth 100000 in
set_option maxHeartbeats 400000 in
theorem copy_nodev (h : NoDev w p) :
    Calls Tryz.prog 18 #[.pointer p] w fun e w' => e = .returned (.pointer none) ∧ Below w.heap.size w w' := by
  have HC := Lib.hid (valid_nodev h)
  clear h
  go_enter Tryz.func18, Tryz.ntmps18
  go_wp2_with fail
  refine HC.out.mono ?_
  rintro e w1 ⟨rfl, rfl⟩
  go_wp2_with fail
  go_ret
  exact ⟨rfl, Below.refl _ _⟩
set_option maxRecDepth 100000 in
set_option maxHeartbeats 400000 in
theorem restart_nodev (h : NoDev w p) :
    Calls Tryz.prog 16 #[.pointer p] w fun e w' => e = .returned (.int .i64 1) ∧ Below w.heap.size w w' := by
  have HC := Lib.hid (valid_nodev h)
  clear h
  go_enter Tryz.func16, Tryz.ntmps16
  go_wp2_with fail
  refine HC.out.mono ?_
  rintro e w1 ⟨rfl, rfl⟩
  go_wp2_with fail
  go_ret
  exact ⟨rfl, Below.refl _ _⟩
set_option maxRecDepth 100000 in
set_option maxHeartbeats 1000000 in
theorem sync_nodev (h : NoDev w p) (i : Int) :
    Calls Tryz.prog 10 #[.pointer p, .int .i64 i] w fun e w' => e = .returned (.int .i64 1) ∧ Below w.heap.size w w' := by
  have HB : Hid (Below w.heap.size w ((w.alloc (.cells #[.pointer p] 25)).alloc (.cells #[.int .i64 i] 3))) := (((Below.refl _ _).alloc (Nat.le_refl _) _).alloc (by simp) _)
  have HC := Lib.hid (check_nodev (h.below HB.out) i)
  clear h
  go_enter Tryz.func10, Tryz.ntmps10
  go_wp2_with fail
  refine HC.out.mono ?_
  rintro e w1 ⟨rfl, rfl⟩
  go_wp2_with fail
  go_ret
  exact ⟨rfl, HB.out⟩
set_option maxRecDepth 100000 in
set_option maxHeartbeats 1000000 in
theorem erase_nodev (h : NoDev w p) (i : Int) :
    Calls Tryz.prog 12 #[.pointer p, .int .i64 i] w fun e w' => e = .returned (.int .i64 1) ∧ Below w.heap.size w w' := by
  have HB : Hid (Below w.heap.size w ((w.alloc (.cells #[.pointer p] 25)).alloc (.cells #[.int .i64 i] 3))) := (((Below.refl _ _).alloc (Nat.le_refl _) _).alloc (by simp) _)
  have HC := Lib.hid (check_nodev (h.below HB.out) i)
  clear h
  go_enter Tryz.func12, Tryz.ntmps12
  go_wp2_with fail
  refine HC.out.mono ?_
  rintro e w1 ⟨rfl, rfl⟩
  go_wp2_with fail
  go_ret
  exact ⟨rfl, HB.out⟩
set_option maxRecDepth 100000 in
set_option maxHeartbeats 1000000 in
theorem append_nodev (h : NoDev w p) (i : Int) (A : Option Addr) (m c : Nat) :
    Calls Tryz.prog 8 #[.pointer p, .int .i64 i, .slice A m c] w fun e w' => e = .returned (.int .i64 1) ∧ Below w.heap.size w w' := by
  have HB : Hid (Below w.heap.size w (((w.alloc (.cells #[.pointer p] 25)).alloc (.cells #[.int .i64 i] 3)).alloc (.cells #[.slice A m c] 32))) := ((((Below.refl _ _).alloc (Nat.le_refl _) _).alloc (by simp) _).alloc (by simp; omega) _)
  have HC := Lib.hid (check_nodev (h.below HB.out) i)
  clear h
  go_enter Tryz.func8, Tryz.ntmps8
  go_wp2_with fail
  refine HC.out.mono ?_
  rintro e w1 ⟨rfl, rfl⟩
  go_wp2_with fail
  go_ret
  exact ⟨rfl, HB.out⟩
set_option maxRecDepth 100000 in
set_option maxHeartbeats 1000000 in
theorem arm_nodev (h : NoDev w p) (at_ : Int) (dn : Bool) (A : Option Addr) (m c : Nat) :
    Calls Tryz.prog 14 #[.pointer p, .agg #[.int .i64 at_, .bool dn, .slice A m c]] w fun e w' => e = .returned (.int .i64 1) ∧ Below w.heap.size w w' := by
  have HB : Hid (Below w.heap.size w (w.alloc (.cells #[.int .i64 at_, .bool dn, .slice A m c] 35))) := ((Below.refl _ _).alloc (Nat.le_refl _) _)
  have HC := Lib.hid (valid_nodev (h.below HB.out))
  clear h
  go_enter Tryz.func14, Tryz.ntmps14
  go_wp2_with fail
  refine HC.out.mono ?_
  rintro e w1 ⟨rfl, rfl⟩
  go_wp2_with fail
  go_ret
  exact ⟨rfl, HB.out⟩
end
end Go.Proofs.YteglaedkhopbgaaGreat
