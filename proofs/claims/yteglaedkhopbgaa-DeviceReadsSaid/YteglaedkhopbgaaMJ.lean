/-
  The walk of the device laws' examples (works): it returns true and writes nothing that was there; The device laws' begin and do; The device laws' contents: all bytes as strings, and how many are durable; The turns of the device laws as an argument; contents among other objects; The plain law of a device's turns; What the device laws' loops look at: slots that there are not, strings in rows.
-/
import Derived.Test.YteglaedkhopbgaaMI
import Derived.Lib.SlBytesConst
namespace Go.Proofs.Yteglaedkhopbgaa
open Go.RowKit Go.Shelf
set_option linter.unusedVariables false
theorem vlit0 : #[Value.int .u8 97, .int .u8 98, .int .u8 99] = (u8s [97#8, 98#8, 99#8]).toArray := by simp [u8s, u8v, n8_nat]
theorem vlit1 : #[Value.int .u8 100, .int .u8 101] = (u8s [100#8, 101#8]).toArray := by simp [u8s, u8v, n8_nat]
theorem vlit2 : #[Value.int .u8 97] = (u8s [97#8]).toArray := by simp [u8s, u8v, n8_nat]
theorem vlit3 : #[Value.int .u8 120, .int .u8 121, .int .u8 122] = (u8s [120#8, 121#8, 122#8]).toArray := by simp [u8s, u8v, n8_nat]
theorem vlit4 : #[Value.int .u8 102] = (u8s [102#8]).toArray := by simp [u8s, u8v, n8_nat]
set_option maxHeartbeats 400000 in
theorem plan_any (at_ : Int) (dn : Bool) (A : Option Addr) (n c : Nat) (w : World) :
    Calls Try.prog 13 #[.int .i64 at_, .bool dn, .slice A n c] w fun e w' => e = .returned (planV at_ dn A n c) ∧ Below w.heap.size w w' := by
  obtain ⟨W1, hW1⟩ : ∃ W1, W1 = w.alloc (.cells #[.int .i64 at_, .bool dn, .slice A n c] 31) := ⟨_, rfl⟩
  have k1 : Blk W1 w.heap.size 31 #[.int .i64 at_, .bool dn, .slice A n c] := by rw [hW1]; exact Blk.new _ _ _
  have e0 : W1.cell? ⟨w.heap.size, 0, none⟩ = some (.int .i64 at_) := k1.cell 0
  have e1 : W1.cell? ⟨w.heap.size, 1, none⟩ = some (.bool dn) := k1.cell 1
  have e2 : W1.cell? ⟨w.heap.size, 2, none⟩ = some (.slice A n c) := k1.cell 2
  have HB : Hid (Below w.heap.size w W1) := by rw [hW1]; exact (Below.refl _ _).alloc (Nat.le_refl _) _
  have HW := Lib.hid hW1
  clear hW1 k1
  go_enter Try.func13, Try.ntmps13
  go_wp2_with fail
  rw [← HW.out]
  refine bodyPost_ret (v := .agg #[.int .i64 at_, .bool dn, .slice A n c]) (by simp [results, Try.f13, go_sem, e0, e1, e2]) rfl ?_
  exact ⟨rfl, HB.out⟩
set_option maxHeartbeats 4000000 in
set_option maxRecDepth 100000 in
theorem works_any (w : World) :
    Calls Try.prog 19 #[] w fun e w' => e = .returned (.bool true) ∧ Below w.heap.size w w' := by
  have kc : ∀ (W : World) (C : Array Value) (n c : Nat), (convert 27 27 (.slice (some ⟨W.heap.size, 0, none⟩) n c)).run Try.prog (W.alloc (.cells C 5)) = .ok (.slice (some ⟨W.heap.size, 0, none⟩) n c) (W.alloc (.cells C 5 (C.size, C.size + 1))) :=
    fun W C n c => Lib.run_convert_bytes_const (P := Try.prog) W 27 5 C n c Try.underlying27 Try.underlying5
  go_enter Try.func19, Try.ntmps19
  go_wp2_with fail
  refine (sep_vnew (Sep.start w) 2 8 (by omega) (by omega) (by omega) (by omega)).mono ?_
  rintro e w0 ⟨v, L0, rfl, hs⟩
  have H0 : Hid (Sep w.heap.size w w0 (devOb v L0 ⟨2, fD ⟨8, [], 0⟩ ⟨8, [], 0⟩ ⟨64, [], 0⟩ ⟨64, [], 0⟩, none, 0, false⟩ :: [])) := hs.vto rfl rfl rfl rfl (fD_of rfl rfl rfl rfl)
  clear hs
  go_wp2_with fail
  refine (sep_vappend_obj (H0.out.newObj _ _ rfl) AllCells.nil (by decide) 0 [97#8, 98#8, 99#8] 3 3 vlit0 rfl (by omega) (by unfold maxLen; omega)).mono ?_
  rintro e w1 ⟨rfl, L1, hs⟩
  rw [show appVE ⟨2, fD ⟨8, [], 0⟩ ⟨8, [], 0⟩ ⟨64, [], 0⟩ ⟨64, [], 0⟩, none, 0, false⟩ 0 [97#8, 98#8, 99#8] = 0 from rfl]
  have H1 : Hid (Sep w.heap.size w w1 (devOb v L1 ⟨2, fD ⟨8, [97#8, 98#8, 99#8], 0⟩ ⟨8, [], 0⟩ ⟨64, [], 0⟩ ⟨64, [], 0⟩, none, 1, false⟩ :: [])) := hs.vto rfl rfl rfl rfl (fD_of rfl rfl rfl rfl)
  clear hs
  go_wp2_with fail
  refine (sep_vsync H1.out AllCells.nil (by decide) 0).mono ?_
  rintro e w2 ⟨rfl, L2, hs⟩
  rw [show oneVE ⟨2, fD ⟨8, [97#8, 98#8, 99#8], 0⟩ ⟨8, [], 0⟩ ⟨64, [], 0⟩ ⟨64, [], 0⟩, none, 1, false⟩ 0 = 0 from rfl]
  have H2 : Hid (Sep w.heap.size w w2 (devOb v L2 ⟨2, fD ⟨8, [97#8, 98#8, 99#8], 3⟩ ⟨8, [], 0⟩ ⟨64, [], 0⟩ ⟨64, [], 0⟩, none, 2, false⟩ :: [])) := hs.vto rfl rfl rfl rfl (fD_of rfl rfl rfl rfl)
  clear hs
  go_wp2_with fail
  refine (sep_vappend_obj (H2.out.newObj _ _ rfl) AllCells.nil (by decide) 0 [100#8, 101#8] 2 2 vlit1 rfl (by omega) (by unfold maxLen; omega)).mono ?_
  rintro e w3 ⟨rfl, L3, hs⟩
  rw [show appVE ⟨2, fD ⟨8, [97#8, 98#8, 99#8], 3⟩ ⟨8, [], 0⟩ ⟨64, [], 0⟩ ⟨64, [], 0⟩, none, 2, false⟩ 0 [100#8, 101#8] = 0 from rfl]
  have H3 : Hid (Sep w.heap.size w w3 (devOb v L3 ⟨2, fD ⟨8, [97#8, 98#8, 99#8, 100#8, 101#8], 3⟩ ⟨8, [], 0⟩ ⟨64, [], 0⟩ ⟨64, [], 0⟩, none, 3, false⟩ :: [])) := hs.vto rfl rfl rfl rfl (fD_of rfl rfl rfl rfl)
  clear hs
  go_wp2_with fail
  refine (sep_vappend_obj (H3.out.newObj _ _ rfl) AllCells.nil (by decide) 4 [97#8] 1 1 vlit2 rfl (by omega) (by unfold maxLen; omega)).mono ?_
  rintro e w4 ⟨rfl, L4, hs⟩
  rw [show appVE ⟨2, fD ⟨8, [97#8, 98#8, 99#8, 100#8, 101#8], 3⟩ ⟨8, [], 0⟩ ⟨64, [], 0⟩ ⟨64, [], 0⟩, none, 3, false⟩ 4 [97#8] = 3 from rfl]
  have H4 : Hid (Sep w.heap.size w w4 (devOb v L4 ⟨2, fD ⟨8, [97#8, 98#8, 99#8, 100#8, 101#8], 3⟩ ⟨8, [], 0⟩ ⟨64, [], 0⟩ ⟨64, [], 0⟩, none, 3, false⟩ :: [])) := hs.vto rfl rfl rfl rfl (fD_of rfl rfl rfl rfl)
  clear hs
  go_wp2_with fail
  refine (dev_unsynced H4.out.dev 0).mono ?_
  rintro e w5 ⟨rfl, hb⟩
  have H5 := Lib.hid (H4.out.below hb)
  obtain ⟨L5, hL⟩ : ∃ L5, L4 = L5 := ⟨_, rfl⟩
  rw [hL] at H5
  clear hb hL
  rw [show unsV ⟨2, fD ⟨8, [97#8, 98#8, 99#8, 100#8, 101#8], 3⟩ ⟨8, [], 0⟩ ⟨64, [], 0⟩ ⟨64, [], 0⟩, none, 3, false⟩ 0 = 2 from rfl, show chkE ⟨2, fD ⟨8, [97#8, 98#8, 99#8, 100#8, 101#8], 3⟩ ⟨8, [], 0⟩ ⟨64, [], 0⟩ ⟨64, [], 0⟩, none, 3, false⟩ 0 = 0 from rfl]
  go_wp2_with fail
  refine (plan_any 2 false _ 1 1 _).mono ?_
  rintro e w5b ⟨rfl, hb⟩
  have H5b := Lib.hid ((H5.out.newBlk _ 3 #[Value.int .i64 1] rfl).below hb)
  clear hb
  go_wp2_with fail
  refine (sep_varm_blk H5b.out AllCells.nil 2 false [1] 1 rfl rfl (by unfold maxLen; omega) (by omega)).mono ?_
  rintro e w6 ⟨rfl, L6, hs⟩
  rw [show armE 2 [1] = 0 from rfl]
  have H6 : Hid (Sep w.heap.size w w6 (devOb v L6 ⟨2, fD ⟨8, [97#8, 98#8, 99#8, 100#8, 101#8], 3⟩ ⟨8, [], 0⟩ ⟨64, [], 0⟩ ⟨64, [], 0⟩, (some ⟨2, false, [1]⟩), 3, false⟩ :: [])) := hs.vto rfl rfl rfl rfl (fD_of rfl rfl rfl rfl)
  clear hs
  go_wp2_with fail
  refine (sep_vappend_obj (H6.out.newObj _ _ rfl) AllCells.nil (by decide) 1 [120#8, 121#8, 122#8] 3 3 vlit3 rfl (by omega) (by unfold maxLen; omega)).mono ?_
  rintro e w7 ⟨rfl, L7, hs⟩
  rw [show appVE ⟨2, fD ⟨8, [97#8, 98#8, 99#8, 100#8, 101#8], 3⟩ ⟨8, [], 0⟩ ⟨64, [], 0⟩ ⟨64, [], 0⟩, (some ⟨2, false, [1]⟩), 3, false⟩ 1 [120#8, 121#8, 122#8] = 0 from rfl]
  have H7 : Hid (Sep w.heap.size w w7 (devOb v L7 ⟨2, fD ⟨8, [97#8, 98#8, 99#8, 100#8, 101#8], 3⟩ ⟨8, [120#8, 121#8, 122#8], 0⟩ ⟨64, [], 0⟩ ⟨64, [], 0⟩, (some ⟨1, false, [1]⟩), 4, false⟩ :: [])) := hs.vto rfl rfl rfl rfl (fD_of rfl rfl rfl rfl)
  clear hs
  go_wp2_with fail
  refine (sep_vappend_obj (H7.out.newObj _ _ rfl) AllCells.nil (by decide) 0 [102#8] 1 1 vlit4 rfl (by omega) (by unfold maxLen; omega)).mono ?_
  rintro e w8 ⟨rfl, L8, hs⟩
  rw [show appVE ⟨2, fD ⟨8, [97#8, 98#8, 99#8, 100#8, 101#8], 3⟩ ⟨8, [120#8, 121#8, 122#8], 0⟩ ⟨64, [], 0⟩ ⟨64, [], 0⟩, (some ⟨1, false, [1]⟩), 4, false⟩ 0 [102#8] = 13 from rfl]
  have H8 : Hid (Sep w.heap.size w w8 (devOb v L8 ⟨2, fD ⟨8, [97#8, 98#8, 99#8, 100#8], 4⟩ ⟨8, [120#8], 1⟩ ⟨64, [], 0⟩ ⟨64, [], 0⟩, none, 5, true⟩ :: [])) := hs.vto rfl rfl rfl rfl (fD_of rfl rfl rfl rfl)
  clear hs
  go_wp2_with fail
  refine (dev_down H8.out.dev).mono ?_
  rintro e w9 ⟨rfl, hq⟩
  have H9 : Hid (Sep w.heap.size w w9 (devOb v L8 ⟨2, fD ⟨8, [97#8, 98#8, 99#8, 100#8], 4⟩ ⟨8, [120#8], 1⟩ ⟨64, [], 0⟩ ⟨64, [], 0⟩, none, 5, true⟩ :: [])) := by rw [← hq]; exact H8.out
  obtain ⟨L9, hL⟩ : ∃ L9, L8 = L9 := ⟨_, rfl⟩
  rw [hL] at H9
  clear hq hL
  go_wp2_with fail
  refine (sep_vrestart H9.out).mono ?_
  rintro e w10 ⟨rfl, hs⟩
  have H10 : Hid (Sep w.heap.size w w10 (devOb v L9 ⟨2, fD ⟨8, [97#8, 98#8, 99#8, 100#8], 4⟩ ⟨8, [120#8], 1⟩ ⟨64, [], 0⟩ ⟨64, [], 0⟩, none, 5, false⟩ :: [])) := hs.vto rfl rfl rfl rfl (fD_of rfl rfl rfl rfl)
  obtain ⟨L10, hL⟩ : ∃ L10, L9 = L10 := ⟨_, rfl⟩
  rw [hL] at H10
  clear hs hL
  go_wp2_with fail
  refine (dev_read H10.out.dev 0 0 4).mono ?_
  rintro e w11 ⟨u, r, rfl, hq, hb⟩
  obtain ⟨rfl, ho⟩ := read_ok (s := 0) (a := 0) (b := 4) hq rfl (by decide)
  obtain ⟨Ar, cr, rfl, hcr, hrr⟩ := own_reads ho (by omega)
  have HV11 : Hid (Reads w11 w11.heap.size 1 Ar 4 (u8s [97#8, 98#8, 99#8, 100#8])) := hrr
  have H11 := Lib.hid (H10.out.below hb)
  obtain ⟨L11, hL⟩ : ∃ L11, L10 = L11 := ⟨_, rfl⟩
  rw [hL] at H11
  clear hb hL hq ho hrr
  go_wp2_with fail
  refine (dev_len H11.out.dev 1).mono ?_
  rintro e w12 ⟨rfl, hb⟩
  have H12 := Lib.hid (H11.out.below hb)
  obtain ⟨L12, hL⟩ : ∃ L12, L11 = L12 := ⟨_, rfl⟩
  rw [hL] at H12
  have HV12 := Lib.hid ((HV11.out.below hb).more hb.size)
  clear hb hL
  rw [show lenV ⟨2, fD ⟨8, [97#8, 98#8, 99#8, 100#8], 4⟩ ⟨8, [120#8], 1⟩ ⟨64, [], 0⟩ ⟨64, [], 0⟩, none, 5, false⟩ 1 = 1 from rfl, show chkE ⟨2, fD ⟨8, [97#8, 98#8, 99#8, 100#8], 4⟩ ⟨8, [120#8], 1⟩ ⟨64, [], 0⟩ ⟨64, [], 0⟩, none, 5, false⟩ 1 = 0 from rfl]
  have s1 : (convert 27 9 (.slice Ar 4 cr)).run Try.prog w12 = .ok (.string ⟨#[97, 98, 99, 100]⟩) w12 := by
    rw [← strOf_lit (l := [97#8, 98#8, 99#8, 100#8]) (a := #[97, 98, 99, 100]) rfl]
    exact str_bytes HV12.out
  go_wp2_with fail
  refine (dev_ops H12.out.dev).mono ?_
  rintro e w13 ⟨rfl, hq⟩
  have H13 : Hid (Sep w.heap.size w w13 (devOb v L12 ⟨2, fD ⟨8, [97#8, 98#8, 99#8, 100#8], 4⟩ ⟨8, [120#8], 1⟩ ⟨64, [], 0⟩ ⟨64, [], 0⟩, none, 5, false⟩ :: [])) := by rw [← hq]; exact H12.out
  obtain ⟨L13, hL⟩ : ∃ L13, L12 = L13 := ⟨_, rfl⟩
  rw [hL] at H13
  clear hq hL
  go_wp2_with fail
  clear s1
  refine (plan_any 1 true _ 1 1 _).mono ?_
  rintro e w13b ⟨rfl, hb⟩
  have H13b := Lib.hid ((H13.out.newBlk _ 3 #[Value.int .i64 0] rfl).below hb)
  clear hb
  go_wp2_with fail
  refine (sep_varm_blk H13b.out AllCells.nil 1 true [0] 1 rfl rfl (by unfold maxLen; omega) (by omega)).mono ?_
  rintro e w14 ⟨rfl, L14, hs⟩
  rw [show armE 1 [0] = 0 from rfl]
  have H14 : Hid (Sep w.heap.size w w14 (devOb v L14 ⟨2, fD ⟨8, [97#8, 98#8, 99#8, 100#8], 4⟩ ⟨8, [120#8], 1⟩ ⟨64, [], 0⟩ ⟨64, [], 0⟩, (some ⟨1, true, [0]⟩), 5, false⟩ :: [])) := hs.vto rfl rfl rfl rfl (fD_of rfl rfl rfl rfl)
  clear hs
  go_wp2_with fail
  refine (sep_verase H14.out AllCells.nil (by decide) 0).mono ?_
  rintro e w15 ⟨rfl, L15, hs⟩
  rw [show oneVE ⟨2, fD ⟨8, [97#8, 98#8, 99#8, 100#8], 4⟩ ⟨8, [120#8], 1⟩ ⟨64, [], 0⟩ ⟨64, [], 0⟩, (some ⟨1, true, [0]⟩), 5, false⟩ 0 = 13 from rfl]
  have H15 : Hid (Sep w.heap.size w w15 (devOb v L15 ⟨2, fD ⟨8, [], 0⟩ ⟨8, [120#8], 1⟩ ⟨64, [], 0⟩ ⟨64, [], 0⟩, none, 6, true⟩ :: [])) := hs.vto rfl rfl rfl rfl (fD_of rfl rfl rfl rfl)
  clear hs
  go_wp2_with fail
  refine (sep_vrestart H15.out).mono ?_
  rintro e w16 ⟨rfl, hs⟩
  have H16 : Hid (Sep w.heap.size w w16 (devOb v L15 ⟨2, fD ⟨8, [], 0⟩ ⟨8, [120#8], 1⟩ ⟨64, [], 0⟩ ⟨64, [], 0⟩, none, 6, false⟩ :: [])) := hs.vto rfl rfl rfl rfl (fD_of rfl rfl rfl rfl)
  obtain ⟨L16, hL⟩ : ∃ L16, L15 = L16 := ⟨_, rfl⟩
  rw [hL] at H16
  clear hs hL
  go_wp2_with fail
  refine (dev_len H16.out.dev 0).mono ?_
  rintro e w17 ⟨rfl, hb⟩
  have H17 := Lib.hid (H16.out.below hb)
  obtain ⟨L17, hL⟩ : ∃ L17, L16 = L17 := ⟨_, rfl⟩
  rw [hL] at H17
  clear hb hL
  rw [show lenV ⟨2, fD ⟨8, [], 0⟩ ⟨8, [120#8], 1⟩ ⟨64, [], 0⟩ ⟨64, [], 0⟩, none, 6, false⟩ 0 = 0 from rfl, show chkE ⟨2, fD ⟨8, [], 0⟩ ⟨8, [120#8], 1⟩ ⟨64, [], 0⟩ ⟨64, [], 0⟩, none, 6, false⟩ 0 = 0 from rfl]
  go_wp2_with fail
  refine (plan_any 0 false _ 1 1 _).mono ?_
  rintro e w17b ⟨rfl, hb⟩
  have H17b := Lib.hid ((H17.out.newBlk _ 3 #[Value.int .i64 0] rfl).below hb)
  clear hb
  go_wp2_with fail
  refine (sep_varm_blk H17b.out AllCells.nil 0 false [0] 1 rfl rfl (by unfold maxLen; omega) (by omega)).mono ?_
  rintro e w18 ⟨rfl, L18, hs⟩
  rw [show armE 0 [0] = 0 from rfl]
  have H18 : Hid (Sep w.heap.size w w18 (devOb v L18 ⟨2, fD ⟨8, [], 0⟩ ⟨8, [120#8], 1⟩ ⟨64, [], 0⟩ ⟨64, [], 0⟩, none, 6, true⟩ :: [])) := hs.vto rfl rfl rfl rfl (fD_of rfl rfl rfl rfl)
  clear hs
  go_wp2_with fail
  refine (dev_down H18.out.dev).mono ?_
  rintro e w19 ⟨rfl, hq⟩
  have H19 : Hid (Sep w.heap.size w w19 (devOb v L18 ⟨2, fD ⟨8, [], 0⟩ ⟨8, [120#8], 1⟩ ⟨64, [], 0⟩ ⟨64, [], 0⟩, none, 6, true⟩ :: [])) := by rw [← hq]; exact H18.out
  obtain ⟨L19, hL⟩ : ∃ L19, L18 = L19 := ⟨_, rfl⟩
  rw [hL] at H19
  clear hq hL
  go_wp2_with fail
  refine (sep_vsync H19.out AllCells.nil (by decide) 0).mono ?_
  rintro e w20 ⟨rfl, L20, hs⟩
  rw [show oneVE ⟨2, fD ⟨8, [], 0⟩ ⟨8, [120#8], 1⟩ ⟨64, [], 0⟩ ⟨64, [], 0⟩, none, 6, true⟩ 0 = 13 from rfl]
  have H20 : Hid (Sep w.heap.size w w20 (devOb v L20 ⟨2, fD ⟨8, [], 0⟩ ⟨8, [120#8], 1⟩ ⟨64, [], 0⟩ ⟨64, [], 0⟩, none, 6, true⟩ :: [])) := hs.vto rfl rfl rfl rfl (fD_of rfl rfl rfl rfl)
  clear hs
  go_wp2_with fail
  go_ret
  exact ⟨rfl, H20.out.bel⟩
end Go.Proofs.Yteglaedkhopbgaa
namespace Go.Proofs.Yteglaedkhopbgaa
open Go.RowKit Go.Shelf
set_option linter.unusedVariables false
/-- The bytes of a turn. -/
def mvD (b : BitVec 8) (i : Nat) : List (BitVec 8) := (List.range (b.toNat % 12)).map fun k => BitVec.ofNat 8 (i * 16 + k)
theorem mvD_length (b : BitVec 8) (i : Nat) : (mvD b i).length = b.toNat % 12 := by simp [mvD]
theorem mvD_at (b : BitVec 8) (i k : Nat) (h : k < (mvD b i).length) : (mvD b i)[k] = BitVec.ofNat 8 (i * 16 + k) := by simp [mvD]
theorem n8_ofNat (x : Nat) : n8 (BitVec.ofNat 8 x) = ((x : Int) % 256) := by
  rw [n8_nat, BitVec.toNat_ofNat]
  omega
def turnS (X : DevD) (s : BitVec 8) : Nat := s.toNat % (X.n + 2)
/-- What a turn answers, and leaves. -/
def vdoE (X : DevD) (a s b : BitVec 8) (i : Nat) : Int := if a.toNat % 8 < 5 then appVE X (turnS X s : Nat) (mvD b i) else oneVE X (turnS X s : Nat)
def vdoX (X : DevD) (a s b : BitVec 8) (i : Nat) : DevD := if a.toNat % 8 < 5 then appVX X (turnS X s : Nat) (mvD b i) else if a.toNat % 8 = 7 then EraseVX X (turnS X s : Nat) else SyncVX X (turnS X s : Nat)
theorem opX_n (X : DevD) (f : (Nat → SlotD) → (Nat → SlotD)) (g : Bool → Bool) : (opX X f g).n = X.n := rfl
theorem opX_ops (X : DevD) (f : (Nat → SlotD) → (Nat → SlotD)) (g : Bool → Bool) : (opX X f g).ops = X.ops + 1 := rfl
theorem appVX_nums (X : DevD) (i : Int) (b : List (BitVec 8)) : (appVX X i b).n = X.n ∧ (appVX X i b).ops ≤ X.ops + 1 := by
  unfold appVX
  split
  · split
    · exact ⟨rfl, Nat.le_refl _⟩
    · exact ⟨rfl, Nat.le_succ _⟩
  · exact ⟨rfl, Nat.le_succ _⟩
theorem SyncVX_nums (X : DevD) (i : Int) : (SyncVX X i).n = X.n ∧ (SyncVX X i).ops ≤ X.ops + 1 := by
  unfold SyncVX
  split
  · exact ⟨rfl, Nat.le_refl _⟩
  · exact ⟨rfl, Nat.le_succ _⟩
theorem EraseVX_nums (X : DevD) (i : Int) : (EraseVX X i).n = X.n ∧ (EraseVX X i).ops ≤ X.ops + 1 := by
  unfold EraseVX
  split
  · exact ⟨rfl, Nat.le_refl _⟩
  · exact ⟨rfl, Nat.le_succ _⟩
theorem vdoX_nums (X : DevD) (a s b : BitVec 8) (i : Nat) : (vdoX X a s b i).n = X.n ∧ (vdoX X a s b i).ops ≤ X.ops + 1 := by
  unfold vdoX
  split
  · exact appVX_nums _ _ _
  · split
    · exact EraseVX_nums _ _
    · exact SyncVX_nums _ _
def turn3V (a s b : BitVec 8) : Value := .agg #[.int .u8 (n8 a), .int .u8 (n8 s), .int .u8 (n8 b)]
section
variable {B : Nat} {w0 w w' : World} {os : List Ob} {v : Nat} {L : DLay} {X : DevD}
set_option maxHeartbeats 1000000 in
theorem sep_vbegin (h : Sep B w0 w os) (a b : BitVec 8) :
    Calls Try.prog 20 #[.int .u8 (n8 a), .int .u8 (n8 b)] w fun e w' => ∃ v L, e = .returned (.tuple #[.pointer (some ⟨v, 0, none⟩), .int .i64 ((a.toNat % 4 + 2 : Nat) : Int)]) ∧ Sep B w0 w' (devOb v L (newVD (a.toNat % 4 + 2) (b.toNat % 40 + 1)) :: os) := by
  obtain ⟨ha1, ha2⟩ := n8_bd a
  obtain ⟨hb1, hb2⟩ := n8_bd b
  have HN := Lib.hid (sep_vnew h (a.toNat % 4 + 2) (b.toNat % 40 + 1) (by omega) (by omega) (by omega) (by omega))
  obtain ⟨n, hn⟩ : ∃ n, a.toNat % 4 + 2 = n := ⟨_, rfl⟩
  obtain ⟨sz, hsz⟩ : ∃ sz, b.toNat % 40 + 1 = sz := ⟨_, rfl⟩
  have e1 : (2 : Int) + n8 a % 4 = (n : Int) := by rw [n8_nat]; omega
  have e2 : (1 : Int) + n8 b % 40 = (sz : Int) := by rw [n8_nat]; omega
  rw [hn, hsz] at HN
  rw [hn, hsz]
  clear h hn hsz
  go_enter Try.func20, Try.ntmps20
  go_wp2_with fail
  refine HN.out.mono ?_
  rintro e w1 ⟨v, L, rfl, hs⟩
  have HS := Lib.hid hs
  clear hs
  go_wp2_with fail
  go_ret2
  exact ⟨v, L, rfl, HS.out⟩
set_option maxRecDepth 100000 in
set_option maxHeartbeats 4000000 in
theorem sep_vdo (h : Sep B w0 w (devOb v L X :: os)) (hC : AllCells os) (hops : X.ops < 4611686018427387904) (a s b : BitVec 8) (n i : Nat) (hn : X.n = n) (hi : i < 65536) :
    Calls Try.prog 21 #[.pointer (some ⟨v, 0, none⟩), turn3V a s b, .int .i64 (n : Int), .int .i64 (i : Int)] w fun e w' => e = .returned (.int .i64 (vdoE X a s b i)) ∧ ∃ L', Sep B w0 w' (devOb v L' (vdoX X a s b i) :: os) := by
  have hn32 := h.dev.ok.n32
  have hn2 := h.dev.ok.n2
  rw [hn] at hn32 hn2
  obtain ⟨W1, hW1⟩ : ∃ W1, W1 = w.alloc (.cells #[.int .u8 (n8 a), .int .u8 (n8 s), .int .u8 (n8 b)] 44) := ⟨_, rfl⟩
  have h1 : Sep B w0 W1 (devOb v L X :: os) := by rw [hW1]; exact h.alloc _
  have hb1 : Blk W1 w.heap.size 44 #[.int .u8 (n8 a), .int .u8 (n8 s), .int .u8 (n8 b)] := by rw [hW1]; exact Blk.new _ _ _
  have c0 : W1.cell? ⟨w.heap.size, 0, none⟩ = some (.int .u8 (n8 a)) := hb1.cell 0
  have c1 : W1.cell? ⟨w.heap.size, 1, none⟩ = some (.int .u8 (n8 s)) := hb1.cell 1
  have c2 : W1.cell? ⟨w.heap.size, 2, none⟩ = some (.int .u8 (n8 b)) := hb1.cell 2
  have hlt1 : w.heap.size < W1.heap.size := hb1.lt
  obtain ⟨ha1, ha2⟩ := n8_bd a
  obtain ⟨hb1', hb2'⟩ := n8_bd b
  obtain ⟨hs1, hs2⟩ := n8_bd s
  obtain ⟨sl, hsl⟩ : ∃ sl, turnS X s = sl := ⟨_, rfl⟩
  have hrem : Int.tmod (n8 s) ((n : Int) + 2) = (sl : Int) := by rw [n8_nat, Int.tmod_eq_emod_of_nonneg (by omega), ← hsl]; unfold turnS; rw [hn, Int.natCast_emod]; rfl
  obtain ⟨ka, hka⟩ : ∃ ka : Nat, a.toNat % 8 = ka := ⟨_, rfl⟩
  have hka8 : ka < 8 := by omega
  have hkz : n8 a % 8 = (ka : Int) := by rw [n8_nat]; omega
  obtain ⟨m, hm⟩ : ∃ m : Nat, b.toNat % 12 = m := ⟨_, rfl⟩
  have hmz : n8 b % 12 = (m : Int) := by rw [n8_nat]; omega
  have hm12 : m < 12 := by omega
  have hml : (mvD b i).length = m := by rw [mvD_length]; exact hm
  have HS1 := Lib.hid h1
  have HML := Lib.hid hml
  have HCC := Lib.hid hC
  have HW1 := Lib.hid hW1
  unfold vdoE vdoX turn3V
  rw [hka, hsl]
  rw [hW1] at c0 c1 c2
  clear h h1 hb1 hC hsl hka hm hml hW1 hn
  have n20 : ¬ ((n : Int) + 2 = 0) := by omega
  by_cases k5 : ka < 5
  · rw [if_pos k5, if_pos k5]
    have d5 : ((ka : Int) == 5) = false := by simp; omega
    have d6 : ((ka : Int) == 6) = false := by simp; omega
    have d7 : ((ka : Int) == 7) = false := by simp; omega
    have HMK := fun W => make_bytes .i64 m (by omega) W
    obtain ⟨l, hl⟩ : ∃ l, mvD b i = l := ⟨_, rfl⟩
    have HZZ : Hid ((u8s (zbytes m)).toArray = bTo l 0) := by show _ = _; rw [bTo_zero, ← hl, HML.out]
    have HAT : Hid (∀ k (h : k < l.length), n8 l[k] = ((i * 16 + k : Nat) : Int) % 256) := by
      intro k h
      subst hl
      rw [mvD_at b i k h, n8_ofNat]
    rw [hl] at HML ⊢
    clear hl
    go_enter Try.func21, Try.ntmps21
    go_wp2_with fail
    obtain ⟨g, hg⟩ : ∃ g, g = w.heap.size + 1 := ⟨_, rfl⟩
    have hs2 : Sep B w0 (W1.alloc (.cells (bTo l 0) 5)) (blkOb g 5 (bTo l 0) :: devOb v L X :: os) := HS1.out.newBlk g _ _ (by rw [hg, HW1.out]; simp)
    obtain ⟨W2, hW2⟩ : ∃ W2, W2 = W1.alloc (.cells (bTo l 0) 5) := ⟨_, rfl⟩
    rw [← hW2] at hs2
    have HS2 := Lib.hid hs2
    rw [HZZ.out, ← hg, ← HW1.out, ← hW2]
    clear hg hs2 hW2 c0 c1 c2 HMK hrem hkz hmz
    go_loopg [11] m (fun q v11 wr => ∃ j : Nat, j + q = m ∧ v11 = .int .i64 j ∧ Sep B w0 wr (blkOb g 5 (bTo l j) :: devOb v L X :: os))
    case atStart => exact ⟨0, by omega, rfl, HS2.out⟩
    case round =>
      obtain ⟨j, hj, rfl, hs⟩ := hrel
      have HJ := Lib.hid hj
      have hj' : j ≤ m := by omega
      have HS := Lib.hid hs
      by_cases hlt : j < m
      · have hX : j < l.length := by rw [HML.out]; exact hlt
        have hcell : wr.cell? ⟨g, j, none⟩ = some (.int .u8 0) := by rw [(hs.blk0).cell]; exact bTo_next l j hX
        have hfz := (hs.blk0).frozen j
        obtain ⟨z, hz⟩ : ∃ z, ((i : Int) * 16 + (j : Int)) % 256 = z := ⟨_, rfl⟩
        have hw : IntKind.u8.wrap ((i : Int) * 16 + (j : Int)) = z := by rw [← hz]; simp [IntKind.wrap, IntKind.bits, IntKind.signed]
        have HZ : Hid (z = n8 l[j]) := by show _ = _; rw [HAT.out j hX, ← hz]; push_cast; rfl
        have HSET := Lib.hid (bTo_set l j hX)
        clear hj hs hz
        go_wp2_with fail
        go_roundg (gk - 1)
        case measure => have := HJ.out; omega
        case rel =>
          have := HS.out.setBlk j (.int .u8 z)
          rw [HZ.out, HSET.out, ← HZ.out] at this
          exact ⟨j + 1, by have := HJ.out; omega, by go_num, this⟩
      · have e8 : j = m := by omega
        subst e8
        have hall : bTo l j = (u8s l).toArray := by rw [← HML.out]; exact bTo_all l
        have HO := Lib.hid (sep_vappend_obj (g := g) (t := 5) (fr := (0, 0)) (cs := bTo l j) hs HCC.out hops (sl : Int) l j j hall HML.out.symm (Nat.le_refl _) (by unfold maxLen; omega))
        clear hj hs hall
        go_wp2_with fail
        refine HO.out.mono ?_
        rintro e w5 ⟨rfl, L', hs⟩
        have HS5 := Lib.hid hs
        clear hs
        go_wp2_with fail
        go_ret
        exact ⟨rfl, L', HS5.out⟩
  · rw [if_neg k5, if_neg k5]
    by_cases k7 : ka = 7
    · subst k7
      rw [if_pos rfl]
      have HD := Lib.hid (sep_verase HS1.out HCC.out hops (sl : Int))
      rw [HW1.out] at HD
      go_enter Try.func21, Try.ntmps21
      go_wp2_with fail
      refine HD.out.mono ?_
      rintro e w2 ⟨rfl, L', hs⟩
      have HS := Lib.hid hs
      clear hs
      go_wp2_with fail
      go_ret
      exact ⟨rfl, L', HS.out⟩
    · rw [if_neg k7]
      have HD := Lib.hid (sep_vsync HS1.out HCC.out hops (sl : Int))
      rw [HW1.out] at HD
      have hk56 : ka = 5 ∨ ka = 6 := by omega
      rcases hk56 with rfl | rfl
      · go_enter Try.func21, Try.ntmps21
        go_wp2_with fail
        refine HD.out.mono ?_
        rintro e w2 ⟨rfl, L', hs⟩
        have HS := Lib.hid hs
        clear hs
        go_wp2_with fail
        go_ret
        exact ⟨rfl, L', HS.out⟩
      · go_enter Try.func21, Try.ntmps21
        go_wp2_with fail
        refine HD.out.mono ?_
        rintro e w2 ⟨rfl, L', hs⟩
        have HS := Lib.hid hs
        clear hs
        go_wp2_with fail
        go_ret
        exact ⟨rfl, L', HS.out⟩
end
end Go.Proofs.Yteglaedkhopbgaa
namespace Go.Proofs.Yteglaedkhopbgaa
open Go.RowKit Go.Shelf
set_option linter.unusedVariables false
theorem string_info : (Try.prog.info? 9).map (fun i => (i.zero, i.size, i.bytes)) = some (some (.string ByteArray.empty), 1, 16) := by kernel_rfl
def strs (D : Nat → SlotD) (n : Nat) : List Value := (List.range n).map fun i => .string (strOf (D i).bytes)
def durs (D : Nat → SlotD) (n : Nat) : List Int := (List.range n).map fun i => ((D i).dur : Int)
theorem strs_length (D : Nat → SlotD) (n : Nat) : (strs D n).length = n := by simp [strs]
theorem durs_length (D : Nat → SlotD) (n : Nat) : (durs D n).length = n := by simp [durs]
theorem strs_succ (D : Nat → SlotD) (n : Nat) : strs D n ++ [.string (strOf (D n).bytes)] = strs D (n + 1) := by simp [strs, List.range_succ]
theorem durs_succ (D : Nat → SlotD) (n : Nat) : ints (durs D n) ++ ints [((D n).dur : Int)] = ints (durs D (n + 1)) := by simp [durs, ints, List.range_succ]
theorem strs_at {D : Nat → SlotD} {n i : Nat} (h : i < n) : (strs D n)[i]? = some (.string (strOf (D i).bytes)) := by simp [strs, h]
theorem durs_at {D : Nat → SlotD} {n i : Nat} (h : i < n) : (ints (durs D n))[i]? = some (.int .i64 ((D i).dur : Int)) := by simp [durs, ints, h]
/-- A row that has grown. -/
theorem Sep.grow {B : Nat} {w0 w w' : World} {os : List Ob} {e : TypeId} {size n n' : Nat} {v v' : Value} {xs xs' : List Value} (h : Sep B w0 w (rowOb e size v n xs :: os)) (hown : w'.ownsRow 0 e size v' n' xs') (hg : w.grownBy w' v.ownBlock) (hat : v'.ownBlock = v.ownBlock ∨ v'.ownBlock = some w.heap.size) : Sep B w0 w' (rowOb e size v' n' xs' :: os) := by
  refine h.step (a := rowOb e size v n xs) (a' := rowOb e size v' n' xs') ((Chg.refl (fun k => v.ownBlock = some k) w).grown hg (fun q hq => .inl hq)) hown (fun k hk => ?_)
  have hk' : v'.ownBlock = some k := hk
  rcases hat with e1 | e1
  · exact .inl (show v.ownBlock = some k from by rw [← e1]; exact hk')
  · rw [e1] at hk'
    injection hk' with hk'
    exact .inr (by omega)
theorem rowOb_cells {w : World} {e : TypeId} {n : Nat} {v : Value} {xs : List Value} (h : (rowOb e 1 v n xs).P w) : ∃ A c, v = .slice A n c ∧ n ≤ c ∧ c ≤ maxLen ∧ ∀ i, i < n → ∃ ad u, A = some ad ∧ xs[i]? = some u ∧ ad.block < w.heap.size ∧ w.cell? (ad.add i) = some u := by
  have h' : w.ownsRow 0 e 1 v n xs := h
  obtain ⟨A, c, rfl, h1, h2, h3⟩ := own_slice h'
  refine ⟨A, c, rfl, h1, h2, fun i hi => ?_⟩
  obtain ⟨ad, u, e, hb, hx, hc⟩ := h3.at_ hi
  exact ⟨ad, u, e, hx, hb, hc⟩
section
variable {B : Nat} {w0 w w' : World} {os : List Ob} {d n : Nat} {rb : Option Nat} {lay : Lay} {D : Nat → SlotD}
theorem nil_row (W : World) (e : TypeId) : (rowOb e 1 (.slice none 0 0) 0 []).P W := World.ownsRow_nil _ _ _ _
theorem Sep.nilRow (h : Sep B w0 w os) (e : TypeId) : Sep B w0 w (rowOb e 1 (.slice none 0 0) 0 [] :: os) :=
  h.add (a := rowOb e 1 (.slice none 0 0) 0 []) (Below.refl _ _) (nil_row w e) (fun k hk => by cases (show (Value.slice none 0 0).ownBlock = some k from hk))
set_option maxRecDepth 100000 in
set_option maxHeartbeats 4000000 in
theorem contents_any (h : IsDisk w d rb n lay D) (hn : 0 < n) (hn34 : n ≤ 34) :
    Calls Try.prog 26 #[.pointer (some ⟨d, 0, none⟩)] w fun e w' => ∃ u v, e = .returned (.tuple #[u, v]) ∧ Sep w.heap.size w w' [rowOb 9 1 u n (strs D n), rowOb 3 1 v n (ints (durs D n))] := by
  obtain ⟨i0, hi0, hz0, hz1, hz2⟩ := info_parts string_info
  obtain ⟨i1, hi1, hy0, hy1, hy2⟩ := info_parts clone_int_info
  have H := Lib.hid h
  have HST : Hid (Sep w.heap.size w w [rowOb 9 1 (.slice none 0 0) 0 (strs D 0), rowOb 3 1 (.slice none 0 0) 0 (ints (durs D 0))]) :=
    ((Sep.start w).nilRow _).nilRow _
  clear h
  go_enter Try.func26, Try.ntmps26
  go_wp2_with fail
  go_loopg [4, 5, 6] n (fun q v4 v5 v6 wr => ∃ j : Nat, j + q = n ∧ v6 = .int .i64 j ∧ Sep w.heap.size w wr [rowOb 9 1 v4 j (strs D j), rowOb 3 1 v5 j (ints (durs D j))])
  case atStart => exact ⟨0, by omega, rfl, HST.out⟩
  case round =>
    obtain ⟨j, hj, rfl, hs⟩ := hrel
    have HJ := Lib.hid hj
    have hj' : j ≤ n := by omega
    have HS := Lib.hid hs
    have HD := Lib.hid (H.out.below hs.bel)
    clear hj hs
    go_wp2_with fail
    refine (slots_disk HD.out hn).mono ?_
    rintro e w1 ⟨rfl, rfl⟩
    by_cases hlt : j < n
    · obtain ⟨bs, hbs⟩ : ∃ bs, (D j).bytes = bs := ⟨_, rfl⟩
      obtain ⟨du, hdu⟩ : ∃ du, (D j).dur = du := ⟨_, rfl⟩
      have hnum := HD.out.nums hlt
      have HLN := Lib.hid (disk_len HD.out hn j hlt)
      rw [hbs] at HLN hnum
      have HBS := Lib.hid hbs
      have HDU := Lib.hid hdu
      obtain ⟨ln, hln⟩ : ∃ ln, bs.length = ln := ⟨_, rfl⟩
      rw [hln] at HLN hnum
      have HLL := Lib.hid hln
      obtain ⟨_, hl1, hl2, hl3⟩ := hnum
      clear hbs hdu hln
      go_wp2_with fail
      refine HLN.out.mono ?_
      rintro e w1 ⟨rfl, hb1⟩
      have HD1 := Lib.hid (HD.out.below hb1)
      have HB1 := Lib.hid hb1
      clear hb1 HLN
      have HRD := Lib.hid (disk_read_ok HD1.out hn j hlt 0 ln (by rw [HBS.out, HLL.out]; omega))
      rw [HBS.out, List.drop_zero, List.take_of_length_le (by rw [HLL.out]; exact Nat.le_refl _)] at HRD
      go_wp2_with fail
      refine HRD.out.mono ?_
      rintro e w2 ⟨v9, rfl, ho, hb2⟩
      obtain ⟨A9, c9, rfl, hc9, hr9⟩ := own_reads ho (by omega)
      have HD2 := Lib.hid (HD1.out.below hb2)
      have HB2 : Hid (Below wr.heap.size wr w2) := bt HB1.out hb2
      have HR2 := Lib.hid hr9
      clear ho hb2 hr9 HRD
      have HDR := Lib.hid (disk_durable HD2.out hn j hlt)
      rw [HDU.out] at HDR
      go_wp2_with fail
      refine HDR.out.mono ?_
      rintro e w3 ⟨rfl, hb3⟩
      have HS3 : Hid (Sep w.heap.size w w3 _) := HS.out.below (bt HB2.out hb3)
      have hcv : (convert 27 9 (.slice A9 ln c9)).run Try.prog w3 = .ok (.string (strOf bs)) w3 := str_bytes ((HR2.out.below hb3).more hb3.size)
      clear hb3 HDR
      have HS4 : Hid (Sep w.heap.size w (w3.alloc (.cells #[.string (strOf bs)] 9)) _) := HS3.out.alloc _
      have HN4 : Hid (Reads (w3.alloc (.cells #[.string (strOf bs)] 9)) (w3.heap.size + 1) 1 (some ⟨w3.heap.size, 0, none⟩) 1 [.string (strOf bs)]) := reads_news w3 9 #[.string (strOf bs)] (0, 0) 1 rfl
      have HO4 : Hid ((w3.alloc (.cells #[.string (strOf bs)] 9)).ownsRow 0 9 1 u4 j (strs D j)) := HS4.out.get (.head _)
      go_wp2_with (first
        | (at_builtin
           refine wpList_append_any _ rfl (.tmp 38) (.tmp 41) _ rfl 0 9 i0 _ 1 16 Try.underlying42 hi0 hz0 hz1 hz2 rfl (by omega) u4 j (strs D j) rfl
             HO4.out (w3.heap.size + 1) _ 1 1 [.string (strOf bs)] rfl HN4.out (by intro u hu; simp at hu; subst hu; rfl) (by simp only [maxLen]; omega) (by omega) (Nat.zero_le _) ?_
           intro v4' w4 hown4 hg4 hat4
           rw [← HBS.out, strs_succ] at hown4
           have HS5 : Hid (Sep w.heap.size w w4 (rowOb 9 1 v4' (j + 1) (strs D (j + 1)) :: rowOb 3 1 u5 j (ints (durs D j)) :: [])) := HS4.out.grow hown4 hg4 hat4
           have HS6 : Hid (Sep w.heap.size w (w4.alloc (.cells #[.int .i64 (du : Int)] 3)) (rowOb 9 1 v4' (j + 1) (strs D (j + 1)) :: rowOb 3 1 u5 j (ints (durs D j)) :: [])) := HS5.out.alloc _
           have HN6 : Hid (Reads (w4.alloc (.cells #[.int .i64 (du : Int)] 3)) (w4.heap.size + 1) 1 (some ⟨w4.heap.size, 0, none⟩) 1 (ints [(du : Int)])) := reads_news w4 3 #[.int .i64 (du : Int)] (0, 0) 1 rfl
           have HO6 : Hid ((w4.alloc (.cells #[.int .i64 (du : Int)] 3)).ownsRow 0 3 1 u5 j (ints (durs D j))) := HS6.out.get (.tail _ (.head _))
           clear hown4 hg4 hat4)
        | (at_builtin
           refine wpList_append_any _ rfl (.tmp 43) (.tmp 45) _ rfl 0 3 i1 _ 1 8 Try.underlying29 hi1 hy0 hy1 hy2 rfl (by omega) u5 j (ints (durs D j)) rfl
             HO6.out (w4.heap.size + 1) _ 1 1 (ints [(du : Int)]) rfl HN6.out (ints_one' _) (by simp only [maxLen]; omega) (by omega) (Nat.zero_le _) ?_
           intro v5' w6 hown6 hg6 hat6
           rw [← HDU.out, durs_succ] at hown6
           have HS7 : Hid (Sep w.heap.size w w6 [rowOb 9 1 v4' (j + 1) (strs D (j + 1)), rowOb 3 1 v5' (j + 1) (ints (durs D (j + 1)))]) := ((HS6.out.perm (.swap _ _ _)).grow hown6 hg6 hat6).perm (.swap _ _ _)
           clear hown6 hg6 hat6))
      go_roundg (gk - 1)
      case measure => have := HJ.out; omega
      case rel => exact ⟨j + 1, by have := HJ.out; omega, by go_num, HS7.out⟩
    · have e8 : j = n := by omega
      subst e8
      go_wp2_with fail
      go_ret2
      exact ⟨_, _, rfl, HS.out⟩
end
end Go.Proofs.Yteglaedkhopbgaa
namespace Go.Proofs.Yteglaedkhopbgaa
open Go.RowKit Go.Shelf
set_option linter.unusedVariables false
structure Turn3 where
  a : BitVec 8
  s : BitVec 8
  b : BitVec 8
structure TurnAt (w : World) (B : Nat) (A : Option Addr) (i : Nat) (ad : Addr) (t : Turn3) : Prop where
  a : A = some ad
  lt : ad.block < B
  c0 : w.cell? (ad.add (i * 3)) = some (.int .u8 (n8 t.a))
  c1 : w.cell? ⟨(ad.add (i * 3)).block, (ad.add (i * 3)).off + 1, none⟩ = some (.int .u8 (n8 t.s))
  c2 : w.cell? ⟨(ad.add (i * 3)).block, (ad.add (i * 3)).off + 2, none⟩ = some (.int .u8 (n8 t.b))
def TurnsAt (w : World) (B : Nat) (A : Option Addr) (n : Nat) (ts : Nat → Turn3) : Prop := ∀ i, i < n → ∃ ad, TurnAt w B A i ad (ts i)
theorem TurnsAt.below {w w' : World} {A : Option Addr} {n : Nat} {ts : Nat → Turn3} {B : Nat} (h : TurnsAt w B A n ts) (hb : Below B w w') : TurnsAt w' B A n ts := fun i hi => by
  obtain ⟨ad, h⟩ := h i hi
  have key : ∀ p : Addr, p.block = ad.block → w'.cell? p = w.cell? p := fun p hp => hb.cell (by rw [hp]; exact h.lt)
  exact ⟨ad, h.a, h.lt, (key _ (block_of_add _ _)).trans h.c0, (key ⟨(ad.add (i * 3)).block, _, none⟩ (block_of_add ad (i * 3))).trans h.c1, (key ⟨(ad.add (i * 3)).block, _, none⟩ (block_of_add ad (i * 3))).trans h.c2⟩
set_option maxRecDepth 100000 in
theorem turn_of_rd {w : World} {cs : List Value} (hl : cs.length = Try.prog.cellsOf 44)
    (hf : ∀ (i : Nat) (f : Field), (match Try.prog.underlying 44 with | some (.struct fs) => fs[i]? | _ => none) = some f → Rd Try.prog w f.type ((cs.drop f.offset).take (Try.prog.cellsOf f.type))) :
    ∃ t : Turn3, cs = [Value.int .u8 (n8 t.a), .int .u8 (n8 t.s), .int .u8 (n8 t.b)] := by
  have hC : Try.prog.cellsOf 44 = 3 := by kernel_rfl
  have hC1 : Try.prog.cellsOf 5 = 1 := by kernel_rfl
  rw [hC] at hl
  obtain ⟨x0, x1, x2, rfl⟩ : ∃ a b c, cs = [a, b, c] := by
    match cs, hl with
    | [a, b, c], _ => exact ⟨a, b, c, rfl⟩
  rw [Try.underlying44] at hf
  have g0 : Rd Try.prog w 5 [x0] := by simpa [hC1] using hf 0 _ rfl
  have g1 : Rd Try.prog w 5 [x1] := by simpa [hC1] using hf 1 _ rfl
  have g2 : Rd Try.prog w 5 [x2] := by simpa [hC1] using hf 2 _ rfl
  obtain ⟨y0, e0, w0⟩ := Rd.int (k := .u8) Try.underlying5 g0
  obtain ⟨y1, e1, w1⟩ := Rd.int (k := .u8) Try.underlying5 g1
  obtain ⟨y2, e2, w2⟩ := Rd.int (k := .u8) Try.underlying5 g2
  obtain ⟨b0, rfl⟩ := u8_of_wf w0
  obtain ⟨b1, rfl⟩ := u8_of_wf w1
  obtain ⟨b2, rfl⟩ := u8_of_wf w2
  refine ⟨⟨b0, b1, b2⟩, ?_⟩
  have e0' : x0 = .int .u8 (n8 b0) := by simpa using e0
  have e1' : x1 = .int .u8 (n8 b1) := by simpa using e1
  have e2' : x2 = .int .u8 (n8 b2) := by simpa using e2
  subst e0' e1' e2'
  rfl
set_option maxRecDepth 100000 in
theorem turns_arg {w : World} {v : Value} (h : ArgIn Try.prog w 39 v) : ∃ A n c ts, v = .slice A n c ∧ n ≤ c ∧ c ≤ maxLen ∧ TurnsAt w w.heap.size A n ts := by
  obtain ⟨A, n, c, xs, rfl, h1, h2, h3, h4⟩ := h.slice (e := 44) rfl (by decide +kernel)
  have hC : Try.prog.cellsOf 44 = 3 := by kernel_rfl
  have hC1 : Try.prog.cellsOf 5 = 1 := by kernel_rfl
  have key : ∀ i, ∃ t : Turn3, i < n → ∃ ad, TurnAt w w.heap.size A i ad t := fun i => by
    by_cases hi : i < n
    · obtain ⟨hl, hf⟩ := Rd.struct Try.underlying44 (h4 i hi)
      obtain ⟨t, e⟩ := turn_of_rd hl (fun i f hf' => by rw [Try.underlying44] at hf'; exact hf i f hf')
      rw [hC] at h3 e
      obtain ⟨ad, ea, hbk, hc⟩ := h3.2 (by omega)
      have at_ : ∀ q v, [Value.int .u8 (n8 t.a), .int .u8 (n8 t.s), .int .u8 (n8 t.b)][q]? = some v → q < 3 → w.cell? ((ad.add (i * 3)).add q) = some v := by
        intro q v hq hq3
        rw [← e, List.getElem?_take, if_pos hq3, List.getElem?_drop] at hq
        rw [add_of_add]
        exact hc _ _ hq
      refine ⟨t, fun _ => ⟨ad, ea, hbk, ?_, ?_, ?_⟩⟩
      · have := at_ 0 _ rfl (by omega); rw [add_of_add, Nat.add_zero] at this; exact this
      · exact at_ 1 _ rfl (by omega)
      · exact at_ 2 _ rfl (by omega)
    · exact ⟨⟨0, 0, 0⟩, fun h => absurd h hi⟩
  exact ⟨A, n, c, fun i => (key i).choose, rfl, h1, h2, fun i hi => (key i).choose_spec hi⟩
theorem Sep.adds {B : Nat} {w0 w w' : World} {os os' : List Ob} (h : Sep B w0 w os) (k : Sep w.heap.size w w' os') : Sep B w0 w' (os' ++ os) := by
  have h2 := h.below k.bel
  refine ⟨h2.bel, h2.big, fun o ho => ?_, List.pairwise_append.2 ⟨k.apart, h.apart, fun a ha b hb q hq hq2 => ?_⟩⟩
  · rcases List.mem_append.1 ho with ho | ho
    · exact ⟨(k.all o ho).1, fun q hq => Nat.le_trans h.big ((k.all o ho).2 q hq)⟩
    · exact h2.all o ho
  · have h3 := (k.all a ha).2 q hq
    have h4 := b.lt (h.all b hb).1 q hq2
    omega
theorem sep_contents {B : Nat} {w0 w : World} {os : List Ob} {d n : Nat} {rb : Option Nat} {lay : Lay} {D : Nat → SlotD} (h : Sep B w0 w os) (hd : IsDisk w d rb n lay D) (hn : 0 < n) (hn34 : n ≤ 34) :
    Calls Try.prog 26 #[.pointer (some ⟨d, 0, none⟩)] w fun e w' => ∃ u v, e = .returned (.tuple #[u, v]) ∧ Sep B w0 w' (rowOb 9 1 u n (strs D n) :: rowOb 3 1 v n (ints (durs D n)) :: os) := by
  refine (contents_any hd hn hn34).mono ?_
  rintro e w' ⟨u, v, h1, h2⟩
  exact ⟨u, v, h1, h.adds h2⟩
end Go.Proofs.Yteglaedkhopbgaa
namespace Go.Proofs.Yteglaedkhopbgaa
open Go.RowKit Go.Shelf
set_option linter.unusedVariables false
/-- The devices after so many turns. -/
def runV (X : DevD) (ts : Nat → Turn3) : Nat → DevD
  | 0 => X
  | j + 1 => vdoX (runV X ts j) (ts j).a (ts j).s (ts j).b j
theorem runV_nums (X : DevD) (ts : Nat → Turn3) (j : Nat) : (runV X ts j).n = X.n ∧ (runV X ts j).ops ≤ X.ops + j := by
  induction j with
  | zero => exact ⟨rfl, Nat.le_refl _⟩
  | succ j ih =>
    have h := vdoX_nums (runV X ts j) (ts j).a (ts j).s (ts j).b j
    exact ⟨h.1.trans ih.1, Nat.le_trans h.2 (by omega)⟩
def szAt (n sz i : Nat) : Nat := if i < n then sz else 64
/-- A device without a plan, up, with these sizes. -/
structure Peace (X : DevD) (n sz : Nat) : Prop where
  hT : X.T = none
  up : X.down = false
  hn : X.n = n
  size : ∀ i, i < n + 2 → (X.D i).size = szAt n sz i
  num : ∀ i, i < n + 2 → (X.D i).dur ≤ (X.D i).bytes.length ∧ (X.D i).bytes.length ≤ (X.D i).size
theorem calm_new (n sz : Nat) : Peace (newVD n sz) n sz := ⟨rfl, rfl, rfl, fun i hi => rfl, fun i hi => ⟨Nat.le_refl _, Nat.zero_le _⟩⟩
theorem Peace.chk {X : DevD} {n sz : Nat} (h : Peace X n sz) (s : Nat) (hs : s < n + 2) : chkE X (s : Int) = 0 := by
  unfold chkE
  rw [if_neg (by rw [h.up]; exact Bool.false_ne_true), if_pos ⟨by omega, by rw [h.hn]; omega⟩]
theorem Peace.tick {X : DevD} {n sz : Nat} (h : Peace X n sz) : tickB X.T = false := by rw [h.hT]; rfl
theorem Peace.opE {X : DevD} {n sz : Nat} (h : Peace X n sz) : opE X = 0 := by unfold Proofs.Yteglaedkhopbgaa.opE; rw [h.tick]; rfl
theorem Peace.turnS {X : DevD} {n sz : Nat} (h : Peace X n sz) (s : BitVec 8) : turnS X s = s.toNat % (n + 2) := by unfold Proofs.Yteglaedkhopbgaa.turnS; rw [h.hn]
theorem Peace.slot {X : DevD} {n sz : Nat} (h : Peace X n sz) (s : BitVec 8) : Proofs.Yteglaedkhopbgaa.turnS X s < n + 2 := by rw [h.turnS]; exact Nat.mod_lt _ (by omega)
theorem updF_or {α : Type} (f : Nat → α) (i j : Nat) (x : α) : updF f i x j = x ∧ j = i ∨ updF f i x j = f j ∧ j ≠ i := by
  unfold updF
  by_cases h : j = i
  · exact .inl ⟨if_pos h, h⟩
  · exact .inr ⟨if_neg h, h⟩
/-- What a turn makes of a disk that is calm. -/
def turnF (n : Nat) (D : Nat → SlotD) (a s b : BitVec 8) (i : Nat) : Nat → SlotD :=
  if a.toNat % 8 < 5 then appD D (s.toNat % (n + 2)) (mvD b i) else if a.toNat % 8 = 7 then eraseD D (s.toNat % (n + 2)) else syncD D (s.toNat % (n + 2))
/-- Whether it is made. -/
def turnOk (n : Nat) (D : Nat → SlotD) (a s b : BitVec 8) (i : Nat) : Prop := a.toNat % 8 < 5 → (D (s.toNat % (n + 2))).bytes.length + (mvD b i).length ≤ (D (s.toNat % (n + 2))).size
instance (n : Nat) (D : Nat → SlotD) (a s b : BitVec 8) (i : Nat) : Decidable (turnOk n D a s b i) := by unfold turnOk; infer_instance
/-- A turn of a calm device. -/
theorem calm_do {X : DevD} {n sz : Nat} (h : Peace X n sz) (a s b : BitVec 8) (i : Nat) :
    (turnOk n X.D a s b i ∧ vdoE X a s b i = 0 ∧ vdoX X a s b i = { X with D := turnF n X.D a s b i, ops := X.ops + 1 }) ∨
      (¬ turnOk n X.D a s b i ∧ vdoE X a s b i = 4 ∧ vdoX X a s b i = X) := by
  have hc := h.chk _ (h.slot s)
  have ht := h.turnS s
  have hop : ∀ f g, opX X f g = { X with D := f X.D, ops := X.ops + 1 } := fun f g => by
    rw [opX_no h.tick]
    unfold midX
    rw [h.hT]
    cases X
    rename_i T _ _
    cases (show T = none from h.hT)
    rfl
  unfold vdoE vdoX turnF turnOk
  by_cases ha : a.toNat % 8 < 5
  · rw [if_pos ha, if_pos ha, if_pos ha]
    unfold appVE appVX
    rw [if_pos hc, if_pos hc, Int.toNat_natCast, ht, h.opE, hop]
    by_cases hf : (X.D (s.toNat % (n + 2))).bytes.length + (mvD b i).length ≤ (X.D (s.toNat % (n + 2))).size
    · exact .inl ⟨fun _ => hf, if_pos hf, if_pos hf⟩
    · exact .inr ⟨fun hh => hf (hh ha), if_neg hf, if_neg hf⟩
  · rw [if_neg ha, if_neg ha, if_neg ha]
    refine .inl ⟨fun hh => absurd hh ha, ?_, ?_⟩
    · unfold oneVE
      rw [if_pos hc, h.opE]
    · by_cases h7 : a.toNat % 8 = 7
      · rw [if_pos h7, if_pos h7]
        unfold EraseVX
        rw [if_pos hc, Int.toNat_natCast, ht, hop]
      · rw [if_neg h7, if_neg h7]
        unfold SyncVX
        rw [if_pos hc, Int.toNat_natCast, ht, hop]
theorem turnF_num {n sz : Nat} {D : Nat → SlotD} (hs : ∀ i, i < n + 2 → (D i).size = szAt n sz i) (hm : ∀ i, i < n + 2 → (D i).dur ≤ (D i).bytes.length ∧ (D i).bytes.length ≤ (D i).size) (a s b : BitVec 8) (i : Nat) (hok : turnOk n D a s b i) :
    ∀ j, j < n + 2 → (turnF n D a s b i j).size = szAt n sz j ∧ (turnF n D a s b i j).dur ≤ (turnF n D a s b i j).bytes.length ∧ (turnF n D a s b i j).bytes.length ≤ (turnF n D a s b i j).size := by
  intro j hj
  have h0 := hs j hj
  have h1 := hm j hj
  unfold turnF
  by_cases ha : a.toNat % 8 < 5
  · have hf := hok ha
    rw [if_pos ha]
    unfold appD
    rw [if_pos hf]
    rcases updF_or D (s.toNat % (n + 2)) j ⟨(D (s.toNat % (n + 2))).size, (D (s.toNat % (n + 2))).bytes ++ mvD b i, (D (s.toNat % (n + 2))).dur⟩ with ⟨e, rfl⟩ | ⟨e, _⟩
    · rw [e]
      refine ⟨h0, ?_, ?_⟩
      · simp only [List.length_append]; omega
      · simp only [List.length_append]; omega
    · rw [e]; exact ⟨h0, h1⟩
  · rw [if_neg ha]
    by_cases h7 : a.toNat % 8 = 7
    · rw [if_pos h7]
      unfold eraseD
      rcases updF_or D (s.toNat % (n + 2)) j ⟨(D (s.toNat % (n + 2))).size, [], 0⟩ with ⟨e, rfl⟩ | ⟨e, _⟩
      · rw [e]; exact ⟨h0, Nat.le_refl _, Nat.zero_le _⟩
      · rw [e]; exact ⟨h0, h1⟩
    · rw [if_neg h7]
      unfold syncD
      rcases updF_or D (s.toNat % (n + 2)) j ⟨(D (s.toNat % (n + 2))).size, (D (s.toNat % (n + 2))).bytes, (D (s.toNat % (n + 2))).bytes.length⟩ with ⟨e, rfl⟩ | ⟨e, _⟩
      · rw [e]; exact ⟨h0, Nat.le_refl _, h1.2⟩
      · rw [e]; exact ⟨h0, h1⟩
theorem calm_next {X : DevD} {n sz : Nat} (h : Peace X n sz) (a s b : BitVec 8) (i : Nat) : Peace (vdoX X a s b i) n sz := by
  rcases calm_do h a s b i with ⟨hok, _, e⟩ | ⟨_, _, e⟩
  · rw [e]
    have k := turnF_num h.size h.num a s b i hok
    exact ⟨h.hT, h.up, h.hn, fun j hj => (k j hj).1, fun j hj => (k j hj).2⟩
  · rw [e]; exact h
theorem calm_run {X : DevD} {n sz : Nat} (h : Peace X n sz) (ts : Nat → Turn3) (j : Nat) : Peace (runV X ts j) n sz := by
  induction j with
  | zero => exact h
  | succ j ih => exact calm_next ih _ _ _ _
end Go.Proofs.Yteglaedkhopbgaa
namespace Go.Proofs.Yteglaedkhopbgaa
open Go.RowKit Go.Shelf
set_option linter.unusedVariables false
theorem runV_new (n sz : Nat) (ts : Nat → Turn3) (j : Nat) : (runV (newVD n sz) ts j).n = n ∧ (runV (newVD n sz) ts j).ops ≤ j := by
  have h := runV_nums (newVD n sz) ts j
  exact ⟨h.1, by have h2 := h.2; have e : (newVD n sz).ops = 0 := rfl; omega⟩
section
variable {X : DevD} {n sz : Nat} {z : Int}
theorem Peace.out (h : Peace X n sz) (hz : z < 0 ∨ (n : Int) + 2 ≤ z) : chkE X z = 3 := by
  unfold chkE
  rw [if_neg (by rw [h.up]; exact Bool.false_ne_true), if_neg (by unfold inRange; rw [h.hn]; omega)]
theorem Peace.out_app (h : Peace X n sz) (hz : z < 0 ∨ (n : Int) + 2 ≤ z) (b : List (BitVec 8)) : appVE X z b = 3 ∧ appVX X z b = X := by
  unfold appVE appVX
  rw [h.out hz, if_neg (by omega), if_neg (by omega)]
  exact ⟨rfl, rfl⟩
theorem Peace.out_sync (h : Peace X n sz) (hz : z < 0 ∨ (n : Int) + 2 ≤ z) : oneVE X z = 3 ∧ SyncVX X z = X ∧ EraseVX X z = X := by
  unfold oneVE SyncVX EraseVX
  rw [h.out hz, if_neg (by omega), if_neg (by omega), if_neg (by omega)]
  exact ⟨rfl, rfl, rfl⟩
theorem Peace.out_num (h : Peace X n sz) (hz : z < 0 ∨ (n : Int) + 2 ≤ z) : lenV X z = 0 ∧ roomV X z = 0 ∧ unsV X z = 0 := by
  unfold lenV roomV unsV
  rw [h.out hz, if_neg (by omega), if_neg (by omega), if_neg (by omega)]
  exact ⟨rfl, rfl, rfl⟩
theorem Peace.out_read {w w' : World} {off m : Int} {u : Value} {r : Int} (h : Peace X n sz) (hz : z < 0 ∨ (n : Int) + 2 ≤ z) (hq : VReadQ w X z off m u r w') : r = 3 ∧ u = .slice none 0 0 := by
  rcases hq with ⟨_, h2, h3⟩ | ⟨h1, _⟩
  · rw [h.out hz] at h2; exact ⟨h2, h3⟩
  · rw [h.out hz] at h1; omega
theorem Peace.full (h : Peace X n sz) (s : Nat) (hs : s < n + 2) (b : List (BitVec 8)) (hb : szAt n sz s < b.length) : appVE X (s : Int) b = 4 ∧ appVX X (s : Int) b = X := by
  unfold appVE appVX
  rw [if_pos (h.chk s hs), if_pos (h.chk s hs), Int.toNat_natCast, h.size s hs, if_neg (by omega), if_neg (by omega)]
  exact ⟨rfl, rfl⟩
end
theorem armX_no {X : DevD} {at_ : Int} {dn : Bool} {keep : List Int} (h : ¬ okPlan at_ keep) : armE at_ keep = 2 ∧ armX X at_ dn keep = X := by
  unfold armE armX
  rw [if_neg h, if_neg h]
  exact ⟨rfl, rfl⟩
theorem row_cell {w : World} {e : TypeId} {n q : Nat} {A : Option Addr} {xs : List Value} (h : (rowOb e 1 (.slice A n q) n xs).P w) (i : Nat) (hi : i < n) : ∃ ad u, A = some ad ∧ xs[i]? = some u ∧ ad.block < w.heap.size ∧ w.cell? (ad.add i) = some u := by
  obtain ⟨A', c', e1, _, _, h4⟩ := rowOb_cells h
  injection e1 with e1
  subst e1
  exact h4 i hi
theorem row_form {w : World} {e : TypeId} {n : Nat} {v : Value} {xs : List Value} (h : (rowOb e 1 v n xs).P w) : ∃ A c, v = .slice A n c ∧ n ≤ c ∧ c ≤ maxLen := by
  obtain ⟨A, c, e, h1, h2, _⟩ := rowOb_cells h
  exact ⟨A, c, e, h1, h2⟩
/-- A string of a row. -/
theorem str_cell {w : World} {n q : Nat} {A : Option Addr} {D : Nat → SlotD} (h : (rowOb 9 1 (.slice A n q) n (strs D n)).P w) (i : Nat) (hi : i < n) : ∃ ad, A = some ad ∧ w.cell? (ad.add i) = some (.string (strOf (D i).bytes)) := by
  obtain ⟨ad, u, e, hu, _, hc⟩ := row_cell h i hi
  rw [strs_at hi] at hu
  injection hu with hu
  subst hu
  exact ⟨ad, e, hc⟩
theorem dur_cell {w : World} {n q : Nat} {A : Option Addr} {D : Nat → SlotD} (h : (rowOb 3 1 (.slice A n q) n (ints (durs D n))).P w) (i : Nat) (hi : i < n) : ∃ ad, A = some ad ∧ w.cell? (ad.add i) = some (.int .i64 ((D i).dur : Int)) := by
  obtain ⟨ad, u, e, hu, _, hc⟩ := row_cell h i hi
  rw [durs_at hi] at hu
  injection hu with hu
  subst hu
  exact ⟨ad, e, hc⟩
end Go.Proofs.Yteglaedkhopbgaa
