/-
  The walk of the disk laws' examples (works): it returns true and writes nothing that was there. No condition.
-/
import Derived.Test.YtelobbigpgfobaaDsep
import Derived.Lib.SlBytesConst
namespace Go.Proofs.Ytelobbigpgfobaa
open Go.RowKit
set_option linter.unusedVariables false
theorem lit0 : #[Value.int .u8 97, .int .u8 98, .int .u8 99] = (u8s [97#8, 98#8, 99#8]).toArray := by simp [u8s, u8v, n8_nat]
theorem lit1 : #[Value.int .u8 100, .int .u8 101] = (u8s [100#8, 101#8]).toArray := by simp [u8s, u8v, n8_nat]
theorem lit2 : #[Value.int .u8 120, .int .u8 121, .int .u8 122] = (u8s [120#8, 121#8, 122#8]).toArray := by simp [u8s, u8v, n8_nat]
theorem lit3 : #[Value.int .u8 100] = (u8s [100#8]).toArray := by simp [u8s, u8v, n8_nat]
set_option maxHeartbeats 4000000 in
set_option maxRecDepth 100000 in
theorem works_any (w : World) :
    Calls Try.prog 10 #[] w fun e w' => e = .returned (.bool true) ∧ Below w.heap.size w w' := by
  have H0 : Hid (Sep w.heap.size w (w.alloc (.cells #[.int .i64 4, .int .i64 8] 3)) []) := (Sep.start w).alloc _
  have HR0 : Hid (Reads (w.alloc (.cells #[.int .i64 4, .int .i64 8] 3)) (w.alloc (.cells #[.int .i64 4, .int .i64 8] 3)).heap.size 1 (some ⟨w.heap.size, 0, none⟩) 2 (ints [4, 8])) := (nums_new w (0, 0) [4, 8] 2 _ rfl rfl).more (by simp)
  have kc : ∀ (W : World) (C : Array Value) (n c : Nat), (convert 36 36 (.slice (some ⟨W.heap.size, 0, none⟩) n c)).run Try.prog (W.alloc (.cells C 5)) = .ok (.slice (some ⟨W.heap.size, 0, none⟩) n c) (W.alloc (.cells C 5 (C.size, C.size + 1))) :=
    fun W C n c => Lib.run_convert_bytes_const (P := Try.prog) W 36 5 C n c Try.underlying36 Try.underlying5
  go_enter Try.func10, Try.ntmps10
  go_wp2_with fail
  refine (sep_dnew H0.out _ 2 2 [4, 8] HR0.out (by omega) (by omega) (by intro z hz; simp at hz; unfold okSize; omega)).mono ?_
  rintro e w1 ⟨d, rb, lay, rfl, hs⟩
  have H1 : Hid (Sep w.heap.size w w1 (diskOb d rb 2 lay (twoD ⟨4, [], 0⟩ ⟨8, [], 0⟩) :: [])) := hs.dcongr (twoD_of rfl rfl)
  clear hs H0 HR0
  go_wp2_with fail
  refine (sep_dappend (H1.out.alloc _) (by omega) 0 (by omega) (holds_new _ _ _ [97#8, 98#8, 99#8] 3 3 rfl (by omega) (by omega) lit0)).mono ?_
  rintro e w2 ⟨rfl, lay2, hs⟩
  have H2 : Hid (Sep w.heap.size w w2 (diskOb d rb 2 lay2 (twoD ⟨4, [97#8, 98#8, 99#8], 0⟩ ⟨8, [], 0⟩) :: [])) := hs.dcongr (twoD_of rfl rfl)
  clear hs
  rw [show appE (twoD ⟨4, [], 0⟩ ⟨8, [], 0⟩) 0 [97#8, 98#8, 99#8] = 0 from rfl]
  go_wp2_with fail
  refine (sep_dappend (H2.out.alloc _) (by omega) 0 (by omega) (holds_new _ _ _ [100#8, 101#8] 2 2 rfl (by omega) (by omega) lit1)).mono ?_
  rintro e w3 ⟨rfl, lay3, hs⟩
  have H3 : Hid (Sep w.heap.size w w3 (diskOb d rb 2 lay3 (twoD ⟨4, [97#8, 98#8, 99#8], 0⟩ ⟨8, [], 0⟩) :: [])) := hs.dcongr (twoD_of rfl rfl)
  clear hs
  rw [show appE (twoD ⟨4, [97#8, 98#8, 99#8], 0⟩ ⟨8, [], 0⟩) 0 [100#8, 101#8] = 4 from rfl]
  go_wp2_with fail
  refine (sep_dappend (H3.out.alloc _) (by omega) 1 (by omega) (holds_new _ _ _ [120#8, 121#8, 122#8] 3 3 rfl (by omega) (by omega) lit2)).mono ?_
  rintro e w4 ⟨rfl, lay4, hs⟩
  have H4 : Hid (Sep w.heap.size w w4 (diskOb d rb 2 lay4 (twoD ⟨4, [97#8, 98#8, 99#8], 0⟩ ⟨8, [120#8, 121#8, 122#8], 0⟩) :: [])) := hs.dcongr (twoD_of rfl rfl)
  clear hs
  rw [show appE (twoD ⟨4, [97#8, 98#8, 99#8], 0⟩ ⟨8, [], 0⟩) 1 [120#8, 121#8, 122#8] = 0 from rfl]
  go_wp2_with fail
  refine (sep_dsync H4.out (by omega) 0 (by omega)).mono ?_
  rintro e w5 ⟨rfl, lay5, hs⟩
  have H5 : Hid (Sep w.heap.size w w5 (diskOb d rb 2 lay5 (twoD ⟨4, [97#8, 98#8, 99#8], 3⟩ ⟨8, [120#8, 121#8, 122#8], 0⟩) :: [])) := hs.dcongr (twoD_of rfl rfl)
  clear hs
  go_wp2_with fail
  refine (sep_dappend (H5.out.alloc _) (by omega) 0 (by omega) (holds_new _ _ _ [100#8] 1 1 rfl (by omega) (by omega) lit3)).mono ?_
  rintro e w6 ⟨rfl, lay6, hs⟩
  have H6 : Hid (Sep w.heap.size w w6 (diskOb d rb 2 lay6 (twoD ⟨4, [97#8, 98#8, 99#8, 100#8], 3⟩ ⟨8, [120#8, 121#8, 122#8], 0⟩) :: [])) := hs.dcongr (twoD_of rfl rfl)
  clear hs
  rw [show appE (twoD ⟨4, [97#8, 98#8, 99#8], 3⟩ ⟨8, [120#8, 121#8, 122#8], 0⟩) 0 [100#8] = 0 from rfl]
  go_wp2_with fail
  refine (disk_durable H6.out.disk (by omega) 0 (by omega)).mono ?_
  rintro e w7 ⟨rfl, hb⟩
  have H7 := Lib.hid (H6.out.below hb)
  clear hb
  rw [show (twoD ⟨4, [97#8, 98#8, 99#8, 100#8], 3⟩ ⟨8, [120#8, 121#8, 122#8], 0⟩ 0).dur = 3 from rfl]
  go_wp2_with fail
  refine (disk_read_ok H7.out.disk (by omega) 0 (by omega) 1 3 (by decide)).mono ?_
  rintro e w8 ⟨v8, rfl, ho, hb⟩
  obtain ⟨A8, c8, rfl, hc8, hr8⟩ := own_reads ho (by omega)
  have hr8' : Reads w8 w8.heap.size 1 A8 3 (u8s [98#8, 99#8, 100#8]) := hr8
  have HV8 := Lib.hid hr8'
  have H8 : Hid (Sep w.heap.size w w8 (diskOb d rb 2 lay6 (twoD ⟨4, [97#8, 98#8, 99#8, 100#8], 3⟩ ⟨8, [120#8, 121#8, 122#8], 0⟩) :: [rowOb 5 1 (.slice A8 3 c8) 3 (u8s [98#8, 99#8, 100#8])])) :=
    (H7.out.add (a := rowOb 5 1 (.slice A8 3 c8) 3 (u8s [98#8, 99#8, 100#8])) hb (own_base ho (fun _ _ => Nat.zero_le _)) (fun k hk => (ho.lt k hk).1)).perm (.swap _ _ _)
  clear hb ho hr8 hr8' HV8
  have HC : Hid (∀ X D', Sep w.heap.size w X (diskOb d rb 2 lay6 D' :: [blkOb w8.heap.size 3 #[.int .i64 0, .int .i64 2, .int .i64 5], rowOb 5 1 (.slice A8 3 c8) 3 (u8s [98#8, 99#8, 100#8])]) → Reads X X.heap.size 1 (some ⟨w8.heap.size, 0, none⟩) 3 (ints [0, 2, 5])) := fun X D' hX => by
    have hb : Blk X w8.heap.size 3 #[.int .i64 0, .int .i64 2, .int .i64 5] := hX.get (.tail _ (.head _))
    refine ⟨rfl, fun _ => ⟨_, rfl, hb.lt, fun j u hu => ?_⟩⟩
    rw [add_zero_addr, hb.cell]
    simpa [ints] using hu
  have H9 : Hid (Sep w.heap.size w (w8.alloc (.cells #[.int .i64 0, .int .i64 2, .int .i64 5] 3)) (diskOb d rb 2 lay6 (twoD ⟨4, [97#8, 98#8, 99#8, 100#8], 3⟩ ⟨8, [120#8, 121#8, 122#8], 0⟩) :: [blkOb w8.heap.size 3 #[.int .i64 0, .int .i64 2, .int .i64 5], rowOb 5 1 (.slice A8 3 c8) 3 (u8s [98#8, 99#8, 100#8])])) := (H8.out.newBlk w8.heap.size _ _ rfl).perm (.swap _ _ _)
  go_wp2_with fail
  refine (sep_crashdisk H9.out (AllCells.cons (cellOb_blk _ _ _) (AllCells.cons (cellOb_row _ _ _ _ _) AllCells.nil)) (by omega) (by omega) _ 3 3 [0, 2, 5] HC.out (by omega) (by omega) (by intro z hz; simp at hz; omega)).mono ?_
  rintro e w10 ⟨rfl, hs⟩
  have H10 : Hid (Sep w.heap.size w w10 (diskOb d rb 2 lay6 (twoD ⟨4, [97#8, 98#8, 99#8], 3⟩ ⟨8, [120#8, 121#8], 2⟩) :: [rowOb 5 1 (.slice A8 3 c8) 3 (u8s [98#8, 99#8, 100#8])])) := (hs.sub (.cons_cons _ (.cons _ (List.Sublist.refl _)))).dcongr (twoD_of rfl rfl)
  clear hs H9 HC
  go_wp2_with fail
  refine (disk_read_ok H10.out.disk (by omega) 1 (by omega) 0 2 (by decide)).mono ?_
  rintro e w11 ⟨v11, rfl, ho, hb⟩
  obtain ⟨A11, c11, rfl, hc11, hr11⟩ := own_reads ho (by omega)
  have hr11' : Reads w11 w11.heap.size 1 A11 2 (u8s [120#8, 121#8]) := hr11
  have HV11 := Lib.hid hr11'
  have H11 := Lib.hid (H10.out.below hb)
  clear hb ho hr11 hr11'
  go_wp2_with fail
  refine (disk_len H11.out.disk (by omega) 0 (by omega)).mono ?_
  rintro e w12 ⟨rfl, hb⟩
  have H12 := Lib.hid (H11.out.below hb)
  have HV12 := Lib.hid ((HV11.out.below hb).more hb.size)
  clear hb
  rw [show (twoD ⟨4, [97#8, 98#8, 99#8], 3⟩ ⟨8, [120#8, 121#8], 2⟩ 0).bytes.length = 3 from rfl]
  go_wp2_with fail
  refine (disk_len H12.out.disk (by omega) 1 (by omega)).mono ?_
  rintro e w13 ⟨rfl, hb⟩
  have H13 := Lib.hid (H12.out.below hb)
  have HV13 := Lib.hid ((HV12.out.below hb).more hb.size)
  clear hb
  rw [show (twoD ⟨4, [97#8, 98#8, 99#8], 3⟩ ⟨8, [120#8, 121#8], 2⟩ 1).bytes.length = 2 from rfl]
  have s1 : (convert 36 9 (.slice A8 3 c8)).run Try.prog w13 = .ok (.string ⟨#[98, 99, 100]⟩) w13 := by
    rw [← strOf_lit (l := [98#8, 99#8, 100#8]) (a := #[98, 99, 100]) rfl]
    exact str_bytes (Reads.of_own (show w13.ownsRow 0 5 1 (.slice A8 3 c8) 3 (u8s [98#8, 99#8, 100#8]) from H13.out.get (.tail _ (.head _))))
  have s2 : (convert 36 9 (.slice A11 2 c11)).run Try.prog w13 = .ok (.string ⟨#[120, 121]⟩) w13 := by
    rw [← strOf_lit (l := [120#8, 121#8]) (a := #[120, 121]) rfl]
    exact str_bytes HV13.out
  go_wp2_with fail
  refine (crashdisk_bad H13.out.disk (by omega) none 0 0 [] (by unfold maxLen; omega) ⟨rfl, fun h => absurd h (by omega)⟩ (.inl (by omega))).mono ?_
  rintro e w14 ⟨rfl, hb⟩
  have H14 := Lib.hid (H13.out.below hb)
  clear hb s1 s2
  go_wp2_with fail
  go_ret
  exact ⟨rfl, H14.out.bel⟩
end Go.Proofs.Ytelobbigpgfobaa
