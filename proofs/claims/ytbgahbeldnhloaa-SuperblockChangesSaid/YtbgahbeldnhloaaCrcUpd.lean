/-
  The walks of the program's Update, Sum, Valid and of the reference's Sum. Condition: the bytes can be read and their number is an int.
-/
import Derived.Test.YtbgahbeldnhloaaCrcTable
import Derived.Deep.WholeRow
namespace Go.Proofs.Ytbgahbeldnhloaa
open Go.RowKit Drum
set_option linter.unusedVariables false
theorem tbl_at (x : W32) (b : BitVec 8) : (tblTo 256)[(n8 (low8 x ^^^ b)).toNat]? = some (.int .u32 (n32 (ctab (low8 x ^^^ b)))) := by
  have h : (n8 (low8 x ^^^ b)).toNat = (low8 x ^^^ b).toNat := by unfold n8; rfl
  have hl := (low8 x ^^^ b).isLt
  rw [h, tblTo_at 256 _ hl hl, BitVec.ofNat_toNat, BitVec.setWidth_eq]
theorem store_tbl (w : World) : (storeCells ⟨w.heap.size, 0, none⟩ (tblTo 256).toList 0).run Try.prog (w.alloc (.cells (tblTo 0) 82)) = .ok () (w.alloc (.cells (tblTo 256) 82)) :=
  run_storeCells_new w 82 (tblTo 0) (tblTo 256) (by rw [tblTo_size]; kernel_rfl) (by rw [tblTo_size, tblTo_size]) (tblTo_one _)
set_option maxHeartbeats 1000000 in
set_option maxRecDepth 100000 in
theorem update_any (s : W32) (A : Option Addr) (n c B : Nat) (l : List (BitVec 8)) (w : World) (hr : Reads w B 1 A n (u8s l)) (hB : B ≤ w.heap.size) (hn : n = l.length) (hm : n ≤ maxLen) :
    Calls Try.prog 42 #[.int .u32 (n32 s), .slice A n c] w fun e w' => e = .returned (.int .u32 (n32 (cupd s l))) ∧ Below w.heap.size w w' := by
  unfold maxLen at hm
  have HN := Lib.hid hn
  have HR := Lib.hid hr
  have hnl : n ≤ l.length := by omega
  clear hn hr
  have hz := zero_tbl
  have hst := store_tbl
  have hsz := tblTo_size 256
  go_enter Try.func42, Try.ntmps42
  go_wp2_with (go_at_call 46; refine (table_any _).mono ?_; rintro e w1 ⟨rfl, hb1⟩)
  have HB := Lib.hid hb1
  clear hz hst hsz hb1
  go_loopg [6, 14] n (fun k v6 v14 wr => ∃ j : Nat, j + k = n ∧ v14 = .int .i64 j ∧ v6 = .int .u32 (n32 (craw (s ^^^ 0xFFFFFFFF#32) (l.take j))) ∧ wr = w1.alloc (.cells (tblTo 256) 82))
  case atStart => exact ⟨0, by omega, rfl, rfl, rfl⟩
  case round =>
    obtain ⟨j, hj, rfl, rfl, hwr⟩ := hrel
    have hj' : j ≤ n := by omega
    have HJ := Lib.hid hj
    clear hj
    by_cases hlt : j < n
    · have hjl : j < l.length := by omega
      obtain ⟨ad, u, rfl, _, hx, hc0⟩ := HR.out.at_ hlt
      obtain ⟨_, rfl⟩ := u8s_at hx
      have hc : wr.cell? (ad.add j) = some (.int .u8 (n8 l[j])) := by
        rw [hwr, World.cell?_alloc_lt _ _ _ (by rw [block_of_add]; have := HB.out.size; omega), HB.out.cell (by rw [block_of_add]; omega)]; exact hc0
      have hbl : Blk wr w1.heap.size 82 (tblTo 256) := by rw [hwr]; exact Blk.new w1 _ _
      have ht := hbl.cell (n8 (low8 (craw (s ^^^ 0xFFFFFFFF#32) (l.take j)) ^^^ l[j])).toNat
      rw [tbl_at] at ht
      have HT := Lib.hid (take_snoc l j hjl)
      have HW := Lib.hid hwr
      obtain ⟨hn1, hn2⟩ := n8_bd (low8 (craw (s ^^^ 0xFFFFFFFF#32) (l.take j)) ^^^ l[j])
      clear hx hwr hc0 hbl
      generalize hxx : craw (s ^^^ 0xFFFFFFFF#32) (l.take j) = x at *
      have HX := Lib.hid hxx
      clear hxx
      go_wp2
      go_roundg (gk - 1)
      case measure => have := HJ.out; omega
      case rel => exact ⟨j + 1, by have := HJ.out; omega, by go_num, u32_eq (by rw [HT.out, craw_append, HX.out]; exact (cfeed_tab x _).symm), HW.out⟩
    · have hjn : j = n := by omega
      subst hjn
      have HW := Lib.hid hwr
      clear hwr
      go_wp2
      go_ret
      exact ⟨by rw [HN.out, List.take_length]; rfl, by rw [HW.out]; exact HB.out.alloc (HB.out.size) _⟩

set_option maxHeartbeats 400000 in
theorem sum_any (A : Option Addr) (n c B : Nat) (l : List (BitVec 8)) (w : World) (hr : Reads w B 1 A n (u8s l)) (hB : B ≤ w.heap.size) (hn : n = l.length) (hm : n ≤ maxLen) :
    Calls Try.prog 27 #[.slice A n c] w fun e w' => e = .returned (.int .u32 (n32 (csum l))) ∧ Below w.heap.size w w' := by
  have H := Lib.hid (update_any 0#32 A n c B l w hr hB hn hm)
  have h0 : (0 : Int) = n32 0#32 := by unfold n32; rfl
  have H0 := Lib.hid h0
  clear hr hn h0
  go_enter Try.func27, Try.ntmps27
  go_wp2_with fail
  rw [H0.out]
  refine (H.out).mono ?_
  rintro e w1 ⟨rfl, hb1⟩
  go_wp2
  go_ret
  exact ⟨rfl, hb1⟩
set_option maxHeartbeats 400000 in
theorem valid_any (A : Option Addr) (n c B : Nat) (l : List (BitVec 8)) (x : W32) (w : World) (hr : Reads w B 1 A n (u8s l)) (hB : B ≤ w.heap.size) (hn : n = l.length) (hm : n ≤ maxLen) :
    Calls Try.prog 34 #[.slice A n c, .int .u32 (n32 x)] w fun e w' => e = .returned (.bool (decide (csum l = x))) ∧ Below w.heap.size w w' := by
  have H := Lib.hid (sum_any A n c B l w hr hB hn hm)
  clear hr hn
  go_enter Try.func34, Try.ntmps34
  go_wp2_with fail
  refine (H.out).mono ?_
  rintro e w1 ⟨rfl, hb1⟩
  go_wp2
  go_ret
  exact ⟨rfl, hb1⟩
set_option maxHeartbeats 400000 in
theorem refSum_any (A : Option Addr) (n c B : Nat) (l : List (BitVec 8)) (w : World) (hr : Reads w B 1 A n (u8s l)) (hn : n = l.length) (hm : n ≤ maxLen) :
    Calls Try.prog 29 #[.slice A n c] w fun e w' => e = .returned (.int .u32 (n32 (csum l))) ∧ w = w' := by
  have H := Lib.hid (refUpdate_any 0#32 A n c B l w hr hn hm)
  have h0 : (0 : Int) = n32 0#32 := by unfold n32; rfl
  have H0 := Lib.hid h0
  clear hr hn h0
  go_enter Try.func29, Try.ntmps29
  go_wp2_with fail
  rw [H0.out]
  refine (H.out).mono ?_
  rintro e w1 ⟨rfl, rfl⟩
  go_wp2
  go_ret
  exact ⟨rfl, rfl⟩
theorem sum_own {base n : Nat} {e : TypeId} {v : Value} {l : List (BitVec 8)} {w : World} (h : w.ownsRow base e 1 v n (u8s l)) :
    Calls Try.prog 27 #[v] w fun e w' => e = .returned (.int .u32 (n32 (csum l))) ∧ Below w.heap.size w w' := by
  obtain ⟨A, c, rfl, h1, h2, h3⟩ := own_slice h
  have h4 := h.1
  rw [u8s_length, Nat.mul_one] at h4
  exact sum_any A n c _ l w h3 (Nat.le_refl _) h4.symm (Nat.le_trans h1 h2)
theorem valid_own {base n : Nat} {e : TypeId} {v : Value} {l : List (BitVec 8)} {w : World} (x : W32) (h : w.ownsRow base e 1 v n (u8s l)) :
    Calls Try.prog 34 #[v, .int .u32 (n32 x)] w fun e w' => e = .returned (.bool (decide (csum l = x))) ∧ Below w.heap.size w w' := by
  obtain ⟨A, c, rfl, h1, h2, h3⟩ := own_slice h
  have h4 := h.1
  rw [u8s_length, Nat.mul_one] at h4
  exact valid_any A n c _ l x w h3 (Nat.le_refl _) h4.symm (Nat.le_trans h1 h2)
end Go.Proofs.Ytbgahbeldnhloaa
