/-
  The walk of the chapter's examples (works): it returns true and writes nothing that was there. No condition.
-/
import Derived.Test.YtpdlkdlciipdcaaCrcRef
import Derived.Lib.SlBytesConst
namespace Go.Proofs.Ytpdlkdlciipdcaa
open Go.RowKit Drum
set_option linter.unusedVariables false
def b1234 : List (BitVec 8) := [49#8, 50#8, 51#8, 52#8]
def b56789 : List (BitVec 8) := [53#8, 54#8, 55#8, 56#8, 57#8]
def bAll : List (BitVec 8) := [49#8, 50#8, 51#8, 52#8, 53#8, 54#8, 55#8, 56#8, 57#8]
theorem reads_new (W : World) (t : TypeId) (cs : Array Value) (fr : Nat × Nat) (l : List (BitVec 8)) (n : Nat) (hn : n = l.length) (hcs : cs = (u8s l).toArray) :
    Reads (W.alloc (.cells cs t fr)) (W.heap.size + 1) 1 (some ⟨W.heap.size, 0, none⟩) n (u8s l) := by
  subst hcs hn
  refine ⟨by rw [u8s_length]; omega, fun _ => ⟨_, rfl, by simp, fun j u hu => ?_⟩⟩
  rw [show (⟨W.heap.size, 0, none⟩ : Addr).add j = ⟨W.heap.size, j, none⟩ from by unfold Addr.add; split <;> simp_all]
  rw [cell_of_row _ _ j _ t fr (heap_alloc_new W _)]
  simpa using hu
theorem sum_new (W : World) (cs : Array Value) (fr : Nat × Nat) (l : List (BitVec 8)) (n c : Nat) (hn : n = l.length) (hm : n ≤ 100) (hcs : cs = (u8s l).toArray) :
    Calls Try.prog 15 #[.slice (some ⟨W.heap.size, 0, none⟩) n c] (W.alloc (.cells cs 5 fr)) fun e w' => e = .returned (.int .u32 (n32 (csum l))) ∧ Below W.heap.size W w' := by
  refine (sum_any _ n c _ l _ (reads_new W _ cs fr l n hn hcs) (by simp) hn (by unfold maxLen; omega)).mono fun e w' ⟨he, hb⟩ => ⟨he, ?_⟩
  exact ((Below.refl _ _).alloc (Nat.le_refl _) _).trans (hb.mono (by simp))
theorem valid_new (W : World) (cs : Array Value) (fr : Nat × Nat) (l : List (BitVec 8)) (x : W32) (n c : Nat) (hn : n = l.length) (hm : n ≤ 100) (hcs : cs = (u8s l).toArray) :
    Calls Try.prog 16 #[.slice (some ⟨W.heap.size, 0, none⟩) n c, .int .u32 (n32 x)] (W.alloc (.cells cs 5 fr)) fun e w' => e = .returned (.bool (decide (csum l = x))) ∧ Below W.heap.size W w' := by
  refine (valid_any _ n c _ l x _ (reads_new W _ cs fr l n hn hcs) (by simp) hn (by unfold maxLen; omega)).mono fun e w' ⟨he, hb⟩ => ⟨he, ?_⟩
  exact ((Below.refl _ _).alloc (Nat.le_refl _) _).trans (hb.mono (by simp))
theorem update_new (W : World) (cs : Array Value) (fr : Nat × Nat) (s : W32) (l : List (BitVec 8)) (n c : Nat) (hn : n = l.length) (hm : n ≤ 100) (hcs : cs = (u8s l).toArray) :
    Calls Try.prog 17 #[.int .u32 (n32 s), .slice (some ⟨W.heap.size, 0, none⟩) n c] (W.alloc (.cells cs 5 fr)) fun e w' => e = .returned (.int .u32 (n32 (cupd s l))) ∧ Below W.heap.size W w' := by
  refine (update_any s _ n c _ l _ (reads_new W _ cs fr l n hn hcs) (by simp) hn (by unfold maxLen; omega)).mono fun e w' ⟨he, hb⟩ => ⟨he, ?_⟩
  exact ((Below.refl _ _).alloc (Nat.le_refl _) _).trans (hb.mono (by simp))
theorem c1234 : #[Value.int .u8 49, .int .u8 50, .int .u8 51, .int .u8 52] = (u8s b1234).toArray := by simp [u8s, u8v, n8, b1234]
theorem c56789 : #[Value.int .u8 53, .int .u8 54, .int .u8 55, .int .u8 56, .int .u8 57] = (u8s b56789).toArray := by simp [u8s, u8v, n8, b56789]
theorem cAll : #[Value.int .u8 49, .int .u8 50, .int .u8 51, .int .u8 52, .int .u8 53, .int .u8 54, .int .u8 55, .int .u8 56, .int .u8 57] = (u8s bAll).toArray := by simp [u8s, u8v, n8, bAll]
theorem cZero : #[Value.int .u8 0] = (u8s [0#8]).toArray := by simp [u8s, u8v, n8]
theorem s_all : n32 (csum bAll) = 3421780262 := by unfold n32; decide +kernel
theorem s_zero : n32 (csum [0#8]) = 3523407757 := by unfold n32; decide +kernel
theorem s_nil : n32 (csum []) = 0 := by unfold n32; decide +kernel
theorem s_upd : n32 (cupd (csum b1234) b56789) = 3421780262 := by unfold n32; decide +kernel
theorem s_comb : n32 (cshift 5 (csum b1234) ^^^ csum b56789) = 3421780262 := by unfold n32; decide +kernel
theorem s_tab : n32 (ctab 1#8) = 1996959894 := by unfold n32; decide +kernel
theorem v_all : n32 0xCBF43926#32 = 3421780262 := by unfold n32; decide +kernel
theorem v_ok : csum bAll = 0xCBF43926#32 := by decide +kernel
theorem combine_neg12 (w : World) :
    Calls Try.prog 19 #[.int .u32 1, .int .u32 2, .int .i64 (-1)] w fun e w' => e = .returned (.tuple #[.int .u32 0, .int .i64 2]) ∧ Below w.heap.size w w' := by
  have h := combine_neg 1#32 2#32 (-1) (by omega) w
  rw [show n32 1#32 = 1 by unfold n32; rfl, show n32 2#32 = 2 by unfold n32; rfl] at h
  exact h
theorem sum_nil (w : World) :
    Calls Try.prog 15 #[.slice none 0 0] w fun e w' => e = .returned (.int .u32 0) ∧ Below w.heap.size w w' := by
  have h := sum_any none 0 0 w.heap.size [] w Reads.none_ (Nat.le_refl _) rfl (by decide)
  rw [s_nil] at h
  exact h
set_option maxHeartbeats 2000000 in
set_option maxRecDepth 100000 in
theorem works_any (w : World) :
    Calls Try.prog 13 #[] w fun e w' => e = .returned (.bool true) ∧ Below w.heap.size w w' := by
  have kc := fun (w : World) (C : Array Value) (n c : Nat) => Lib.run_convert_bytes_const (P := Try.prog) w 22 5 C n c Try.underlying22 Try.underlying5
  have hz := zero_tbl
  have hst := store_tbl
  have hsz := tblTo_size 256
  go_enter Try.func13, Try.ntmps13
  go_wp2_with fail
  refine (sum_new _ _ _ b1234 _ _ rfl (by decide) c1234).mono ?_
  rintro e w1 ⟨rfl, hb1⟩
  have HB1 := Lib.hid hb1
  clear hb1
  go_wp2_with fail
  refine (sum_new _ _ _ b56789 _ _ rfl (by decide) c56789).mono ?_
  rintro e w2 ⟨rfl, hb2⟩
  have HB2 := Lib.hid hb2
  clear hb2
  go_wp2_with fail
  refine (combine_any _ _ _ (by omega) (by omega) _).mono ?_
  rw [show (5 : Int).toNat = 5 from rfl, s_comb]
  rintro e w3 ⟨rfl, hb3⟩
  have HB3 := Lib.hid hb3
  clear hb3
  go_wp2_with fail
  refine (combine_neg12 _).mono ?_
  rintro e w4 ⟨rfl, hb4⟩
  have HB4 := Lib.hid hb4
  clear hb4
  go_wp2_with fail
  refine (table_any _).mono ?_
  rintro e w5 ⟨rfl, hb5⟩
  have HB5 := Lib.hid hb5
  clear hb5
  go_wp2_with fail
  refine (sum_nil _).mono ?_
  rintro e w6 ⟨rfl, hb6⟩
  have HB6 := Lib.hid hb6
  have htab : w6.cell? ⟨w5.heap.size, 1, none⟩ = some (.int .u32 1996959894) := by
    rw [hb6.cell (by simp)]
    rw [cell_of_row _ _ 1 _ _ _ (heap_alloc_new w5 _), tblTo_at 256 1 (by omega) (by omega), ← s_tab]
  have HTAB := Lib.hid htab
  clear hb6 htab
  go_wp2_with fail
  refine (sum_new _ _ _ bAll _ _ rfl (by decide) cAll).mono ?_
  rw [s_all]
  rintro e w7 ⟨rfl, hb7⟩
  have HB7 := Lib.hid hb7
  clear hb7
  go_wp2_with fail
  refine (sum_new _ _ _ [0#8] _ _ rfl (by decide) cZero).mono ?_
  rw [s_zero]
  rintro e w8 ⟨rfl, hb8⟩
  have HB8 := Lib.hid hb8
  clear hb8
  go_wp2_with fail
  refine (sum_new _ _ _ b1234 _ _ rfl (by decide) c1234).mono ?_
  rintro e w9 ⟨rfl, hb9⟩
  have HB9 := Lib.hid hb9
  clear hb9
  go_wp2_with fail
  refine (update_new _ _ _ _ b56789 _ _ rfl (by decide) c56789).mono ?_
  rw [s_upd]
  rintro e w10 ⟨rfl, hb10⟩
  have HB10 := Lib.hid hb10
  have htab : w10.cell? ⟨w5.heap.size, 1, none⟩ = some (.int .u32 1996959894) := by
    have e6 := HB6.out.size; have e7 := HB7.out.size; have e8 := HB8.out.size; have e9 := HB9.out.size
    simp at e6
    rw [HB10.out.cell (by show w5.heap.size < _; omega), HB9.out.cell (by show w5.heap.size < _; omega), HB8.out.cell (by show w5.heap.size < _; omega), HB7.out.cell (by show w5.heap.size < _; omega)]
    exact HTAB.out
  clear hb10
  go_wp2_with fail
  rw [← v_all]
  refine (valid_new _ _ _ bAll _ _ _ rfl (by decide) cAll).mono ?_
  rw [v_ok]
  rintro e w11 ⟨rfl, hb11⟩
  have HB11 := Lib.hid hb11
  clear hb11
  go_wp2_with fail
  go_ret
  refine ⟨rfl, ?_⟩
  exact bt (bt (bt (bt (bt (bt (ba (bt (bt (bt (bt HB1.out HB2.out) HB3.out) HB4.out) HB5.out) _) HB6.out) HB7.out) HB8.out) HB9.out) HB10.out) HB11.out
end Go.Proofs.Ytpdlkdlciipdcaa
