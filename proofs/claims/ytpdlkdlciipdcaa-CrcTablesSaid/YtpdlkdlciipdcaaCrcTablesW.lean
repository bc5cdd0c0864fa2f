/-
  The walk of the law CrcTables: it returns true and writes nothing that was there. No condition.
-/
import Derived.Test.YtpdlkdlciipdcaaCrcLaw
import Derived.Deep.RegionWith
import Derived.Deep.RegionHeld3
namespace Go.Proofs.Ytpdlkdlciipdcaa
open Go.RowKit Drum
set_option linter.unusedVariables false
theorem feed_0 (b : BitVec 8) (w : World) :
    Calls Try.prog 22 #[.int .u32 0, .int .u8 (n8 b)] w fun e w' => e = .returned (.int .u32 (n32 (ctab b))) ∧ w = w' := by
  have h := feed_any 0#32 b w
  rw [show n32 0#32 = 0 by unfold n32; rfl, cfeed_tab0] at h
  exact h
theorem tbl_at8 (b : BitVec 8) : (tblTo 256)[(n8 b).toNat]? = some (.int .u32 (n32 (ctab b))) := by
  have h : (n8 b).toNat = b.toNat := by unfold n8; rfl
  have hl := b.isLt
  rw [h, tblTo_at 256 _ hl hl, BitVec.ofNat_toNat, BitVec.setWidth_eq]
set_option maxHeartbeats 2000000 in
set_option maxRecDepth 100000 in
theorem CrcTables_w (b : BitVec 8) (w : World) :
    Calls Try.prog 6 #[.int .u8 (n8 b)] w fun e w' => e = .returned (.bool true) ∧ Below w.heap.size w w' := by
  have hz := zero_tbl
  have hst := store_tbl
  have hsz := tblTo_size 256
  obtain ⟨hn1, hn2⟩ := n8_bd b
  go_enter Try.func6, Try.ntmps6
  go_wp2_with (go_at_call 21; refine (table_any _).mono ?_; rintro e w1 ⟨rfl, hb1⟩)
  have HB := Lib.hid hb1
  clear hz hst hsz hb1
  have ht := (Blk.new w1 33 (tblTo 256)).cell (n8 b).toNat
  rw [tbl_at8] at ht
  go_region_with (first
    | (go_at_call 22; refine (feed_0 _ _).mono ?_; rintro e w2 ⟨rfl, rfl⟩)
    | (go_at_call 13; refine (works_any _).mono ?_; rintro e w2 ⟨rfl, hb2⟩))
  all_goals
    go_wp2
    go_ret
    exact ⟨rfl, bt (ba HB.out _).drew hb2⟩
theorem CrcTables_walk (v0 : Value) (w : World) (h0 : ArgIn Try.prog w 5 v0) :
    Calls Try.prog 6 #[v0] w fun e w' => e = .returned (.bool true) ∧ Below w.heap.size w w' := by
  obtain ⟨a0, rfl, w0⟩ := h0.int Try.underlying5
  obtain ⟨b, rfl⟩ := u8_of_wf w0
  exact CrcTables_w b w
end Go.Proofs.Ytpdlkdlciipdcaa
