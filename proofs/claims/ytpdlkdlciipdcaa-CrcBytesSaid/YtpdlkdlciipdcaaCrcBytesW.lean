/-
  The walk of the law CrcBytes: it returns true and writes nothing that was there. No condition.
-/
import Derived.Test.YtpdlkdlciipdcaaCrcLaw
namespace Go.Proofs.Ytpdlkdlciipdcaa
open Go.RowKit Drum
set_option linter.unusedVariables false
set_option maxHeartbeats 2000000 in
set_option maxRecDepth 100000 in
theorem CrcBytes_w (a0 : Int) (a1 : Option Addr) (len1 cap1 : Nat) (z1 : List Int) (w : World) (w0 : (Lit.int .u32 a0).wf = true) (w1 : IsRow .u8 w a1 len1 cap1 z1) :
    Calls Try.prog 12 #[.int .u32 a0, .slice a1 len1 cap1] w fun e w' => e = .returned (.bool true) ∧ Below w.heap.size w w' := by
  obtain ⟨l, hl, hm, hcap, hcm, hr⟩ := w1.bytes
  obtain ⟨x, rfl⟩ := u32_of_wf w0
  have HR := Lib.hid hr
  have HL := Lib.hid hl
  have hll : len1 ≤ l.length := by omega
  unfold maxLen at hcm
  clear hr hl w0 w1 hm
  by_cases hlen : 300 < len1
  · go_enter Try.func12, Try.ntmps12
    go_wp2_with (go_at_call 13; refine (works_any _).mono ?_; rintro e w' ⟨rfl, hb⟩)
    go_ret
    exact ⟨rfl, hb⟩
  · have hlen' : len1 ≤ 300 := by omega
    have hz := zero_tbl
    have hst := store_tbl
    have hsz := tblTo_size 256
    go_enter Try.func12, Try.ntmps12
    go_wp2_with (go_at_call 21; refine (table_any _).mono ?_; rintro e w1 ⟨rfl, hb1⟩)
    have HB := Lib.hid hb1
    clear hz hst hsz hb1
    go_loopg [0, 6] len1 (fun k v0 v6 wr => ∃ (j : Nat) (s : W32), j + k = len1 ∧ v6 = .int .i64 j ∧ v0 = .int .u32 (n32 s) ∧ Blk wr w1.heap.size 33 (tblTo 256) ∧ Below w.heap.size w wr)
    case atStart => exact ⟨0, x, by omega, rfl, rfl, Blk.new w1 _ _, HB.out.alloc HB.out.size _⟩
    case round =>
      obtain ⟨j, s, hj, rfl, rfl, hbl, hbel⟩ := hrel
      have hj' : j ≤ len1 := by omega
      have HJ := Lib.hid hj
      have HBL := Lib.hid hbl
      have HBE := Lib.hid hbel
      by_cases hlt : j < len1
      · have hjl : j < l.length := by omega
        have HRW := Lib.hid (HR.out.below hbel)
        obtain ⟨ad, u, rfl, _, hx, hc⟩ := HRW.out.at_ hlt
        obtain ⟨_, rfl⟩ := u8s_at hx
        have ht := hbl.cell (n8 (low8 (s ^^^ 0xFFFFFFFF#32) ^^^ l[j])).toNat
        rw [tbl_at] at ht
        obtain ⟨hn1, hn2⟩ := n8_bd (low8 (s ^^^ 0xFFFFFFFF#32) ^^^ l[j])
        clear hx hj hbl hbel
        have HONE := Lib.hid (reads_one hc (B := w.heap.size) (by rw [block_of_add]; assumption))
        have HEQ : Hid (cupd s [l[j]] = ctab (low8 (s ^^^ 0xFFFFFFFF#32) ^^^ l[j]) ^^^ (s ^^^ 0xFFFFFFFF#32) >>> 8 ^^^ 0xFFFFFFFF#32) := by
          show _ = _; rw [← cfeed_tab]; rfl
        go_wp2_with fail
        refine (update_any _ _ _ _ _ [l[j]] _ HONE.out HBE.out.size rfl (by decide)).mono ?_
        rw [HEQ.out]
        rintro e w2 ⟨rfl, hb2⟩
        have HB2 := Lib.hid hb2
        clear hb2
        go_wp2_with fail
        go_roundg (gk - 1)
        case measure => have := HJ.out; omega
        case rel => exact ⟨j + 1, _, by have := HJ.out; omega, by go_num, rfl, HBL.out.below HB2.out HBL.out.lt, bt HBE.out HB2.out⟩
      · have e8 : j = len1 := by omega
        subst e8
        clear hj hbl hbel
        go_wp2_with fail
        refine (works_any _).mono ?_
        rintro e w4 ⟨rfl, hb4⟩
        go_wp2
        go_ret
        exact ⟨rfl, bt HBE.out hb4⟩
theorem CrcBytes_walk (v0 v1 : Value) (w : World) (h0 : ArgIn Try.prog w 23 v0) (h1 : ArgIn Try.prog w 22 v1) :
    Calls Try.prog 12 #[v0, v1] w fun e w' => e = .returned (.bool true) ∧ Below w.heap.size w w' := by
  obtain ⟨a0, rfl, w0⟩ := h0.int Try.underlying23
  obtain ⟨a1, len1, cap1, z1, rfl, w1⟩ := h1.row Try.underlying22 Try.underlying5 (by kernel_rfl)
  exact CrcBytes_w a0 a1 len1 cap1 z1 w w0 w1
end Go.Proofs.Ytpdlkdlciipdcaa
