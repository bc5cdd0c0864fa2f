/-
  The walk of the law CrcUpdates: it returns true and writes nothing that was there. No condition.
-/
import Derived.Test.YtpdlkdlciipdcaaCrcLaw
namespace Go.Proofs.Ytpdlkdlciipdcaa
open Go.RowKit Drum
set_option linter.unusedVariables false
set_option maxHeartbeats 1000000 in
theorem CrcUpdates_w (a0 : Int) (a1 : Option Addr) (len1 cap1 : Nat) (z1 : List Int) (w : World) (w0 : (Lit.int .u32 a0).wf = true) (w1 : IsRow .u8 w a1 len1 cap1 z1) :
    Calls Try.prog 4 #[.int .u32 a0, .slice a1 len1 cap1] w fun e w' => e = .returned (.bool true) ∧ Below w.heap.size w w' := by
  obtain ⟨l, hl, hm, _, _, hr⟩ := w1.bytes
  obtain ⟨x, rfl⟩ := u32_of_wf w0
  have HR := Lib.hid hr
  have HL := Lib.hid hl
  clear hr hl w0 w1
  by_cases hlen : 2000 < len1
  · go_enter Try.func4, Try.ntmps4
    go_wp2_with (go_at_call 13; refine (works_any _).mono ?_; rintro e w' ⟨rfl, hb⟩)
    go_ret
    exact ⟨rfl, hb⟩
  · have hlen' : len1 ≤ 2000 := by omega
    go_enter Try.func4, Try.ntmps4
    go_wp2_with fail
    refine (update_any _ _ _ _ _ l _ HR.out (Nat.le_refl _) HL.out hm).mono ?_
    rintro e w1 ⟨rfl, hb1⟩
    have HR1 := Lib.hid (HR.out.below hb1)
    have HB1 := Lib.hid hb1
    clear hb1
    go_wp2_with fail
    refine (refUpdate_any _ _ _ _ _ l _ HR1.out HL.out hm).mono ?_
    rintro e w2 ⟨rfl, rfl⟩
    go_wp2_with fail
    refine (works_any _).mono ?_
    rintro e w4 ⟨rfl, hb4⟩
    go_wp2
    go_ret
    exact ⟨rfl, bt HB1.out hb4⟩
theorem CrcUpdates_walk (v0 v1 : Value) (w : World) (h0 : ArgIn Try.prog w 23 v0) (h1 : ArgIn Try.prog w 22 v1) :
    Calls Try.prog 4 #[v0, v1] w fun e w' => e = .returned (.bool true) ∧ Below w.heap.size w w' := by
  obtain ⟨a0, rfl, w0⟩ := h0.int Try.underlying23
  obtain ⟨a1, len1, cap1, z1, rfl, w1⟩ := h1.row Try.underlying22 Try.underlying5 (by kernel_rfl)
  exact CrcUpdates_w a0 a1 len1 cap1 z1 w w0 w1
end Go.Proofs.Ytpdlkdlciipdcaa
