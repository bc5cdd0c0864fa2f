/-
  The walk of the law CrcSums: it returns true and writes nothing that was there. No condition.
-/
import Derived.Test.YtpdlkdlciipdcaaCrcLaw
namespace Go.Proofs.Ytpdlkdlciipdcaa
open Go.RowKit Drum
set_option linter.unusedVariables false
set_option maxHeartbeats 1000000 in
theorem CrcSums_w (a0 : Option Addr) (len0 cap0 : Nat) (z0 : List Int) (a1 : Int) (w : World) (w0 : IsRow .u8 w a0 len0 cap0 z0) (w1 : (Lit.int .u32 a1).wf = true) :
    Calls Try.prog 3 #[.slice a0 len0 cap0, .int .u32 a1] w fun e w' => e = .returned (.bool true) ∧ Below w.heap.size w w' := by
  obtain ⟨l, hl, hm, _, _, hr⟩ := w0.bytes
  obtain ⟨x, rfl⟩ := u32_of_wf w1
  have HR := Lib.hid hr
  have HL := Lib.hid hl
  clear hr hl w0 w1
  by_cases hlen : 2000 < len0
  · go_enter Try.func3, Try.ntmps3
    go_wp2_with (go_at_call 13; refine (works_any _).mono ?_; rintro e w' ⟨rfl, hb⟩)
    go_ret
    exact ⟨rfl, hb⟩
  · have hlen' : len0 ≤ 2000 := by omega
    go_enter Try.func3, Try.ntmps3
    go_wp2_with fail
    refine (refSum_any _ _ _ _ l _ HR.out HL.out hm).mono ?_
    rintro e w' ⟨rfl, rfl⟩
    go_wp2_with fail
    refine (sum_any _ _ _ _ l _ HR.out (Nat.le_refl _) HL.out hm).mono ?_
    rintro e w1 ⟨rfl, hb1⟩
    have HR1 := Lib.hid (HR.out.below hb1)
    have HB1 := Lib.hid hb1
    clear hb1
    go_wp2_with fail
    refine (valid_any _ _ _ _ l (csum l) _ HR1.out HB1.out.size HL.out hm).mono ?_
    rw [show decide (csum l = csum l) = true by simp]
    rintro e w2 ⟨rfl, hb2⟩
    have HR2 := Lib.hid ((HR1.out.more HB1.out.size).below hb2)
    have HB2 := Lib.hid hb2
    clear hb2
    go_wp2_with fail
    refine (valid_any _ _ _ _ l x _ HR2.out HB2.out.size HL.out hm).mono ?_
    rintro e w3 ⟨rfl, hb3⟩
    have HB3 := Lib.hid hb3
    clear hb3
    by_cases hq : x = csum l
    · subst hq
      simp only [decide_true]
      go_wp2_with fail
      refine (works_any _).mono ?_
      rintro e w4 ⟨rfl, hb4⟩
      go_wp2
      go_ret
      exact ⟨rfl, bt (bt (bt HB1.out HB2.out) HB3.out) hb4⟩
    · have hd : decide (x = csum l) = false := by simpa using hq
      have hd' : decide (csum l = x) = false := by simpa using fun e => hq (Eq.symm e)
      rw [hd']
      clear hq hd'
      go_wp2_with fail
      refine (works_any _).mono ?_
      rintro e w4 ⟨rfl, hb4⟩
      go_wp2
      go_ret
      exact ⟨rfl, bt (bt (bt HB1.out HB2.out) HB3.out) hb4⟩
theorem CrcSums_walk (v0 v1 : Value) (w : World) (h0 : ArgIn Try.prog w 22 v0) (h1 : ArgIn Try.prog w 23 v1) :
    Calls Try.prog 3 #[v0, v1] w fun e w' => e = .returned (.bool true) ∧ Below w.heap.size w w' := by
  obtain ⟨a0, len0, cap0, z0, rfl, w0⟩ := h0.row Try.underlying22 Try.underlying5 (by kernel_rfl)
  obtain ⟨a1, rfl, w1⟩ := h1.int Try.underlying23
  exact CrcSums_w a0 len0 cap0 z0 a1 w w0 w1
end Go.Proofs.Ytpdlkdlciipdcaa
