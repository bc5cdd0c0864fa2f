/-
  The walk of the law CrcCombines: it returns true and writes nothing that was there. No condition.
-/
import Derived.Test.YtpdlkdlciipdcaaCrcLaw
namespace Go.Proofs.Ytpdlkdlciipdcaa
open Go.RowKit Drum
set_option linter.unusedVariables false
set_option maxHeartbeats 1000000 in
theorem CrcCombines_w (a0 a1 a2 : Int) (w : World) (w0 : (Lit.int .u32 a0).wf = true) (w1 : (Lit.int .u32 a1).wf = true) (w2 : (Lit.int .i64 a2).wf = true) :
    Calls Try.prog 5 #[.int .u32 a0, .int .u32 a1, .int .i64 a2] w fun e w' => e = .returned (.bool true) ∧ Below w.heap.size w w' := by
  obtain ⟨x, rfl⟩ := u32_of_wf w0
  obtain ⟨y, rfl⟩ := u32_of_wf w1
  obtain ⟨h1, h2⟩ := i64_of_wf w2
  clear w0 w1 w2
  by_cases hn : a2 < 0
  · have H1 := Lib.hid (fun w => combine_neg x y a2 hn w)
    have H2 := Lib.hid (fun w => refCombine_neg x y a2 hn w)
    go_enter Try.func5, Try.ntmps5
    go_wp2_with fail
    refine (H1.out _).mono ?_
    rintro e w1 ⟨rfl, hb1⟩
    have HB1 := Lib.hid hb1
    clear hb1
    go_wp2_with fail
    refine (H2.out _).mono ?_
    rintro e w2 ⟨rfl, hb2⟩
    have HB2 := Lib.hid hb2
    clear hb2
    go_wp2_with fail
    refine (works_any _).mono ?_
    rintro e w4 ⟨rfl, hb4⟩
    go_wp2
    go_ret
    exact ⟨rfl, bt (bt HB1.out HB2.out) hb4⟩
  · have hn' : 0 ≤ a2 := by omega
    have H1 := Lib.hid (fun w => combine_any x y a2 hn' h2 w)
    have H2 := Lib.hid (fun w => refCombine_any x y a2 hn' h2 w)
    go_enter Try.func5, Try.ntmps5
    go_wp2_with fail
    refine (H1.out _).mono ?_
    rintro e w1 ⟨rfl, hb1⟩
    have HB1 := Lib.hid hb1
    clear hb1
    go_wp2_with fail
    refine (H2.out _).mono ?_
    rintro e w2 ⟨rfl, hb2⟩
    have HB2 := Lib.hid hb2
    clear hb2
    go_wp2_with fail
    refine (works_any _).mono ?_
    rintro e w4 ⟨rfl, hb4⟩
    go_wp2
    go_ret
    exact ⟨rfl, bt (bt HB1.out HB2.out) hb4⟩
theorem CrcCombines_walk (v0 v1 v2 : Value) (w : World) (h0 : ArgIn Try.prog w 23 v0) (h1 : ArgIn Try.prog w 23 v1) (h2 : ArgIn Try.prog w 3 v2) :
    Calls Try.prog 5 #[v0, v1, v2] w fun e w' => e = .returned (.bool true) ∧ Below w.heap.size w w' := by
  obtain ⟨a0, rfl, w0⟩ := h0.int Try.underlying23
  obtain ⟨a1, rfl, w1⟩ := h1.int Try.underlying23
  obtain ⟨a2, rfl, w2⟩ := h2.int Try.underlying3
  exact CrcCombines_w a0 a1 a2 w w0 w1 w2
end Go.Proofs.Ytpdlkdlciipdcaa
