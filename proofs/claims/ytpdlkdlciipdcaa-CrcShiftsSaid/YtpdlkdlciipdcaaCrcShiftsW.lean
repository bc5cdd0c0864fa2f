/-
  The walk of the law CrcShifts: it returns true and writes nothing that was there. No condition.
-/
import Derived.Test.YtpdlkdlciipdcaaCrcLaw
namespace Go.Proofs.Ytpdlkdlciipdcaa
open Go.RowKit Drum
set_option linter.unusedVariables false
theorem combine_shift (a : W32) (n : Int) (h0 : 0 ≤ n) (hn : n ≤ 9223372036854775807) (w : World) :
    Calls Try.prog 19 #[.int .u32 (n32 a), .int .u32 0, .int .i64 n] w fun e w' => e = .returned (.tuple #[.int .u32 (n32 (cshift n.toNat a)), .int .i64 0]) ∧ Below w.heap.size w w' := by
  have h := combine_any a 0#32 n h0 hn w
  rw [show n32 0#32 = 0 by unfold n32; rfl, BitVec.xor_zero] at h
  exact h
set_option maxHeartbeats 2000000 in
set_option maxRecDepth 100000 in
theorem CrcShifts_big (x y : W32) (m n : Int) (w : World) (h1 : 0 ≤ m) (h2 : m ≤ 4611686018427387903) (h3 : 0 ≤ n) (h4 : n ≤ 4611686018427387903) :
    Calls Try.prog 10 #[.int .u32 (n32 x), .int .u32 (n32 y), .int .i64 m, .int .i64 n] w fun e w' => e = .returned (.bool true) ∧ Below w.heap.size w w' := by
  have HE := Lib.hid (show cshift n.toNat (cshift m.toNat x) = cshift (m + n).toNat x by rw [← cshift_add]; congr 1; omega)
  have HI := Lib.hid (show decide (cshift (m + n).toNat y = cshift (m + n).toNat x) = decide (x = y) by
    rw [Bool.eq_iff_iff]; simp only [decide_eq_true_eq]; exact ⟨fun h => (cshift_inj _ _ _ h).symm, fun h => by rw [h]⟩)
  have d1 : decide (m < 0) = false := by simp; omega
  have d2 : decide (n < 0) = false := by simp; omega
  have d3 : decide (4611686018427387903 < m) = false := by simp; omega
  have d4 : decide (4611686018427387903 < n) = false := by simp; omega
  go_enter Try.func10, Try.ntmps10
  go_wp2_with fail
  refine (combine_shift x _ h1 (by omega) _).mono ?_
  rintro e w1 ⟨rfl, hb1⟩
  have HB1 := Lib.hid hb1
  clear hb1
  go_wp2_with fail
  refine (combine_shift _ _ h3 (by omega) _).mono ?_
  rw [HE.out]
  rintro e w2 ⟨rfl, hb2⟩
  have HB2 := Lib.hid hb2
  clear hb2
  go_wp2_with fail
  refine (combine_shift _ _ (by omega) (by omega) _).mono ?_
  rintro e w3 ⟨rfl, hb3⟩
  have HB3 := Lib.hid hb3
  clear hb3
  go_wp2_with fail
  refine (combine_shift _ _ (by omega) (by omega) _).mono ?_
  rintro e w4 ⟨rfl, hb4⟩
  have HB4 := Lib.hid hb4
  have hi := HI.out
  clear hb4
  go_wp2_with fail
  refine (works_any _).mono ?_
  rintro e w5 ⟨rfl, hb5⟩
  go_wp2
  go_ret
  exact ⟨rfl, bt (bt (bt (bt HB1.out HB2.out) HB3.out) HB4.out) hb5⟩
/-- The error of a number of bytes. -/
def errOf (k : Int) : Int := if k < 0 then 2 else 0
theorem errOf_two (k : Int) : (errOf k == 2) = decide (k < 0) := by
  unfold errOf; by_cases h : k < 0 <;> simp [h]
theorem combine_err (a b : W32) (k : Int) (hk : k ≤ 9223372036854775807) (w : World) :
    Calls Try.prog 19 #[.int .u32 (n32 a), .int .u32 (n32 b), .int .i64 k] w fun e w' => ∃ v : Int, e = .returned (.tuple #[.int .u32 v, .int .i64 (errOf k)]) ∧ Below w.heap.size w w' := by
  by_cases h : k < 0
  · have e : errOf k = 2 := if_pos h
    rw [e]
    exact (combine_neg a b k h w).mono fun e w' ⟨he, hb⟩ => ⟨_, he, hb⟩
  · have e : errOf k = 0 := if_neg h
    rw [e]
    exact (combine_any a b k (by omega) hk w).mono fun e w' ⟨he, hb⟩ => ⟨_, he, hb⟩
set_option maxHeartbeats 1000000 in
set_option maxRecDepth 100000 in
theorem CrcShifts_out00 (x y : W32) (m n : Int) (w : World) (hm1 : -9223372036854775808 ≤ m) (hm2 : m ≤ 9223372036854775807) (hn1 : -9223372036854775808 ≤ n) (hn2 : n ≤ 9223372036854775807) (hc : m < 0) (ho : m ≤ n) :
    Calls Try.prog 10 #[.int .u32 (n32 x), .int .u32 (n32 y), .int .i64 m, .int .i64 n] w fun e w' => e = .returned (.bool true) ∧ Below w.heap.size w w' := by
  have HE := Lib.hid (errOf_two m)
  have d0 : decide (m < 0) = true := by simp; omega
  clear hc
  go_enter Try.func10, Try.ntmps10
  go_wp2_with fail
  refine (combine_err x y _ (by omega) _).mono ?_
  rintro e w1 ⟨v, rfl, hb1⟩
  have HB1 := Lib.hid hb1
  have he := HE.out
  clear hb1
  go_wp2_with fail
  refine (works_any _).mono ?_
  rintro e w2 ⟨rfl, hb2⟩
  go_wp2
  go_ret
  exact ⟨rfl, bt HB1.out hb2⟩
set_option maxHeartbeats 1000000 in
set_option maxRecDepth 100000 in
theorem CrcShifts_out01 (x y : W32) (m n : Int) (w : World) (hm1 : -9223372036854775808 ≤ m) (hm2 : m ≤ 9223372036854775807) (hn1 : -9223372036854775808 ≤ n) (hn2 : n ≤ 9223372036854775807) (hc : m < 0) (ho : n < m) :
    Calls Try.prog 10 #[.int .u32 (n32 x), .int .u32 (n32 y), .int .i64 m, .int .i64 n] w fun e w' => e = .returned (.bool true) ∧ Below w.heap.size w w' := by
  have HE := Lib.hid (errOf_two n)
  have d0 : decide (m < 0) = true := by simp; omega
  clear hc
  go_enter Try.func10, Try.ntmps10
  go_wp2_with fail
  refine (combine_err x y _ (by omega) _).mono ?_
  rintro e w1 ⟨v, rfl, hb1⟩
  have HB1 := Lib.hid hb1
  have he := HE.out
  clear hb1
  go_wp2_with fail
  refine (works_any _).mono ?_
  rintro e w2 ⟨rfl, hb2⟩
  go_wp2
  go_ret
  exact ⟨rfl, bt HB1.out hb2⟩
set_option maxHeartbeats 1000000 in
set_option maxRecDepth 100000 in
theorem CrcShifts_out10 (x y : W32) (m n : Int) (w : World) (hm1 : -9223372036854775808 ≤ m) (hm2 : m ≤ 9223372036854775807) (hn1 : -9223372036854775808 ≤ n) (hn2 : n ≤ 9223372036854775807) (hc : 0 ≤ m ∧ n < 0) (ho : m ≤ n) :
    Calls Try.prog 10 #[.int .u32 (n32 x), .int .u32 (n32 y), .int .i64 m, .int .i64 n] w fun e w' => e = .returned (.bool true) ∧ Below w.heap.size w w' := by
  have HE := Lib.hid (errOf_two m)
  have d0 : decide (m < 0) = false := by simp; omega
  have d1 : decide (n < 0) = true := by simp; omega
  clear hc
  go_enter Try.func10, Try.ntmps10
  go_wp2_with fail
  refine (combine_err x y _ (by omega) _).mono ?_
  rintro e w1 ⟨v, rfl, hb1⟩
  have HB1 := Lib.hid hb1
  have he := HE.out
  clear hb1
  go_wp2_with fail
  refine (works_any _).mono ?_
  rintro e w2 ⟨rfl, hb2⟩
  go_wp2
  go_ret
  exact ⟨rfl, bt HB1.out hb2⟩
set_option maxHeartbeats 1000000 in
set_option maxRecDepth 100000 in
theorem CrcShifts_out11 (x y : W32) (m n : Int) (w : World) (hm1 : -9223372036854775808 ≤ m) (hm2 : m ≤ 9223372036854775807) (hn1 : -9223372036854775808 ≤ n) (hn2 : n ≤ 9223372036854775807) (hc : 0 ≤ m ∧ n < 0) (ho : n < m) :
    Calls Try.prog 10 #[.int .u32 (n32 x), .int .u32 (n32 y), .int .i64 m, .int .i64 n] w fun e w' => e = .returned (.bool true) ∧ Below w.heap.size w w' := by
  have HE := Lib.hid (errOf_two n)
  have d0 : decide (m < 0) = false := by simp; omega
  have d1 : decide (n < 0) = true := by simp; omega
  clear hc
  go_enter Try.func10, Try.ntmps10
  go_wp2_with fail
  refine (combine_err x y _ (by omega) _).mono ?_
  rintro e w1 ⟨v, rfl, hb1⟩
  have HB1 := Lib.hid hb1
  have he := HE.out
  clear hb1
  go_wp2_with fail
  refine (works_any _).mono ?_
  rintro e w2 ⟨rfl, hb2⟩
  go_wp2
  go_ret
  exact ⟨rfl, bt HB1.out hb2⟩
set_option maxHeartbeats 1000000 in
set_option maxRecDepth 100000 in
theorem CrcShifts_out20 (x y : W32) (m n : Int) (w : World) (hm1 : -9223372036854775808 ≤ m) (hm2 : m ≤ 9223372036854775807) (hn1 : -9223372036854775808 ≤ n) (hn2 : n ≤ 9223372036854775807) (hc : 0 ≤ m ∧ 0 ≤ n ∧ 4611686018427387903 < m) (ho : m ≤ n) :
    Calls Try.prog 10 #[.int .u32 (n32 x), .int .u32 (n32 y), .int .i64 m, .int .i64 n] w fun e w' => e = .returned (.bool true) ∧ Below w.heap.size w w' := by
  have HE := Lib.hid (errOf_two m)
  have d0 : decide (m < 0) = false := by simp; omega
  have d1 : decide (n < 0) = false := by simp; omega
  have d2 : decide (4611686018427387903 < m) = true := by simp; omega
  clear hc
  go_enter Try.func10, Try.ntmps10
  go_wp2_with fail
  refine (combine_err x y _ (by omega) _).mono ?_
  rintro e w1 ⟨v, rfl, hb1⟩
  have HB1 := Lib.hid hb1
  have he := HE.out
  clear hb1
  go_wp2_with fail
  refine (works_any _).mono ?_
  rintro e w2 ⟨rfl, hb2⟩
  go_wp2
  go_ret
  exact ⟨rfl, bt HB1.out hb2⟩
set_option maxHeartbeats 1000000 in
set_option maxRecDepth 100000 in
theorem CrcShifts_out21 (x y : W32) (m n : Int) (w : World) (hm1 : -9223372036854775808 ≤ m) (hm2 : m ≤ 9223372036854775807) (hn1 : -9223372036854775808 ≤ n) (hn2 : n ≤ 9223372036854775807) (hc : 0 ≤ m ∧ 0 ≤ n ∧ 4611686018427387903 < m) (ho : n < m) :
    Calls Try.prog 10 #[.int .u32 (n32 x), .int .u32 (n32 y), .int .i64 m, .int .i64 n] w fun e w' => e = .returned (.bool true) ∧ Below w.heap.size w w' := by
  have HE := Lib.hid (errOf_two n)
  have d0 : decide (m < 0) = false := by simp; omega
  have d1 : decide (n < 0) = false := by simp; omega
  have d2 : decide (4611686018427387903 < m) = true := by simp; omega
  clear hc
  go_enter Try.func10, Try.ntmps10
  go_wp2_with fail
  refine (combine_err x y _ (by omega) _).mono ?_
  rintro e w1 ⟨v, rfl, hb1⟩
  have HB1 := Lib.hid hb1
  have he := HE.out
  clear hb1
  go_wp2_with fail
  refine (works_any _).mono ?_
  rintro e w2 ⟨rfl, hb2⟩
  go_wp2
  go_ret
  exact ⟨rfl, bt HB1.out hb2⟩
set_option maxHeartbeats 1000000 in
set_option maxRecDepth 100000 in
theorem CrcShifts_out30 (x y : W32) (m n : Int) (w : World) (hm1 : -9223372036854775808 ≤ m) (hm2 : m ≤ 9223372036854775807) (hn1 : -9223372036854775808 ≤ n) (hn2 : n ≤ 9223372036854775807) (hc : 0 ≤ m ∧ 0 ≤ n ∧ m ≤ 4611686018427387903 ∧ 4611686018427387903 < n) (ho : m ≤ n) :
    Calls Try.prog 10 #[.int .u32 (n32 x), .int .u32 (n32 y), .int .i64 m, .int .i64 n] w fun e w' => e = .returned (.bool true) ∧ Below w.heap.size w w' := by
  have HE := Lib.hid (errOf_two m)
  have d0 : decide (m < 0) = false := by simp; omega
  have d1 : decide (n < 0) = false := by simp; omega
  have d2 : decide (4611686018427387903 < m) = false := by simp; omega
  have d3 : decide (4611686018427387903 < n) = true := by simp; omega
  clear hc
  go_enter Try.func10, Try.ntmps10
  go_wp2_with fail
  refine (combine_err x y _ (by omega) _).mono ?_
  rintro e w1 ⟨v, rfl, hb1⟩
  have HB1 := Lib.hid hb1
  have he := HE.out
  clear hb1
  go_wp2_with fail
  refine (works_any _).mono ?_
  rintro e w2 ⟨rfl, hb2⟩
  go_wp2
  go_ret
  exact ⟨rfl, bt HB1.out hb2⟩
set_option maxHeartbeats 1000000 in
set_option maxRecDepth 100000 in
theorem CrcShifts_out31 (x y : W32) (m n : Int) (w : World) (hm1 : -9223372036854775808 ≤ m) (hm2 : m ≤ 9223372036854775807) (hn1 : -9223372036854775808 ≤ n) (hn2 : n ≤ 9223372036854775807) (hc : 0 ≤ m ∧ 0 ≤ n ∧ m ≤ 4611686018427387903 ∧ 4611686018427387903 < n) (ho : n < m) :
    Calls Try.prog 10 #[.int .u32 (n32 x), .int .u32 (n32 y), .int .i64 m, .int .i64 n] w fun e w' => e = .returned (.bool true) ∧ Below w.heap.size w w' := by
  have HE := Lib.hid (errOf_two n)
  have d0 : decide (m < 0) = false := by simp; omega
  have d1 : decide (n < 0) = false := by simp; omega
  have d2 : decide (4611686018427387903 < m) = false := by simp; omega
  have d3 : decide (4611686018427387903 < n) = true := by simp; omega
  clear hc
  go_enter Try.func10, Try.ntmps10
  go_wp2_with fail
  refine (combine_err x y _ (by omega) _).mono ?_
  rintro e w1 ⟨v, rfl, hb1⟩
  have HB1 := Lib.hid hb1
  have he := HE.out
  clear hb1
  go_wp2_with fail
  refine (works_any _).mono ?_
  rintro e w2 ⟨rfl, hb2⟩
  go_wp2
  go_ret
  exact ⟨rfl, bt HB1.out hb2⟩
theorem CrcShifts_w (a0 a1 a2 a3 : Int) (w : World) (w0 : (Lit.int .u32 a0).wf = true) (w1 : (Lit.int .u32 a1).wf = true) (w2 : (Lit.int .i64 a2).wf = true) (w3 : (Lit.int .i64 a3).wf = true) :
    Calls Try.prog 10 #[.int .u32 a0, .int .u32 a1, .int .i64 a2, .int .i64 a3] w fun e w' => e = .returned (.bool true) ∧ Below w.heap.size w w' := by
  obtain ⟨x, rfl⟩ := u32_of_wf w0
  obtain ⟨y, rfl⟩ := u32_of_wf w1
  obtain ⟨h1, h2⟩ := i64_of_wf w2
  obtain ⟨h3, h4⟩ := i64_of_wf w3
  rcases (by omega : a2 < 0 ∨ 0 ≤ a2) with c1 | c1
  · rcases (by omega : a2 ≤ a3 ∨ a3 < a2) with o | o
    · exact CrcShifts_out00 x y a2 a3 w h1 h2 h3 h4 c1 o
    · exact CrcShifts_out01 x y a2 a3 w h1 h2 h3 h4 c1 o
  rcases (by omega : a3 < 0 ∨ 0 ≤ a3) with c2 | c2
  · rcases (by omega : a2 ≤ a3 ∨ a3 < a2) with o | o
    · exact CrcShifts_out10 x y a2 a3 w h1 h2 h3 h4 ⟨c1, c2⟩ o
    · exact CrcShifts_out11 x y a2 a3 w h1 h2 h3 h4 ⟨c1, c2⟩ o
  rcases (by omega : 4611686018427387903 < a2 ∨ a2 ≤ 4611686018427387903) with c3 | c3
  · rcases (by omega : a2 ≤ a3 ∨ a3 < a2) with o | o
    · exact CrcShifts_out20 x y a2 a3 w h1 h2 h3 h4 ⟨c1, c2, c3⟩ o
    · exact CrcShifts_out21 x y a2 a3 w h1 h2 h3 h4 ⟨c1, c2, c3⟩ o
  rcases (by omega : 4611686018427387903 < a3 ∨ a3 ≤ 4611686018427387903) with c4 | c4
  · rcases (by omega : a2 ≤ a3 ∨ a3 < a2) with o | o
    · exact CrcShifts_out30 x y a2 a3 w h1 h2 h3 h4 ⟨c1, c2, c3, c4⟩ o
    · exact CrcShifts_out31 x y a2 a3 w h1 h2 h3 h4 ⟨c1, c2, c3, c4⟩ o
  exact CrcShifts_big x y a2 a3 w c1 c3 c2 c4
theorem CrcShifts_walk (v0 v1 v2 v3 : Value) (w : World) (h0 : ArgIn Try.prog w 23 v0) (h1 : ArgIn Try.prog w 23 v1) (h2 : ArgIn Try.prog w 3 v2) (h3 : ArgIn Try.prog w 3 v3) :
    Calls Try.prog 10 #[v0, v1, v2, v3] w fun e w' => e = .returned (.bool true) ∧ Below w.heap.size w w' := by
  obtain ⟨a0, rfl, w0⟩ := h0.int Try.underlying23
  obtain ⟨a1, rfl, w1⟩ := h1.int Try.underlying23
  obtain ⟨a2, rfl, w2⟩ := h2.int Try.underlying3
  obtain ⟨a3, rfl, w3⟩ := h3.int Try.underlying3
  exact CrcShifts_w a0 a1 a2 a3 w w0 w1 w2 w3
end Go.Proofs.Ytpdlkdlciipdcaa
