/-
  A disk's methods: New, valid, Slots, and what goes through a closure. Conditions: the disk is as New makes it.
-/
import Derived.Test.YtelobbigpgfobaaDisk
import Derived.Deep.QuietTactic
import Derived.BigQuiet
namespace Go.Proofs.Ytelobbigpgfobaa
open Go.RowKit
set_option linter.unusedVariables false
/-- A disk that is nil, or was not made by New. -/
def NoDisk (w : World) (p : Option Addr) : Prop := p = none ∨ ∃ g, p = some ⟨g, 0, none⟩ ∧ w.cell? ⟨g, 0, none⟩ = some (.slice none 0 0)
theorem NoDisk.below {w w' : World} {p : Option Addr} (h : NoDisk w p) (hb : Below w.heap.size w w') : NoDisk w' p := by
  rcases h with rfl | ⟨g, rfl, hc⟩
  · exact .inl rfl
  · exact .inr ⟨g, rfl, (hb.cell (p := ⟨g, 0, none⟩) (block_lt_of_cell hc)).trans hc⟩
theorem ret_eq {v : Value} {r : Int} (h : v = .int .i64 r) : Ending.returned v = .returned (.int .i64 r) := by rw [h]
section
variable {w : World} {d n : Nat} {rb : Option Nat} {lay : Lay} {D : Nat → SlotD} {p : Option Addr}
theorem IsDisk.cells (h : IsDisk w d rb n lay D) : ∃ A c, w.cell? ⟨d, 0, none⟩ = some (.slice A n c) ∧ n ≤ c ∧ c ≤ maxLen ∧ ∀ i, i < n → ∃ ad, A = some ad ∧ w.cell? (ad.add i) = some (.pointer (some ⟨(lay i).1, 0, none⟩)) := by
  obtain ⟨A, c, h1, h2, h3⟩ := h.row
  obtain ⟨A', c', e, k1, k2, kr⟩ := own_slice h2
  injection e with e1 e2 e3
  subst e1 e3
  refine ⟨A, c, h1.cell 0, k1, k2, fun i hi => ?_⟩
  obtain ⟨ad, u, rfl, _, hx, hc⟩ := kr.at_ hi
  rw [ptrsTo_at lay hi] at hx
  injection hx with hx
  subst hx
  exact ⟨ad, rfl, hc⟩
set_option maxHeartbeats 400000 in
theorem valid_disk (h : IsDisk w d rb n lay D) (hn : 0 < n) :
    Calls Try.prog 49 #[.pointer (some ⟨d, 0, none⟩)] w fun e w' => e = .returned (.bool true) ∧ w = w' := by
  obtain ⟨A, c, q0, _, hm, _⟩ := h.cells
  unfold maxLen at hm
  clear h
  go_enter Try.func49, Try.ntmps49
  go_wp2_with fail
  go_ret
  exact ⟨rfl, rfl⟩
set_option maxHeartbeats 400000 in
theorem valid_nodisk (h : NoDisk w p) :
    Calls Try.prog 49 #[.pointer p] w fun e w' => e = .returned (.bool false) ∧ w = w' := by
  rcases h with rfl | ⟨g, rfl, hc⟩
  · go_enter Try.func49, Try.ntmps49
    go_wp2_with fail
    go_ret
    exact ⟨rfl, rfl⟩
  · go_enter Try.func49, Try.ntmps49
    go_wp2_with fail
    go_ret
    exact ⟨rfl, rfl⟩
set_option maxHeartbeats 400000 in
theorem slots_disk (h : IsDisk w d rb n lay D) (hn : 0 < n) :
    Calls Try.prog 33 #[.pointer (some ⟨d, 0, none⟩)] w fun e w' => e = .returned (.int .i64 (n : Int)) ∧ w = w' := by
  obtain ⟨A, c, q0, _, hm, _⟩ := h.cells
  have HV := Lib.hid (valid_disk h hn)
  unfold maxLen at hm
  clear h
  go_enter Try.func33, Try.ntmps33
  go_wp2_with fail
  refine HV.out.mono ?_
  rintro e w' ⟨rfl, rfl⟩
  go_wp2_with fail
  go_ret
  exact ⟨rfl, rfl⟩
set_option maxHeartbeats 400000 in
theorem slots_nodisk (h : NoDisk w p) :
    Calls Try.prog 33 #[.pointer p] w fun e w' => e = .returned (.int .i64 0) ∧ w = w' := by
  have HV := Lib.hid (valid_nodisk h)
  clear h
  go_enter Try.func33, Try.ntmps33
  go_wp2_with fail
  refine HV.out.mono ?_
  rintro e w' ⟨rfl, rfl⟩
  go_wp2_with fail
  go_ret
  exact ⟨rfl, rfl⟩
set_option maxHeartbeats 400000 in
theorem with_nodisk (h : NoDisk w p) (i : Int) (f : Value) :
    Calls Try.prog 35 #[.pointer p, .int .i64 i, f] w fun e w' => e = .returned (.int .i64 1) ∧ w = w' := by
  have HV := Lib.hid (valid_nodisk h)
  clear h
  go_enter Try.func35, Try.ntmps35
  go_wp2_with fail
  refine HV.out.mono ?_
  rintro e w' ⟨rfl, rfl⟩
  go_wp2_with fail
  go_ret
  exact ⟨rfl, rfl⟩
set_option maxHeartbeats 400000 in
theorem with_range (h : IsDisk w d rb n lay D) (hn : 0 < n) (i : Int) (hi : i < 0 ∨ (n : Int) ≤ i) (f : Value) :
    Calls Try.prog 35 #[.pointer (some ⟨d, 0, none⟩), .int .i64 i, f] w fun e w' => e = .returned (.int .i64 3) ∧ w = w' := by
  obtain ⟨A, c, q0, _, hm, _⟩ := h.cells
  have HV := Lib.hid (valid_disk h hn)
  unfold maxLen at hm
  clear h
  by_cases h1 : i < 0
  · clear hi
    go_enter Try.func35, Try.ntmps35
    go_wp2_with fail
    refine HV.out.mono ?_
    rintro e w' ⟨rfl, rfl⟩
    go_wp2_with fail
    go_ret
    exact ⟨rfl, rfl⟩
  · have h2 : (n : Int) ≤ i := by omega
    clear hi
    go_enter Try.func35, Try.ntmps35
    go_wp2_with fail
    refine HV.out.mono ?_
    rintro e w' ⟨rfl, rfl⟩
    go_wp2_with fail
    go_ret
    exact ⟨rfl, rfl⟩
set_option maxHeartbeats 400000 in
theorem with_Append (h : IsDisk w d rb n lay D) (hn : 0 < n) (i : Nat) (hi : i < n) (cap0 : Value) (Q : Int → World → Prop) (hc : Calls Try.prog 42 #[.pointer (some ⟨(lay i).1, 0, none⟩), cap0] w fun e w' => ∃ r, e = .returned (.int .i64 r) ∧ Q r w') :
    Calls Try.prog 35 #[.pointer (some ⟨d, 0, none⟩), .int .i64 (i : Int), .func (.func 42) #[] #[cap0]] w fun e w' => ∃ r, e = .returned (.int .i64 r) ∧ Hid (Q r w') := by
  obtain ⟨A, c, q0, _, hm, hp⟩ := h.cells
  obtain ⟨ad, rfl, q1⟩ := hp i hi
  have HV := Lib.hid (valid_disk h hn)
  have HC := Lib.hid hc
  unfold maxLen at hm
  clear h hp hc
  go_enter Try.func35, Try.ntmps35
  go_wp2_with fail
  refine HV.out.mono ?_
  rintro e w' ⟨rfl, rfl⟩
  go_wp2_with fail
  refine HC.out.mono ?_
  rintro e w' ⟨r, rfl, hq⟩
  have HQ := Lib.hid hq
  clear hq
  go_wp2_with fail
  go_ret
  exact ⟨r, rfl, HQ⟩
set_option maxHeartbeats 400000 in
theorem with_Sync (h : IsDisk w d rb n lay D) (hn : 0 < n) (i : Nat) (hi : i < n)  (Q : Int → World → Prop) (hc : Calls Try.prog 44 #[.pointer (some ⟨(lay i).1, 0, none⟩)] w fun e w' => ∃ r, e = .returned (.int .i64 r) ∧ Q r w') :
    Calls Try.prog 35 #[.pointer (some ⟨d, 0, none⟩), .int .i64 (i : Int), .func (.func 44) #[] #[]] w fun e w' => ∃ r, e = .returned (.int .i64 r) ∧ Hid (Q r w') := by
  obtain ⟨A, c, q0, _, hm, hp⟩ := h.cells
  obtain ⟨ad, rfl, q1⟩ := hp i hi
  have HV := Lib.hid (valid_disk h hn)
  have HC := Lib.hid hc
  unfold maxLen at hm
  clear h hp hc
  go_enter Try.func35, Try.ntmps35
  go_wp2_with fail
  refine HV.out.mono ?_
  rintro e w' ⟨rfl, rfl⟩
  go_wp2_with fail
  refine HC.out.mono ?_
  rintro e w' ⟨r, rfl, hq⟩
  have HQ := Lib.hid hq
  clear hq
  go_wp2_with fail
  go_ret
  exact ⟨r, rfl, HQ⟩
set_option maxHeartbeats 400000 in
theorem with_Erase (h : IsDisk w d rb n lay D) (hn : 0 < n) (i : Nat) (hi : i < n)  (Q : Int → World → Prop) (hc : Calls Try.prog 46 #[.pointer (some ⟨(lay i).1, 0, none⟩)] w fun e w' => ∃ r, e = .returned (.int .i64 r) ∧ Q r w') :
    Calls Try.prog 35 #[.pointer (some ⟨d, 0, none⟩), .int .i64 (i : Int), .func (.func 46) #[] #[]] w fun e w' => ∃ r, e = .returned (.int .i64 r) ∧ Hid (Q r w') := by
  obtain ⟨A, c, q0, _, hm, hp⟩ := h.cells
  obtain ⟨ad, rfl, q1⟩ := hp i hi
  have HV := Lib.hid (valid_disk h hn)
  have HC := Lib.hid hc
  unfold maxLen at hm
  clear h hp hc
  go_enter Try.func35, Try.ntmps35
  go_wp2_with fail
  refine HV.out.mono ?_
  rintro e w' ⟨rfl, rfl⟩
  go_wp2_with fail
  refine HC.out.mono ?_
  rintro e w' ⟨r, rfl, hq⟩
  have HQ := Lib.hid hq
  clear hq
  go_wp2_with fail
  go_ret
  exact ⟨r, rfl, HQ⟩
set_option maxHeartbeats 400000 in
theorem with_Read (h : IsDisk w d rb n lay D) (hn : 0 < n) (i : Nat) (hi : i < n) (cap0 : Value) (cap1 : Value) (cap2 : Value) (Q : Int → World → Prop) (hc : Calls Try.prog 36 #[.pointer (some ⟨(lay i).1, 0, none⟩), cap0, cap1, cap2] w fun e w' => ∃ r, e = .returned (.int .i64 r) ∧ Q r w') :
    Calls Try.prog 35 #[.pointer (some ⟨d, 0, none⟩), .int .i64 (i : Int), .func (.func 36) #[] #[cap0, cap1, cap2]] w fun e w' => ∃ r, e = .returned (.int .i64 r) ∧ Hid (Q r w') := by
  obtain ⟨A, c, q0, _, hm, hp⟩ := h.cells
  obtain ⟨ad, rfl, q1⟩ := hp i hi
  have HV := Lib.hid (valid_disk h hn)
  have HC := Lib.hid hc
  unfold maxLen at hm
  clear h hp hc
  go_enter Try.func35, Try.ntmps35
  go_wp2_with fail
  refine HV.out.mono ?_
  rintro e w' ⟨rfl, rfl⟩
  go_wp2_with fail
  refine HC.out.mono ?_
  rintro e w' ⟨r, rfl, hq⟩
  have HQ := Lib.hid hq
  clear hq
  go_wp2_with fail
  go_ret
  exact ⟨r, rfl, HQ⟩
set_option maxHeartbeats 400000 in
theorem with_ask (h : IsDisk w d rb n lay D) (hn : 0 < n) (i : Nat) (hi : i < n) (cap0 : Value) (cap1 : Value) (Q : Int → World → Prop) (hc : Calls Try.prog 67 #[.pointer (some ⟨(lay i).1, 0, none⟩), cap0, cap1] w fun e w' => ∃ r, e = .returned (.int .i64 r) ∧ Q r w') :
    Calls Try.prog 35 #[.pointer (some ⟨d, 0, none⟩), .int .i64 (i : Int), .func (.func 67) #[] #[cap0, cap1]] w fun e w' => ∃ r, e = .returned (.int .i64 r) ∧ Hid (Q r w') := by
  obtain ⟨A, c, q0, _, hm, hp⟩ := h.cells
  obtain ⟨ad, rfl, q1⟩ := hp i hi
  have HV := Lib.hid (valid_disk h hn)
  have HC := Lib.hid hc
  unfold maxLen at hm
  clear h hp hc
  go_enter Try.func35, Try.ntmps35
  go_wp2_with fail
  refine HV.out.mono ?_
  rintro e w' ⟨rfl, rfl⟩
  go_wp2_with fail
  refine HC.out.mono ?_
  rintro e w' ⟨r, rfl, hq⟩
  have HQ := Lib.hid hq
  clear hq
  go_wp2_with fail
  go_ret
  exact ⟨r, rfl, HQ⟩
end
end Go.Proofs.Ytelobbigpgfobaa
