/-
  A table's methods that change nothing: valid, Free, State, Sizes, Only. Condition: the table is as New makes it.
-/
import Derived.Test.YtalonikiljcpfaaDoorTab
import Derived.Deep.RegionHeld3
namespace Go.Proofs.YtalonikiljcpfaaDoor
open Go.RowKit
set_option linter.unusedVariables false
/-- How many slots are in a state. -/
def cnt (T : List Nat) (s : Nat) : Nat := (slotsOf (memb T s)).length
section
variable {w w' : World} {g : Nat} {p : Nat → Nat} {r : Nat} {T : List Nat}
set_option maxHeartbeats 400000 in
theorem tvalid (h : IsTab w g p r T) :
    Calls Tryd.prog 38 #[.pointer (some ⟨g, 0, none⟩)] w fun e w' => e = .returned (.bool true) ∧ w = w' := by
  have q0 := h.cell0
  have hp : 0 < T.length := h.pos
  clear h
  go_enter Tryd.func38, Tryd.ntmps38
  go_wp2_with fail
  go_ret
  exact ⟨rfl, rfl⟩
set_option maxHeartbeats 1000000 in
theorem tfree (h : IsTab w g p r T) :
    Calls Tryd.prog 15 #[.pointer (some ⟨g, 0, none⟩)] w fun e w' => e = .returned (.int .i64 (cnt T 0 : Int)) ∧ w = w' := by
  have HV := Lib.hid (tvalid h)
  have q0 := h.cellP 0 (by omega)
  have HS := Lib.hid (h.set 0 (by omega))
  clear h
  go_enter Tryd.func15, Tryd.ntmps15
  go_wp2_with fail
  refine HV.out.mono ?_
  rintro e w' ⟨rfl, rfl⟩
  go_wp2_with fail
  refine (len_of HS.out).mono ?_
  rintro e w' ⟨rfl, rfl⟩
  go_wp2_with fail
  go_ret
  exact ⟨rfl, rfl⟩
set_option maxHeartbeats 1000000 in
theorem tsizes (h : IsTab w g p r T) :
    Calls Tryd.prog 25 #[.pointer (some ⟨g, 0, none⟩)] w fun e w' => e = .returned (.tuple #[.int .i64 (T.length : Int), .int .i64 (r : Int)]) ∧ ∃ q, w' = w.drewN q := by
  have HV := Lib.hid (tvalid h)
  have q0 := h.cell0
  have q1 := h.cell1
  clear h
  go_enter Tryd.func25, Tryd.ntmps25
  go_wp2_with fail
  refine HV.out.mono ?_
  rintro e w' ⟨rfl, rfl⟩
  go_wp2_with fail
  go_region
  go_wp2_with fail
  go_ret2
  exact ⟨rfl, 1, rfl⟩
/-- The state of a slot. -/
def stE (T : List Nat) (i : Int) : Int := if 0 ≤ i ∧ i < T.length then 0 else 3
def stV (T : List Nat) (i : Int) : Nat := if 0 ≤ i ∧ i < T.length then T.getD i.toNat 0 else 0
set_option maxRecDepth 100000 in
set_option maxHeartbeats 4000000 in
theorem tstate_out (h : IsTab w g p r T) (i : Int) (hi : i < 0 ∨ (T.length : Int) ≤ i) :
    Calls Tryd.prog 16 #[.pointer (some ⟨g, 0, none⟩), .int .i64 i] w fun e w' => e = .returned (.tuple #[.int .i64 0, .int .i64 3]) ∧ w = w' := by
  have HV := Lib.hid (tvalid h)
  have q0 := h.cell0
  have hle := h.le
  clear h
  by_cases h1 : i < 0
  · clear hi
    go_enter Tryd.func16, Tryd.ntmps16
    go_wp2_with fail
    refine HV.out.mono ?_
    rintro e w' ⟨rfl, rfl⟩
    go_wp2_with fail
    go_ret2
    exact ⟨rfl, rfl⟩
  · have h2 : (T.length : Int) ≤ i := by omega
    clear hi
    go_enter Tryd.func16, Tryd.ntmps16
    go_wp2_with fail
    refine HV.out.mono ?_
    rintro e w' ⟨rfl, rfl⟩
    go_wp2_with fail
    go_ret2
    exact ⟨rfl, rfl⟩
theorem ix_sets (p : Nat → Nat) (j : Nat) (hj : j < 5) : ∀ W, (Instr.index 66 (.agg #[.pointer (some ⟨p 0, 0, none⟩), .pointer (some ⟨p 1, 0, none⟩), .pointer (some ⟨p 2, 0, none⟩), .pointer (some ⟨p 3, 0, none⟩), .pointer (some ⟨p 4, 0, none⟩)]) (.int .i64 (j : Int))).run Tryd.prog W = .ok (.pointer (some ⟨p j, 0, none⟩)) W := by
  have hj5 : j = 0 ∨ j = 1 ∨ j = 2 ∨ j = 3 ∨ j = 4 := by omega
  intro W
  rcases hj5 with rfl | rfl | rfl | rfl | rfl <;> kernel_rfl
set_option maxRecDepth 100000 in
set_option maxHeartbeats 4000000 in
theorem tstate_in (h : IsTab w g p r T) (i : Nat) (hi : i < T.length) :
    Calls Tryd.prog 16 #[.pointer (some ⟨g, 0, none⟩), .int .i64 (i : Int)] w fun e w' => e = .returned (.tuple #[.int .i64 (T[i] : Int), .int .i64 0]) ∧ w = w' := by
  have HV := Lib.hid (tvalid h)
  have q0 := h.cell0
  have hle := h.le
  have p0 := h.cellP 0 (by omega)
  have p1 := h.cellP 1 (by omega)
  have p2 := h.cellP 2 (by omega)
  have p3 := h.cellP 3 (by omega)
  have p4 := h.cellP 4 (by omega)
  have H := Lib.hid h
  have HT : Hid (T[i] < 5) := h.all _ (List.getElem_mem hi)
  obtain ⟨x, hx⟩ : ∃ x, T[i] = x := ⟨_, rfl⟩
  rw [hx] at HT ⊢
  have HX := Lib.hid hx
  clear h hx
  go_enter Tryd.func16, Tryd.ntmps16
  go_wp2_with fail
  refine HV.out.mono ?_
  rintro e w' ⟨rfl, rfl⟩
  go_wp2_with fail
  have e1 : decide (T.length ≤ i) = false := by simp; omega
  simp only [e1, Bool.or_false]
  clear e1
  go_loopg [27] 5 (fun q v27 wr => ∃ (j : Nat), j + q = 5 ∧ j ≤ x ∧ v27 = .int .i64 j ∧ w = wr)
  case atStart => exact ⟨0, by omega, by omega, rfl, rfl⟩
  case round =>
    obtain ⟨j, hj, hjx, rfl, rfl⟩ := hrel
    have HJ := Lib.hid hj
    have hx5 := HT.out
    have hc := has_of (H.out.set j (by omega)) i (by rw [memb_length]; exact hi)
    rw [memb_at hi, HX.out] at hc
    have HC := Lib.hid hc
    have hix := ix_sets p j (by omega)
    have hj5 : j < 5 := by omega
    clear hj hc
    by_cases hjx2 : x = j
    · have hd : decide (x = j) = true := by simp; exact hjx2
      have HC2 := Lib.hid HC.out
      rw [hd] at HC2
      clear HC hd hx5 hjx
      subst hjx2
      go_wp2_with fail
      refine HC2.out.mono ?_
      rintro e w' ⟨rfl, rfl⟩
      go_wp2_with fail
      go_ret2
      exact ⟨rfl, rfl⟩
    · have hd : decide (x = j) = false := by simp; exact hjx2
      have HC2 := Lib.hid HC.out
      rw [hd] at HC2
      have hjl : j < x := by omega
      clear HC hd hjx2 hjx
      go_wp2_with fail
      refine HC2.out.mono ?_
      rintro e w' ⟨rfl, rfl⟩
      go_wp2_with fail
      go_roundg (gk - 1)
      case measure => have := HJ.out; omega
      case rel => exact ⟨j + 1, by have := HJ.out; omega, by omega, by go_num, rfl⟩
set_option maxHeartbeats 1000000 in
theorem tonly (h : IsTab w g p r T) (s : Nat) (hs : s = 1 ∨ s = 3 ∨ s = 4) (ht : TabIn w) (v : Nat) (is_ : Bool) (hN : NextIs (memb T s) 0 v is_) :
    Calls Tryd.prog 27 #[.pointer (some ⟨g, 0, none⟩), .int .i64 (s : Int)] w fun e w' => e = .returned (.tuple #[.int .i64 (v : Int), .bool is_]) ∧ w = w' := by
  have HV := Lib.hid (tvalid h)
  have q0 := h.cellP s (by omega)
  have HL := Lib.hid (lowest_of (h.set s (by omega)) ht v is_ hN)
  clear h hN
  rcases hs with rfl | rfl | rfl
  all_goals
    go_enter Tryd.func27, Tryd.ntmps27
    go_wp2_with fail
    refine HV.out.mono ?_
    rintro e w' ⟨rfl, rfl⟩
    go_wp2_with fail
    refine HL.out.mono ?_
    rintro e w' ⟨rfl, rfl⟩
    go_wp2_with fail
    go_ret2
    exact ⟨rfl, rfl⟩
set_option maxHeartbeats 1000000 in
theorem tonly_no (po : Option Addr) (w : World) (s : Int) (h1 : s ≠ 1) (h3 : s ≠ 3) (h4 : s ≠ 4) :
    Calls Tryd.prog 27 #[.pointer po, .int .i64 s] w fun e w' => e = .returned (.tuple #[.int .i64 0, .bool false]) ∧ w = w' := by
  have b1 : (s == 1) = false := by simp; exact h1
  have b3 : (s == 3) = false := by simp; exact h3
  have b4 : (s == 4) = false := by simp; exact h4
  clear h1 h3 h4
  go_enter Tryd.func27, Tryd.ntmps27
  go_wp2_with fail
  go_ret2
  exact ⟨rfl, rfl⟩
end
end Go.Proofs.YtalonikiljcpfaaDoor
