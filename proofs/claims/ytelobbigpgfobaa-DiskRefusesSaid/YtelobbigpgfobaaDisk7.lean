/-
  A disk's Used, and the iterator that it hands back. Condition: the disk is as New makes it.
-/
import Derived.RangeFuncNested
import Derived.RangeFuncBound
import Derived.RangeFuncCalls
import Derived.RangeFuncLeaves
import Derived.RangeFuncFrom
import Derived.Shelf.Abstract
import Derived.Shelf.RegionOpen
import Derived.WalkKit
import Derived.OwnWalkIn
import Derived.TacticsInMore
import Derived.LoopNIn
import Derived.LoopIn
import Derived.Test.YtelobbigpgfobaaDisk6
import Derived.Test.YtelobbigpgfobaaSeqVis
namespace Go.Proofs.Ytelobbigpgfobaa
open Go.RowKit Go.Shelf
set_option linter.unusedVariables false
attribute [local go_sem] Oper.semAt_some
/-- The slots below j that have bytes. -/
def usedTo (D : Nat → SlotD) (j : Nat) : List Nat := (List.range j).filter fun i => decide (0 < (D i).bytes.length)
theorem usedTo_zero (D : Nat → SlotD) : usedTo D 0 = [] := rfl
theorem usedTo_succ_pos {D : Nat → SlotD} {j : Nat} (h : 0 < (D j).bytes.length) : usedTo D (j + 1) = usedTo D j ++ [j] := by simp [usedTo, List.range_succ, h]
theorem usedTo_succ_zero {D : Nat → SlotD} {j : Nat} (h : ¬ 0 < (D j).bytes.length) : usedTo D (j + 1) = usedTo D j := by
  have h2 : (D j).bytes = [] := by cases e : (D j).bytes with
    | nil => rfl
    | cons a b => simp [e] at h
  simp [usedTo, List.range_succ, h2]
theorem usedTo_mem {D : Nat → SlotD} {i j : Nat} : i ∈ usedTo D j ↔ i < j ∧ 0 < (D i).bytes.length := by simp [usedTo]
theorem usedTo_length (D : Nat → SlotD) (j : Nat) : (usedTo D j).length ≤ j := by
  have := List.length_filter_le (fun i => decide (0 < (D i).bytes.length)) (List.range j)
  rw [List.length_range] at this
  exact this
set_option maxHeartbeats 400000 in
theorem used_any (p0 : Option Addr) (w : World) :
    Calls Try.prog 51 #[.pointer p0] w fun e w' => e = .returned (.func (.func 68) #[] #[.pointer (some ⟨w.heap.size, 0, none⟩)]) ∧ w' = w.alloc (.cells #[.pointer p0] 30) := by
  go_enter Try.func51, Try.ntmps51
  go_wp2_with fail
  go_ret
  exact ⟨rfl, rfl⟩
set_option maxRecDepth 100000 in
set_option maxHeartbeats 4000000 in
theorem used1_vis (m : Nat) (hm : 1 ≤ m) (Bn d n : Nat) (rb : Option Nat) (D : Nat → SlotD) (hn : 0 < n) (h34 : n ≤ 65536) (I : List Nat → World → Prop) (w : World)
    (hI : ∀ pre W, I pre W → W.cell? ⟨Bn, 0, none⟩ = some (.pointer (some ⟨d, 0, none⟩)) ∧ ∃ lay D', IsDisk W d rb n lay D' ∧ ∀ i, i < n → i ∉ pre → (D' i).bytes = (D i).bytes) :
    SeqVis Fence.wide m Try.prog 68 #[.pointer (some ⟨Bn, 0, none⟩)] (fun x : Nat => #[Value.int .i64 (x : Int)]) I (fun pre x => pre = usedTo D x ∧ x < n ∧ 0 < (D x).bytes.length) (fun xs => xs = usedTo D n) w := by
  rintro l J W hbW hJI hY h0
  obtain ⟨hBn, lay0, D0, hd0, _⟩ := hI _ _ (hJI _ _ h0)
  have HV := Lib.hid (slots_disk hd0 hn)
  clear hd0
  have HI := Lib.hid hI
  have HJI := Lib.hid hJI
  have HYY := Lib.hid hY
  clear hI hJI hY
  refine callsIn_of_wp Try.func68 rfl trivial ?_ rfl
  simp only [Try.ntmps68, List.size_toArray, List.length_cons, List.length_nil, Nat.reduceAdd, Nat.reduceSub, Array.replicate_succ, Array.replicate_zero, List.push_toArray, List.append_toArray, List.nil_append, List.cons_append]
  gi_wp2_with (refine ⟨trivial, ?_⟩; gi_at_call 33; refine (callsIn_wide.2 HV.out).mono ?_; rintro e w' ⟨rfl, rfl⟩)
  gi_loopw [6] (fun v wr => ∃ (j : Nat), v = .int .i64 (j : Int) ∧ j ≤ n ∧ J (usedTo D j) wr)
    (fun v wr => n - (intOf v).toNat)
  case atStart => exact ⟨0, rfl, by omega, h0⟩
  case round =>
    obtain ⟨j, rfl, hj, hJs⟩ := hrel
    by_cases hlt : j < n
    · obtain ⟨qb, lay, D', hd, hD⟩ := HI.out _ _ (HJI.out _ _ hJs)
      have hlen : (D' j).bytes = (D j).bytes := hD j hlt (fun e => by have := (usedTo_mem.1 e).1; omega)
      obtain ⟨A, c, qd, k1, k2, hptr⟩ := hd.cells
      obtain ⟨ad, rfl, qp⟩ := hptr j hlt
      have hL : Hid (Calls Try.prog 39 #[.pointer (some ⟨(lay j).1, 0, none⟩)] wr fun e w' => e = .returned (.int .i64 ((D j).bytes.length : Int)) ∧ wr = w') := by
        show Calls _ _ _ _ _
        rw [← hlen]
        exact len_img (hd.img j hlt)
      have hcm : c ≤ 9223372036854775807 := k2
      clear hd hD hptr hlen k2
      obtain ⟨L, hLe⟩ : ∃ L, (D j).bytes.length = L := ⟨_, rfl⟩
      rw [hLe] at hL
      have HL := Lib.hid hLe
      have HJ := Lib.hid hJs
      by_cases hpos : 0 < L
      · obtain ⟨fn, tmps, assign, body, hy, hR⟩ := HYY.out _ j wr hJs ⟨rfl, hlt, by rw [hLe]; exact hpos⟩
        have HE : Hid (usedTo D (j + 1) = usedTo D j ++ [j]) := usedTo_succ_pos (by rw [hLe]; exact hpos)
        clear hJs hLe
        try dsimp only at hy
        gi_wp2_with (first | (refine ⟨trivial, ?_⟩; gi_at_call 39; refine (callsIn_wide.2 hL.out).mono ?_; rintro e w' ⟨rfl, rfl⟩) | fail)
        refine hR.mono ?_
        rintro e W3 ⟨rfl, hJ3⟩
        gi_wp2
        go_roundw
        case rel => exact ⟨j + 1, by go_num, by omega, by rw [HE.out]; exact hJ3⟩
        case measure => simp [intOf]; omega
      · have HE : Hid (usedTo D (j + 1) = usedTo D j) := usedTo_succ_zero (by rw [hLe]; exact hpos)
        clear hJs hLe
        gi_wp2_with (first | (refine ⟨trivial, ?_⟩; gi_at_call 39; refine (callsIn_wide.2 hL.out).mono ?_; rintro e w' ⟨rfl, rfl⟩) | fail)
        refine ⟨fun _ h => (by cases h), ?_⟩
        gi_wp2
        go_roundw
        case rel => exact ⟨j + 1, by go_num, by omega, by rw [HE.out]; exact HJ.out⟩
        case measure => simp [intOf]; omega
    · have hj2 : j = n := by omega
      subst hj2
      gi_wp2
      go_end0
      exact ⟨⟨_, rfl⟩, _, rfl, hJs⟩
end Go.Proofs.Ytelobbigpgfobaa
