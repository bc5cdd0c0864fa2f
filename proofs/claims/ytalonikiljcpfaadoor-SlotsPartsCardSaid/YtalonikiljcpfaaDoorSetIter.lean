/-
  A set's valid, All and the iterator that All hands back. Condition: the set is as New makes it.
-/
import Derived.RangeFuncNested
import Derived.RangeFuncBound
import Derived.RangeFuncCalls
import Derived.RangeFuncLeaves
import Derived.RangeFuncFrom
import Derived.Shelf.Abstract
import Derived.Shelf.RegionOpen
import Derived.WalkKit
import Derived.OwnWalkIn
import Derived.TacticsInMore
import Derived.LoopNIn
import Derived.LoopIn
import Derived.Test.YtalonikiljcpfaaDoorProg
import Derived.Test.YtalonikiljcpfaaDoorSetBits
namespace Go.Proofs.YtalonikiljcpfaaDoor
open Go.RowKit Go.Shelf
set_option linter.unusedVariables false
attribute [local go_sem] Oper.semAt_some
def IsSet (w : World) (g size : Nat) (b : W64) : Prop := Blk w g 90 #[.int .i64 (size : Int), .int .u64 (n64 b)]
set_option maxHeartbeats 400000 in
theorem valid_set {w : World} {g size : Nat} {b : W64} (h : IsSet w g size b) (hs : 0 < size) :
    Calls Tryd.prog 58 #[.pointer (some ⟨g, 0, none⟩)] w fun e w' => e = .returned (.bool true) ∧ w = w' := by
  have q0 : w.cell? ⟨g, 0, none⟩ = some (.int .i64 (size : Int)) := h.cell 0
  clear h
  go_enter Tryd.func58, Tryd.ntmps58
  go_wp2_with fail
  go_ret
  exact ⟨rfl, rfl⟩
set_option maxHeartbeats 400000 in
theorem all_any (p0 : Option Addr) (w : World) :
    Calls Tryd.prog 47 #[.pointer p0] w fun e w' => e = .returned (.func (.func 62) #[] #[.pointer (some ⟨w.heap.size, 0, none⟩)]) ∧ w' = w.alloc (.cells #[.pointer p0] 65) := by
  go_enter Tryd.func47, Tryd.ntmps47
  go_wp2_with fail
  go_ret
  exact ⟨rfl, rfl⟩
set_option maxRecDepth 100000 in
set_option maxHeartbeats 4000000 in
theorem all1_in (n : Nat) (hn : 1 ≤ n) (l Bn g size : Nat) (b : W64) (hs : 0 < size) (hs34 : size ≤ 34) (Kp : World → World → Prop) (J Jx : List Nat → World → Prop)
    (hY : ∀ (pre : List Nat) (x : Nat) (W : World), J pre W → pre.length < (elems b size).length → YieldAt Fence.wide (n - 1) Tryd.prog l #[.int .i64 (x : Int)] W fun e W' =>
      (e = .returned (.bool true) ∧ J (pre ++ [x]) W' ∧ Kp W W') ∨ (e = .returned (.bool false) ∧ Jx (pre ++ [x]) W'))
    (W : World) (hBn : W.cell? ⟨Bn, 0, none⟩ = some (.pointer (some ⟨g, 0, none⟩))) (hL : IsSet W g size b) (h0 : J [] W) :
    CallsIn Fence.wide n Tryd.prog 62 #[.func (.yield l) #[] #[], .pointer (some ⟨Bn, 0, none⟩)] W fun e W' => (∃ v, e = .returned v) ∧
      ((∃ ys, ys = elems b size ∧ J ys W') ∨ (∃ pre, pre <+: elems b size ∧ Jx pre W')) := by
  have q0 : W.cell? ⟨g, 0, none⟩ = some (.int .i64 (size : Int)) := hL.cell 0
  have q1 : W.cell? ⟨g, 1, none⟩ = some (.int .u64 (n64 b)) := hL.cell 1
  have HL := Lib.hid hL
  clear hL
  refine callsIn_of_wp Tryd.func62 rfl trivial ?_ rfl
  simp only [Tryd.ntmps62, List.size_toArray, List.length_cons, List.length_nil, Nat.reduceAdd, Nat.reduceSub, Array.replicate_succ, Array.replicate_zero, List.push_toArray, List.append_toArray, List.nil_append, List.cons_append]
  gi_wp2_with (refine ⟨trivial, ?_⟩; gi_at_call 58; refine (callsIn_wide.2 (valid_set HL.out hs)).mono ?_; rintro e w' ⟨rfl, rfl⟩)
  gi_loopw [16] (fun v wr => ∃ j : Nat, v = .int .i64 (j : Int) ∧ j ≤ size ∧ J (elems b j) wr)
    (fun v wr => size - (intOf v).toNat)
  case atStart => exact ⟨0, rfl, by omega, h0⟩
  case round =>
    obtain ⟨j, rfl, hj, hJs⟩ := hrel
    by_cases hlt : j < size
    · cases hb : b.getLsbD j with
      | true =>
        have hbit := bit_u64 b j
        rw [hb] at hbit
        have he := elems_succ b j
        rw [hb, if_pos rfl] at he
        have HE := Lib.hid he
        have hj64 : j < 64 := by omega
        obtain ⟨fn, tmps, assign, body, hy, hR⟩ := hY (elems b j) j wr hJs (elems_len_lt b hlt hb)
        clear he hb
        gi_wp2
        refine hR.mono ?_
        rintro e W3 (⟨rfl, hJ3, hk3⟩ | ⟨rfl, hJx3⟩)
        · gi_wp2
          go_roundw
          case rel => exact ⟨j + 1, by go_num, by omega, by rw [HE.out]; exact hJ3⟩
          case measure => simp [intOf]; omega
        · gi_wp2
          refine bodyPost_ret (results_none rfl _ _ _) rfl ?_
          exact ⟨⟨_, rfl⟩, .inr ⟨elems b j ++ [j], by rw [← HE.out]; exact elems_prefix b (by omega), hJx3⟩⟩
      | false =>
        have hbit := bit_u64 b j
        rw [hb] at hbit
        have he := elems_succ b j
        rw [hb, if_neg (by simp)] at he
        have HE := Lib.hid he
        have hj64 : j < 64 := by omega
        clear he hb
        gi_wp2
        refine ⟨fun _ h => (by cases h), ?_⟩
        gi_wp2
        go_roundw
        case rel => exact ⟨j + 1, by go_num, by omega, by rw [HE.out]; exact hJs⟩
        case measure => simp [intOf]; omega
    · have hj2 : j = size := by omega
      subst hj2
      gi_wp2
      go_end0
      exact ⟨⟨_, rfl⟩, .inl ⟨_, rfl, hJs⟩⟩
theorem all_stops (n : Nat) (hn : 1 ≤ n) (Bn g size : Nat) (b : W64) (hs : 0 < size) (hs34 : size ≤ 34) (Kp : World → World → Prop) (w : World) (hBn : Bn < w.heap.size)
    (hc : w.cell? ⟨Bn, 0, none⟩ = some (.pointer (some ⟨g, 0, none⟩))) (hL : IsSet w g size b) :
    SeqStopsK Fence.wide n Tryd.prog 62 #[.pointer (some ⟨Bn, 0, none⟩)] (fun x : Nat => #[Value.int .i64 (x : Int)]) Kp (fun ys => ys = elems b size) (fun pre => pre <+: elems b size) (elems b size).length w := fun l J Jx W hW _ _ hY h0 =>
  all1_in n hn l Bn g size b hs hs34 Kp J Jx hY W ((hW.cell (p := ⟨Bn, 0, none⟩) hBn).trans hc) (Blk.below hL hW hL.lt) h0
end Go.Proofs.YtalonikiljcpfaaDoor
