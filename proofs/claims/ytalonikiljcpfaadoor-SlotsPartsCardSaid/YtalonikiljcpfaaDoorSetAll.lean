/-
  A set's iterator once more: what it yields is known to be in the set. Condition: the set is as New makes it.
-/
import Derived.Test.YtalonikiljcpfaaDoorCells
import Derived.Test.YtalonikiljcpfaaDoorSetHelp
namespace Go.Proofs.YtalonikiljcpfaaDoor
open Go.RowKit Go.Shelf
set_option linter.unusedVariables false
attribute [local go_sem] Oper.semAt_some
/-- A slot of a set. -/
abbrev SlotIn (L : List Bool) := { x : Nat // inL L x = true }
def vals {L : List Bool} (l : List (SlotIn L)) : List Nat := l.map (·.1)
theorem vals_length {L : List Bool} (l : List (SlotIn L)) : (vals l).length = l.length := by simp [vals]
theorem cellOb_set (g : Nat) (L : List Bool) : CellOb (setOb g L) := fun w h k hk => by
  have hk' : k = g := hk
  subst hk'
  obtain ⟨b, h⟩ := h
  exact ⟨_, h.blk, rfl⟩
theorem cellOb_bv (g : Nat) (L : List Bool) : CellOb (bvOb g L) := cellOb_blk _ _ _
set_option maxRecDepth 100000 in
set_option maxHeartbeats 4000000 in
theorem all1_set (n : Nat) (hn : 1 ≤ n) (l Bn g : Nat) (L : List Bool) (Kp : World → World → Prop) (J Jx : List (SlotIn L) → World → Prop)
    (hY : ∀ (pre : List (SlotIn L)) (x : SlotIn L) (W : World), J pre W → pre.length < (slotsOf L).length → YieldAt Fence.wide (n - 1) Tryd.prog l #[.int .i64 (x.1 : Int)] W fun e W' =>
      (e = .returned (.bool true) ∧ J (pre ++ [x]) W' ∧ Kp W W') ∨ (e = .returned (.bool false) ∧ Jx (pre ++ [x]) W'))
    (W : World) (hBn : W.cell? ⟨Bn, 0, none⟩ = some (.pointer (some ⟨g, 0, none⟩))) (hL : HasSet W g L) (h0 : J [] W) :
    CallsIn Fence.wide n Tryd.prog 62 #[.func (.yield l) #[] #[], .pointer (some ⟨Bn, 0, none⟩)] W fun e W' => (∃ v, e = .returned v) ∧
      ((∃ ys, vals ys = slotsOf L ∧ J ys W') ∨ (∃ pre, vals pre <+: slotsOf L ∧ Jx pre W')) := by
  have HV := Lib.hid (valid_of hL)
  obtain ⟨b, hL⟩ := hL
  have q0 : W.cell? ⟨g, 0, none⟩ = some (.int .i64 (L.length : Int)) := hL.blk.cell 0
  have q1 : W.cell? ⟨g, 1, none⟩ = some (.int .u64 (n64 b)) := hL.blk.cell 1
  have hs34 := hL.le
  have HBITS := Lib.hid hL.bits
  have HEL := Lib.hid hL.elems
  clear hL
  refine callsIn_of_wp Tryd.func62 rfl trivial ?_ rfl
  simp only [Tryd.ntmps62, List.size_toArray, List.length_cons, List.length_nil, Nat.reduceAdd, Nat.reduceSub, Array.replicate_succ, Array.replicate_zero, List.push_toArray, List.append_toArray, List.nil_append, List.cons_append]
  gi_wp2_with (refine ⟨trivial, ?_⟩; gi_at_call 58; refine (callsIn_wide.2 HV.out).mono ?_; rintro e w' ⟨rfl, rfl⟩)
  gi_loopw [16] (fun v wr => ∃ (j : Nat) (pre : List (SlotIn L)), v = .int .i64 (j : Int) ∧ j ≤ L.length ∧ vals pre = elems b j ∧ J pre wr)
    (fun v wr => L.length - (intOf v).toNat)
  case atStart => exact ⟨0, [], rfl, by omega, rfl, h0⟩
  case round =>
    obtain ⟨j, pre, rfl, hj, hpre, hJs⟩ := hrel
    by_cases hlt : j < L.length
    · cases hb : b.getLsbD j with
      | true =>
        have hbit := bit_u64 b j
        rw [hb] at hbit
        have he := elems_succ b j
        rw [hb, if_pos rfl] at he
        have hin : inL L j = true := by rw [← HBITS.out]; exact hb
        have hj64 : j < 64 := by omega
        have hlen : pre.length < (slotsOf L).length := by
          have := elems_len_lt b hlt hb
          rw [HEL.out, ← hpre, vals_length] at this
          exact this
        have HE : Hid (vals (pre ++ [(⟨j, hin⟩ : SlotIn L)]) = elems b (j + 1)) := by show _ = _; rw [he, ← hpre]; simp [vals]
        have HP : Hid (vals (pre ++ [(⟨j, hin⟩ : SlotIn L)]) <+: slotsOf L) := by show _ <+: _; rw [HE.out, ← HEL.out]; exact elems_prefix b (by omega)
        obtain ⟨fn, tmps, assign, body, hy, hR⟩ := hY pre ⟨j, hin⟩ wr hJs hlen
        clear he hb hpre hlen
        dsimp only at hy
        gi_wp2
        refine hR.mono ?_
        rintro e W3 (⟨rfl, hJ3, hk3⟩ | ⟨rfl, hJx3⟩)
        · gi_wp2
          go_roundw
          case rel => exact ⟨j + 1, _, by go_num, by omega, HE.out, hJ3⟩
          case measure => simp [intOf]; omega
        · gi_wp2
          refine bodyPost_ret (results_none rfl _ _ _) rfl ?_
          exact ⟨⟨_, rfl⟩, .inr ⟨_, HP.out, hJx3⟩⟩
      | false =>
        have hbit := bit_u64 b j
        rw [hb] at hbit
        have he := elems_succ b j
        rw [hb, if_neg (by simp)] at he
        have HE : Hid (vals pre = elems b (j + 1)) := hpre.trans he.symm
        have hj64 : j < 64 := by omega
        clear he hb hpre
        gi_wp2
        refine ⟨fun _ h => (by cases h), ?_⟩
        gi_wp2
        go_roundw
        case rel => exact ⟨j + 1, pre, by go_num, by omega, HE.out, hJs⟩
        case measure => simp [intOf]; omega
    · have hj2 : j = L.length := by omega
      subst hj2
      have HE : Hid (vals pre = slotsOf L) := hpre.trans HEL.out
      clear hpre
      gi_wp2
      go_end0
      exact ⟨⟨_, rfl⟩, .inl ⟨_, HE.out, hJs⟩⟩
theorem all_stops_set (n : Nat) (hn : 1 ≤ n) (Bn g : Nat) (L : List Bool) (Kp : World → World → Prop) (w : World) (hBn : Bn < w.heap.size)
    (hc : w.cell? ⟨Bn, 0, none⟩ = some (.pointer (some ⟨g, 0, none⟩))) (hL : HasSet w g L) :
    SeqStopsK Fence.wide n Tryd.prog 62 #[.pointer (some ⟨Bn, 0, none⟩)] (fun x : SlotIn L => #[Value.int .i64 (x.1 : Int)]) Kp (fun ys => vals ys = slotsOf L) (fun pre => vals pre <+: slotsOf L) (slotsOf L).length w := fun l J Jx W hW _ _ hY h0 =>
  all1_set n hn l Bn g L Kp J Jx hY W ((hW.cell (p := ⟨Bn, 0, none⟩) hBn).trans hc) (hL.below hW hL.lt) h0
end Go.Proofs.YtalonikiljcpfaaDoor
