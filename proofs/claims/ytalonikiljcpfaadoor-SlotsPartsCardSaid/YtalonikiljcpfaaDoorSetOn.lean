/-
  A set's iterator, for a loop over it whose body may be another iterator's. Condition: the set is as New makes it.
-/
import Derived.Test.YtalonikiljcpfaaDoorSetAll
import Derived.Test.YtalonikiljcpfaaDoorSeqOn
namespace Go.Proofs.YtalonikiljcpfaaDoor
open Go.RowKit Go.Shelf
set_option linter.unusedVariables false
attribute [local go_sem] Oper.semAt_some
theorem slotsTo_len (L : List Bool) : slotsTo L L.length = slotsOf L := rfl
set_option maxRecDepth 100000 in
set_option maxHeartbeats 4000000 in
theorem all1_on (n : Nat) (hn : 1 ≤ n) (Bn g : Nat) (L : List Bool) (I : List Nat → World → Prop) (w : World) (hI : ∀ V, I [] V → V.cell? ⟨Bn, 0, none⟩ = some (.pointer (some ⟨g, 0, none⟩)) ∧ HasSet V g L) :
    SeqOn Fence.wide n Tryd.prog 62 #[.pointer (some ⟨Bn, 0, none⟩)] (fun x : Nat => #[Value.int .i64 (x : Int)]) I (fun pre x => pre = slotsTo L x ∧ inL L x = true) (fun xs => xs = slotsOf L) (fun pre => pre <+: slotsOf L) w := by
  rintro l J Jx W hbW hJI _ _ hY h0
  obtain ⟨hBn, hL⟩ := hI _ (hJI _ _ h0)
  have HV := Lib.hid (valid_of hL)
  obtain ⟨b, hL⟩ := hL
  have q0 : W.cell? ⟨g, 0, none⟩ = some (.int .i64 (L.length : Int)) := hL.blk.cell 0
  have q1 : W.cell? ⟨g, 1, none⟩ = some (.int .u64 (n64 b)) := hL.blk.cell 1
  have hs34 := hL.le
  have HBITS := Lib.hid hL.bits
  have HYY := Lib.hid hY
  have HJI := Lib.hid hJI
  clear hL hY hJI hI
  refine callsIn_of_wp Tryd.func62 rfl trivial ?_ rfl
  simp only [Tryd.ntmps62, List.size_toArray, List.length_cons, List.length_nil, Nat.reduceAdd, Nat.reduceSub, Array.replicate_succ, Array.replicate_zero, List.push_toArray, List.append_toArray, List.nil_append, List.cons_append]
  gi_wp2_with (refine ⟨trivial, ?_⟩; gi_at_call 58; refine (callsIn_wide.2 HV.out).mono ?_; rintro e w' ⟨rfl, rfl⟩)
  gi_loopw [16] (fun v wr => ∃ (j : Nat), v = .int .i64 (j : Int) ∧ j ≤ L.length ∧ J (slotsTo L j) wr)
    (fun v wr => L.length - (intOf v).toNat)
  case atStart => exact ⟨0, rfl, by omega, h0⟩
  case round =>
    obtain ⟨j, rfl, hj, hJs⟩ := hrel
    by_cases hlt : j < L.length
    · have hst := slots_to L j
      cases hb : b.getLsbD j with
      | true =>
        have hbit := bit_u64 b j
        rw [hb] at hbit
        have hin : inL L j = true := by rw [← HBITS.out]; exact hb
        rw [hin] at hst
        have hj64 : j < 64 := by omega
        have HE : Hid (slotsTo L (j + 1) = slotsTo L j ++ [j]) := hst
        have HP : Hid (slotsTo L (j + 1) <+: slotsOf L) := by
          have h1 : List.range (j + 1) <+: List.range L.length := by
            refine ⟨(List.range (L.length - (j + 1))).map (fun x => j + 1 + x), ?_⟩
            rw [← List.range_add]
            congr 1
            omega
          exact List.IsPrefix.filter _ h1
        obtain ⟨fn, tmps, assign, body, hy, hR⟩ := HYY.out _ j wr hJs ⟨rfl, hin⟩
        clear hb hst hin
        try dsimp only at hy
        gi_wp2
        refine hR.mono ?_
        rintro e W3 (⟨rfl, hJ3, hk3⟩ | ⟨rfl, hJx3, hk3⟩)
        · gi_wp2
          go_roundw
          case rel => exact ⟨j + 1, by go_num, by omega, by rw [HE.out]; exact hJ3⟩
          case measure => simp [intOf]; omega
        · gi_wp2
          refine bodyPost_ret (results_none rfl _ _ _) rfl ?_
          exact ⟨⟨_, rfl⟩, .inr ⟨_, HP.out, by rw [HE.out]; exact hJx3⟩⟩
      | false =>
        have hbit := bit_u64 b j
        rw [hb] at hbit
        have hin : inL L j = false := by rw [← HBITS.out]; exact hb
        rw [hin] at hst
        have HE : Hid (slotsTo L (j + 1) = slotsTo L j) := hst
        have hj64 : j < 64 := by omega
        clear hb hst hin
        gi_wp2
        refine ⟨fun _ h => (by cases h), ?_⟩
        gi_wp2
        go_roundw
        case rel => exact ⟨j + 1, by go_num, by omega, by rw [HE.out]; exact hJs⟩
        case measure => simp [intOf]; omega
    · have hj2 : j = L.length := by omega
      subst hj2
      gi_wp2
      go_end0
      exact ⟨⟨_, rfl⟩, .inl ⟨_, slotsTo_len L, hJs⟩⟩
end Go.Proofs.YtalonikiljcpfaaDoor
