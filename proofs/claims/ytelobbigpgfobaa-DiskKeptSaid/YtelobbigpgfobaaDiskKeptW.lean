/-
  The walk of the law DiskKept: it returns true and writes nothing that was there. No condition.
-/
import Derived.Test.YtelobbigpgfobaaKturns
namespace Go.Proofs.Ytelobbigpgfobaa
open Go.RowKit
set_option linter.unusedVariables false
set_option maxRecDepth 100000 in
set_option maxHeartbeats 8000000 in
theorem DiskKept_w (a b : BitVec 8) (A : Option Addr) (m c : Nat) (ts : Nat → Turn4) (w : World) (hr : TurnsAt w w.heap.size A m ts) (hn : m ≤ c) (hc : c ≤ maxLen) :
    Calls Try.prog 3 #[.int .u8 (n8 a), .int .u8 (n8 b), .slice A m c] w fun e w' => e = .returned (.bool true) ∧ Below w.heap.size w w' := by
  have HR := Lib.hid hr
  unfold maxLen at hc
  clear hr
  by_cases hm : 100 < m
  · go_enter Try.func3, Try.ntmps3
    go_wp2_with fail
    refine (works_any _).mono ?_
    rintro e w9 ⟨rfl, hb⟩
    have HB := Lib.hid hb
    clear hb
    go_wp2_with fail
    go_ret
    exact ⟨rfl, HB.out⟩
  go_enter Try.func3, Try.ntmps3
  go_wp2_with fail
  refine (begin_any (Sep.start w) a b).mono ?_
  rintro e w1 ⟨k, gb, gd, d, rb, lay, S, rfl, hs⟩
  have hn0 : 0 < a.toNat % 8 + 1 := by omega
  have hn8 : a.toNat % 8 + 1 ≤ 65536 := by omega
  generalize a.toNat % 8 + 1 = n at hs hn0 hn8
  generalize b.toNat % 40 + 1 = size at hs
  generalize (fun _ => (⟨size, [], 0⟩ : SlotD)) = D at hs
  have HS1 := Lib.hid hs
  have HCC : Hid (AllCells []) := fun o ho => by cases ho
  clear hs
  go_wp2_with fail
  go_loopg [8] m (fun q v8 wr => ∃ (j : Nat) (lay : Lay) (S : Nat → Prop) (D : Nat → SlotD), j + q = m ∧ v8 = .int .i64 j ∧ KSep w.heap.size w wr d rb lay S k gb gd size n D [])
  case atStart => exact ⟨0, lay, S, D, by omega, rfl, HS1.out⟩
  case round =>
    obtain ⟨j, lay, S, D, hj, rfl, hs⟩ := hrel
    have HJ := Lib.hid hj
    have hj' : j ≤ m := by omega
    have HS := Lib.hid hs
    by_cases hlt : j < m
    · obtain ⟨ad, ht⟩ := HR.out.below hs.bel j hlt
      obtain rfl := ht.a
      have c0 := ht.c0
      have c1 := ht.c1
      have c2 := ht.c2
      have c3 := ht.c3
      clear hj hs ht
      go_wp2_with fail
      refine (turn_any HS.out hn0 hn8 HCC.out _ _ _ _).mono ?_
      rintro e w3 ⟨rfl, lay3, S3, hs⟩
      have HS3 := Lib.hid hs
      obtain ⟨k0, k1, k2, k3⟩ := hs.known.cells
      clear hs c0 c1 c2 c3
      go_wp2_with fail
      refine (agrees_any (HS3.out.get (.head _)) HS3.out.known hn0 hn8).mono ?_
      rintro e w4 ⟨rfl, hb⟩
      have HS4 := Lib.hid (HS3.out.below hb)
      clear hb
      go_wp2_with fail
      go_roundg (gk - 1)
      case measure => have := HJ.out; omega
      case rel => exact ⟨j + 1, _, _, _, by have := HJ.out; omega, by go_num, HS4.out⟩
    · clear hj hs
      go_wp2_with fail
      refine (works_any _).mono ?_
      rintro e w9 ⟨rfl, hb⟩
      have HB := Lib.hid (HS.out.below hb).bel
      clear hb
      go_wp2_with fail
      go_ret
      exact ⟨rfl, HB.out⟩
theorem DiskKept_walk (v0 v1 v2 : Value) (w : World) (h0 : ArgIn Try.prog w 5 v0) (h1 : ArgIn Try.prog w 5 v1) (h2 : ArgIn Try.prog w 22 v2) :
    Calls Try.prog 3 #[v0, v1, v2] w fun e w' => e = .returned (.bool true) ∧ Below w.heap.size w w' := by
  obtain ⟨m0, rfl, e0⟩ := h0.int (k := .u8) Try.underlying5
  obtain ⟨m1, rfl, e1⟩ := h1.int (k := .u8) Try.underlying5
  obtain ⟨b0, rfl⟩ := u8_of_wf e0
  obtain ⟨b1, rfl⟩ := u8_of_wf e1
  obtain ⟨A, n, c, ts, rfl, k1, k2, k3⟩ := turns_arg h2
  exact DiskKept_w b0 b1 A n c ts w k3 k1 k2
end Go.Proofs.Ytelobbigpgfobaa
