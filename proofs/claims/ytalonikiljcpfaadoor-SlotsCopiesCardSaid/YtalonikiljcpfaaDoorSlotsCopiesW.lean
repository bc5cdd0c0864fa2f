/-
  The walk of the law SlotsCopies: it returns true and writes nothing that was there. Condition: the variables hold what their texts list.
-/
import Derived.Test.YtalonikiljcpfaaDoorTabLoop
import Derived.Test.YtalonikiljcpfaaDoorSlotLaid
namespace Go.Proofs.YtalonikiljcpfaaDoor
open Go.RowKit
set_option linter.unusedVariables false
set_option maxHeartbeats 8000000 in
set_option maxRecDepth 100000 in
theorem SlotsCopies_w (a b : BitVec 8) (A : Option Addr) (m c : Nat) (ts : Nat → Turn2) (A' : Option Addr) (m' c' : Nat) (ts' : Nat → Turn2) (w : World) (hl : LaidIn w) (hr : TurnsAt w w.heap.size A m ts) (hn : m ≤ c) (hc : c ≤ maxLen) (hr' : TurnsAt w w.heap.size A' m' ts') (hn' : m' ≤ c') (hc' : c' ≤ maxLen) :
    Calls Tryd.prog 6 #[.int .u8 (n8 a), .int .u8 (n8 b), .slice A m c, .slice A' m' c'] w fun e w' => e = .returned (.bool true) ∧ Below w.heap.size w w' := by
  have HR := Lib.hid hr
  have HR' := Lib.hid hr'
  have HL := Lib.hid hl
  have hB := hl.big
  unfold maxLen at hc hc'
  clear hr hr' hl
  by_cases hm : 100 < m
  · go_enter Tryd.func6, Tryd.ntmps6
    go_wp2_with fail
    refine (works_any _ HL.out).mono ?_
    rintro e w9 ⟨rfl, hb⟩
    have HB := Lib.hid hb
    clear hb
    go_wp2_with fail
    go_ret
    exact ⟨rfl, HB.out⟩
  by_cases hm' : 60 < m'
  · go_enter Tryd.func6, Tryd.ntmps6
    go_wp2_with fail
    refine (works_any _ HL.out).mono ?_
    rintro e w9 ⟨rfl, hb⟩
    have HB := Lib.hid hb
    clear hb
    go_wp2_with fail
    go_ret
    exact ⟨rfl, HB.out⟩
  go_enter Tryd.func6, Tryd.ntmps6
  go_wp2_with fail
  refine (begin_any (Sep.start w) a b).mono ?_
  rintro e w1 ⟨g, p, rfl, hs⟩
  obtain ⟨n, hn⟩ : ∃ n, a.toNat % 32 + 1 = n := ⟨_, rfl⟩
  obtain ⟨k, hk⟩ : ∃ k, b.toNat % (a.toNat % 32 + 2) = k := ⟨_, rfl⟩
  have hn1 : 1 ≤ n := by omega
  have hn32 : n ≤ 32 := by omega
  have hkn : k ≤ n := by have := Nat.mod_lt b.toNat (show 0 < a.toNat % 32 + 2 by omega); omega
  rw [hn, hk] at hs ⊢
  have HT0 : Hid ((List.replicate n 0).length = n) := List.length_replicate
  generalize List.replicate n 0 = T0 at hs HT0
  have HS1 := Lib.hid hs
  clear hs hn hk
  go_wp2_with fail
  go_loopg [12] m (fun q v12 wr => ∃ (j : Nat) (T : List Nat), j + q = m ∧ v12 = .int .i64 j ∧ T.length = n ∧ Sep w.heap.size w wr [tabOb g p k T])
  case atStart => exact ⟨0, T0, by omega, rfl, HT0.out, HS1.out⟩
  case round =>
    obtain ⟨j, T, hj, rfl, hT, hs⟩ := hrel
    have HJ := Lib.hid hj
    have hj' : j ≤ m := by omega
    have HS := Lib.hid hs
    have HTL := Lib.hid hT
    by_cases hlt : j < m
    · obtain ⟨ad, ht⟩ := HR.out.below hs.bel j hlt
      obtain rfl := ht.a
      have c0 := ht.c0
      have c1 := ht.c1
      clear hj hs ht hT
      go_wp2_with fail
      refine (sep_do HS.out HL.out hB (ts j).a (ts j).s n HTL.out).mono ?_
      rintro e w3 ⟨rfl, hs⟩
      have HS3 := Lib.hid hs
      clear hs c0 c1
      go_wp2_with fail
      go_roundg (gk - 1)
      case measure => have := HJ.out; omega
      case rel => exact ⟨j + 1, _, by have := HJ.out; omega, by go_num, (doT_length _ _ _ _).trans HTL.out, HS3.out⟩
    · clear hj hs hT
      go_wp2_with fail
      refine (sep_states HS.out HS.out.table n HTL.out).mono ?_
      rintro e w3 ⟨v, rfl, hs⟩
      obtain ⟨A1, q1, rfl, h11, h12, h13⟩ := stOb_at (hs.get (.head _)) n HTL.out
      have HS3 := Lib.hid hs
      have HI3 : Hid (IsTab w3 g p k T) := hs.get (.tail _ (.head _))
      clear hs h13
      unfold maxLen at h12
      go_wp2_with fail
      refine (sep_tcopy HS3.out HI3.out).mono ?_
      rintro e w4 ⟨g1, p1, rfl, hs⟩
      have HS4 := Lib.hid hs
      have HI4 : Hid (IsTab w4 g p k T) := hs.get (.tail _ (.tail _ (.head _)))
      clear hs
      go_wp2_with fail
      refine (sep_tcopy HS4.out HI4.out).mono ?_
      rintro e w5 ⟨g2, p2, rfl, hs⟩
      have HS5 : Hid (Sep w.heap.size w w5 [tabOb g1 p1 k T, tabOb g2 p2 k T, stOb (.slice A1 n q1) T, tabOb g p k T]) := hs.perm (List.Perm.swap _ _ _)
      clear hs
      go_wp2_with fail
      go_loopg [16] m' (fun q v16 wr => ∃ (j : Nat) (U : List Nat), j + q = m' ∧ v16 = .int .i64 j ∧ U.length = n ∧ Sep w.heap.size w wr [tabOb g1 p1 k U, tabOb g2 p2 k U, stOb (.slice A1 n q1) T, tabOb g p k T])
      case atStart => exact ⟨0, T, by omega, rfl, HTL.out, HS5.out⟩
      case round =>
        obtain ⟨i, U, hj, rfl, hU, hs⟩ := hrel
        have HJ2 := Lib.hid hj
        have hi2 : i ≤ m' := by omega
        have HS6 := Lib.hid hs
        have HUL := Lib.hid hU
        by_cases hlt2 : i < m'
        · obtain ⟨ad, ht⟩ := HR'.out.below hs.bel i hlt2
          obtain rfl := ht.a
          have HTT : Hid (∀ W, Below w.heap.size w W → TurnAt W w.heap.size (some ad) i ad (ts' i)) := fun W hW => by
            obtain ⟨ad', ht'⟩ := HR'.out.below hW i hlt2
            have := ht'.a
            injection this with this
            subst this
            exact ht'
          have c0 := ht.c0
          have c1 := ht.c1
          clear hj hs ht hU
          go_wp2_with fail
          refine (sep_do HS6.out HL.out hB (ts' i).a (ts' i).s n HUL.out).mono ?_
          rintro e w7 ⟨rfl, hs⟩
          have HS7 := Lib.hid (hs.perm (List.Perm.swap _ _ _))
          clear hs c0 c1
          obtain ⟨_, _, c0, c1⟩ := HTT.out _ HS7.out.bel
          go_wp2_with fail
          refine (sep_do HS7.out HL.out hB (ts' i).a (ts' i).s n HUL.out).mono ?_
          rintro e w8 ⟨rfl, hs⟩
          have HS8 := Lib.hid (hs.perm (List.Perm.swap _ _ _))
          clear hs c0 c1
          go_wp2_with fail
          go_roundg (gk - 1)
          case measure => have := HJ2.out; omega
          case rel => exact ⟨i + 1, _, by have := HJ2.out; omega, by go_num, (doT_length _ _ _ _).trans HUL.out, HS8.out⟩
        · have HI6 : Hid (IsTab wr g p k T) := hs.get (.tail _ (.tail _ (.tail _ (.head _))))
          clear hj hs hU
          go_wp2_with fail
          refine (sep_states HS6.out HI6.out n HTL.out).mono ?_
          rintro e w10 ⟨v, rfl, hs⟩
          obtain ⟨A2, q2, rfl, h21, h22, h23⟩ := stOb_at (hs.get (.head _)) n HTL.out
          have HS10 := Lib.hid hs
          have HCC : Hid (∀ W, Below w10.heap.size w10 W → ∀ i, i < n → ∃ ad1 ad2 x, A1 = some ad1 ∧ A2 = some ad2 ∧ W.cell? (ad1.add i) = some (.int .i64 x) ∧ W.cell? (ad2.add i) = some (.int .i64 x)) := two_st hs (.tail _ (.tail _ (.tail _ (.head _)))) (.head _) HTL.out
          have HI10 : Hid (∀ W, Below w10.heap.size w10 W → IsTab W g1 p1 k U) := fun W hW => (show IsTab w10 g1 p1 k U from hs.get (.tail _ (.head _))).below hW
          clear hs h23
          unfold maxLen at h22
          go_wp2_with fail
          go_loopg [22] n (fun q v22 wr => ∃ (j : Nat), j + q = n ∧ v22 = .int .i64 j ∧ Below w10.heap.size w10 wr)
          case atStart => exact ⟨0, by omega, rfl, Below.refl _ _⟩
          case round =>
            obtain ⟨i, hj, rfl, hb⟩ := hrel
            have HJ3 := Lib.hid hj
            have hi3 : i ≤ n := by omega
            have HB3 := Lib.hid hb
            by_cases hlt3 : i < n
            · obtain ⟨ad1, ad2, x, rfl, rfl, y1, y2⟩ := HCC.out _ hb i hlt3
              clear hj hb
              go_wp2_with fail
              go_region
              go_wp2_with fail
              go_roundg (gk - 1)
              case measure => have := HJ3.out; omega
              case rel => exact ⟨i + 1, by have := HJ3.out; omega, by go_num, HB3.out.drew⟩
            · have e8 : i = n := by omega
              subst e8
              clear hj hb
              go_wp2_with fail
              refine (tsizes (HI10.out _ HB3.out)).mono ?_
              rintro e w11 ⟨rfl, q, rfl⟩
              have hul := HUL.out
              rw [hul]
              clear hul
              have HS11 : Hid (Sep w.heap.size w (wr.drewN q) _) := (HS10.out.below HB3.out).drewN q
              generalize wr.drewN q = w11 at HS11 ⊢
              go_wp2_with fail
              refine (works_any _ (HS11.out.laid HL.out hB)).mono ?_
              rintro e w17 ⟨rfl, hb⟩
              have HB17 := Lib.hid hb
              clear hb
              go_wp2_with fail
              go_ret
              exact ⟨rfl, (HS11.out.below HB17.out).bel⟩
theorem SlotsCopies_walk (v0 v1 v2 v3 : Value) (w : World) (hl : LaidIn w) (h0 : ArgIn Tryd.prog w 5 v0) (h1 : ArgIn Tryd.prog w 5 v1) (h2 : ArgIn Tryd.prog w 22 v2) (h3 : ArgIn Tryd.prog w 22 v3) :
    Calls Tryd.prog 6 #[v0, v1, v2, v3] w fun e w' => e = .returned (.bool true) ∧ Below w.heap.size w w' := by
  obtain ⟨m0, rfl, e0⟩ := h0.int (k := .u8) Tryd.underlying5
  obtain ⟨m1, rfl, e1⟩ := h1.int (k := .u8) Tryd.underlying5
  obtain ⟨b0, rfl⟩ := u8_of_wf e0
  obtain ⟨b1, rfl⟩ := u8_of_wf e1
  obtain ⟨A, n, c, ts, rfl, k1, k2, k3⟩ := turns_arg h2
  obtain ⟨A', n', c', ts', rfl, k1', k2', k3'⟩ := turns_arg h3
  exact SlotsCopies_w b0 b1 A n c ts A' n' c' ts' w hl k3 k1 k2 k3' k1' k2'
end Go.Proofs.YtalonikiljcpfaaDoor
