/-
  The walk of the law SlotsRefuses: it returns true and writes nothing that was there. Condition: the variables hold what their texts list.
-/
import Derived.Test.YtalonikiljcpfaaDoorTabLoop
import Derived.Test.YtalonikiljcpfaaDoorSlotLaid
namespace Go.Proofs.YtalonikiljcpfaaDoor
open Go.RowKit
set_option linter.unusedVariables false
theorem chg_out (b : Nat → Bool) (to : Nat) (T : List Nat) (z : Int) (hz : z < 0 ∨ (T.length : Int) ≤ z) : chgE b to T z = 3 ∧ chgT b to T z = T := by
  have hno : ¬ inT T z := by unfold inT; omega
  unfold chgE chgT
  rw [if_neg hno, if_neg hno]
  exact ⟨rfl, rfl⟩
set_option maxHeartbeats 8000000 in
set_option maxRecDepth 100000 in
theorem SlotsRefuses_w (a b : BitVec 8) (A : Option Addr) (m c : Nat) (ts : Nat → Turn2) (f : Nat) (w : World) (hf : f < 65536) (hl : LaidIn w) (hr : TurnsAt w w.heap.size A m ts) (hn : m ≤ c) (hc : c ≤ maxLen) :
    Calls Tryd.prog 4 #[.int .u8 (n8 a), .int .u8 (n8 b), .slice A m c, .int .u16 (f : Int)] w fun e w' => e = .returned (.bool true) ∧ Below w.heap.size w w' := by
  have HR := Lib.hid hr
  have HL := Lib.hid hl
  have hB := hl.big
  unfold maxLen at hc
  clear hr hl
  by_cases hm : 100 < m
  · go_enter Tryd.func4, Tryd.ntmps4
    go_wp2_with fail
    refine (works_any _ HL.out).mono ?_
    rintro e w9 ⟨rfl, hb⟩
    have HB := Lib.hid hb
    clear hb
    go_wp2_with fail
    go_ret
    exact ⟨rfl, HB.out⟩
  go_enter Tryd.func4, Tryd.ntmps4
  go_wp2_with fail
  refine (begin_any (Sep.start w) a b).mono ?_
  rintro e w1 ⟨g, p, rfl, hs⟩
  obtain ⟨n, hn⟩ : ∃ n, a.toNat % 32 + 1 = n := ⟨_, rfl⟩
  obtain ⟨k, hk⟩ : ∃ k, b.toNat % (a.toNat % 32 + 2) = k := ⟨_, rfl⟩
  have hn1 : 1 ≤ n := by omega
  have hn32 : n ≤ 32 := by omega
  have hkn : k ≤ n := by have := Nat.mod_lt b.toNat (show 0 < a.toNat % 32 + 2 by omega); omega
  rw [hn, hk] at hs ⊢
  have HT0 : Hid ((List.replicate n 0).length = n) := List.length_replicate
  generalize List.replicate n 0 = T0 at hs HT0
  have HS1 := Lib.hid hs
  clear hs hn hk
  go_wp2_with fail
  go_loopg [12] m (fun q v12 wr => ∃ (j : Nat) (T : List Nat), j + q = m ∧ v12 = .int .i64 j ∧ T.length = n ∧ Sep w.heap.size w wr [tabOb g p k T])
  case atStart => exact ⟨0, T0, by omega, rfl, HT0.out, HS1.out⟩
  case round =>
    obtain ⟨j, T, hj, rfl, hT, hs⟩ := hrel
    have HJ := Lib.hid hj
    have hj' : j ≤ m := by omega
    have HS := Lib.hid hs
    have HTL := Lib.hid hT
    by_cases hlt : j < m
    · obtain ⟨ad, ht⟩ := HR.out.below hs.bel j hlt
      obtain rfl := ht.a
      have c0 := ht.c0
      have c1 := ht.c1
      clear hj hs ht hT
      go_wp2_with fail
      refine (sep_do HS.out HL.out hB (ts j).a (ts j).s n HTL.out).mono ?_
      rintro e w3 ⟨rfl, hs⟩
      have HS3 := Lib.hid hs
      clear hs c0 c1
      go_wp2_with fail
      go_roundg (gk - 1)
      case measure => have := HJ.out; omega
      case rel => exact ⟨j + 1, _, by have := HJ.out; omega, by go_num, (doT_length _ _ _ _).trans HTL.out, HS3.out⟩
    · clear hj hs hT
      go_wp2_with fail
      refine (sep_states HS.out HS.out.table n HTL.out).mono ?_
      rintro e w3 ⟨v, rfl, hs⟩
      obtain ⟨A1, q1, rfl, h11, h12, h13⟩ := stOb_at (hs.get (.head _)) n HTL.out
      have HS3 := Lib.hid hs
      clear hs h13
      unfold maxLen at h12
      go_wp2_with fail
      have hs : Sep w.heap.size w (w3.alloc (.cells #[.int .i64 (-1 - (f : Int)), .int .i64 ((n : Int) + (f : Int))] 3)) [tabOb g p k T, blkOb w3.heap.size 3 #[.int .i64 (-1 - (f : Int)), .int .i64 ((n : Int) + (f : Int))], stOb (.slice A1 n q1) T] := (HS3.out.newBlk w3.heap.size _ _ rfl).perm (List.perm_append_comm (l₁ := [_, _]) (l₂ := [_]))
      obtain ⟨nb, hnb⟩ : ∃ nb, nb = w3.heap.size := ⟨_, rfl⟩
      rw [← hnb] at hs ⊢
      have HS4 := Lib.hid hs
      clear hs hnb
      go_loopg [67] 2 (fun q v67 wr => ∃ (j : Nat), j + q = 2 ∧ v67 = .int .i64 j ∧ Sep w.heap.size w wr [tabOb g p k T, blkOb nb 3 #[.int .i64 (-1 - (f : Int)), .int .i64 ((n : Int) + (f : Int))], stOb (.slice A1 n q1) T])
      case atStart => exact ⟨0, by omega, rfl, HS4.out⟩
      case round =>
        obtain ⟨i, hj, rfl, hs⟩ := hrel
        have HJ2 := Lib.hid hj
        have hi2 : i ≤ 2 := by omega
        have HS5 := Lib.hid hs
        by_cases hlt2 : i < 2
        · have hq : ∃ z, wr.cell? ⟨nb, i, none⟩ = some (.int .i64 z) ∧ (z < 0 ∨ (T.length : Int) ≤ z) := by
            have hb2 : Blk wr nb 3 #[.int .i64 (-1 - (f : Int)), .int .i64 ((n : Int) + (f : Int))] := hs.get (.tail _ (.head _))
            have e : i = 0 ∨ i = 1 := by omega
            rcases e with rfl | rfl
            · exact ⟨_, hb2.cell 0, .inl (by omega)⟩
            · exact ⟨_, hb2.cell 1, .inr (by rw [HTL.out]; omega)⟩
          obtain ⟨z, qz, hz⟩ := hq
          have HZ := Lib.hid hz
          clear hj hs hz
          go_wp2_with fail
          refine (tstate_out HS5.out.table z HZ.out).mono ?_
          rintro e w' ⟨rfl, rfl⟩
          go_wp2_with fail
          refine (sep_tseal HS5.out HL.out hB z 3 T (chg_out sealB 2 T z HZ.out).1 (chg_out sealB 2 T z HZ.out).2).mono ?_
          rintro e w6 ⟨rfl, hs⟩
          have HS6 := Lib.hid hs
          clear hs
          go_wp2_with fail
          refine (sep_tchoose HS6.out HL.out hB z 3 T (chg_out chooseB 3 T z HZ.out).1 (chg_out chooseB 3 T z HZ.out).2).mono ?_
          rintro e w7 ⟨rfl, hs⟩
          have HS7 := Lib.hid hs
          clear hs
          go_wp2_with fail
          refine (sep_tdrop HS7.out HL.out hB z 3 T (chg_out dropB 0 T z HZ.out).1 (chg_out dropB 0 T z HZ.out).2).mono ?_
          rintro e w8 ⟨rfl, hs⟩
          have HS8 := Lib.hid hs
          clear hs
          go_wp2_with fail
          refine (sep_tload HS8.out HL.out hB z 3 T (chg_out loadB 2 T z HZ.out).1 (chg_out loadB 2 T z HZ.out).2).mono ?_
          rintro e w9 ⟨rfl, hs⟩
          have HS9 := Lib.hid hs
          clear hs
          go_wp2_with fail
          go_roundg (gk - 1)
          case measure => have := HJ2.out; omega
          case rel => exact ⟨i + 1, by have := HJ2.out; omega, by go_num, HS9.out⟩
        · have e8 : i = 2 := by omega
          subst e8
          clear hj hs
          go_wp2_with fail
          refine (tnew_bad (-(f : Int)) 0 _ (by omega)).mono ?_
          rintro e w' ⟨rfl, rfl⟩
          go_wp2_with fail
          refine (tnew_bad (33 + (f : Int)) 0 _ (by omega)).mono ?_
          rintro e w' ⟨rfl, rfl⟩
          go_wp2_with fail
          refine (tnew_bad (n : Int) (-1 - (f : Int)) _ (by omega)).mono ?_
          rintro e w' ⟨rfl, rfl⟩
          go_wp2_with fail
          refine (tnew_bad (n : Int) ((n : Int) + 1 + (f : Int)) _ (by omega)).mono ?_
          rintro e w' ⟨rfl, rfl⟩
          go_wp2_with fail
          refine (sep_states HS5.out HS5.out.table n HTL.out).mono ?_
          rintro e w10 ⟨v, rfl, hs⟩
          obtain ⟨A2, q2, rfl, h21, h22, h23⟩ := stOb_at (hs.get (.head _)) n HTL.out
          have HS10 := Lib.hid hs
          have HCC : Hid (∀ W, Below w10.heap.size w10 W → ∀ i, i < n → ∃ ad1 ad2 x, A1 = some ad1 ∧ A2 = some ad2 ∧ W.cell? (ad1.add i) = some (.int .i64 x) ∧ W.cell? (ad2.add i) = some (.int .i64 x)) := two_st hs (.tail _ (.tail _ (.tail _ (.head _)))) (.head _) HTL.out
          clear hs h23
          unfold maxLen at h22
          go_wp2_with fail
          go_loopg [28] n (fun q v28 wr => ∃ (j : Nat), j + q = n ∧ v28 = .int .i64 j ∧ Below w10.heap.size w10 wr)
          case atStart => exact ⟨0, by omega, rfl, Below.refl _ _⟩
          case round =>
            obtain ⟨i, hj, rfl, hb⟩ := hrel
            have HJ3 := Lib.hid hj
            have hi3 : i ≤ n := by omega
            have HB3 := Lib.hid hb
            by_cases hlt3 : i < n
            · obtain ⟨ad1, ad2, x, rfl, rfl, y1, y2⟩ := HCC.out _ hb i hlt3
              clear hj hb
              go_wp2_with fail
              go_region
              go_wp2_with fail
              go_roundg (gk - 1)
              case measure => have := HJ3.out; omega
              case rel => exact ⟨i + 1, by have := HJ3.out; omega, by go_num, HB3.out.drew⟩
            · have e8 : i = n := by omega
              subst e8
              clear hj hb
              go_wp2_with fail
              refine (works_any _ ((HS10.out.below HB3.out).laid HL.out hB)).mono ?_
              rintro e w17 ⟨rfl, hb⟩
              have HB17 := Lib.hid hb
              clear hb
              go_wp2_with fail
              go_ret
              exact ⟨rfl, ((HS10.out.below HB3.out).below HB17.out).bel⟩
theorem SlotsRefuses_walk (v0 v1 v2 v3 : Value) (w : World) (hl : LaidIn w) (h0 : ArgIn Tryd.prog w 5 v0) (h1 : ArgIn Tryd.prog w 5 v1) (h2 : ArgIn Tryd.prog w 22 v2) (h3 : ArgIn Tryd.prog w 37 v3) :
    Calls Tryd.prog 4 #[v0, v1, v2, v3] w fun e w' => e = .returned (.bool true) ∧ Below w.heap.size w w' := by
  obtain ⟨m0, rfl, e0⟩ := h0.int (k := .u8) Tryd.underlying5
  obtain ⟨m1, rfl, e1⟩ := h1.int (k := .u8) Tryd.underlying5
  obtain ⟨m3, rfl, e3⟩ := h3.int (k := .u16) Tryd.underlying37
  obtain ⟨b0, rfl⟩ := u8_of_wf e0
  obtain ⟨b1, rfl⟩ := u8_of_wf e1
  obtain ⟨hf0, hf⟩ := u16_of_wf e3
  obtain ⟨f, rfl⟩ := Int.eq_ofNat_of_zero_le hf0
  obtain ⟨A, n, c, ts, rfl, k1, k2, k3⟩ := turns_arg h2
  exact SlotsRefuses_w b0 b1 A n c ts f w (by omega) hl k3 k1 k2
end Go.Proofs.YtalonikiljcpfaaDoor
