/-
  The walk of the law SlotsOne: it returns true and writes nothing that was there. Condition: the variables hold what their texts list.
-/
import Derived.Test.YtalonikiljcpfaaDoorTabLoop
import Derived.Test.YtalonikiljcpfaaDoorSlotLaid
import Derived.Test.YtalonikiljcpfaaDoorTabLaw
import Derived.Deep.QuietTactic
import Derived.BigQuiet
namespace Go.Proofs.YtalonikiljcpfaaDoor
open Go.RowKit
set_option linter.unusedVariables false
/-- How many of the first i slots are in each state. -/
def cntV (T : List Nat) (i : Nat) : Array Value := #[.int .i64 ((T.take i).count 0 : Nat), .int .i64 ((T.take i).count 1 : Nat), .int .i64 ((T.take i).count 2 : Nat), .int .i64 ((T.take i).count 3 : Nat), .int .i64 ((T.take i).count 4 : Nat)]
theorem cntV_at (T : List Nat) (i x : Nat) (hx : x < 5) : (cntV T i)[x]? = some (.int .i64 (((T.take i).count x : Nat) : Int)) := by
  have : x = 0 ∨ x = 1 ∨ x = 2 ∨ x = 3 ∨ x = 4 := by omega
  rcases this with rfl | rfl | rfl | rfl | rfl <;> rfl
theorem cntV_set (T : List Nat) (i x : Nat) (hi : T[i]? = some x) (hx : x < 5) : (cntV T i).setIfInBounds x (.int .i64 (((T.take i).count x : Nat) + 1 : Int)) = cntV T (i + 1) := by
  have ht : T.take (i + 1) = T.take i ++ [x] := by rw [List.take_add_one, hi]; rfl
  unfold cntV
  rw [ht]
  simp only [List.count_append]
  have : x = 0 ∨ x = 1 ∨ x = 2 ∨ x = 3 ∨ x = 4 := by omega
  rcases this with rfl | rfl | rfl | rfl | rfl <;> simp
theorem cnt_take_le (T : List Nat) (i x : Nat) : (T.take i).count x ≤ T.length := Nat.le_trans List.count_le_length (by rw [List.length_take]; omega)
theorem st_cell {w : World} {A : Option Addr} {n q : Nat} {T : List Nat} (h : (stOb (.slice A n q) T).P w) (hn : T.length = n) (i : Nat) (hi : i < n) : ∃ ad x, A = some ad ∧ T[i]? = some x ∧ w.cell? (ad.add i) = some (.int .i64 ((x : Nat) : Int)) := by
  obtain ⟨B1, c1, e1, _, _, k1⟩ := stOb_at h n hn
  injection e1 with e1
  subst e1
  obtain ⟨ad, x, h1, h2, _, h3⟩ := k1 i hi
  exact ⟨ad, x, h1, h2, h3⟩
theorem one_slot {T T' : List Nat} {kk v i x y : Nat} {e : Int} (h : DoLaw T kk v e T') (hx : T'[i]? = some x) (hy : T[i]? = some y) : x = y ∨ (i = v ∧ e = 0) := by
  rcases h with ⟨_, rfl⟩ | ⟨he, fr, to, h1, rfl, _⟩
  · rw [hx] at hy
    injection hy with hy
    exact .inl hy
  · by_cases e2 : v = i
    · exact .inr ⟨e2.symm, he⟩
    · rw [List.getElem?_set, if_neg e2, hy] at hx
      injection hx with hx
      exact .inl hx.symm
set_option maxHeartbeats 16000000 in
set_option maxRecDepth 100000 in
theorem SlotsOne_w (a b : BitVec 8) (A : Option Addr) (m c : Nat) (ts : Nat → Turn2) (w : World) (hl : LaidIn w) (hr : TurnsAt w w.heap.size A m ts) (hn : m ≤ c) (hc : c ≤ maxLen) :
    Calls Tryd.prog 3 #[.int .u8 (n8 a), .int .u8 (n8 b), .slice A m c] w fun e w' => e = .returned (.bool true) ∧ Below w.heap.size w w' := by
  have HR := Lib.hid hr
  have HL := Lib.hid hl
  have hB := hl.big
  unfold maxLen at hc
  clear hr hl
  by_cases hm : 200 < m
  · go_enter Tryd.func3, Tryd.ntmps3
    go_wp2_with fail
    refine (works_any _ HL.out).mono ?_
    rintro e w9 ⟨rfl, hb⟩
    have HB := Lib.hid hb
    clear hb
    go_wp2_with fail
    go_ret
    exact ⟨rfl, HB.out⟩
  go_enter Tryd.func3, Tryd.ntmps3
  go_wp2_with fail
  refine (begin_any (Sep.start w) a b).mono ?_
  rintro e w1 ⟨g, p, rfl, hs⟩
  obtain ⟨n, hn⟩ : ∃ n, a.toNat % 32 + 1 = n := ⟨_, rfl⟩
  obtain ⟨k, hk⟩ : ∃ k, b.toNat % (a.toNat % 32 + 2) = k := ⟨_, rfl⟩
  have hn1 : 1 ≤ n := by omega
  have hn32 : n ≤ 32 := by omega
  have hkn : k ≤ n := by have := Nat.mod_lt b.toNat (show 0 < a.toNat % 32 + 2 by omega); omega
  rw [hn, hk] at hs ⊢
  have HT0 : Hid ((List.replicate n 0).length = n) := List.length_replicate
  have HU0 := Lib.hid (uniq_zero n)
  generalize List.replicate n 0 = T0 at hs HT0 HU0
  have HS1 := Lib.hid hs
  clear hs hn hk
  go_wp2_with fail
  refine (sep_states HS1.out HS1.out.table n HT0.out).mono ?_
  rintro e w2 ⟨v0, rfl, hs⟩
  have HS2 : Hid (Sep w.heap.size w w2 [tabOb g p k T0, stOb v0 T0]) := hs.perm (List.Perm.swap _ _ _)
  clear hs
  go_wp2_with fail
  go_loopg [10, 11] m (fun q v10 v11 wr => ∃ (j : Nat) (T : List Nat), j + q = m ∧ v11 = .int .i64 j ∧ T.length = n ∧ UniqT T ∧ Sep w.heap.size w wr [tabOb g p k T, stOb v10 T])
  case atStart => exact ⟨0, T0, by omega, rfl, HT0.out, HU0.out, HS2.out⟩
  case round =>
    obtain ⟨j, T, hj, rfl, hT, hU, hs⟩ := hrel
    obtain ⟨gk1, rfl⟩ : ∃ gk1, gk1 = gk := ⟨_, rfl⟩
    have HJ := Lib.hid hj
    have hj' : j ≤ m := by omega
    have HS := Lib.hid hs
    have HTL := Lib.hid hT
    have HUT := Lib.hid hU
    by_cases hlt : j < m
    · obtain ⟨ad, ht⟩ := HR.out.below hs.bel j hlt
      obtain rfl := ht.a
      have c0 := ht.c0
      have c1 := ht.c1
      obtain ⟨A1, q1, rfl, h11, h12, h13⟩ := stOb_at (hs.get (.tail _ (.head _))) n hT
      have HTT : Hid (∀ W, Below w.heap.size w W → TurnAt W w.heap.size (some ad) j ad (ts j)) := fun W hW => by
        obtain ⟨ad', ht'⟩ := HR.out.below hW j hlt
        have := ht'.a
        injection this with this
        subst this
        exact ht'
      have HLAW := Lib.hid (do_law T k (ts j).a (ts j).s (by omega))
      have HTL2 : Hid ((doT T k (ts j).a (ts j).s).length = n) := (doT_length _ _ _ _).trans hT
      obtain ⟨vv, hvv⟩ : ∃ vv, doV T k (ts j).a (ts j).s = vv := ⟨_, rfl⟩
      obtain ⟨ee, hee⟩ : ∃ ee, doE T k (ts j).a (ts j).s = ee := ⟨_, rfl⟩
      have HDO := Lib.hid (sep_do HS.out HL.out hB (ts j).a (ts j).s n HTL.out)
      obtain ⟨T', hT'⟩ : ∃ T', doT T k (ts j).a (ts j).s = T' := ⟨_, rfl⟩
      rw [hvv, hee, hT'] at HLAW HDO
      rw [hT'] at HTL2
      have HU2 := Lib.hid (uniq_do HLAW.out hU)
      clear hj hs ht hT hU h13 hvv hee hT'
      unfold maxLen at h12
      go_wp2_with fail
      refine HDO.out.mono ?_
      rintro e w3 ⟨rfl, hs⟩
      have HS3 := Lib.hid hs
      clear hs c0 c1
      go_wp2_with fail
      refine (sep_states HS3.out HS3.out.table n HTL2.out).mono ?_
      rintro e w4 ⟨v4, rfl, hs⟩
      obtain ⟨A2, q2, rfl, h21, h22, h23⟩ := stOb_at (hs.get (.head _)) n HTL2.out
      have HS4 := Lib.hid hs
      clear hs h23
      unfold maxLen at h22
      go_wp2_with fail
      have hs : Sep w.heap.size w (w4.alloc (.cells (cntV T' 0) 34)) [blkOb w4.heap.size 34 (cntV T' 0), stOb (.slice A2 n q2) T', tabOb g p k T', stOb (.slice A1 n q1) T] := HS4.out.newBlk w4.heap.size _ _ rfl
      obtain ⟨cb, hcb⟩ : ∃ cb, cb = w4.heap.size := ⟨_, rfl⟩
      rw [← hcb] at hs ⊢
      have HS5 := Lib.hid hs
      clear hs hcb
      go_loopg [16] n (fun q v16 wr => ∃ (i : Nat), i + q = n ∧ v16 = .int .i64 i ∧ Sep w.heap.size w wr [blkOb cb 34 (cntV T' i), stOb (.slice A2 n q2) T', tabOb g p k T', stOb (.slice A1 n q1) T])
      case atStart => exact ⟨0, by omega, rfl, HS5.out⟩
      case round =>
        obtain ⟨i, hj, rfl, hs⟩ := hrel
        have HJ2 := Lib.hid hj
        have hi2 : i ≤ n := by omega
        have HS6 := Lib.hid hs
        by_cases hlt2 : i < n
        · obtain ⟨ad1, y, rfl, hy, z1⟩ := st_cell (hs.get (.tail _ (.tail _ (.tail _ (.head _))))) HTL.out i hlt2
          obtain ⟨ad2, x, rfl, hx, z2⟩ := st_cell (hs.get (.tail _ (.head _))) HTL2.out i hlt2
          have hx5 : x < 5 := (show IsTab wr g p k T' from hs.get (.tail _ (.tail _ (.head _)))).all x (List.mem_of_getElem? hx)
          have hblk : Blk wr cb 34 (cntV T' i) := hs.get (.head _)
          have qx : wr.cell? ⟨cb, x, none⟩ = some (.int .i64 (((T'.take i).count x : Nat) : Int)) := by rw [hblk.cell]; exact cntV_at T' i x hx5
          have fx := hblk.frozen x
          have hc32 := cnt_take_le T' i x
          rw [HTL2.out] at hc32
          obtain ⟨cx, hcx⟩ : ∃ cx, (T'.take i).count x = cx := ⟨_, rfl⟩
          rw [hcx] at qx hc32
          have HCX := Lib.hid hcx
          have HX := Lib.hid hx
          have hok := one_slot HLAW.out hx hy
          clear hj hs hy hx hblk hcx
          have hd0 : decide ((x : Int) < 0) = false := by simp
          have hd4 : decide ((4 : Int) < (x : Int)) = false := by simp; omega
          by_cases hxy : x = y
          · subst hxy
            clear hok
            go_wp2_with fail
            go_quiet (fail)
            obtain ⟨wz, hwz⟩ : ∃ wz, wz = wr.drewN nq := ⟨_, rfl⟩
            have HS7 : Hid (Sep w.heap.size w wz [blkOb cb 34 (cntV T' i), stOb (.slice (some ad2) n q2) T', tabOb g p k T', stOb (.slice (some ad1) n q1) T]) := by rw [hwz]; exact HS6.out.drewN nq
            have qz : wz.cell? ⟨cb, x, none⟩ = some (.int .i64 (cx : Int)) := by rw [hwz]; exact qx
            have fz : wz.frozen? ⟨cb, x, none⟩ = false := by rw [hwz]; exact fx
            have z2' : wz.cell? (ad2.add i) = some (.int .i64 (x : Int)) := by rw [hwz]; exact z2
            rw [← hwz]
            clear hwz qx fx z1 z2
            go_wp2_with fail
            go_roundg (gk - 1)
            case measure => have := HJ2.out; omega
            case rel =>
              have := HS7.out.setBlk x (.int .i64 ((cx : Int) + 1))
              rw [← HCX.out, cntV_set T' i x HX.out hx5, HCX.out] at this
              exact ⟨i + 1, by have := HJ2.out; omega, by go_num, this⟩
          · have hb1 : ((x : Int) != (y : Int)) = true := by simp; omega
            obtain ⟨rfl, rfl⟩ : i = vv ∧ ee = 0 := by omega
            clear hok hxy
            go_wp2_with fail
            go_quiet (fail)
            obtain ⟨wz, hwz⟩ : ∃ wz, wz = wr.drewN nq := ⟨_, rfl⟩
            have HS7 : Hid (Sep w.heap.size w wz [blkOb cb 34 (cntV T' i), stOb (.slice (some ad2) n q2) T', tabOb g p k T', stOb (.slice (some ad1) n q1) T]) := by rw [hwz]; exact HS6.out.drewN nq
            have qz : wz.cell? ⟨cb, x, none⟩ = some (.int .i64 (cx : Int)) := by rw [hwz]; exact qx
            have fz : wz.frozen? ⟨cb, x, none⟩ = false := by rw [hwz]; exact fx
            have z2' : wz.cell? (ad2.add i) = some (.int .i64 (x : Int)) := by rw [hwz]; exact z2
            rw [← hwz]
            clear hwz qx fx z1 z2
            go_wp2_with fail
            go_roundg (gk - 1)
            case measure => have := HJ2.out; omega
            case rel =>
              have := HS7.out.setBlk x (.int .i64 ((cx : Int) + 1))
              rw [← HCX.out, cntV_set T' i x HX.out hx5, HCX.out] at this
              exact ⟨i + 1, by have := HJ2.out; omega, by go_num, this⟩
        · have e8 : i = n := by omega
          subst e8
          have hblk : Blk wr cb 34 (cntV T' i) := hs.get (.head _)
          have htk : T'.take i = T' := List.take_of_length_le (by rw [HTL2.out]; omega)
          have d0 : wr.cell? ⟨cb, 0, none⟩ = some (.int .i64 ((T'.count 0 : Nat) : Int)) := by rw [hblk.cell, cntV_at T' i 0 (by omega), htk]
          have d1 : wr.cell? ⟨cb, 1, none⟩ = some (.int .i64 ((T'.count 1 : Nat) : Int)) := by rw [hblk.cell, cntV_at T' i 1 (by omega), htk]
          have d3 : wr.cell? ⟨cb, 3, none⟩ = some (.int .i64 ((T'.count 3 : Nat) : Int)) := by rw [hblk.cell, cntV_at T' i 3 (by omega), htk]
          have d4 : wr.cell? ⟨cb, 4, none⟩ = some (.int .i64 ((T'.count 4 : Nat) : Int)) := by rw [hblk.cell, cntV_at T' i 4 (by omega), htk]
          obtain ⟨u1, u3, u4⟩ := HU2.out
          obtain ⟨t1, ht1⟩ : ∃ t1, T'.count 1 = t1 := ⟨_, rfl⟩
          obtain ⟨t3, ht3⟩ : ∃ t3, T'.count 3 = t3 := ⟨_, rfl⟩
          obtain ⟨t4, ht4⟩ : ∃ t4, T'.count 4 = t4 := ⟨_, rfl⟩
          obtain ⟨t0, ht0⟩ : ∃ t0, T'.count 0 = t0 := ⟨_, rfl⟩
          have HF : Hid (∀ q, Calls Tryd.prog 15 #[.pointer (some ⟨g, 0, none⟩)] (wr.drewN q) fun e w' => e = .returned (.int .i64 (t0 : Int)) ∧ w' = wr.drewN q) := fun q => by
            refine (tfree ((show IsTab wr g p k T' from hs.get (.tail _ (.tail _ (.head _)))).drewN q)).mono ?_
            rintro e w' ⟨h1, h2⟩
            rw [cnt_count, ht0] at h1
            exact ⟨h1, h2.symm⟩
          rw [ht1] at d1 u1
          rw [ht3] at d3 u3
          rw [ht4] at d4 u4
          rw [ht0] at d0
          have e1 : decide ((1 : Int) < (t1 : Int)) = false := by simp; omega
          have e3 : decide ((1 : Int) < (t3 : Int)) = false := by simp; omega
          have e4 : decide ((1 : Int) < (t4 : Int)) = false := by simp; omega
          clear hj hs hblk htk ht1 ht3 ht4 ht0
          go_wp2_with fail
          go_quiet (exact Calls.quiet_of_same (HF.out _))
          obtain ⟨wz, hwz⟩ : ∃ wz, wz = wr.drewN nq := ⟨_, rfl⟩
          have hs : Sep w.heap.size w wz [blkOb cb 34 (cntV T' i), stOb (.slice A2 i q2) T', tabOb g p k T', stOb (.slice A1 i q1) T] := by rw [hwz]; exact HS6.out.drewN nq
          have HS7 : Hid (Sep w.heap.size w wz [tabOb g p k T', stOb (.slice A2 i q2) T']) := (hs.sub (.cons _ (.cons_cons _ (.cons_cons _ (.cons _ .slnil))))).perm (List.Perm.swap _ _ _)
          rw [← hwz]
          clear hwz d0 d1 d3 d4 HF
          by_cases he : ee = 0
          · subst he
            obtain ⟨fr, to, l1, l2, l3, l4⟩ : ∃ fr to, T[vv]? = some fr ∧ T'[vv]? = some to ∧ vv < i ∧ goodC ((ts j).a.toNat % 8) fr to := by
              rcases HLAW.out with ⟨h1, _⟩ | ⟨_, fr, to, h1, h2, _, h4, _⟩
              · exact absurd rfl h1
              · obtain ⟨hv, e⟩ := List.getElem?_eq_some_iff.1 h1
                refine ⟨fr, to, h1, ?_, by rw [← HTL.out]; exact hv, h4⟩
                rw [h2, List.getElem?_set, if_pos rfl, if_pos hv]
            obtain ⟨ad1, y, rfl, hy, z1⟩ := st_cell (hs.get (.tail _ (.tail _ (.tail _ (.head _))))) HTL.out vv l3
            obtain ⟨ad2, x, rfl, hx, z2⟩ := st_cell (hs.get (.tail _ (.head _))) HTL2.out vv l3
            rw [l1] at hy
            rw [l2] at hx
            injection hy with hy
            injection hx with hx
            rw [← hy] at z1
            rw [← hx] at z2
            obtain ⟨_, _, c0, c1⟩ := HTT.out _ hs.bel
            obtain ⟨kk, hkk⟩ : ∃ kk : Nat, (ts j).a.toNat % 8 = kk := ⟨_, rfl⟩
            have hka : n8 (ts j).a % 8 = (kk : Int) := by rw [n8_nat]; omega
            obtain ⟨ha1, ha2⟩ := n8_bd (ts j).a
            rw [hkk] at l4
            clear hs l1 l2 hy hx hkk c1
            go_wp2_with fail
            go_region
            obtain ⟨wy, hwy⟩ : ∃ wy, wy = wz.drew := ⟨_, rfl⟩
            have c0' : wy.cell? (ad.add (j * 2)) = some (.int .u8 (n8 (ts j).a)) := by rw [hwy]; exact c0
            have HS8 : Hid (Sep w.heap.size w wy [tabOb g p k T', stOb (.slice (some ad2) i q2) T']) := by rw [hwy]; exact HS7.out.drew
            rw [← hwy]
            clear hwy c0 z1 z2
            unfold goodC at l4
            rcases l4 with ⟨rfl | rfl, rfl, rfl⟩ | ⟨rfl, rfl, rfl⟩ | ⟨rfl, rfl | rfl, rfl⟩ | ⟨rfl, rfl, rfl⟩ | ⟨rfl | rfl, rfl | rfl, rfl⟩ | ⟨rfl, rfl, rfl⟩
            all_goals
              go_wp2_with fail
              go_roundg (gk1 - 1)
              case measure => have := HJ.out; omega
              case rel => exact ⟨j + 1, T', by have := HJ.out; omega, by go_num, HTL2.out, HU2.out, HS8.out⟩
          · have he2 : (ee == 0) = false := by rw [beq_eq_false_iff_ne]; exact he
            clear hs he
            go_wp2_with fail
            go_roundg (gk1 - 1)
            case measure => have := HJ.out; omega
            case rel => exact ⟨j + 1, T', by have := HJ.out; omega, by go_num, HTL2.out, HU2.out, HS7.out⟩
    · clear hj hs hT hU
      go_wp2_with fail
      refine (works_any _ (HS.out.laid HL.out hB)).mono ?_
      rintro e w17 ⟨rfl, hb⟩
      have HB17 := Lib.hid hb
      clear hb
      go_wp2_with fail
      go_ret
      exact ⟨rfl, (HS.out.below HB17.out).bel⟩
theorem SlotsOne_walk (v0 v1 v2 : Value) (w : World) (hl : LaidIn w) (h0 : ArgIn Tryd.prog w 5 v0) (h1 : ArgIn Tryd.prog w 5 v1) (h2 : ArgIn Tryd.prog w 22 v2) :
    Calls Tryd.prog 3 #[v0, v1, v2] w fun e w' => e = .returned (.bool true) ∧ Below w.heap.size w w' := by
  obtain ⟨m0, rfl, e0⟩ := h0.int (k := .u8) Tryd.underlying5
  obtain ⟨m1, rfl, e1⟩ := h1.int (k := .u8) Tryd.underlying5
  obtain ⟨b0, rfl⟩ := u8_of_wf e0
  obtain ⟨b1, rfl⟩ := u8_of_wf e1
  obtain ⟨A, n, c, ts, rfl, k1, k2, k3⟩ := turns_arg h2
  exact SlotsOne_w b0 b1 A n c ts w hl k3 k1 k2
end Go.Proofs.YtalonikiljcpfaaDoor
