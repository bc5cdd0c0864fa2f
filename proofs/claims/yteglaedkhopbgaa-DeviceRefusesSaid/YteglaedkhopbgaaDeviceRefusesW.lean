/-
  The walk of the law DeviceRefuses: it returns true and writes nothing that was there. No condition.
-/
import Derived.Test.YteglaedkhopbgaaMJ
import Derived.Deep.QuietTactic
import Derived.BigQuiet
namespace Go.Proofs.Yteglaedkhopbgaa
open Go.RowKit Go.Shelf
set_option linter.unusedVariables false
set_option maxHeartbeats 16000000 in
set_option maxRecDepth 100000 in
theorem DeviceRefuses_w (a b : BitVec 8) (A : Option Addr) (m c : Nat) (ts : Nat → Turn3) (f : Nat) (w : World) (hf : f < 65536) (hr : TurnsAt w w.heap.size A m ts) (hn : m ≤ c) (hc : c ≤ maxLen) :
    Calls Try.prog 6 #[.int .u8 (n8 a), .int .u8 (n8 b), .slice A m c, .int .u16 (f : Int)] w fun e w' => e = .returned (.bool true) ∧ Below w.heap.size w w' := by
  have HR := Lib.hid hr
  unfold maxLen at hc
  clear hr
  by_cases hm : 60 < m
  · go_enter Try.func6, Try.ntmps6
    go_wp2_with fail
    refine (works_any _).mono ?_
    rintro e w9 ⟨rfl, hb⟩
    have HB := Lib.hid hb
    clear hb
    go_wp2_with fail
    go_ret
    exact ⟨rfl, HB.out⟩
  have mk41 : ∀ W, (Instr.makeSlice 27 (.int .i64 41) (.int .i64 41)).run Try.prog W = .ok (.slice (some ⟨W.heap.size, 0, none⟩) 41 41) (W.alloc (.cells (u8s (zbytes 41)).toArray 5)) := fun W => make_bytes .i64 41 (by omega) W
  have mk65 : ∀ W, (Instr.makeSlice 27 (.int .i64 65) (.int .i64 65)).run Try.prog W = .ok (.slice (some ⟨W.heap.size, 0, none⟩) 65 65) (W.alloc (.cells (u8s (zbytes 65)).toArray 5)) := fun W => make_bytes .i64 65 (by omega) W
  have HMK41 := Lib.hid mk41
  have HMK65 := Lib.hid mk65
  clear mk41 mk65
  go_enter Try.func6, Try.ntmps6
  go_wp2_with fail
  refine (sep_vbegin (Sep.start w) a b).mono ?_
  rintro e w1 ⟨v, L, rfl, hs⟩
  obtain ⟨n, hnn⟩ : ∃ n, a.toNat % 4 + 2 = n := ⟨_, rfl⟩
  obtain ⟨sz, hsz⟩ : ∃ sz, b.toNat % 40 + 1 = sz := ⟨_, rfl⟩
  have hn2 : 2 ≤ n := by omega
  have hn5 : n ≤ 5 := by omega
  have hsz1 : 1 ≤ sz := by omega
  have hsz40 : sz ≤ 40 := by omega
  rw [hnn, hsz] at hs
  rw [hnn]
  have HS1 := Lib.hid hs
  clear hs hnn hsz
  go_wp2_with fail
  go_loopg [11] m (fun q v11 wr => ∃ (j : Nat) (L' : DLay), j + q = m ∧ v11 = .int .i64 j ∧ Sep w.heap.size w wr [devOb v L' (runV (newVD n sz) ts j)])
  case atStart => exact ⟨0, L, by omega, rfl, HS1.out⟩
  case round =>
    obtain ⟨j, L1, hj, rfl, hs⟩ := hrel
    have HJ := Lib.hid hj
    have hj' : j ≤ m := by omega
    have HS := Lib.hid hs
    have hnum := runV_new n sz ts j
    by_cases hlt : j < m
    · obtain ⟨ad, ht⟩ := HR.out.below hs.bel j hlt
      obtain rfl := ht.a
      have c0 := ht.c0
      have c1 := ht.c1
      have c2 := ht.c2
      have HDO := Lib.hid (sep_vdo HS.out AllCells.nil (by omega) (ts j).a (ts j).s (ts j).b n j hnum.1 (by omega))
      unfold turn3V at HDO
      clear hj hs ht hnum
      go_wp2_with fail
      refine HDO.out.mono ?_
      rintro e w3 ⟨rfl, L3, hs⟩
      have HS3 := Lib.hid hs
      clear hs c0 c1 c2 HDO
      go_wp2_with fail
      go_roundg (gk - 1)
      case measure => have := HJ.out; omega
      case rel => exact ⟨j + 1, L3, by have := HJ.out; omega, by go_num, HS3.out⟩
    · obtain ⟨X, hX⟩ : ∃ X, runV (newVD n sz) ts j = X := ⟨_, rfl⟩
      have hp : Peace X n sz := by rw [← hX]; exact calm_run (calm_new n sz) ts j
      rw [hX] at hnum
      have HSX : Hid (Sep w.heap.size w wr [devOb v L1 X]) := by rw [← hX]; exact hs
      have HP := Lib.hid hp
      have hXn := hp.hn
      have hXo : X.ops ≤ 60 := by omega
      have HXN := Lib.hid hXn
      obtain ⟨xo, hxo⟩ : ∃ xo, X.ops = xo := ⟨_, rfl⟩
      have HXO := Lib.hid hxo
      rw [hxo] at hXo
      have HHX : Hid (X.ops < 4611686018427387904) := by show _ < _; omega
      clear hj hs hX hp hnum hXn hxo HS
      go_wp2_with fail
      refine (dev_disk HSX.out.dev).mono ?_
      rintro e w2 ⟨d', rb', lay', rfl, hd, _, hb⟩
      have HS2 := Lib.hid (HSX.out.below hb)
      have HD := Lib.hid hd
      clear hd hb
      go_wp2_with fail
      refine (sep_contents HS2.out HD.out (by omega) (by rw [HXN.out]; omega)).mono ?_
      rintro e w3 ⟨u1, v1, rfl, hs⟩
      rw [HXN.out] at hs
      obtain ⟨A1, q1, rfl, hq1, hq1m⟩ := row_form (hs.get (.head _))
      have HS3 : Hid (Sep w.heap.size w w3 [devOb v L1 X, rowOb 9 1 (.slice A1 (n + 2) q1) (n + 2) (strs X.D (n + 2))]) := (hs.sub (.cons_cons _ (.cons _ (List.Sublist.refl _)))).perm (.swap _ _ _)
      unfold maxLen at hq1m
      clear hs HD
      go_wp2_with fail
      refine (dev_ops HS3.out.dev).mono ?_
      rintro e w' ⟨rfl, rfl⟩
      rw [HXO.out]
      go_wp2_with fail
      have hs : Sep w.heap.size w (w3.alloc (.cells #[.int .i64 (-1 - (f : Int)), .int .i64 ((n : Int) + 2 + (f : Int))] 3)) [devOb v L1 X, blkOb w3.heap.size 3 #[.int .i64 (-1 - (f : Int)), .int .i64 ((n : Int) + 2 + (f : Int))], rowOb 9 1 (.slice A1 (n + 2) q1) (n + 2) (strs X.D (n + 2))] := (HS3.out.newBlk w3.heap.size _ _ rfl).perm (.swap _ _ _)
      obtain ⟨nb, hnb⟩ : ∃ nb, nb = w3.heap.size := ⟨_, rfl⟩
      rw [← hnb] at hs ⊢
      have HS4 := Lib.hid hs
      clear hs hnb
      have HCC : Hid (AllCells [blkOb nb 3 #[.int .i64 (-1 - (f : Int)), .int .i64 ((n : Int) + 2 + (f : Int))], rowOb 9 1 (.slice A1 (n + 2) q1) (n + 2) (strs X.D (n + 2))]) := AllCells.cons (cellOb_blk _ _ _) (AllCells.cons (cellOb_row _ _ _ _ _) AllCells.nil)
      go_loopg [81] 2 (fun q v81 wr => ∃ (j : Nat) (L' : DLay), j + q = 2 ∧ v81 = .int .i64 j ∧ Sep w.heap.size w wr [devOb v L' X, blkOb nb 3 #[.int .i64 (-1 - (f : Int)), .int .i64 ((n : Int) + 2 + (f : Int))], rowOb 9 1 (.slice A1 (n + 2) q1) (n + 2) (strs X.D (n + 2))])
      case atStart => exact ⟨0, L1, by omega, rfl, HS4.out⟩
      case round =>
        obtain ⟨i, L5, hj, rfl, hs⟩ := hrel
        have HJ2 := Lib.hid hj
        have hi2 : i ≤ 2 := by omega
        have HS5 := Lib.hid hs
        by_cases hlt2 : i < 2
        · have hq : ∃ z, wr.cell? ⟨nb, i, none⟩ = some (.int .i64 z) ∧ (z < 0 ∨ (n : Int) + 2 ≤ z) := by
            have hb2 : Blk wr nb 3 #[.int .i64 (-1 - (f : Int)), .int .i64 ((n : Int) + 2 + (f : Int))] := hs.get (.tail _ (.head _))
            have e : i = 0 ∨ i = 1 := by omega
            rcases e with rfl | rfl
            · exact ⟨_, hb2.cell 0, .inl (by omega)⟩
            · exact ⟨_, hb2.cell 1, .inr (by omega)⟩
          obtain ⟨z, qz, hz⟩ := hq
          have HZ := Lib.hid hz
          clear hj hs hz
          go_wp2_with fail
          refine (dev_read HS5.out.dev z 0 0).mono ?_
          rintro e w4 ⟨u, r, rfl, hq, hb⟩
          obtain ⟨rfl, rfl⟩ := HP.out.out_read HZ.out hq
          have HS6 := Lib.hid (HS5.out.below hb)
          clear hq hb
          go_wp2_with fail
          refine (dev_len HS6.out.dev z).mono ?_
          rintro e w5 ⟨rfl, hb⟩
          rw [HP.out.out HZ.out, (HP.out.out_num HZ.out).1]
          have HS7 := Lib.hid (HS6.out.below hb)
          clear hb
          go_wp2_with fail
          refine (dev_unsynced HS7.out.dev z).mono ?_
          rintro e w6 ⟨rfl, hb⟩
          rw [HP.out.out HZ.out, (HP.out.out_num HZ.out).2.2]
          have HS8 := Lib.hid (HS7.out.below hb)
          clear hb
          go_wp2_with fail
          refine (dev_room HS8.out.dev z).mono ?_
          rintro e w7 ⟨rfl, hb⟩
          rw [HP.out.out HZ.out, (HP.out.out_num HZ.out).2.1]
          have HS9 := Lib.hid (HS8.out.below hb)
          clear hb qz
          go_wp2_with fail
          refine (sep_vappend HS9.out HCC.out HHX.out z (vb := .slice none 0 0) (b := []) (fun W _ => holds_nil W)).mono ?_
          rintro e w8 ⟨rfl, L8, hs⟩
          rw [(HP.out.out_app HZ.out []).2] at hs
          rw [(HP.out.out_app HZ.out []).1]
          have HS10 := Lib.hid hs
          clear hs
          go_wp2_with fail
          refine (sep_vsync HS10.out HCC.out HHX.out z).mono ?_
          rintro e w9 ⟨rfl, L9, hs⟩
          rw [(HP.out.out_sync HZ.out).2.1] at hs
          rw [(HP.out.out_sync HZ.out).1]
          have HS11 := Lib.hid hs
          clear hs
          go_wp2_with fail
          refine (sep_verase HS11.out HCC.out HHX.out z).mono ?_
          rintro e w10 ⟨rfl, L10, hs⟩
          rw [(HP.out.out_sync HZ.out).2.2] at hs
          rw [(HP.out.out_sync HZ.out).1]
          have HS12 := Lib.hid hs
          clear hs
          go_wp2_with fail
          go_roundg (gk - 1)
          case measure => have := HJ2.out; omega
          case rel => exact ⟨i + 1, L10, by have := HJ2.out; omega, by go_num, HS12.out⟩
        · have e8 : i = 2 := by omega
          subst e8
          have HS6 : Hid (Sep w.heap.size w wr [devOb v L5 X, rowOb 9 1 (.slice A1 (n + 2) q1) (n + 2) (strs X.D (n + 2))]) := hs.sub (.cons_cons _ (.cons _ (List.Sublist.refl _)))
          have HC1 : Hid (AllCells [rowOb 9 1 (.slice A1 (n + 2) q1) (n + 2) (strs X.D (n + 2))]) := AllCells.cons (cellOb_row _ _ _ _ _) AllCells.nil
          clear hj hs HS5 HCC
          go_wp2_with fail
          refine (newdev_any (1 - (f : Int)) 8 _).mono ?_
          rintro e w4 (⟨h9, _⟩ | ⟨_, rfl, hb⟩)
          · exact absurd h9.1.1 (by omega)
          have HS7 := Lib.hid (HS6.out.below hb)
          clear hb
          go_wp2_with fail
          refine (newdev_any (33 + (f : Int)) 8 _).mono ?_
          rintro e w5 (⟨h9, _⟩ | ⟨_, rfl, hb⟩)
          · exact absurd h9.1.2 (by omega)
          have HS8 := Lib.hid (HS7.out.below hb)
          clear hb
          go_wp2_with fail
          refine (newdev_any 2 (-(f : Int)) _).mono ?_
          rintro e w6 (⟨h9, _⟩ | ⟨_, rfl, hb⟩)
          · exact absurd h9.2.1 (by omega)
          have HS9 := Lib.hid (HS8.out.below hb)
          clear hb
          go_wp2_with fail
          refine (newdev_any 2 (8193 + (f : Int)) _).mono ?_
          rintro e w7 (⟨h9, _⟩ | ⟨_, rfl, hb⟩)
          · exact absurd h9.2.2 (by omega)
          have HS10 := Lib.hid (HS9.out.below hb)
          clear hb
          have mk41 := HMK41.out
          have mk65 := HMK65.out
          go_wp2_with fail
          refine (sep_vappend_obj (HS10.out.newObj _ _ rfl) HC1.out HHX.out 0 (zbytes 41) 41 41 rfl (zbytes_length 41).symm (by omega) (by unfold maxLen; omega)).mono ?_
          rintro e w8 ⟨rfl, L8, hs⟩
          have hfu := HP.out.full 0 (by omega) (zbytes 41) (by rw [zbytes_length]; unfold szAt; rw [if_pos (by omega)]; omega)
          rw [show ((0 : Nat) : Int) = 0 from rfl] at hfu
          rw [hfu.2] at hs
          rw [hfu.1]
          have HS11 := Lib.hid hs
          clear hs hfu
          go_wp2_with fail
          refine (sep_vappend_obj (HS11.out.newObj _ _ rfl) HC1.out HHX.out (n : Int) (zbytes 65) 65 65 rfl (zbytes_length 65).symm (by omega) (by unfold maxLen; omega)).mono ?_
          rintro e w9 ⟨rfl, L9, hs⟩
          have hfu := HP.out.full n (by omega) (zbytes 65) (by rw [zbytes_length]; unfold szAt; rw [if_neg (by omega)]; omega)
          rw [hfu.2] at hs
          rw [hfu.1]
          have HS12 := Lib.hid hs
          clear hs hfu mk41 mk65
          go_wp2_with fail
          refine (plan_any (-1 - (f : Int)) false _ 1 1 _).mono ?_
          rintro e w10 ⟨rfl, hb⟩
          have HS13 := Lib.hid ((HS12.out.newBlk _ 3 #[Value.int .i64 0] rfl).below hb)
          clear hb
          go_wp2_with fail
          refine (sep_varm_blk HS13.out HC1.out (-1 - (f : Int)) false [0] 1 rfl rfl (by unfold maxLen; omega) (by omega)).mono ?_
          rintro e w11 ⟨rfl, L11, hs⟩
          have ha := armX_no (X := X) (at_ := -1 - (f : Int)) (dn := false) (keep := [0]) (fun h => by have := h.1.1; omega)
          rw [ha.2] at hs
          rw [ha.1]
          have HS14 := Lib.hid hs
          clear hs ha
          go_wp2_with fail
          refine (plan_any (1000001 + (f : Int)) false _ 1 1 _).mono ?_
          rintro e w12 ⟨rfl, hb⟩
          have HS15 := Lib.hid ((HS14.out.newBlk _ 3 #[Value.int .i64 0] rfl).below hb)
          clear hb
          go_wp2_with fail
          refine (sep_varm_blk HS15.out HC1.out (1000001 + (f : Int)) false [0] 1 rfl rfl (by unfold maxLen; omega) (by omega)).mono ?_
          rintro e w13 ⟨rfl, L13, hs⟩
          have ha := armX_no (X := X) (at_ := 1000001 + (f : Int)) (dn := false) (keep := [0]) (fun h => by have := h.1.2; omega)
          rw [ha.2] at hs
          rw [ha.1]
          have HS16 := Lib.hid hs
          clear hs ha
          go_wp2_with fail
          refine (plan_any 1 true none 0 0 _).mono ?_
          rintro e w14 ⟨rfl, hb⟩
          have HS17 := Lib.hid (HS16.out.below hb)
          clear hb
          go_wp2_with fail
          refine (sep_varm HS17.out HC1.out 1 true none 0 0 [] (fun W _ => Reads.none_) (Nat.le_refl _) (Nat.zero_le _) (fun _ => rfl) (fun ad e => by cases e) (by omega)).mono ?_
          rintro e w15 ⟨rfl, L15, hs⟩
          have ha := armX_no (X := X) (at_ := 1) (dn := true) (keep := []) (fun h => by have := h.2.1.1; simp at this)
          rw [ha.2] at hs
          rw [ha.1]
          have HS18 := Lib.hid hs
          clear hs ha
          go_wp2_with fail
          refine (plan_any 0 true _ 1 1 _).mono ?_
          rintro e w16 ⟨rfl, hb⟩
          have HS19 := Lib.hid ((HS18.out.newBlk _ 3 #[Value.int .i64 (-1 - (f : Int))] rfl).below hb)
          clear hb
          go_wp2_with fail
          refine (sep_varm_blk HS19.out HC1.out 0 true [-1 - (f : Int)] 1 rfl rfl (by unfold maxLen; omega) (by omega)).mono ?_
          rintro e w17 ⟨rfl, L17, hs⟩
          have ha := armX_no (X := X) (at_ := 0) (dn := true) (keep := [-1 - (f : Int)]) (fun h => by have := (h.2.2 _ (.head _)).1; omega)
          rw [ha.2] at hs
          rw [ha.1]
          have HS20 := Lib.hid hs
          clear hs ha
          go_wp2_with fail
          refine (plan_any 0 true _ 1 1 _).mono ?_
          rintro e w18 ⟨rfl, hb⟩
          have HS21 := Lib.hid ((HS20.out.newBlk _ 3 #[Value.int .i64 (8193 + (f : Int))] rfl).below hb)
          clear hb
          go_wp2_with fail
          refine (sep_varm_blk HS21.out HC1.out 0 true [8193 + (f : Int)] 1 rfl rfl (by unfold maxLen; omega) (by omega)).mono ?_
          rintro e w19 ⟨rfl, L19, hs⟩
          have ha := armX_no (X := X) (at_ := 0) (dn := true) (keep := [8193 + (f : Int)]) (fun h => by have := (h.2.2 _ (.head _)).2; omega)
          rw [ha.2] at hs
          rw [ha.1]
          have HS22 := Lib.hid hs
          clear hs ha
          go_wp2_with fail
          refine (dev_disk HS22.out.dev).mono ?_
          rintro e w20 ⟨d2, rb2, lay2, rfl, hd, _, hb⟩
          have HS23 := Lib.hid (HS22.out.below hb)
          have HD2 := Lib.hid hd
          clear hd hb
          go_wp2_with fail
          refine (sep_contents HS23.out HD2.out (by omega) (by rw [HXN.out]; omega)).mono ?_
          rintro e w21 ⟨u2, v2, rfl, hs⟩
          rw [HXN.out] at hs
          obtain ⟨A2, q2, rfl, hq2, hq2m⟩ := row_form (hs.get (.head _))
          have HS24 : Hid (Sep w.heap.size w w21 [rowOb 9 1 (.slice A2 (n + 2) q2) (n + 2) (strs X.D (n + 2)), devOb v L19 X, rowOb 9 1 (.slice A1 (n + 2) q1) (n + 2) (strs X.D (n + 2))]) := hs.sub (.cons_cons _ (.cons _ (List.Sublist.refl _)))
          unfold maxLen at hq2m
          clear hs HD2
          go_wp2_with fail
          go_loopg [36] (n + 2) (fun q v36 wr => ∃ (j : Nat), j + q = n + 2 ∧ v36 = .int .i64 j ∧ Sep w.heap.size w wr [rowOb 9 1 (.slice A2 (n + 2) q2) (n + 2) (strs X.D (n + 2)), devOb v L19 X, rowOb 9 1 (.slice A1 (n + 2) q1) (n + 2) (strs X.D (n + 2))])
          case atStart => exact ⟨0, by omega, rfl, HS24.out⟩
          case round =>
            obtain ⟨i, hj, rfl, hs⟩ := hrel
            have HJ3 := Lib.hid hj
            have HS25 := Lib.hid hs
            have hi3 : i ≤ n + 2 := by omega
            clear hj hs
            by_cases hlt3 : i < n + 2
            · obtain ⟨ad1, rfl, z1⟩ := str_cell (HS25.out.get (.tail _ (.tail _ (.head _)))) i hlt3
              obtain ⟨ad2, rfl, z2⟩ := str_cell (HS25.out.get (.head _)) i hlt3
              obtain ⟨s0, hs0⟩ : ∃ s0, strOf (X.D i).bytes = s0 := ⟨_, rfl⟩
              rw [hs0] at z1 z2
              clear hs0
              go_wp2_with fail
              go_quiet (fail)
              have HS26 := Lib.hid (HS25.out.drewN nq)
              generalize wr.drewN nq = wz at HS26 ⊢
              clear z1 z2
              go_wp2_with fail
              go_roundg (gk - 1)
              case measure => have := HJ3.out; omega
              case rel => exact ⟨i + 1, by have := HJ3.out; omega, by go_num, HS26.out⟩
            · have e8 : i = n + 2 := by omega
              subst e8
              go_wp2_with fail
              refine (dev_ops (HS25.out.get (.tail _ (.head _)))).mono ?_
              rintro e w' ⟨rfl, rfl⟩
              rw [HXO.out]
              go_wp2_with fail
              refine (dev_down (HS25.out.get (.tail _ (.head _)))).mono ?_
              rintro e w' ⟨rfl, rfl⟩
              rw [HP.out.up]
              go_wp2_with fail
              refine (works_any _).mono ?_
              rintro e w22 ⟨rfl, hb⟩
              have HB : Hid (Below w.heap.size w w22) := HS25.out.bel.trans (hb.mono HS25.out.big)
              clear hb
              go_wp2_with fail
              go_ret
              exact ⟨rfl, HB.out⟩
theorem DeviceRefuses_walk (v0 v1 v2 v3 : Value) (w : World) (a0 : ArgIn Try.prog w 5 v0) (a1 : ArgIn Try.prog w 5 v1) (a2 : ArgIn Try.prog w 39 v2) (a3 : ArgIn Try.prog w 55 v3) :
    Calls Try.prog 6 #[v0, v1, v2, v3] w fun e w' => e = .returned (.bool true) ∧ Below w.heap.size w w' := by
  obtain ⟨x0, rfl, h0⟩ := a0.int (k := .u8) Try.underlying5
  obtain ⟨x1, rfl, h1⟩ := a1.int (k := .u8) Try.underlying5
  obtain ⟨A, n, c, ts, rfl, hn, hc, ht⟩ := turns_arg a2
  obtain ⟨x3, rfl, h3⟩ := a3.int (k := .u16) Try.underlying55
  obtain ⟨b0, rfl⟩ := u8_of_wf h0
  obtain ⟨b1, rfl⟩ := u8_of_wf h1
  obtain ⟨h4, h5⟩ := u16_of_wf h3
  obtain ⟨f, rfl⟩ : ∃ f : Nat, x3 = (f : Int) := ⟨x3.toNat, by omega⟩
  exact DeviceRefuses_w b0 b1 A n c ts f w (by omega) ht hn hc
end Go.Proofs.Yteglaedkhopbgaa
