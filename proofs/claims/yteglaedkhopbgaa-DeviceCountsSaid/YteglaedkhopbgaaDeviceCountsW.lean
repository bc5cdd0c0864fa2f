/-
  The walk of the law DeviceCounts: it returns true and writes nothing that was there. No condition.
-/
import Derived.Test.YteglaedkhopbgaaMK
import Derived.Deep.QuietTactic
import Derived.BigQuiet
namespace Go.Proofs.Yteglaedkhopbgaa
open Go.RowKit Go.Shelf
set_option linter.unusedVariables false
/-- How far the two devices are: the one with the plan is as the other, or has crashed. -/
def CntR (n sz N cnt : Nat) (X Y : DevD) : Prop :=
  (Armed X Y n sz (N - cnt) false [100] ∧ cnt < N ∧ X.ops = cnt) ∨ (Peace X n sz ∧ Y.down = true ∧ Y.n = n ∧ Y.T = none ∧ Y.ops = N ∧ cnt = N)
theorem CntR.nums {n sz N cnt : Nat} {X Y : DevD} (h : CntR n sz N cnt X Y) (hN : N ≤ 70) : Peace X n sz ∧ Y.n = n ∧ Y.ops ≤ 70 ∧ cnt ≤ N := by
  rcases h with ⟨h1, h2, h3⟩ | ⟨h1, h2, h3, h4, h5, h6⟩
  · exact ⟨h1.peace, h1.n, by rw [h1.ops]; omega, by omega⟩
  · exact ⟨h1, h3, by omega, by omega⟩
set_option maxHeartbeats 16000000 in
set_option maxRecDepth 100000 in
theorem DeviceCounts_w (a b : BitVec 8) (A : Option Addr) (m c : Nat) (ts : Nat → Turn3) (f : BitVec 8) (w : World) (hr : TurnsAt w w.heap.size A m ts) (hn : m ≤ c) (hc : c ≤ maxLen) :
    Calls Try.prog 5 #[.int .u8 (n8 a), .int .u8 (n8 b), .slice A m c, .int .u8 (n8 f)] w fun e w' => e = .returned (.bool true) ∧ Below w.heap.size w w' := by
  have HR := Lib.hid hr
  unfold maxLen at hc
  clear hr
  by_cases hm : 60 < m
  · go_enter Try.func5, Try.ntmps5
    go_wp2_with fail
    refine (works_any _).mono ?_
    rintro e w9 ⟨rfl, hb⟩
    have HB := Lib.hid hb
    clear hb
    go_wp2_with fail
    go_ret
    exact ⟨rfl, HB.out⟩
  obtain ⟨hf1, hf2⟩ := n8_bd f
  obtain ⟨N0, hN0⟩ : ∃ N0 : Nat, n8 f % 70 = (N0 : Int) := ⟨(n8 f % 70).toNat, by omega⟩
  have hN70 : N0 < 70 := by omega
  go_enter Try.func5, Try.ntmps5
  go_wp2_with fail
  refine (sep_vbegin (Sep.start w) a b).mono ?_
  rintro e w1 ⟨vd, Ld, rfl, hs⟩
  obtain ⟨n, hnn⟩ : ∃ n, a.toNat % 4 + 2 = n := ⟨_, rfl⟩
  obtain ⟨sz, hsz⟩ : ∃ sz, b.toNat % 40 + 1 = sz := ⟨_, rfl⟩
  have hn2 : 2 ≤ n := by omega
  have hn5 : n ≤ 5 := by omega
  rw [hnn, hsz] at hs
  rw [hnn]
  have HS1 := Lib.hid hs
  clear hs
  go_wp2_with fail
  refine (sep_vbegin HS1.out a b).mono ?_
  rintro e w2 ⟨vc, Lc, rfl, hs⟩
  rw [hnn, hsz] at hs
  rw [hnn]
  have HS2 : Hid (Sep w.heap.size w w2 [devOb vd Ld (newVD n sz), devOb vc Lc (newVD n sz)]) := hs.perm (.swap _ _ _)
  clear hs hnn hsz
  go_wp2_with fail
  rw [hN0]
  refine (plan_any (1 + (N0 : Int)) false _ 1 1 _).mono ?_
  rintro e w3 ⟨rfl, hb⟩
  have HS3 := Lib.hid ((HS2.out.newBlk _ 3 #[Value.int .i64 100] rfl).below hb)
  clear hb
  go_wp2_with fail
  refine (sep_varm_blk HS3.out (AllCells.cons (cellOb_dev _ _ _) AllCells.nil) (1 + (N0 : Int)) false [100] 1 rfl rfl (by unfold maxLen; omega) (by omega)).mono ?_
  rintro e w4 ⟨rfl, L4, hs⟩
  have hok : okPlan (1 + (N0 : Int)) [100] := ⟨by omega, by decide, by intro z hz; simp at hz; omega⟩
  obtain ⟨Y0, hY⟩ : ∃ Y0, armX (newVD n sz) (1 + (N0 : Int)) false [100] = Y0 := ⟨_, rfl⟩
  have hY0 : CntR n sz (N0 + 1) 0 (newVD n sz) Y0 := by
    refine .inl ⟨?_, by omega, rfl⟩
    rw [← hY]
    unfold armX
    rw [if_pos hok, if_neg (by omega)]
    refine ⟨calm_new n sz, rfl, rfl, rfl, rfl, ?_, by omega⟩
    show armP (1 + (N0 : Int)) false [100] = _
    unfold armP
    rw [if_pos (by omega)]
    congr 2
    omega
  rw [hY] at hs
  rw [show armE (1 + (N0 : Int)) [100] = 0 from by unfold armE; rw [if_pos hok]]
  have HS4 : Hid (Sep w.heap.size w w4 [devOb vd L4 Y0, devOb vc Lc (newVD n sz)]) := hs
  have HY0 := Lib.hid hY0
  clear hs hok hY hY0
  go_wp2_with fail
  go_loopg [13, 14] m (fun q v13 v14 wr => ∃ (j cnt : Nat) (Ld' Lc' : DLay) (Y : DevD), j + q = m ∧ v14 = .int .i64 j ∧ v13 = .int .i64 cnt ∧ CntR n sz (N0 + 1) cnt (runV (newVD n sz) ts j) Y ∧ Sep w.heap.size w wr [devOb vd Ld' Y, devOb vc Lc' (runV (newVD n sz) ts j)])
  case atStart => exact ⟨0, 0, L4, Lc, Y0, by omega, rfl, rfl, HY0.out, HS4.out⟩
  case round =>
    obtain ⟨j, cnt, Ld1, Lc1, Y, hj, rfl, rfl, hR, hs⟩ := hrel
    have HJ := Lib.hid hj
    have hj' : j ≤ m := by omega
    have HS := Lib.hid hs
    have hnum := runV_new n sz ts j
    obtain ⟨hp, hYn, hYo, hcnt⟩ := hR.nums (by omega)
    by_cases hlt : j < m
    · obtain ⟨ad, ht⟩ := HR.out.below hs.bel j hlt
      obtain rfl := ht.a
      have c0 : wr.cell? (ad.add (j * 3)) = _ := ht.c0
      have c1 := ht.c1
      have c2 := ht.c2
      obtain ⟨X, hX⟩ : ∃ X, runV (newVD n sz) ts j = X := ⟨_, rfl⟩
      have HXN : Hid (runV (newVD n sz) ts (j + 1) = vdoX X (ts j).a (ts j).s (ts j).b j) := by rw [← hX]; rfl
      rw [hX] at hR hp hnum
      have HS5 : Hid (Sep w.heap.size w wr [devOb vc Lc1 X, devOb vd Ld1 Y]) := by rw [← hX]; exact hs.perm (.swap _ _ _)
      have HTW : Hid (∀ W, Below w.heap.size w W → TurnAt W w.heap.size (some ad) j ad (ts j)) := fun W hW => by
        obtain ⟨ad2, ht2⟩ := HR.out.below hW j hlt
        have := ht2.a
        injection this with this
        subst this
        exact ht2
      have HDC := Lib.hid (sep_vdo HS5.out (AllCells.cons (cellOb_dev _ _ _) AllCells.nil) (by omega) (ts j).a (ts j).s (ts j).b n j hnum.1 (by omega))
      have HDD : Hid (∀ W Lc2 X', Sep w.heap.size w W [devOb vd Ld1 Y, devOb vc Lc2 X'] → Calls Try.prog 21 #[.pointer (some ⟨vd, 0, none⟩), turn3V (ts j).a (ts j).s (ts j).b, .int .i64 (n : Int), .int .i64 (j : Int)] W fun e w' => e = .returned (.int .i64 (vdoE Y (ts j).a (ts j).s (ts j).b j)) ∧ ∃ L', Sep w.heap.size w w' [devOb vd L' (vdoX Y (ts j).a (ts j).s (ts j).b j), devOb vc Lc2 X']) := fun W Lc2 X' hW =>
        sep_vdo hW (AllCells.cons (cellOb_dev _ _ _) AllCells.nil) (by omega) _ _ _ n j hYn (by omega)
      unfold turn3V at HDC HDD
      have HRR := Lib.hid hR
      have HDN := Lib.hid (dev_down (HS5.out.get (.tail _ (.head _))))
      have hcase : (vdoE X (ts j).a (ts j).s (ts j).b j = 4 ∨ vdoE X (ts j).a (ts j).s (ts j).b j = 0) := by
        rcases calm_do hp (ts j).a (ts j).s (ts j).b j with ⟨_, e, _⟩ | ⟨_, e, _⟩
        · exact .inr e
        · exact .inl e
      have HLAW : Hid ((Y.down = true ∧ vdoE Y (ts j).a (ts j).s (ts j).b j = 13 ∧ CntR n sz (N0 + 1) cnt (vdoX X (ts j).a (ts j).s (ts j).b j) (vdoX Y (ts j).a (ts j).s (ts j).b j)) ∨
          (Y.down = false ∧ vdoE X (ts j).a (ts j).s (ts j).b j = 4 ∧ vdoE Y (ts j).a (ts j).s (ts j).b j = 4 ∧ (vdoX Y (ts j).a (ts j).s (ts j).b j).down = false ∧ (vdoX Y (ts j).a (ts j).s (ts j).b j).ops = cnt ∧ CntR n sz (N0 + 1) cnt (vdoX X (ts j).a (ts j).s (ts j).b j) (vdoX Y (ts j).a (ts j).s (ts j).b j)) ∨
          (Y.down = false ∧ vdoE X (ts j).a (ts j).s (ts j).b j = 0 ∧ cnt + 1 ≠ N0 + 1 ∧ vdoE Y (ts j).a (ts j).s (ts j).b j = 0 ∧ (vdoX Y (ts j).a (ts j).s (ts j).b j).down = false ∧ (vdoX Y (ts j).a (ts j).s (ts j).b j).ops = cnt + 1 ∧ CntR n sz (N0 + 1) (cnt + 1) (vdoX X (ts j).a (ts j).s (ts j).b j) (vdoX Y (ts j).a (ts j).s (ts j).b j)) ∨
          (Y.down = false ∧ vdoE X (ts j).a (ts j).s (ts j).b j = 0 ∧ cnt + 1 = N0 + 1 ∧ vdoE Y (ts j).a (ts j).s (ts j).b j = 13 ∧ (vdoX Y (ts j).a (ts j).s (ts j).b j).down = true ∧ (vdoX Y (ts j).a (ts j).s (ts j).b j).ops = cnt + 1 ∧ CntR n sz (N0 + 1) (cnt + 1) (vdoX X (ts j).a (ts j).s (ts j).b j) (vdoX Y (ts j).a (ts j).s (ts j).b j))) := by
        show _ ∨ _
        have hpn := calm_next hp (ts j).a (ts j).s (ts j).b j
        rcases hR with ⟨g1, g2, g3⟩ | ⟨g1, g2, g3, g4, g5, g6⟩
        · rcases armed_do g1 (ts j).a (ts j).s (ts j).b j with ⟨k1, k2, k3⟩ | ⟨k1, k2, k3, k4⟩ | ⟨k1, k2, k3, k4⟩
          · rcases calm_do hp (ts j).a (ts j).s (ts j).b j with ⟨e1, _⟩ | ⟨_, e2, e3⟩
            · exact absurd e1 k1
            · refine .inr (.inl ⟨g1.up, e2, k2, by rw [k3]; exact g1.up, by rw [k3, g1.ops]; exact g3, ?_⟩)
              rw [e3, k3]
              exact .inl ⟨g1, g2, g3⟩
          · rcases calm_do hp (ts j).a (ts j).s (ts j).b j with ⟨_, e2, e3⟩ | ⟨e1, _⟩
            · have hxo : (vdoX X (ts j).a (ts j).s (ts j).b j).ops = cnt + 1 := by rw [e3]; show X.ops + 1 = _; omega
              refine .inr (.inr (.inl ⟨g1.up, e2, by omega, k3, k4.up, by rw [k4.ops]; exact hxo, .inl ⟨?_, by omega, hxo⟩⟩))
              rw [show N0 + 1 - (cnt + 1) = N0 + 1 - cnt - 1 by omega]
              exact k4
            · exact absurd k1 e1
          · rcases calm_do hp (ts j).a (ts j).s (ts j).b j with ⟨_, e2, e3⟩ | ⟨e1, _⟩
            · refine .inr (.inr (.inr ⟨g1.up, e2, by omega, k3, by rw [k4], by rw [k4]; show X.ops + 1 = _; omega, .inr ⟨hpn, by rw [k4], by rw [k4]; exact hp.hn, by rw [k4], by rw [k4]; show X.ops + 1 = _; omega, by omega⟩⟩))
            · exact absurd k1 e1
        · obtain ⟨e1, e2⟩ := down_do g2 (ts j).a (ts j).s (ts j).b j
          exact .inl ⟨g2, e1, by rw [e2]; exact .inr ⟨hpn, g2, g3, g4, g5, g6⟩⟩
      obtain ⟨EX, hEX⟩ : ∃ EX, vdoE X (ts j).a (ts j).s (ts j).b j = EX := ⟨_, rfl⟩
      obtain ⟨EY, hEY⟩ : ∃ EY, vdoE Y (ts j).a (ts j).s (ts j).b j = EY := ⟨_, rfl⟩
      obtain ⟨X2, hX2⟩ : ∃ X2, vdoX X (ts j).a (ts j).s (ts j).b j = X2 := ⟨_, rfl⟩
      obtain ⟨Y2, hY2⟩ : ∃ Y2, vdoX Y (ts j).a (ts j).s (ts j).b j = Y2 := ⟨_, rfl⟩
      obtain ⟨yd, hyd⟩ : ∃ yd, Y.down = yd := ⟨_, rfl⟩
      rw [hEX, hX2] at HDC
      rw [hEY, hY2] at HDD
      rw [hEX, hEY, hX2, hY2, hyd] at HLAW
      rw [hyd] at HDN
      rw [hX2] at HXN
      rw [hEX] at hcase
      clear hj hs ht hnum hR hp hYn hYo hX hEX hEY hX2 hY2 hyd HRR HS
      go_wp2_with fail
      refine HDN.out.mono ?_
      rintro e w' ⟨rfl, rfl⟩
      go_wp2_with fail
      refine HDC.out.mono ?_
      rintro e w5 ⟨rfl, Lc2, hs⟩
      have ht5 := HTW.out w5 hs.bel
      have d0 : w5.cell? (ad.add (j * 3)) = some (.int .u8 (n8 (ts j).a)) := ht5.c0
      have d1 : w5.cell? ⟨(ad.add (j * 3)).block, (ad.add (j * 3)).off + 1, none⟩ = some (.int .u8 (n8 (ts j).s)) := ht5.c1
      have d2 : w5.cell? ⟨(ad.add (j * 3)).block, (ad.add (j * 3)).off + 2, none⟩ = some (.int .u8 (n8 (ts j).b)) := ht5.c2
      have HS6 : Hid (Sep w.heap.size w w5 [devOb vd Ld1 Y, devOb vc Lc2 X2]) := hs.perm (.swap _ _ _)
      clear hs ht5 c0 c1 c2 HDN HDC
      go_wp2_with fail
      refine (HDD.out _ _ _ HS6.out).mono ?_
      rintro e w6 ⟨rfl, Ld2, hs⟩
      have HS7 := Lib.hid hs
      clear hs d0 d1 d2 HDD HTW
      have HDN2 := Lib.hid (dev_down (HS7.out.get (.head _)))
      have HOPS := Lib.hid (dev_ops (HS7.out.get (.head _)))
      rcases HLAW.out with ⟨l1, l2, l3⟩ | ⟨l1, l2, l3, l4, l5, l6⟩ | ⟨l1, l2, l3, l4, l5, l6, l7⟩ | ⟨l1, l2, l3, l4, l5, l6, l7⟩
      · have HL3 := Lib.hid l3
        subst l1 l2
        clear l3 HLAW hcase
        go_wp2_with fail
        go_roundg (gk - 1)
        case measure => have := HJ.out; omega
        case rel => exact ⟨j + 1, cnt, Ld2, Lc2, Y2, by have := HJ.out; omega, by go_num, rfl, by rw [HXN.out]; exact HL3.out, by rw [HXN.out]; exact HS7.out⟩
      · have HL6 := Lib.hid l6
        rw [l4] at HDN2
        rw [l5] at HOPS
        subst l1 l2 l3
        clear l4 l5 l6 HLAW hcase
        go_wp2_with fail
        refine HDN2.out.mono ?_
        rintro e w' ⟨rfl, rfl⟩
        go_wp2_with fail
        refine HOPS.out.mono ?_
        rintro e w' ⟨rfl, rfl⟩
        go_wp2_with fail
        go_roundg (gk - 1)
        case measure => have := HJ.out; omega
        case rel => exact ⟨j + 1, cnt, Ld2, Lc2, Y2, by have := HJ.out; omega, by go_num, rfl, by rw [HXN.out]; exact HL6.out, by rw [HXN.out]; exact HS7.out⟩
      · have HL7 := Lib.hid l7
        rw [l5] at HDN2
        rw [l6] at HOPS
        have hne : ((cnt : Int) + 1 == 1 + (N0 : Int)) = false := by rw [beq_eq_false_iff_ne]; omega
        subst l1 l2 l4
        clear l3 l5 l6 l7 HLAW hcase
        go_wp2_with fail
        refine HDN2.out.mono ?_
        rintro e w' ⟨rfl, rfl⟩
        go_wp2_with fail
        refine HOPS.out.mono ?_
        rintro e w' ⟨rfl, rfl⟩
        go_wp2_with fail
        go_roundg (gk - 1)
        case measure => have := HJ.out; omega
        case rel => exact ⟨j + 1, cnt + 1, Ld2, Lc2, Y2, by have := HJ.out; omega, by go_num, by go_num, by rw [HXN.out]; exact HL7.out, by rw [HXN.out]; exact HS7.out⟩
      · have HL7 := Lib.hid l7
        rw [l5] at HDN2
        rw [l6] at HOPS
        have hne : ((cnt : Int) + 1 == 1 + (N0 : Int)) = true := by rw [beq_iff_eq]; omega
        subst l1 l2 l4
        clear l3 l5 l6 l7 HLAW hcase
        go_wp2_with fail
        refine HDN2.out.mono ?_
        rintro e w' ⟨rfl, rfl⟩
        go_wp2_with fail
        refine HOPS.out.mono ?_
        rintro e w' ⟨rfl, rfl⟩
        go_wp2_with fail
        go_roundg (gk - 1)
        case measure => have := HJ.out; omega
        case rel => exact ⟨j + 1, cnt + 1, Ld2, Lc2, Y2, by have := HJ.out; omega, by go_num, by go_num, by rw [HXN.out]; exact HL7.out, by rw [HXN.out]; exact HS7.out⟩
    · obtain ⟨X, hX⟩ : ∃ X, runV (newVD n sz) ts j = X := ⟨_, rfl⟩
      rw [hX] at hR hp
      have HS5 : Hid (Sep w.heap.size w wr [devOb vd Ld1 Y]) := hs.sub (.cons_cons _ (.cons _ (List.Sublist.refl _)))
      have HDN := Lib.hid (dev_down HS5.out.dev)
      have HYN := Lib.hid hYn
      have HRR := Lib.hid hR
      obtain ⟨yd, hyd⟩ : ∃ yd, Y.down = yd := ⟨_, rfl⟩
      rw [hyd] at HDN
      have HCASE : Hid ((yd = false ∧ Arm1 Y n (N0 + 1 - cnt) cnt ∧ cnt < N0 + 1) ∨ (yd = true ∧ Y.T = none ∧ Y.ops ≤ 80 ∧ cnt = N0 + 1)) := by
        show _ ∨ _
        rcases hR with ⟨g1, g2, g3⟩ | ⟨g1, g2, g3, g4, g5, g6⟩
        · exact .inl ⟨by rw [← hyd]; exact g1.up, ⟨g1.n, g1.up, ⟨_, _, g1.T⟩, g1.k1, by rw [g1.ops]; exact g3⟩, g2⟩
        · exact .inr ⟨by rw [← hyd]; exact g2, g4, by omega, g6⟩
      have HRD := Lib.hid hyd
      clear hj hs hnum hR hp hYn hYo hX hyd HRR HS
      have hge : (yd = false ∧ decide (1 + (N0 : Int) ≤ (cnt : Int)) = false) ∨ (yd = true ∧ decide (1 + (N0 : Int) ≤ (cnt : Int)) = true) := by
        rcases HCASE.out with ⟨g1, _, g3⟩ | ⟨g1, _, _, g3⟩
        · exact .inl ⟨g1, by simp; omega⟩
        · exact .inr ⟨g1, by simp; omega⟩
      go_wp2_with fail
      refine HDN.out.mono ?_
      rintro e w' ⟨rfl, rfl⟩
      rcases hge with ⟨rfl, hge⟩ | ⟨rfl, hge⟩
      · obtain ⟨hA1, hlt1⟩ : Arm1 Y n (N0 + 1 - cnt) cnt ∧ cnt < N0 + 1 := by
          rcases HCASE.out with ⟨_, g2, g3⟩ | ⟨g1, _⟩
          · exact ⟨g2, g3⟩
          · cases g1
        have HA1 := Lib.hid hA1
        clear hA1 HCASE
        go_wp2_with fail
        refine (dev_disk HS5.out.dev).mono ?_
        rintro e w6 ⟨d1, rb1, lay1, rfl, hd, _, hb⟩
        have HS6 := Lib.hid (HS5.out.below hb)
        have HD := Lib.hid hd
        clear hd hb
        go_wp2_with fail
        refine (sep_contents HS6.out HD.out (by omega) (by rw [HYN.out]; omega)).mono ?_
        rintro e w7 ⟨u1, v1, rfl, hs⟩
        have HS7 : Hid (Sep w.heap.size w w7 [devOb vd Ld1 Y]) := hs.sub (.cons _ (.cons _ (List.Sublist.refl _)))
        clear hs HD hge
        go_wp2_with fail
        refine (dev_down HS7.out.dev).mono ?_
        rintro e w' ⟨rfl, rfl⟩
        rw [HA1.out.up]
        go_wp2_with fail
        go_loopg [13] (N0 - cnt) (fun q v13 wr => ∃ (ct : Nat) (L' : DLay) (Z : DevD), ct + q = N0 ∧ v13 = .int .i64 ct ∧ Arm1 Z n (N0 + 1 - ct) ct ∧ Sep w.heap.size w wr [devOb vd L' Z])
        case atStart => exact ⟨cnt, Ld1, Y, by omega, rfl, HA1.out, HS7.out⟩
        case round =>
          obtain ⟨ct, Lz, Z, hj, rfl, hA, hs⟩ := hrel
          have HJ2 := Lib.hid hj
          have hctn : ct ≤ N0 := by omega
          have HS8 := Lib.hid hs
          have HA := Lib.hid hA
          by_cases hlt2 : ct < N0
          · obtain ⟨sl, hsl⟩ : ∃ sl, ct % (n + 2) = sl := ⟨_, rfl⟩
            have hsln : sl < n + 2 := by rw [← hsl]; exact Nat.mod_lt _ (by omega)
            have hrem : Int.tmod (ct : Int) ((n : Int) + 2) = (sl : Int) := by rw [Int.tmod_eq_emod_of_nonneg (by omega), ← hsl, Int.natCast_emod]; rfl
            have n20 : ¬ ((n : Int) + 2 = 0) := by omega
            obtain ⟨g1, g2⟩ : oneVE Z (sl : Int) = 0 ∧ Arm1 (SyncVX Z (sl : Int)) n (N0 + 1 - (ct + 1)) (ct + 1) := by
              rcases arm1_sync hA hsln with ⟨_, g1, g2⟩ | ⟨g1, _⟩
              · exact ⟨g1, by rw [show N0 + 1 - (ct + 1) = N0 + 1 - ct - 1 by omega]; exact g2⟩
              · omega
            have HSY := Lib.hid (sep_vsync hs AllCells.nil (by rw [hA.ops]; omega) (sl : Int))
            rw [g1] at HSY
            have HG2 := Lib.hid g2
            obtain ⟨Z2, hZ2⟩ : ∃ Z2, SyncVX Z (sl : Int) = Z2 := ⟨_, rfl⟩
            rw [hZ2] at HSY HG2
            clear hj hs hA g1 g2 hsl hZ2
            go_wp2_with fail
            refine HSY.out.mono ?_
            rintro e w9 ⟨rfl, L9, hs⟩
            have HS9 := Lib.hid hs
            clear hs
            go_wp2_with fail
            go_roundg (gk - 1)
            case measure => have := HJ2.out; omega
            case rel => exact ⟨ct + 1, L9, Z2, by have := HJ2.out; omega, by go_num, HG2.out, HS9.out⟩
          · have e8 : ct = N0 := by omega
            subst e8
            have hk1 : ct + 1 - ct = 1 := by omega
            rw [hk1] at hA
            obtain ⟨g1, g2, g3, g4, g5⟩ : oneVE Z 0 = 13 ∧ (SyncVX Z 0).down = true ∧ (SyncVX Z 0).n = n ∧ (SyncVX Z 0).T = none ∧ (SyncVX Z 0).ops = ct + 1 := by
              rcases arm1_sync (s := 0) hA (by omega) with ⟨g1, _⟩ | ⟨_, g2⟩
              · omega
              · exact g2
            have HSY := Lib.hid (sep_vsync hs AllCells.nil (by rw [hA.ops]; omega) 0)
            rw [g1] at HSY
            obtain ⟨Z2, hZ2⟩ : ∃ Z2, SyncVX Z 0 = Z2 := ⟨_, rfl⟩
            rw [hZ2] at HSY g2 g3 g4 g5
            have HG2 := Lib.hid g2
            have HG3 := Lib.hid g3
            have HG4 := Lib.hid g4
            have HG5 : Hid (Z2.ops ≤ 80) := by show _ ≤ _; omega
            clear hj hs hA g1 g2 g3 g4 g5 hZ2 hk1
            go_wp2_with fail
            refine HSY.out.mono ?_
            rintro e w9 ⟨rfl, L9, hs⟩
            have HS9 := Lib.hid hs
            clear hs
            go_wp2_with fail
            refine (dev_down HS9.out.dev).mono ?_
            rintro e w' ⟨rfl, rfl⟩
            rw [HG2.out]
            go_wp2_with fail
            refine (dev_disk HS9.out.dev).mono ?_
            rintro e w10 ⟨d1, rb1, lay1, rfl, hd, _, hb⟩
            have HS10 := Lib.hid (HS9.out.below hb)
            have HD := Lib.hid hd
            clear hd hb
            go_wp2_with fail
            refine (sep_contents HS10.out HD.out (by omega) (by rw [HG3.out]; omega)).mono ?_
            rintro e w11 ⟨u3, v3, rfl, hs⟩
            rw [HG3.out] at hs
            obtain ⟨A3, q3, rfl, hq3, hq3m⟩ := row_form (hs.get (.head _))
            have HS11 : Hid (Sep w.heap.size w w11 [rowOb 9 1 (.slice A3 (n + 2) q3) (n + 2) (strs Z2.D (n + 2)), devOb vd L9 Z2]) := hs.sub (.cons_cons _ (.cons _ (List.Sublist.refl _)))
            unfold maxLen at hq3m
            clear hs HD
            go_wp2_with fail
            refine (sep_vrestart (HS11.out.perm (.swap _ _ _))).mono ?_
            rintro e w30 ⟨rfl, hs⟩
            have HFR : Hid (Free1 (restartX Z2) n ∧ (restartX Z2).ops ≤ 80 ∧ (restartX Z2).D = Z2.D) := ⟨⟨HG3.out, rfl, HG4.out⟩, HG5.out, rfl⟩
            obtain ⟨R, hR⟩ : ∃ R, restartX Z2 = R := ⟨_, rfl⟩
            rw [hR] at hs HFR
            have HS30 := Lib.hid hs
            clear hs hR
            go_wp2_with fail
            go_loopg [21] 80 (fun q v21 wr => ∃ (k : Nat) (L' : DLay) (Z : DevD), k + q = 80 ∧ v21 = .int .i64 k ∧ Free1 Z n ∧ Z.ops ≤ 80 + k ∧ (∀ i, (Z.D i).bytes = (Z2.D i).bytes) ∧ Sep w.heap.size w wr [devOb vd L' Z, rowOb 9 1 (.slice A3 (n + 2) q3) (n + 2) (strs Z2.D (n + 2))])
            case atStart => exact ⟨0, _, R, by omega, rfl, HFR.out.1, by have := HFR.out.2.1; omega, fun i => by rw [HFR.out.2.2], HS30.out⟩
            case round =>
              obtain ⟨k, Lz, Z, hj, rfl, hF, hZo, hZb, hs⟩ := hrel
              have HJ3 := Lib.hid hj
              have hk80 : k ≤ 80 := by omega
              have HS31 := Lib.hid hs
              have HF := Lib.hid hF
              have HZO := Lib.hid hZo
              have HZB := Lib.hid hZb
              by_cases hlt3 : k < 80
              · obtain ⟨sl, hsl⟩ : ∃ sl, k % (n + 2) = sl := ⟨_, rfl⟩
                have hsln : sl < n + 2 := by rw [← hsl]; exact Nat.mod_lt _ (by omega)
                have hrem : Int.tmod (k : Int) ((n : Int) + 2) = (sl : Int) := by rw [Int.tmod_eq_emod_of_nonneg (by omega), ← hsl, Int.natCast_emod]; rfl
                have n20 : ¬ ((n : Int) + 2 = 0) := by omega
                obtain ⟨g1, g2, g3⟩ := free1_sync hF hsln
                have HSY := Lib.hid (sep_vsync hs (AllCells.cons (cellOb_row _ _ _ _ _) AllCells.nil) (by omega) (sl : Int))
                have HG2 : Hid (Free1 (SyncVX Z (sl : Int)) n ∧ (SyncVX Z (sl : Int)).ops ≤ 80 + (k + 1) ∧ ∀ i, ((SyncVX Z (sl : Int)).D i).bytes = (Z2.D i).bytes) := ⟨g2, by have := (SyncVX_nums Z (sl : Int)).2; omega, fun i => by rw [g3 i, hZb i]⟩
                rw [g1] at HSY
                obtain ⟨Z2, hZ2⟩ : ∃ Z2, SyncVX Z (sl : Int) = Z2 := ⟨_, rfl⟩
                rw [hZ2] at HSY HG2
                clear hj hs hF hZo hZb g1 g2 g3 hsl hZ2
                go_wp2_with fail
                refine HSY.out.mono ?_
                rintro e w32 ⟨rfl, L32, hs⟩
                have HS32 := Lib.hid hs
                clear hs
                go_wp2_with fail
                refine (dev_down HS32.out.dev).mono ?_
                rintro e w' ⟨rfl, rfl⟩
                rw [HG2.out.1.up]
                go_wp2_with fail
                go_roundg (gk - 1)
                case measure => have := HJ3.out; omega
                case rel => exact ⟨k + 1, L32, Z2, by have := HJ3.out; omega, by go_num, HG2.out.1, HG2.out.2.1, HG2.out.2.2, HS32.out⟩
              · clear hj hs hF hZo hZb
                go_wp2_with fail
                refine (dev_disk HS31.out.dev).mono ?_
                rintro e w33 ⟨d2, rb2, lay2, rfl, hd, _, hb⟩
                have HS33 := Lib.hid (HS31.out.below hb)
                have HD2 := Lib.hid hd
                clear hd hb
                go_wp2_with fail
                refine (sep_contents HS33.out HD2.out (by omega) (by rw [HF.out.n]; omega)).mono ?_
                rintro e w34 ⟨u2, v2, rfl, hs⟩
                rw [HF.out.n, strs_congr (fun i _ => HZB.out i)] at hs
                obtain ⟨A9, q9, rfl, hq9, hq9m⟩ := row_form (hs.get (.head _))
                have HS34 : Hid (Sep w.heap.size w w34 [rowOb 9 1 (.slice A9 (n + 2) q9) (n + 2) (strs Z2.D (n + 2)), rowOb 9 1 (.slice A3 (n + 2) q3) (n + 2) (strs Z2.D (n + 2))]) := hs.sub (.cons_cons _ (.cons _ (.cons _ (List.Sublist.refl _))))
                unfold maxLen at hq9m
                clear hs HD2
                go_wp2_with fail
                go_loopg [24] (n + 2) (fun q v24 wr => ∃ (k : Nat), k + q = n + 2 ∧ v24 = .int .i64 k ∧ Sep w.heap.size w wr [rowOb 9 1 (.slice A9 (n + 2) q9) (n + 2) (strs Z2.D (n + 2)), rowOb 9 1 (.slice A3 (n + 2) q3) (n + 2) (strs Z2.D (n + 2))])
                case atStart => exact ⟨0, by omega, rfl, HS34.out⟩
                case round =>
                  obtain ⟨i, hj, rfl, hs⟩ := hrel
                  have HJ4 := Lib.hid hj
                  have HS35 := Lib.hid hs
                  have hi4 : i ≤ n + 2 := by omega
                  clear hj hs
                  by_cases hlt4 : i < n + 2
                  · obtain ⟨ad1, rfl, z1⟩ := str_cell (HS35.out.get (.tail _ (.head _))) i hlt4
                    obtain ⟨ad2, rfl, z2⟩ := str_cell (HS35.out.get (.head _)) i hlt4
                    obtain ⟨s0, hs0⟩ : ∃ s0, strOf (Z2.D i).bytes = s0 := ⟨_, rfl⟩
                    rw [hs0] at z1 z2
                    clear hs0
                    go_wp2_with fail
                    go_quiet (fail)
                    have HS36 := Lib.hid (HS35.out.drewN nq)
                    generalize wr.drewN nq = wz at HS36 ⊢
                    clear z1 z2
                    go_wp2_with fail
                    go_roundg (gk - 1)
                    case measure => have := HJ4.out; omega
                    case rel => exact ⟨i + 1, by have := HJ4.out; omega, by go_num, HS36.out⟩
                  · have e8 : i = n + 2 := by omega
                    subst e8
                    go_wp2_with fail
                    refine (works_any _).mono ?_
                    rintro e w42 ⟨rfl, hb⟩
                    have HB : Hid (Below w.heap.size w w42) := HS35.out.bel.trans (hb.mono HS35.out.big)
                    clear hb
                    go_wp2_with fail
                    go_ret
                    exact ⟨rfl, HB.out⟩
      · obtain ⟨hT, hO⟩ : Y.T = none ∧ Y.ops ≤ 80 := by
          rcases HCASE.out with ⟨g1, _⟩ | ⟨_, g2, g3, _⟩
          · cases g1
          · exact ⟨g2, g3⟩
        have HT := Lib.hid hT
        have HO := Lib.hid hO
        have hyd2 : Y.down = true := HRD.out
        have HYD := Lib.hid hyd2
        clear hT hO hyd2 HCASE
        go_wp2_with fail
        refine (dev_disk HS5.out.dev).mono ?_
        rintro e w6 ⟨d1, rb1, lay1, rfl, hd, _, hb⟩
        have HS6 := Lib.hid (HS5.out.below hb)
        have HD := Lib.hid hd
        clear hd hb
        go_wp2_with fail
        refine (sep_contents HS6.out HD.out (by omega) (by rw [HYN.out]; omega)).mono ?_
        rintro e w7 ⟨u1, v1, rfl, hs⟩
        rw [HYN.out] at hs
        obtain ⟨A3, q3, rfl, hq3, hq3m⟩ := row_form (hs.get (.head _))
        have HS7 : Hid (Sep w.heap.size w w7 [rowOb 9 1 (.slice A3 (n + 2) q3) (n + 2) (strs Y.D (n + 2)), devOb vd Ld1 Y]) := hs.sub (.cons_cons _ (.cons _ (List.Sublist.refl _)))
        unfold maxLen at hq3m
        clear hs HD hge
        go_wp2_with fail
        refine (dev_down (HS7.out.get (.tail _ (.head _)))).mono ?_
        rintro e w' ⟨rfl, rfl⟩
        rw [HYD.out]
        go_wp2_with fail
        refine (sep_vrestart (HS7.out.perm (.swap _ _ _))).mono ?_
        rintro e w30 ⟨rfl, hs⟩
        have HFR : Hid (Free1 (restartX Y) n ∧ (restartX Y).ops ≤ 80 ∧ (restartX Y).D = Y.D) := ⟨⟨HYN.out, rfl, HT.out⟩, HO.out, rfl⟩
        obtain ⟨R, hR⟩ : ∃ R, restartX Y = R := ⟨_, rfl⟩
        rw [hR] at hs HFR
        have HS30 := Lib.hid hs
        clear hs hR
        go_wp2_with fail
        go_loopg [21] 80 (fun q v21 wr => ∃ (k : Nat) (L' : DLay) (Z : DevD), k + q = 80 ∧ v21 = .int .i64 k ∧ Free1 Z n ∧ Z.ops ≤ 80 + k ∧ (∀ i, (Z.D i).bytes = (Y.D i).bytes) ∧ Sep w.heap.size w wr [devOb vd L' Z, rowOb 9 1 (.slice A3 (n + 2) q3) (n + 2) (strs Y.D (n + 2))])
        case atStart => exact ⟨0, _, R, by omega, rfl, HFR.out.1, by have := HFR.out.2.1; omega, fun i => by rw [HFR.out.2.2], HS30.out⟩
        case round =>
          obtain ⟨k, Lz, Z, hj, rfl, hF, hZo, hZb, hs⟩ := hrel
          have HJ3 := Lib.hid hj
          have hk80 : k ≤ 80 := by omega
          have HS31 := Lib.hid hs
          have HF := Lib.hid hF
          have HZO := Lib.hid hZo
          have HZB := Lib.hid hZb
          by_cases hlt3 : k < 80
          · obtain ⟨sl, hsl⟩ : ∃ sl, k % (n + 2) = sl := ⟨_, rfl⟩
            have hsln : sl < n + 2 := by rw [← hsl]; exact Nat.mod_lt _ (by omega)
            have hrem : Int.tmod (k : Int) ((n : Int) + 2) = (sl : Int) := by rw [Int.tmod_eq_emod_of_nonneg (by omega), ← hsl, Int.natCast_emod]; rfl
            have n20 : ¬ ((n : Int) + 2 = 0) := by omega
            obtain ⟨g1, g2, g3⟩ := free1_sync hF hsln
            have HSY := Lib.hid (sep_vsync hs (AllCells.cons (cellOb_row _ _ _ _ _) AllCells.nil) (by omega) (sl : Int))
            have HG2 : Hid (Free1 (SyncVX Z (sl : Int)) n ∧ (SyncVX Z (sl : Int)).ops ≤ 80 + (k + 1) ∧ ∀ i, ((SyncVX Z (sl : Int)).D i).bytes = (Y.D i).bytes) := ⟨g2, by have := (SyncVX_nums Z (sl : Int)).2; omega, fun i => by rw [g3 i, hZb i]⟩
            rw [g1] at HSY
            obtain ⟨Z2, hZ2⟩ : ∃ Z2, SyncVX Z (sl : Int) = Z2 := ⟨_, rfl⟩
            rw [hZ2] at HSY HG2
            clear hj hs hF hZo hZb g1 g2 g3 hsl hZ2
            go_wp2_with fail
            refine HSY.out.mono ?_
            rintro e w32 ⟨rfl, L32, hs⟩
            have HS32 := Lib.hid hs
            clear hs
            go_wp2_with fail
            refine (dev_down HS32.out.dev).mono ?_
            rintro e w' ⟨rfl, rfl⟩
            rw [HG2.out.1.up]
            go_wp2_with fail
            go_roundg (gk - 1)
            case measure => have := HJ3.out; omega
            case rel => exact ⟨k + 1, L32, Z2, by have := HJ3.out; omega, by go_num, HG2.out.1, HG2.out.2.1, HG2.out.2.2, HS32.out⟩
          · clear hj hs hF hZo hZb
            go_wp2_with fail
            refine (dev_disk HS31.out.dev).mono ?_
            rintro e w33 ⟨d2, rb2, lay2, rfl, hd, _, hb⟩
            have HS33 := Lib.hid (HS31.out.below hb)
            have HD2 := Lib.hid hd
            clear hd hb
            go_wp2_with fail
            refine (sep_contents HS33.out HD2.out (by omega) (by rw [HF.out.n]; omega)).mono ?_
            rintro e w34 ⟨u2, v2, rfl, hs⟩
            rw [HF.out.n, strs_congr (fun i _ => HZB.out i)] at hs
            obtain ⟨A9, q9, rfl, hq9, hq9m⟩ := row_form (hs.get (.head _))
            have HS34 : Hid (Sep w.heap.size w w34 [rowOb 9 1 (.slice A9 (n + 2) q9) (n + 2) (strs Y.D (n + 2)), rowOb 9 1 (.slice A3 (n + 2) q3) (n + 2) (strs Y.D (n + 2))]) := hs.sub (.cons_cons _ (.cons _ (.cons _ (List.Sublist.refl _))))
            unfold maxLen at hq9m
            clear hs HD2
            go_wp2_with fail
            go_loopg [24] (n + 2) (fun q v24 wr => ∃ (k : Nat), k + q = n + 2 ∧ v24 = .int .i64 k ∧ Sep w.heap.size w wr [rowOb 9 1 (.slice A9 (n + 2) q9) (n + 2) (strs Y.D (n + 2)), rowOb 9 1 (.slice A3 (n + 2) q3) (n + 2) (strs Y.D (n + 2))])
            case atStart => exact ⟨0, by omega, rfl, HS34.out⟩
            case round =>
              obtain ⟨i, hj, rfl, hs⟩ := hrel
              have HJ4 := Lib.hid hj
              have HS35 := Lib.hid hs
              have hi4 : i ≤ n + 2 := by omega
              clear hj hs
              by_cases hlt4 : i < n + 2
              · obtain ⟨ad1, rfl, z1⟩ := str_cell (HS35.out.get (.tail _ (.head _))) i hlt4
                obtain ⟨ad2, rfl, z2⟩ := str_cell (HS35.out.get (.head _)) i hlt4
                obtain ⟨s0, hs0⟩ : ∃ s0, strOf (Y.D i).bytes = s0 := ⟨_, rfl⟩
                rw [hs0] at z1 z2
                clear hs0
                go_wp2_with fail
                go_quiet (fail)
                have HS36 := Lib.hid (HS35.out.drewN nq)
                generalize wr.drewN nq = wz at HS36 ⊢
                clear z1 z2
                go_wp2_with fail
                go_roundg (gk - 1)
                case measure => have := HJ4.out; omega
                case rel => exact ⟨i + 1, by have := HJ4.out; omega, by go_num, HS36.out⟩
              · have e8 : i = n + 2 := by omega
                subst e8
                go_wp2_with fail
                refine (works_any _).mono ?_
                rintro e w42 ⟨rfl, hb⟩
                have HB : Hid (Below w.heap.size w w42) := HS35.out.bel.trans (hb.mono HS35.out.big)
                clear hb
                go_wp2_with fail
                go_ret
                exact ⟨rfl, HB.out⟩
theorem DeviceCounts_walk (v0 v1 v2 v3 : Value) (w : World) (a0 : ArgIn Try.prog w 5 v0) (a1 : ArgIn Try.prog w 5 v1) (a2 : ArgIn Try.prog w 39 v2) (a3 : ArgIn Try.prog w 5 v3) :
    Calls Try.prog 5 #[v0, v1, v2, v3] w fun e w' => e = .returned (.bool true) ∧ Below w.heap.size w w' := by
  obtain ⟨x0, rfl, h0⟩ := a0.int (k := .u8) Try.underlying5
  obtain ⟨x1, rfl, h1⟩ := a1.int (k := .u8) Try.underlying5
  obtain ⟨A, n, c, ts, rfl, hn, hc, ht⟩ := turns_arg a2
  obtain ⟨x4, rfl, h4⟩ := a3.int (k := .u8) Try.underlying5
  obtain ⟨b0, rfl⟩ := u8_of_wf h0
  obtain ⟨b1, rfl⟩ := u8_of_wf h1
  obtain ⟨b4, rfl⟩ := u8_of_wf h4
  exact DeviceCounts_w b0 b1 A n c ts b4 w ht hn hc
end Go.Proofs.Yteglaedkhopbgaa
