/-
  The walk of the law DualcopyTurns. No condition.
-/
import Derived.Test.YtnopljanpjmbgaaGreatMS
import Derived.Test.YtnopljanpjmbgaaGreatMQ
import Derived.Deep.DeepCutAuto
import Derived.Deep.CutBlock
namespace Go.Proofs.YtnopljanpjmbgaaGreat
open Go.RowKit Go.Shelf Drum
set_option linter.unusedVariables false
set_option maxRecDepth 100000 in
set_option maxHeartbeats 32000000 in
theorem DualcopyTurns_k (b : Fin 7 → BitVec 8) (n sz : Nat) (re wk ke va po : Int) (hc : smallC b = ⟨(n : Int), (sz : Int), re, wk, ke, va, po⟩) (hn4 : 4 ≤ n) (hn9 : n ≤ 9) (hs1 : 34 ≤ sz) (hs2 : sz ≤ 400) (w : World)
    (A1 : Option Addr) (m1 c1 : Nat) (l1 : List (BitVec 8)) (hr1 : Reads w w.heap.size 1 A1 m1 (u8s l1)) (hl1 : m1 = l1.length) (hm1 : m1 ≤ c1) (hx1 : c1 ≤ maxLen)
    (A2 : Option Addr) (m2 c2 : Nat) (l2 : List (BitVec 8)) (hr2 : Reads w w.heap.size 1 A2 m2 (u8s l2)) (hl2 : m2 = l2.length) (hm2 : m2 ≤ c2) (hx2 : c2 ≤ maxLen) :
    Calls Tryz.prog 3 #[.agg #[.int .u8 (n8 (b 0)), .int .u8 (n8 (b 1)), .int .u8 (n8 (b 2)), .int .u8 (n8 (b 3)), .int .u8 (n8 (b 4)), .int .u8 (n8 (b 5)), .int .u8 (n8 (b 6))], .slice A1 m1 c1, .slice A2 m2 c2] w fun e w' => e = .returned (.bool true) ∧ Below w.heap.size w w' := by
  obtain ⟨b3, hb3⟩ : ∃ b3, b3 = w.heap.size := ⟨_, rfl⟩
  obtain ⟨W1, hW1⟩ : ∃ W1 : World, W1 = w.alloc (.cells #[.int .u8 (n8 (b 0)), .int .u8 (n8 (b 1)), .int .u8 (n8 (b 2)), .int .u8 (n8 (b 3)), .int .u8 (n8 (b 4)), .int .u8 (n8 (b 5)), .int .u8 (n8 (b 6))] 22) := ⟨_, rfl⟩
  have H1 : Hid (Sep w.heap.size w W1 [blkOb b3 22 #[.int .u8 (n8 (b 0)), .int .u8 (n8 (b 1)), .int .u8 (n8 (b 2)), .int .u8 (n8 (b 3)), .int .u8 (n8 (b 4)), .int .u8 (n8 (b 5)), .int .u8 (n8 (b 6))]]) := by
    show Sep _ _ _ _
    rw [hW1]
    exact (Sep.start w).newBlk b3 _ _ hb3
  have HBG := Lib.hid (begun_k H1.out (AllCells.cons (cellOb_blk _ _ _) AllCells.nil) b n sz re wk ke va po hc hn4 hn9 hs1 hs2)
  have hwf0 := smallC_wf b
  rw [hc] at hwf0
  have HWF : Hid (Cf.wf ⟨(n : Int), (sz : Int), re, wk, ke, va, po⟩) := hwf0
  have HR1 := Lib.hid hr1
  have HK := Lib.hid (And.intro hn4 (And.intro hn9 (And.intro hs1 hs2)))
  obtain ⟨m, hm⟩ : ∃ m : Nat, m = min m1 20 := ⟨_, rfl⟩
  have hmin : Hid ((if (20 : Int) < (m1 : Int) then (20 : Int) else (m1 : Int)) = (m : Int)) := by
    show _ = _
    split <;> omega
  obtain ⟨mm, hmm⟩ : ∃ mm : Nat, mm = min m2 30 := ⟨_, rfl⟩
  have hmin2 : Hid ((if (30 : Int) < (m2 : Int) then (30 : Int) else (m2 : Int)) = (mm : Int)) := by
    show _ = _
    split <;> omega
  have hm20 : m ≤ 20 := by omega
  have hmm1 : m ≤ m1 := by omega
  have hmm30 : mm ≤ 30 := by omega
  have hmm2 : mm ≤ m2 := by omega
  obtain ⟨dt, hdt⟩ : ∃ dt, dt = l2.take mm := ⟨_, rfl⟩
  have hr2' := hr2.take hmm2
  rw [← hdt] at hr2'
  have hdl : mm = dt.length := by rw [hdt, List.length_take]; omega
  have HDL := Lib.hid hdl
  have HR2 := Lib.hid hr2'
  have HD : Hid (Holds w (.slice A2 mm c2) dt) := ⟨A2, mm, c2, rfl, hdl, by omega, hx2, hr2'⟩
  unfold maxLen at hx1 hx2
  have hnI1 : (4 : Int) ≤ (n : Int) := by omega
  have hnI2 : (n : Int) ≤ 9 := by omega
  clear hc hn4 hn9 hs1 hs2 hm hmm hr1 hr2 hr2' hl1 hl2 hdt hdl hwf0
  go_enter Tryz.func3, Tryz.ntmps3
  go_wp2_with fail
  rw [← hb3, ← hW1]
  clear hW1 hb3
  refine HBG.out.mono ?_
  rintro e w2 ⟨v, L, X, rfl, hbg, hsp⟩
  have HB := Lib.hid hbg
  have H2 := Lib.hid hsp
  have HST := Lib.hid (tu_start hbg dt (by have := HDL.out; omega) HK.out.2.2.1)
  clear hbg hsp HBG H1
  obtain ⟨g8, hg8⟩ : ∃ g8, g8 = w2.heap.size := ⟨_, rfl⟩
  obtain ⟨W3, hW3⟩ : ∃ W3 : World, W3 = w2.alloc (.cells #[.int .i64 (n : Int), .int .i64 (sz : Int), .int .i64 re, .int .i64 wk, .int .i64 ke, .int .i64 va, .int .i64 po] 26) := ⟨_, rfl⟩
  have H3 : Hid (Sep w.heap.size w W3 (devOb v L X :: [blkOb g8 26 #[.int .i64 (n : Int), .int .i64 (sz : Int), .int .i64 re, .int .i64 wk, .int .i64 ke, .int .i64 va, .int .i64 po], blkOb b3 22 #[.int .u8 (n8 (b 0)), .int .u8 (n8 (b 1)), .int .u8 (n8 (b 2)), .int .u8 (n8 (b 3)), .int .u8 (n8 (b 4)), .int .u8 (n8 (b 5)), .int .u8 (n8 (b 6))]])) := by
    show Sep _ _ _ _
    rw [hW3]
    exact (H2.out.newBlk g8 26 #[.int .i64 (n : Int), .int .i64 (sz : Int), .int .i64 re, .int .i64 wk, .int .i64 ke, .int .i64 va, .int .i64 po] hg8).perm (.swap _ _ _)
  go_upto_region 2 with fail
  rw [← hg8, ← hW3]
  clear hg8 hW3
  go_wp2_with fail
  refine (lt_ops_k H3.out 6 (by rw [HB.out.ops]; rfl)).mono ?_
  rintro e w4 ⟨rfl, hs⟩
  have H4 := Lib.hid hs
  clear hs
  go_upto_region 4 with fail
  go_wp2_with (with_reducible refine wpList_min rfl _ _ _ _ _ _ _ rfl rfl rfl hmin2.out ?_)
  refine (lt_app (er := 0) H4.out (AllCells.cons (cellOb_blk _ _ _) (AllCells.cons (cellOb_blk _ _ _) AllCells.nil)) (by rw [HB.out.ops]; omega) 0 (fun W hW => HD.out.below hW.1) HST.out.1 rfl).mono ?_
  rintro e w5 ⟨rfl, L5, hs⟩
  have H5 := Lib.hid hs
  have HI0 := Lib.hid HST.out.2
  clear hs HB HST
  go_wp2_with (with_reducible refine wpList_min rfl _ _ _ _ _ _ _ rfl rfl rfl hmin.out ?_)
  go_loopg [55] m (fun qq v55 wr => ∃ (j : Nat) (L : DLay) (X : DevD) (p : Int), j + qq = m ∧ v55 = .int .i64 j ∧ TuI n sz re wk ke va dt j X ((j : Int) + 2) p ∧ Sep w.heap.size w wr (devOb v L X :: [blkOb g8 26 #[.int .i64 (n : Int), .int .i64 (sz : Int), .int .i64 re, .int .i64 wk, .int .i64 ke, .int .i64 va, .int .i64 po], blkOb b3 22 #[.int .u8 (n8 (b 0)), .int .u8 (n8 (b 1)), .int .u8 (n8 (b 2)), .int .u8 (n8 (b 3)), .int .u8 (n8 (b 4)), .int .u8 (n8 (b 5)), .int .u8 (n8 (b 6))]]))
  case atStart => exact ⟨0, L5, _, po, by omega, rfl, HI0.out, H5.out⟩
  case round =>
    clear HI0 H5 H4
    obtain ⟨j, L, X, p, hj, rfl, hi, hs⟩ := hrel
    have HJ := Lib.hid hj
    have HI := Lib.hid hi
    have H5 := Lib.hid hs
    have hjm : j ≤ m := by omega
    by_cases hlt : j < m
    · obtain ⟨ad, u, rfl, hab, hu, hcl⟩ := HR1.out.at_ (show j < m1 by omega)
      obtain ⟨hjk, rfl⟩ := u8s_at hu
      obtain ⟨pb, hpb⟩ : ∃ pb, l1[j] = pb := ⟨_, rfl⟩
      rw [hpb] at hcl
      have q0 : wr.cell? (ad.add j) = some (.int .u8 (n8 pb)) := by
        obtain ⟨ad', u', e', _, hu', hcl'⟩ := (HR1.out.below hs.bel).at_ (show j < m1 by omega)
        injection e' with e'
        subst e'
        obtain ⟨_, rfl⟩ := u8s_at hu'
        rw [hcl', hpb]
      have hj20 : j < 20 := by omega
      obtain ⟨q, hq⟩ : ∃ q : Int, (((1 + pb.toNat % 2 : Nat)) : Int) = q := ⟨_, rfl⟩
      have HP : Hid (∀ W, Calls Tryz.prog 11 #[.int .u8 (n8 pb)] W fun e w' => e = .returned (.int .i64 q) ∧ W = w') := fun W => by
        rw [← hq]
        exact policy_any pb W
      have hqq : q = 1 ∨ q = 2 := by omega
      obtain ⟨hp1, hp2⟩ := n8_bd pb
      obtain ⟨k, hk⟩ : ∃ k, j % 2 = k := ⟨_, rfl⟩
      have hround := tu_round hi hj20 hqq k hk
      have e23 : (j : Int) + 2 + 1 = (j : Int) + 3 := by omega
      rw [e23] at hround
      obtain ⟨X2, r1, ck1, by1, av, ck2, by2, r2, ck3, un, by3, okN, op2, hi2⟩ := hround
      obtain ⟨kk, hkk⟩ : ∃ kk : Int, kk = (k : Int) := ⟨_, rfl⟩
      have hkk0 : 0 ≤ kk := by omega
      have hkk1 : kk ≤ 1 := by omega
      have hrem : Int.tmod (j : Int) 2 = kk := by rw [Int.tmod_eq_emod_of_nonneg (by omega)]; omega
      have HRA : Hid (((readX X).1 = 0 ∧ ((readX X).2.1 : Int) = kk) ∧ (readX X).2.2 = ⟨(j : Int) + 2, ⟨(n : Int), (sz : Int), re, wk, ke, va, p⟩⟩) := by show _ ∧ _; rw [r1]; exact ⟨⟨rfl, hkk.symm⟩, rfl⟩
      have HRB : Hid (((readX X2).1 = 0 ∧ ((readX X2).2.1 : Int) = 1 - kk) ∧ (readX X2).2.2 = ⟨(j : Int) + 3, ⟨(n : Int), (sz : Int), re, wk, ke, va, q⟩⟩) := by show _ ∧ _; rw [r2]; exact ⟨⟨rfl, by show ((1 - k : Nat) : Int) = 1 - kk; omega⟩, rfl⟩
      have HAV := Lib.hid av
      have hel1 := encOf_length (stB n sz re wk ke va ((j : Int) + 2) p)
      have hel2 := encOf_length (stB n sz re wk ke va ((j : Int) + 3) q)
      have HE1 := Lib.hid hel1
      have HE2 := Lib.hid hel2
      have HT1 : Hid ((X.D (n + k)).bytes.take 64 = (encOf (stB n sz re wk ke va ((j : Int) + 2) p)) ∧ 64 ≤ (X.D (n + k)).bytes.length) := by show _ ∧ _; rw [by1]; exact ⟨by rw [← hel1, List.take_length], by omega⟩
      have HT2 : Hid ((X2.D (n + k)).bytes.take 64 = (encOf (stB n sz re wk ke va ((j : Int) + 2) p)) ∧ 64 ≤ (X2.D (n + k)).bytes.length) := by show _ ∧ _; rw [by2]; exact ⟨by rw [← hel1, List.take_length], by omega⟩
      have HT3 : Hid ((X2.D (n + (1 - k))).bytes.take 64 = (encOf (stB n sz re wk ke va ((j : Int) + 3) q)) ∧ 64 ≤ (X2.D (n + (1 - k))).bytes.length) := by show _ ∧ _; rw [by3]; exact ⟨by rw [← hel2, List.take_length], by omega⟩
      have HCK := Lib.hid (And.intro ck1 (And.intro ck2 (And.intro ck3 un)))
      have HKK : Hid (kk = (k : Int) ∧ k < 2) := ⟨hkk, by omega⟩
      have HOK : Hid (Bk.wf ⟨(j : Int) + 3, ⟨(n : Int), (sz : Int), re, wk, ke, va, q⟩⟩ ∧ Bk.ok ⟨(j : Int) + 3, ⟨(n : Int), (sz : Int), re, wk, ke, va, q⟩⟩) := ⟨⟨⟨by show _ ≤ (j : Int) + 3; omega, by show (j : Int) + 3 ≤ _; omega⟩, fun z hz => by
        have := Cf.ok_nums okN.2 z hz
        omega⟩, okN⟩
      have HO1 : Hid (X.ops ≤ 100000) := by have := hi.ops; show _ ≤ _; omega
      obtain ⟨op, hop⟩ : ∃ op : Int, (X.ops : Int) = op := ⟨_, rfl⟩
      have hop0 : 0 ≤ op := by omega
      have hop1 : op ≤ 1000 := by have := hi.ops; omega
      have HOP : Hid ((X.ops : Int) = op ∧ (X2.ops : Int) = op + 3) := ⟨hop, by omega⟩
      have HI2 := Lib.hid hi2
      clear hj hi hs hu hcl hjk hpb hq r1 ck1 by1 av ck2 by2 r2 ck3 un by3 okN op2 hi2 hkk hk hel1 hel2 e23 hop HI hqq
      go_wp2_with fail
      refine (lt_read H5.out 0 kk ((j : Int) + 2) (n : Int) (sz : Int) re wk ke va p HRA.out).mono ?_
      rintro e w6 ⟨rfl, hs⟩
      have H6 := Lib.hid hs
      clear hs
      obtain ⟨g11, hg11⟩ : ∃ g11, g11 = w6.heap.size := ⟨_, rfl⟩
      obtain ⟨W6, hW6⟩ : ∃ W6 : World, W6 = w6.alloc (.cells #[.int .i64 ((j : Int) + 2), .int .i64 (n : Int), .int .i64 (sz : Int), .int .i64 re, .int .i64 wk, .int .i64 ke, .int .i64 va, .int .i64 p] 33) := ⟨_, rfl⟩
      have H6b : Hid (Sep w.heap.size w W6 (devOb v L X :: [blkOb g11 33 #[.int .i64 ((j : Int) + 2), .int .i64 (n : Int), .int .i64 (sz : Int), .int .i64 re, .int .i64 wk, .int .i64 ke, .int .i64 va, .int .i64 p], blkOb g8 26 #[.int .i64 (n : Int), .int .i64 (sz : Int), .int .i64 re, .int .i64 wk, .int .i64 ke, .int .i64 va, .int .i64 po], blkOb b3 22 #[.int .u8 (n8 (b 0)), .int .u8 (n8 (b 1)), .int .u8 (n8 (b 2)), .int .u8 (n8 (b 3)), .int .u8 (n8 (b 4)), .int .u8 (n8 (b 5)), .int .u8 (n8 (b 6))]])) := by
        show Sep _ _ _ _
        rw [hW6]
        exact (H6.out.newBlk g11 33 #[.int .i64 ((j : Int) + 2), .int .i64 (n : Int), .int .i64 (sz : Int), .int .i64 re, .int .i64 wk, .int .i64 ke, .int .i64 va, .int .i64 p] hg11).perm (.swap _ _ _)
      go_upto_region 11 with fail
      rw [← hg11, ← hW6]
      clear hg11 hW6
      have kg8 : Blk W6 g8 26 #[.int .i64 (n : Int), .int .i64 (sz : Int), .int .i64 re, .int .i64 wk, .int .i64 ke, .int .i64 va, .int .i64 po] := H6b.out.get (.tail _ (.tail _ (.head _)))
      have q1 : W6.cell? ⟨g8, 0, none⟩ = some (.int .i64 (n : Int)) := kg8.cell 0
      clear kg8
      have CR := Lib.hid (lt_raw H6b.out (n + k) 64 ((n : Int) + kk) (by have := HKK.out; omega) HCK.out.1 (encOf (stB n sz re wk ke va ((j : Int) + 2) p)) HT1.out.1 HT1.out.2)
      go_wp2_with fail
      refine CR.out.mono ?_
      rintro e w7 ⟨Aw7, cw7, rfl, hs⟩
      have H7 : Hid (Sep w.heap.size w w7 (devOb v L X :: rowOb 5 1 (.slice Aw7 64 cw7) 64 (u8s (encOf (stB n sz re wk ke va ((j : Int) + 2) p))) :: [blkOb g11 33 #[.int .i64 ((j : Int) + 2), .int .i64 (n : Int), .int .i64 (sz : Int), .int .i64 re, .int .i64 wk, .int .i64 ke, .int .i64 va, .int .i64 p], blkOb g8 26 #[.int .i64 (n : Int), .int .i64 (sz : Int), .int .i64 re, .int .i64 wk, .int .i64 ke, .int .i64 va, .int .i64 po], blkOb b3 22 #[.int .u8 (n8 (b 0)), .int .u8 (n8 (b 1)), .int .u8 (n8 (b 2)), .int .u8 (n8 (b 3)), .int .u8 (n8 (b 4)), .int .u8 (n8 (b 5)), .int .u8 (n8 (b 6))]])) := hs.perm (.swap _ _ _)
      clear hs CR
      clear q1
      go_wp2_with fail
      refine (lt_ops_k H7.out op HOP.out.1).mono ?_
      rintro e w8 ⟨rfl, hs⟩
      have H8 := Lib.hid hs
      clear hs
      go_wp2_with fail
      refine (HP.out _).mono ?_
      rintro e w0 ⟨rfl, rfl⟩
      go_wp2_with fail
      refine (lt_adv H8.out (AllCells.cons (cellOb_row _ _ _ _ _) (AllCells.cons (cellOb_blk _ _ _) (AllCells.cons (cellOb_blk _ _ _) (AllCells.cons (cellOb_blk _ _ _) AllCells.nil)))) HO1.out q 0 ((j : Int) + 3) (n : Int) (sz : Int) re wk ke va q HAV.out).mono ?_
      rintro e w9 ⟨rfl, L9, hs⟩
      have H9 := Lib.hid hs
      clear hs
      obtain ⟨g16, hg16⟩ : ∃ g16, g16 = w9.heap.size := ⟨_, rfl⟩
      obtain ⟨W9, hW9⟩ : ∃ W9 : World, W9 = w9.alloc (.cells #[.int .i64 ((j : Int) + 3), .int .i64 (n : Int), .int .i64 (sz : Int), .int .i64 re, .int .i64 wk, .int .i64 ke, .int .i64 va, .int .i64 q] 33) := ⟨_, rfl⟩
      have H9b : Hid (Sep w.heap.size w W9 (devOb v L9 X2 :: [blkOb g16 33 #[.int .i64 ((j : Int) + 3), .int .i64 (n : Int), .int .i64 (sz : Int), .int .i64 re, .int .i64 wk, .int .i64 ke, .int .i64 va, .int .i64 q], rowOb 5 1 (.slice Aw7 64 cw7) 64 (u8s (encOf (stB n sz re wk ke va ((j : Int) + 2) p))), blkOb g11 33 #[.int .i64 ((j : Int) + 2), .int .i64 (n : Int), .int .i64 (sz : Int), .int .i64 re, .int .i64 wk, .int .i64 ke, .int .i64 va, .int .i64 p], blkOb g8 26 #[.int .i64 (n : Int), .int .i64 (sz : Int), .int .i64 re, .int .i64 wk, .int .i64 ke, .int .i64 va, .int .i64 po], blkOb b3 22 #[.int .u8 (n8 (b 0)), .int .u8 (n8 (b 1)), .int .u8 (n8 (b 2)), .int .u8 (n8 (b 3)), .int .u8 (n8 (b 4)), .int .u8 (n8 (b 5)), .int .u8 (n8 (b 6))]])) := by
        show Sep _ _ _ _
        rw [hW9]
        exact (H9.out.newBlk g16 33 #[.int .i64 ((j : Int) + 3), .int .i64 (n : Int), .int .i64 (sz : Int), .int .i64 re, .int .i64 wk, .int .i64 ke, .int .i64 va, .int .i64 q] hg16).perm (.swap _ _ _)
      go_upto_region 18 with fail
      rw [← hg16, ← hW9]
      clear hg16 hW9
      have kg8 : Blk W9 g8 26 #[.int .i64 (n : Int), .int .i64 (sz : Int), .int .i64 re, .int .i64 wk, .int .i64 ke, .int .i64 va, .int .i64 po] := H9b.out.get (.tail _ (.tail _ (.tail _ (.tail _ (.head _)))))
      have q2 : W9.cell? ⟨g8, 0, none⟩ = some (.int .i64 (n : Int)) := kg8.cell 0
      clear kg8
      have CR := Lib.hid (lt_raw H9b.out (n + k) 64 ((n : Int) + kk) (by have := HKK.out; omega) HCK.out.2.1 (encOf (stB n sz re wk ke va ((j : Int) + 2) p)) HT2.out.1 HT2.out.2)
      go_wp2_with fail
      refine CR.out.mono ?_
      rintro e w10 ⟨Aw10, cw10, rfl, hs⟩
      have H10 : Hid (Sep w.heap.size w w10 (devOb v L9 X2 :: rowOb 5 1 (.slice Aw10 64 cw10) 64 (u8s (encOf (stB n sz re wk ke va ((j : Int) + 2) p))) :: [blkOb g16 33 #[.int .i64 ((j : Int) + 3), .int .i64 (n : Int), .int .i64 (sz : Int), .int .i64 re, .int .i64 wk, .int .i64 ke, .int .i64 va, .int .i64 q], rowOb 5 1 (.slice Aw7 64 cw7) 64 (u8s (encOf (stB n sz re wk ke va ((j : Int) + 2) p))), blkOb g11 33 #[.int .i64 ((j : Int) + 2), .int .i64 (n : Int), .int .i64 (sz : Int), .int .i64 re, .int .i64 wk, .int .i64 ke, .int .i64 va, .int .i64 p], blkOb g8 26 #[.int .i64 (n : Int), .int .i64 (sz : Int), .int .i64 re, .int .i64 wk, .int .i64 ke, .int .i64 va, .int .i64 po], blkOb b3 22 #[.int .u8 (n8 (b 0)), .int .u8 (n8 (b 1)), .int .u8 (n8 (b 2)), .int .u8 (n8 (b 3)), .int .u8 (n8 (b 4)), .int .u8 (n8 (b 5)), .int .u8 (n8 (b 6))]])) := hs.perm (.swap _ _ _)
      clear hs CR
      clear q2
      go_wp2_with fail
      refine (lt_read H10.out 0 (1 - kk) ((j : Int) + 3) (n : Int) (sz : Int) re wk ke va q HRB.out).mono ?_
      rintro e w11 ⟨rfl, hs⟩
      have H11 := Lib.hid hs
      clear hs
      obtain ⟨g19, hg19⟩ : ∃ g19, g19 = w11.heap.size := ⟨_, rfl⟩
      obtain ⟨W11, hW11⟩ : ∃ W11 : World, W11 = w11.alloc (.cells #[.int .i64 ((j : Int) + 3), .int .i64 (n : Int), .int .i64 (sz : Int), .int .i64 re, .int .i64 wk, .int .i64 ke, .int .i64 va, .int .i64 q] 33) := ⟨_, rfl⟩
      have H11b : Hid (Sep w.heap.size w W11 (devOb v L9 X2 :: [blkOb g19 33 #[.int .i64 ((j : Int) + 3), .int .i64 (n : Int), .int .i64 (sz : Int), .int .i64 re, .int .i64 wk, .int .i64 ke, .int .i64 va, .int .i64 q], rowOb 5 1 (.slice Aw10 64 cw10) 64 (u8s (encOf (stB n sz re wk ke va ((j : Int) + 2) p))), blkOb g16 33 #[.int .i64 ((j : Int) + 3), .int .i64 (n : Int), .int .i64 (sz : Int), .int .i64 re, .int .i64 wk, .int .i64 ke, .int .i64 va, .int .i64 q], rowOb 5 1 (.slice Aw7 64 cw7) 64 (u8s (encOf (stB n sz re wk ke va ((j : Int) + 2) p))), blkOb g11 33 #[.int .i64 ((j : Int) + 2), .int .i64 (n : Int), .int .i64 (sz : Int), .int .i64 re, .int .i64 wk, .int .i64 ke, .int .i64 va, .int .i64 p], blkOb g8 26 #[.int .i64 (n : Int), .int .i64 (sz : Int), .int .i64 re, .int .i64 wk, .int .i64 ke, .int .i64 va, .int .i64 po], blkOb b3 22 #[.int .u8 (n8 (b 0)), .int .u8 (n8 (b 1)), .int .u8 (n8 (b 2)), .int .u8 (n8 (b 3)), .int .u8 (n8 (b 4)), .int .u8 (n8 (b 5)), .int .u8 (n8 (b 6))]])) := by
        show Sep _ _ _ _
        rw [hW11]
        exact (H11.out.newBlk g19 33 #[.int .i64 ((j : Int) + 3), .int .i64 (n : Int), .int .i64 (sz : Int), .int .i64 re, .int .i64 wk, .int .i64 ke, .int .i64 va, .int .i64 q] hg19).perm (.swap _ _ _)
      go_upto_region 20 with fail
      rw [← hg19, ← hW11]
      clear hg19 hW11
      have kg8 : Blk W11 g8 26 #[.int .i64 (n : Int), .int .i64 (sz : Int), .int .i64 re, .int .i64 wk, .int .i64 ke, .int .i64 va, .int .i64 po] := H11b.out.get (.tail _ (.tail _ (.tail _ (.tail _ (.tail _ (.tail _ (.head _)))))))
      have q3 : W11.cell? ⟨g8, 0, none⟩ = some (.int .i64 (n : Int)) := kg8.cell 0
      clear kg8
      go_wp2_with fail
      refine (lt_uns H11b.out (n + (1 - k)) ((n : Int) + 1 - kk) (by have := HKK.out; omega) HCK.out.2.2.1 HCK.out.2.2.2).mono ?_
      rintro e w12 ⟨rfl, hs⟩
      have H12 := Lib.hid hs
      clear hs
      clear q3
      go_wp2_with fail
      refine (lt_equal H12.out HE1.out.symm (by unfold maxLen; omega) (own_rd (H12.out.get (.tail _ (.tail _ (.tail _ (.tail _ (.head _))))))) (own_rd (H12.out.get (.tail _ (.tail _ (.head _)))))).mono ?_
      rintro e w13 ⟨rfl, hs⟩
      have H13 := Lib.hid hs
      clear hs
      go_wp2_with fail
      refine (lt_ops_k H13.out (op + 3) HOP.out.2).mono ?_
      rintro e w14 ⟨rfl, hs⟩
      have H14 := Lib.hid hs
      clear hs
      have kg16 : Blk w14 g16 33 #[.int .i64 ((j : Int) + 3), .int .i64 (n : Int), .int .i64 (sz : Int), .int .i64 re, .int .i64 wk, .int .i64 ke, .int .i64 va, .int .i64 q] := H14.out.get (.tail _ (.tail _ (.tail _ (.head _))))
      have q4 : w14.cell? ⟨g16, 0, none⟩ = some (.int .i64 ((j : Int) + 3)) := kg16.cell 0
      have q5 : w14.cell? ⟨g16, 1, none⟩ = some (.int .i64 (n : Int)) := kg16.cell 1
      have q6 : w14.cell? ⟨g16, 2, none⟩ = some (.int .i64 (sz : Int)) := kg16.cell 2
      have q7 : w14.cell? ⟨g16, 3, none⟩ = some (.int .i64 re) := kg16.cell 3
      have q8 : w14.cell? ⟨g16, 4, none⟩ = some (.int .i64 wk) := kg16.cell 4
      have q9 : w14.cell? ⟨g16, 5, none⟩ = some (.int .i64 ke) := kg16.cell 5
      have q10 : w14.cell? ⟨g16, 6, none⟩ = some (.int .i64 va) := kg16.cell 6
      have q11 : w14.cell? ⟨g16, 7, none⟩ = some (.int .i64 q) := kg16.cell 7
      clear kg16
      go_wp2_with fail
      refine (lt_enc H14.out ((j : Int) + 3) (n : Int) (sz : Int) re wk ke va q HOK.out.1 HOK.out.2).mono ?_
      rintro e w15 ⟨g24, cs, rfl, htk, hs⟩
      have H15 : Hid (Sep w.heap.size w w15 (devOb v L9 X2 :: blkOb g24 5 cs :: [blkOb g19 33 #[.int .i64 ((j : Int) + 3), .int .i64 (n : Int), .int .i64 (sz : Int), .int .i64 re, .int .i64 wk, .int .i64 ke, .int .i64 va, .int .i64 q], rowOb 5 1 (.slice Aw10 64 cw10) 64 (u8s (encOf (stB n sz re wk ke va ((j : Int) + 2) p))), blkOb g16 33 #[.int .i64 ((j : Int) + 3), .int .i64 (n : Int), .int .i64 (sz : Int), .int .i64 re, .int .i64 wk, .int .i64 ke, .int .i64 va, .int .i64 q], rowOb 5 1 (.slice Aw7 64 cw7) 64 (u8s (encOf (stB n sz re wk ke va ((j : Int) + 2) p))), blkOb g11 33 #[.int .i64 ((j : Int) + 2), .int .i64 (n : Int), .int .i64 (sz : Int), .int .i64 re, .int .i64 wk, .int .i64 ke, .int .i64 va, .int .i64 p], blkOb g8 26 #[.int .i64 (n : Int), .int .i64 (sz : Int), .int .i64 re, .int .i64 wk, .int .i64 ke, .int .i64 va, .int .i64 po], blkOb b3 22 #[.int .u8 (n8 (b 0)), .int .u8 (n8 (b 1)), .int .u8 (n8 (b 2)), .int .u8 (n8 (b 3)), .int .u8 (n8 (b 4)), .int .u8 (n8 (b 5)), .int .u8 (n8 (b 6))]])) := hs.perm (.swap _ _ _)
      have HTK := Lib.hid htk
      clear hs htk
      clear q4 q5 q6 q7 q8 q9 q10 q11
      have kg8 : Blk w15 g8 26 #[.int .i64 (n : Int), .int .i64 (sz : Int), .int .i64 re, .int .i64 wk, .int .i64 ke, .int .i64 va, .int .i64 po] := H15.out.get (.tail _ (.tail _ (.tail _ (.tail _ (.tail _ (.tail _ (.tail _ (.head _))))))))
      have q12 : w15.cell? ⟨g8, 0, none⟩ = some (.int .i64 (n : Int)) := kg8.cell 0
      clear kg8
      have CR := Lib.hid (lt_raw H15.out (n + (1 - k)) 64 ((n : Int) + 1 - kk) (by have := HKK.out; omega) HCK.out.2.2.1 (encOf (stB n sz re wk ke va ((j : Int) + 3) q)) HT3.out.1 HT3.out.2)
      go_wp2_with fail
      refine CR.out.mono ?_
      rintro e w16 ⟨Aw16, cw16, rfl, hs⟩
      have H16 : Hid (Sep w.heap.size w w16 (devOb v L9 X2 :: rowOb 5 1 (.slice Aw16 64 cw16) 64 (u8s (encOf (stB n sz re wk ke va ((j : Int) + 3) q))) :: [blkOb g24 5 cs, blkOb g19 33 #[.int .i64 ((j : Int) + 3), .int .i64 (n : Int), .int .i64 (sz : Int), .int .i64 re, .int .i64 wk, .int .i64 ke, .int .i64 va, .int .i64 q], rowOb 5 1 (.slice Aw10 64 cw10) 64 (u8s (encOf (stB n sz re wk ke va ((j : Int) + 2) p))), blkOb g16 33 #[.int .i64 ((j : Int) + 3), .int .i64 (n : Int), .int .i64 (sz : Int), .int .i64 re, .int .i64 wk, .int .i64 ke, .int .i64 va, .int .i64 q], rowOb 5 1 (.slice Aw7 64 cw7) 64 (u8s (encOf (stB n sz re wk ke va ((j : Int) + 2) p))), blkOb g11 33 #[.int .i64 ((j : Int) + 2), .int .i64 (n : Int), .int .i64 (sz : Int), .int .i64 re, .int .i64 wk, .int .i64 ke, .int .i64 va, .int .i64 p], blkOb g8 26 #[.int .i64 (n : Int), .int .i64 (sz : Int), .int .i64 re, .int .i64 wk, .int .i64 ke, .int .i64 va, .int .i64 po], blkOb b3 22 #[.int .u8 (n8 (b 0)), .int .u8 (n8 (b 1)), .int .u8 (n8 (b 2)), .int .u8 (n8 (b 3)), .int .u8 (n8 (b 4)), .int .u8 (n8 (b 5)), .int .u8 (n8 (b 6))]])) := hs.perm (.swap _ _ _)
      clear hs CR
      clear q12
      go_wp2_with fail
      refine (lt_equal H16.out HE2.out.symm (by unfold maxLen; omega) (blk_rd (H16.out.get (.tail _ (.tail _ (.head _)))) HE2.out HTK.out) (own_rd (H16.out.get (.tail _ (.head _))))).mono ?_
      rintro e w17 ⟨rfl, hs⟩
      have H17 := Lib.hid hs
      clear hs
      go_wp2_with fail
      go_roundg (gk - 1)
      case measure => have := HJ.out; omega
      case rel =>
        refine ⟨j + 1, L9, X2, q, by have := HJ.out; omega, by go_num, ?_, H17.out.sub (.cons_cons _ (.cons _ (.cons _ (.cons _ (.cons _ (.cons _ (.cons _ (.cons _ (List.Sublist.refl _)))))))))⟩
        have e33 : ((j + 1 : Nat) : Int) + 2 = (j : Int) + 3 := by omega
        rw [e33]
        exact HI2.out
    · obtain rfl : j = m := by omega
      have HD0 : Hid ((X.D 0).bytes.take mm = dt ∧ mm ≤ (X.D 0).bytes.length) := by show _ ∧ _; rw [hi.dat]; have := HDL.out; exact ⟨by rw [this, List.take_length], by omega⟩
      have HC0 : Hid (chkE X ((0 : Nat) : Int) = 0) := hi.rd.chk 0 (by omega)
      clear hj hi hs
      have CR := Lib.hid (lt_raw H5.out 0 mm 0 rfl HC0.out dt HD0.out.1 HD0.out.2)
      go_wp2_with fail
      refine CR.out.mono ?_
      rintro e w18 ⟨A18, c18, rfl, hs⟩
      have H18 := Lib.hid hs
      clear hs CR
      go_wp2_with fail
      refine (lt_equal H18.out HDL.out (by unfold maxLen; omega) (own_rd (H18.out.get (.head _))) ((HR2.out.below H18.out.bel).more H18.out.big)).mono ?_
      rintro e w19 ⟨rfl, hs⟩
      have H19 := Lib.hid hs
      clear hs
      go_wp2_with fail
      refine (works_any _).mono ?_
      rintro e w37 ⟨rfl, hb⟩
      have H37 := Lib.hid (H19.out.below hb)
      clear hb
      go_wp2_with fail
      go_ret
      exact ⟨rfl, H37.out.bel⟩
theorem bytes_in {w : World} {v : Value} (h : ArgIn Tryz.prog w 23 v) : ∃ (A : Option Addr) (n c : Nat) (l : List (BitVec 8)), v = .slice A n c ∧ n = l.length ∧ n ≤ maxLen ∧ n ≤ c ∧ c ≤ maxLen ∧ Reads w w.heap.size 1 A n (u8s l) := by
  obtain ⟨A, n, c, zs, rfl, hr⟩ := h.row Tryz.underlying23 Tryz.underlying5 (by kernel_rfl)
  obtain ⟨l, h1, h2, h3, h4, h5⟩ := IsRow.bytes hr
  exact ⟨A, n, c, l, rfl, h1, h2, h3, h4, h5⟩
theorem DualcopyTurns_walk (v0 v1 v2 : Value) (w : World) (h0 : ArgIn Tryz.prog w 22 v0) (h1 : ArgIn Tryz.prog w 23 v1) (h2 : ArgIn Tryz.prog w 23 v2) :
    Calls Tryz.prog 3 #[v0, v1, v2] w fun e w' => e = .returned (.bool true) ∧ Below w.heap.size w w' := by
  obtain ⟨b, rfl⟩ := seven_arg h0
  obtain ⟨A1, m1, c1, l1, rfl, a1, _, a3, a4, a5⟩ := bytes_in h1
  obtain ⟨A2, m2, c2, l2, rfl, b1, _, b3, b4, b5⟩ := bytes_in h2
  obtain ⟨n, hn, hn4, hn9⟩ := smallC_slots b
  obtain ⟨sz, hz, hs1, hs2⟩ := smallC_size b
  obtain ⟨c, hc⟩ : ∃ c, smallC b = c := ⟨_, rfl⟩
  rw [hc] at hn hz
  obtain ⟨e0, e1, re, wk, ke, va, po⟩ := c
  dsimp only at hn hz
  subst hn hz
  exact DualcopyTurns_k b n sz re wk ke va po hc hn4 hn9 hs1 hs2 w A1 m1 c1 l1 a5 a1 a3 a4 A2 m2 c2 l2 b5 b1 b3 b4
end Go.Proofs.YtnopljanpjmbgaaGreat
