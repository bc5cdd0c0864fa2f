/-
  The walk of the law DualcopyAtomic. No condition.
-/
import Derived.Test.YtnopljanpjmbgaaMS
import Derived.Test.YtnopljanpjmbgaaMU
import Derived.Test.YtnopljanpjmbgaaMQ
import Derived.Deep.DeepCutAuto
import Derived.Deep.CutBlock
import Derived.Deep.QuietTactic
import Derived.BigQuiet
namespace Go.Proofs.Ytnopljanpjmbgaa
open Go.RowKit Go.Shelf Drum
set_option linter.unusedVariables false
set_option maxRecDepth 100000 in
set_option maxHeartbeats 32000000 in
theorem DualcopyAtomic_k (b : Fin 7 → BitVec 8) (n sz : Nat) (re wk ke va po : Int) (hc : smallC b = ⟨(n : Int), (sz : Int), re, wk, ke, va, po⟩) (hn4 : 4 ≤ n) (hn9 : n ≤ 9) (hs1 : 34 ≤ sz) (hs2 : sz ≤ 400) (w : World)
    (A1 : Option Addr) (m1 c1 : Nat) (l1 : List (BitVec 8)) (hr1 : Reads w w.heap.size 1 A1 m1 (u8s l1)) (hl1 : m1 = l1.length) (hm1 : m1 ≤ c1) (hx1 : c1 ≤ maxLen)
    (A2 : Option Addr) (m2 c2 : Nat) (l2 : List (BitVec 8)) (hr2 : Reads w w.heap.size 1 A2 m2 (u8s l2)) (hl2 : m2 = l2.length) (hm2 : m2 ≤ c2) (hx2 : c2 ≤ maxLen)
    (A3 : Option Addr) (m3 c3 : Nat) (l3 : List (BitVec 8)) (hr3 : Reads w w.heap.size 1 A3 m3 (u8s l3)) (hl3 : m3 = l3.length) (hm3 : m3 ≤ c3) (hx3 : c3 ≤ maxLen) :
    Calls Try.prog 5 #[.agg #[.int .u8 (n8 (b 0)), .int .u8 (n8 (b 1)), .int .u8 (n8 (b 2)), .int .u8 (n8 (b 3)), .int .u8 (n8 (b 4)), .int .u8 (n8 (b 5)), .int .u8 (n8 (b 6))], .slice A1 m1 c1, .slice A2 m2 c2, .slice A3 m3 c3] w fun e w' => e = .returned (.bool true) ∧ Below w.heap.size w w' := by
  obtain ⟨b3, hb3⟩ : ∃ b3, b3 = w.heap.size := ⟨_, rfl⟩
  obtain ⟨W1, hW1⟩ : ∃ W1 : World, W1 = w.alloc (.cells #[.int .u8 (n8 (b 0)), .int .u8 (n8 (b 1)), .int .u8 (n8 (b 2)), .int .u8 (n8 (b 3)), .int .u8 (n8 (b 4)), .int .u8 (n8 (b 5)), .int .u8 (n8 (b 6))] 22) := ⟨_, rfl⟩
  have H1 : Hid (Sep w.heap.size w W1 [blkOb b3 22 #[.int .u8 (n8 (b 0)), .int .u8 (n8 (b 1)), .int .u8 (n8 (b 2)), .int .u8 (n8 (b 3)), .int .u8 (n8 (b 4)), .int .u8 (n8 (b 5)), .int .u8 (n8 (b 6))]]) := by
    show Sep _ _ _ _
    rw [hW1]
    exact (Sep.start w).newBlk b3 _ _ hb3
  have HBG := Lib.hid (begun_k H1.out (AllCells.cons (cellOb_blk _ _ _) AllCells.nil) b n sz re wk ke va po hc hn4 hn9 hs1 hs2)
  have HR1 := Lib.hid hr1
  have HR2 := Lib.hid hr2
  have HR3 := Lib.hid hr3
  have HL1 := Lib.hid hl1
  have HL2 := Lib.hid hl2
  have HL3 := Lib.hid hl3
  have HK := Lib.hid (And.intro hn4 (And.intro hn9 (And.intro hs1 hs2)))
  obtain ⟨m, hm⟩ : ∃ m : Nat, m = min m1 20 := ⟨_, rfl⟩
  have hmin : Hid ((if (20 : Int) < (m1 : Int) then (20 : Int) else (m1 : Int)) = (m : Int)) := by
    show _ = _
    split <;> omega
  have hm20 : m ≤ 20 := by omega
  have hmm1 : m ≤ m1 := by omega
  unfold maxLen at hx1 hx2 hx3
  clear hc hn4 hn9 hs1 hs2 hm hr1 hr2 hr3 hl1 hl2 hl3
  go_enter Try.func5, Try.ntmps5
  go_wp2_with fail
  rw [← hb3, ← hW1]
  clear hW1 hb3
  refine HBG.out.mono ?_
  rintro e w2 ⟨v, L, X, rfl, hbg, hsp⟩
  have HB := Lib.hid hbg
  have H2 := Lib.hid hsp
  clear hbg hsp HBG H1
  obtain ⟨g10, hg10⟩ : ∃ g10, g10 = w2.heap.size := ⟨_, rfl⟩
  obtain ⟨W3, hW3⟩ : ∃ W3 : World, W3 = w2.alloc (.cells #[.int .i64 (n : Int), .int .i64 (sz : Int), .int .i64 re, .int .i64 wk, .int .i64 ke, .int .i64 va, .int .i64 po] 26) := ⟨_, rfl⟩
  have H3 : Hid (Sep w.heap.size w W3 (devOb v L X :: [blkOb g10 26 #[.int .i64 (n : Int), .int .i64 (sz : Int), .int .i64 re, .int .i64 wk, .int .i64 ke, .int .i64 va, .int .i64 po], blkOb b3 22 #[.int .u8 (n8 (b 0)), .int .u8 (n8 (b 1)), .int .u8 (n8 (b 2)), .int .u8 (n8 (b 3)), .int .u8 (n8 (b 4)), .int .u8 (n8 (b 5)), .int .u8 (n8 (b 6))]])) := by
    show Sep _ _ _ _
    rw [hW3]
    exact (H2.out.newBlk g10 26 #[.int .i64 (n : Int), .int .i64 (sz : Int), .int .i64 re, .int .i64 wk, .int .i64 ke, .int .i64 va, .int .i64 po] hg10).perm (.swap _ _ _)
  go_upto_region 4 with fail
  rw [← hg10, ← hW3]
  clear hg10 hW3
  have kg10 : Blk W3 g10 26 #[.int .i64 (n : Int), .int .i64 (sz : Int), .int .i64 re, .int .i64 wk, .int .i64 ke, .int .i64 va, .int .i64 po] := H3.out.get (.tail _ (.head _))
  have q1 : W3.cell? ⟨g10, 0, none⟩ = some (.int .i64 (n : Int)) := kg10.cell 0
  have q2 : W3.cell? ⟨g10, 1, none⟩ = some (.int .i64 (sz : Int)) := kg10.cell 1
  have q3 : W3.cell? ⟨g10, 2, none⟩ = some (.int .i64 re) := kg10.cell 2
  have q4 : W3.cell? ⟨g10, 3, none⟩ = some (.int .i64 wk) := kg10.cell 3
  have q5 : W3.cell? ⟨g10, 4, none⟩ = some (.int .i64 ke) := kg10.cell 4
  have q6 : W3.cell? ⟨g10, 5, none⟩ = some (.int .i64 va) := kg10.cell 5
  have q7 : W3.cell? ⟨g10, 6, none⟩ = some (.int .i64 po) := kg10.cell 6
  clear kg10
  obtain ⟨g11, hg11⟩ : ∃ g11, g11 = W3.heap.size := ⟨_, rfl⟩
  obtain ⟨W4, hW4⟩ : ∃ W4 : World, W4 = W3.alloc (.cells #[.int .i64 2, .int .i64 (n : Int), .int .i64 (sz : Int), .int .i64 re, .int .i64 wk, .int .i64 ke, .int .i64 va, .int .i64 po] 30) := ⟨_, rfl⟩
  have H4 : Hid (Sep w.heap.size w W4 (devOb v L X :: [blkOb g11 30 #[.int .i64 2, .int .i64 (n : Int), .int .i64 (sz : Int), .int .i64 re, .int .i64 wk, .int .i64 ke, .int .i64 va, .int .i64 po], blkOb g10 26 #[.int .i64 (n : Int), .int .i64 (sz : Int), .int .i64 re, .int .i64 wk, .int .i64 ke, .int .i64 va, .int .i64 po], blkOb b3 22 #[.int .u8 (n8 (b 0)), .int .u8 (n8 (b 1)), .int .u8 (n8 (b 2)), .int .u8 (n8 (b 3)), .int .u8 (n8 (b 4)), .int .u8 (n8 (b 5)), .int .u8 (n8 (b 6))]])) := by
    show Sep _ _ _ _
    rw [hW4]
    exact (H3.out.newBlk g11 30 #[.int .i64 2, .int .i64 (n : Int), .int .i64 (sz : Int), .int .i64 re, .int .i64 wk, .int .i64 ke, .int .i64 va, .int .i64 po] hg11).perm (.swap _ _ _)
  go_upto_region 5 with fail
  rw [← hg11, ← hW4]
  clear hg11 hW4
  clear q1 q2 q3 q4 q5 q6 q7
  have hneg1 : (20 : Int) < (m1 : Int) ∨ ¬ (20 : Int) < (m1 : Int) := by omega
  clear hneg1
  have HI0 : Hid (AtI n sz re wk ke va 0 X 2 po) := ⟨HB.out.rd, HB.out.dur, HB.out.cur, by omega, .inl HB.out.tm, by have := HB.out.ops; omega⟩
  clear HB
  go_wp2_with (with_reducible refine wpList_min rfl _ _ _ _ _ _ _ rfl rfl rfl hmin.out ?_)
  go_loopg [40] m (fun qq v40 wr => ∃ (j : Nat) (L : DLay) (X : DevD) (e p : Int), j + qq = m ∧ v40 = .int .i64 j ∧ AtI n sz re wk ke va j X e p ∧ Sep w.heap.size w wr (devOb v L X :: [blkOb g11 30 #[.int .i64 e, .int .i64 (n : Int), .int .i64 (sz : Int), .int .i64 re, .int .i64 wk, .int .i64 ke, .int .i64 va, .int .i64 p], blkOb g10 26 #[.int .i64 (n : Int), .int .i64 (sz : Int), .int .i64 re, .int .i64 wk, .int .i64 ke, .int .i64 va, .int .i64 po], blkOb b3 22 #[.int .u8 (n8 (b 0)), .int .u8 (n8 (b 1)), .int .u8 (n8 (b 2)), .int .u8 (n8 (b 3)), .int .u8 (n8 (b 4)), .int .u8 (n8 (b 5)), .int .u8 (n8 (b 6))]]))
  case atStart => exact ⟨0, L, X, 2, po, by omega, rfl, HI0.out, H4.out⟩
  case round =>
    clear HI0 H4
    obtain ⟨j, L, X, e, p, hj, rfl, hi, hs⟩ := hrel
    have HJ := Lib.hid hj
    have HI := Lib.hid hi
    have H5 := Lib.hid hs
    have hjm : j ≤ m := by omega
    by_cases hlt : j < m
    · obtain ⟨ad, u, rfl, hab, hu, hcl⟩ := HR1.out.at_ (show j < m1 by omega)
      obtain ⟨hjk, rfl⟩ := u8s_at hu
      obtain ⟨pb, hpb⟩ : ∃ pb, l1[j] = pb := ⟨_, rfl⟩
      rw [hpb] at hcl
      have HC1 : Hid (∀ W, Below w.heap.size w W → W.cell? (ad.add j) = some (.int .u8 (n8 pb))) := fun W hW => by
        obtain ⟨ad', u', e', _, hu', hcl'⟩ := (HR1.out.below hW).at_ (show j < m1 by omega)
        injection e' with e'
        subst e'
        obtain ⟨_, rfl⟩ := u8s_at hu'
        rw [hcl', hpb]
      have hj20 : j < 20 := by omega
      have hep := HI.out.ep
      obtain ⟨he1, he2⟩ := hep
      have he3 : e ≤ 22 := by omega
      obtain ⟨q, hq⟩ : ∃ q : Int, (((1 + pb.toNat % 2 : Nat)) : Int) = q := ⟨_, rfl⟩
      have HP : Hid (∀ W, Calls Try.prog 17 #[.int .u8 (n8 pb)] W fun e w' => e = .returned (.int .i64 q) ∧ W = w') := fun W => by
        rw [← hq]
        exact policy_any pb W
      have HQ : Hid (q = 1 ∨ q = 2) := by show _ ∨ _; omega
      obtain ⟨hp1, hp2⟩ := n8_bd pb
      obtain ⟨bb, hbb⟩ : ∃ bb : Bool, bb = decide (j < m2 ∧ j < m3) := ⟨_, rfl⟩
      have HBB := Lib.hid hbb
      have q0 := HC1.out wr hs.bel
      have HOPS : Hid (X.ops ≤ 66) := by have := hi.ops; show _ ≤ _; omega
      clear hj hi hs hu hcl hjk hpb hq hbb he2
      go_upto_region 9 with fail
      go_cut [54] (fun s54 wx => s54 = .bool bb ∧ Sep w.heap.size w wx (devOb v L X :: [blkOb g11 30 #[.int .i64 e, .int .i64 (n : Int), .int .i64 (sz : Int), .int .i64 re, .int .i64 wk, .int .i64 ke, .int .i64 va, .int .i64 p], blkOb g10 26 #[.int .i64 (n : Int), .int .i64 (sz : Int), .int .i64 re, .int .i64 wk, .int .i64 ke, .int .i64 va, .int .i64 po], blkOb b3 22 #[.int .u8 (n8 (b 0)), .int .u8 (n8 (b 1)), .int .u8 (n8 (b 2)), .int .u8 (n8 (b 3)), .int .u8 (n8 (b 4)), .int .u8 (n8 (b 5)), .int .u8 (n8 (b 6))]]))
      case first =>
        by_cases a1 : j < m2
        · by_cases a2 : j < m3
          · go_wp2_with fail
            go_meet
            exact ⟨by rw [HBB.out]; simp [a1, a2], H5.out⟩
          · go_wp2_with fail
            go_meet
            exact ⟨by rw [HBB.out]; simp [a1, a2], H5.out⟩
        · go_wp2_with fail
          go_meet
          exact ⟨by rw [HBB.out]; simp [a1], H5.out⟩
      case rest =>
        obtain ⟨rfl, hs⟩ := hcut
        have H6 := Lib.hid hs
        clear hs H5 q0
        go_upto_if 54 with fail
        go_cut [14, 15] (fun s14 s15 wx => ∃ cr kp : Int, s14 = .int .i64 cr ∧ s15 = .int .i64 kp ∧ (0 ≤ cr ∧ cr ≤ 4 ∧ 0 ≤ kp ∧ kp < 256) ∧ Sep w.heap.size w wx (devOb v L X :: [blkOb g11 30 #[.int .i64 e, .int .i64 (n : Int), .int .i64 (sz : Int), .int .i64 re, .int .i64 wk, .int .i64 ke, .int .i64 va, .int .i64 p], blkOb g10 26 #[.int .i64 (n : Int), .int .i64 (sz : Int), .int .i64 re, .int .i64 wk, .int .i64 ke, .int .i64 va, .int .i64 po], blkOb b3 22 #[.int .u8 (n8 (b 0)), .int .u8 (n8 (b 1)), .int .u8 (n8 (b 2)), .int .u8 (n8 (b 3)), .int .u8 (n8 (b 4)), .int .u8 (n8 (b 5)), .int .u8 (n8 (b 6))]]))
        case first =>
          cases bb with
          | true =>
            have hb2 : j < m2 ∧ j < m3 := of_decide_eq_true HBB.out.symm
            obtain ⟨ad2, u2, rfl, _, hu2, hcl2⟩ := (HR2.out.below H6.out.bel).at_ hb2.1
            obtain ⟨hjk2, rfl⟩ := u8s_at hu2
            obtain ⟨x2, hx2⟩ : ∃ x2, l2[j] = x2 := ⟨_, rfl⟩
            rw [hx2] at hcl2
            obtain ⟨ad3, u3, rfl, _, hu3, hcl3⟩ := (HR3.out.below H6.out.bel).at_ hb2.2
            obtain ⟨hjk3, rfl⟩ := u8s_at hu3
            obtain ⟨x3, hx3'⟩ : ∃ x3, l3[j] = x3 := ⟨_, rfl⟩
            rw [hx3'] at hcl3
            obtain ⟨i2, j2⟩ := n8_bd x2
            obtain ⟨i3, j3⟩ := n8_bd x3
            obtain ⟨cr, hcr⟩ : ∃ cr : Int, n8 x2 % 5 = cr := ⟨_, rfl⟩
            have HCR : Hid (0 ≤ cr ∧ cr ≤ 4 ∧ 0 ≤ n8 x3 ∧ n8 x3 < 256) := by show _ ∧ _; omega
            obtain ⟨hb21, hb22⟩ := hb2
            clear hu2 hu3 hjk2 hjk3 hx2 hx3'
            go_wp2_with fail
            go_quiet (fail)
            have H7 := Lib.hid (H6.out.drewN nq)
            generalize wc.drewN nq = wz at H7 ⊢
            clear hcl2 hcl3
            go_wp2_with fail
            go_meet
            exact ⟨cr, n8 x3, rfl, rfl, HCR.out, H7.out⟩
          | false =>
            go_wp2_with fail
            go_meet
            exact ⟨0, 0, rfl, rfl, by omega, H6.out⟩
        case rest =>
          obtain ⟨cr, kp, rfl, rfl, ⟨hc0, hc4, hk0, hk255⟩, hs⟩ := hcut
          have H7 := Lib.hid hs
          clear hs H6 HBB
          obtain ⟨kk, hkk, hkk0, hkk1⟩ : ∃ kk : Int, kp % 70 = kk ∧ 0 ≤ kk ∧ kk < 70 := ⟨kp % 70, rfl, by omega, by omega⟩
          obtain ⟨dn, hdn⟩ : ∃ dn : Bool, (kp % 2 == 0) = dn := ⟨_, rfl⟩
          by_cases hz : cr = 0
          · subst hz
            obtain ⟨X2, av, rv, hi2⟩ := at_free HI.out hj20 HQ.out
            have hops1 : Hid (X.ops ≤ 100000) := by have := HOPS.out; show _ ≤ _; omega
            have HAV := Lib.hid av
            have HI2 := Lib.hid hi2
            have HRV : Hid (((readX X2).1 = 0 ∧ ((readX X2).2.1 : Int) = (par (stB n sz re wk ke va (e + 1) q) : Int)) ∧ (readX X2).2.2 = ⟨e + 1, ⟨(n : Int), (sz : Int), re, wk, ke, va, q⟩⟩) := by show _ ∧ _; rw [rv]; exact ⟨⟨rfl, rfl⟩, rfl⟩
            obtain ⟨kx, hkx⟩ : ∃ kx : Int, kx = (par (stB n sz re wk ke va (e + 1) q) : Int) := ⟨_, rfl⟩
            rw [← hkx] at HRV
            clear av rv hi2 hkx HI
            have kg11 : Blk wc g11 30 #[.int .i64 e, .int .i64 (n : Int), .int .i64 (sz : Int), .int .i64 re, .int .i64 wk, .int .i64 ke, .int .i64 va, .int .i64 p] := H7.out.get (.tail _ (.head _))
            have q1 : wc.cell? ⟨g11, 0, none⟩ = some (.int .i64 e) := kg11.cell 0
            have q2 : wc.cell? ⟨g11, 1, none⟩ = some (.int .i64 (n : Int)) := kg11.cell 1
            have q3 : wc.cell? ⟨g11, 2, none⟩ = some (.int .i64 (sz : Int)) := kg11.cell 2
            have q4 : wc.cell? ⟨g11, 3, none⟩ = some (.int .i64 re) := kg11.cell 3
            have q5 : wc.cell? ⟨g11, 4, none⟩ = some (.int .i64 wk) := kg11.cell 4
            have q6 : wc.cell? ⟨g11, 5, none⟩ = some (.int .i64 ke) := kg11.cell 5
            have q7 : wc.cell? ⟨g11, 6, none⟩ = some (.int .i64 va) := kg11.cell 6
            have q8 : wc.cell? ⟨g11, 7, none⟩ = some (.int .i64 p) := kg11.cell 7
            clear kg11
            go_wp2_with fail
            refine (HP.out _).mono ?_
            rintro e w0 ⟨rfl, rfl⟩
            go_wp2_with fail
            refine (HP.out _).mono ?_
            rintro e w0 ⟨rfl, rfl⟩
            go_wp2_with fail
            obtain ⟨g16, hg16⟩ : ∃ g16, g16 = wc.heap.size := ⟨_, rfl⟩
            obtain ⟨W16, hW16⟩ : ∃ W16 : World, W16 = wc.alloc (.cells #[.int .i64 (e + 1), .int .i64 (n : Int), .int .i64 (sz : Int), .int .i64 re, .int .i64 wk, .int .i64 ke, .int .i64 va, .int .i64 q] 30) := ⟨_, rfl⟩
            have H16 : Hid (Sep w.heap.size w W16 (devOb v L X :: [blkOb g16 30 #[.int .i64 (e + 1), .int .i64 (n : Int), .int .i64 (sz : Int), .int .i64 re, .int .i64 wk, .int .i64 ke, .int .i64 va, .int .i64 q], blkOb g11 30 #[.int .i64 e, .int .i64 (n : Int), .int .i64 (sz : Int), .int .i64 re, .int .i64 wk, .int .i64 ke, .int .i64 va, .int .i64 p], blkOb g10 26 #[.int .i64 (n : Int), .int .i64 (sz : Int), .int .i64 re, .int .i64 wk, .int .i64 ke, .int .i64 va, .int .i64 po], blkOb b3 22 #[.int .u8 (n8 (b 0)), .int .u8 (n8 (b 1)), .int .u8 (n8 (b 2)), .int .u8 (n8 (b 3)), .int .u8 (n8 (b 4)), .int .u8 (n8 (b 5)), .int .u8 (n8 (b 6))]])) := by
              show Sep _ _ _ _
              rw [hW16]
              exact (H7.out.newBlk g16 30 #[.int .i64 (e + 1), .int .i64 (n : Int), .int .i64 (sz : Int), .int .i64 re, .int .i64 wk, .int .i64 ke, .int .i64 va, .int .i64 q] hg16).perm (.swap _ _ _)
            rw [← hg16, ← hW16]
            clear hg16 hW16
            clear q1 q2 q3 q4 q5 q6 q7 q8
            refine (lt_adv H16.out (AllCells.cons (cellOb_blk _ _ _) (AllCells.cons (cellOb_blk _ _ _) (AllCells.cons (cellOb_blk _ _ _) (AllCells.cons (cellOb_blk _ _ _) AllCells.nil)))) hops1.out q 0 (e + 1) (n : Int) (sz : Int) re wk ke va q HAV.out).mono ?_
            rintro e w17 ⟨rfl, L17, hs⟩
            have H17 := Lib.hid hs
            clear hs
            obtain ⟨g17, hg17⟩ : ∃ g17, g17 = w17.heap.size := ⟨_, rfl⟩
            obtain ⟨W17, hW17⟩ : ∃ W17 : World, W17 = w17.alloc (.cells #[.int .i64 (e + 1), .int .i64 (n : Int), .int .i64 (sz : Int), .int .i64 re, .int .i64 wk, .int .i64 ke, .int .i64 va, .int .i64 q] 30) := ⟨_, rfl⟩
            have H17b : Hid (Sep w.heap.size w W17 (devOb v L17 X2 :: [blkOb g17 30 #[.int .i64 (e + 1), .int .i64 (n : Int), .int .i64 (sz : Int), .int .i64 re, .int .i64 wk, .int .i64 ke, .int .i64 va, .int .i64 q], blkOb g16 30 #[.int .i64 (e + 1), .int .i64 (n : Int), .int .i64 (sz : Int), .int .i64 re, .int .i64 wk, .int .i64 ke, .int .i64 va, .int .i64 q], blkOb g11 30 #[.int .i64 e, .int .i64 (n : Int), .int .i64 (sz : Int), .int .i64 re, .int .i64 wk, .int .i64 ke, .int .i64 va, .int .i64 p], blkOb g10 26 #[.int .i64 (n : Int), .int .i64 (sz : Int), .int .i64 re, .int .i64 wk, .int .i64 ke, .int .i64 va, .int .i64 po], blkOb b3 22 #[.int .u8 (n8 (b 0)), .int .u8 (n8 (b 1)), .int .u8 (n8 (b 2)), .int .u8 (n8 (b 3)), .int .u8 (n8 (b 4)), .int .u8 (n8 (b 5)), .int .u8 (n8 (b 6))]])) := by
              show Sep _ _ _ _
              rw [hW17]
              exact (H17.out.newBlk g17 30 #[.int .i64 (e + 1), .int .i64 (n : Int), .int .i64 (sz : Int), .int .i64 re, .int .i64 wk, .int .i64 ke, .int .i64 va, .int .i64 q] hg17).perm (.swap _ _ _)
            go_upto_region 17 with fail
            rw [← hg17, ← hW17]
            clear hg17 hW17
            have kg17 : Blk W17 g17 30 #[.int .i64 (e + 1), .int .i64 (n : Int), .int .i64 (sz : Int), .int .i64 re, .int .i64 wk, .int .i64 ke, .int .i64 va, .int .i64 q] := H17b.out.get (.tail _ (.head _))
            clear kg17
            go_wp2_with fail
            refine (lt_read H17b.out 0 kx (e + 1) (n : Int) (sz : Int) re wk ke va q HRV.out).mono ?_
            rintro e w20 ⟨rfl, hs⟩
            have H20 := Lib.hid hs
            clear hs
            obtain ⟨g22, hg22⟩ : ∃ g22, g22 = w20.heap.size := ⟨_, rfl⟩
            obtain ⟨W20, hW20⟩ : ∃ W20 : World, W20 = w20.alloc (.cells #[.int .i64 (e + 1), .int .i64 (n : Int), .int .i64 (sz : Int), .int .i64 re, .int .i64 wk, .int .i64 ke, .int .i64 va, .int .i64 q] 30) := ⟨_, rfl⟩
            have H20b : Hid (Sep w.heap.size w W20 (devOb v L17 X2 :: [blkOb g22 30 #[.int .i64 (e + 1), .int .i64 (n : Int), .int .i64 (sz : Int), .int .i64 re, .int .i64 wk, .int .i64 ke, .int .i64 va, .int .i64 q], blkOb g17 30 #[.int .i64 (e + 1), .int .i64 (n : Int), .int .i64 (sz : Int), .int .i64 re, .int .i64 wk, .int .i64 ke, .int .i64 va, .int .i64 q], blkOb g16 30 #[.int .i64 (e + 1), .int .i64 (n : Int), .int .i64 (sz : Int), .int .i64 re, .int .i64 wk, .int .i64 ke, .int .i64 va, .int .i64 q], blkOb g11 30 #[.int .i64 e, .int .i64 (n : Int), .int .i64 (sz : Int), .int .i64 re, .int .i64 wk, .int .i64 ke, .int .i64 va, .int .i64 p], blkOb g10 26 #[.int .i64 (n : Int), .int .i64 (sz : Int), .int .i64 re, .int .i64 wk, .int .i64 ke, .int .i64 va, .int .i64 po], blkOb b3 22 #[.int .u8 (n8 (b 0)), .int .u8 (n8 (b 1)), .int .u8 (n8 (b 2)), .int .u8 (n8 (b 3)), .int .u8 (n8 (b 4)), .int .u8 (n8 (b 5)), .int .u8 (n8 (b 6))]])) := by
              show Sep _ _ _ _
              rw [hW20]
              exact (H20.out.newBlk g22 30 #[.int .i64 (e + 1), .int .i64 (n : Int), .int .i64 (sz : Int), .int .i64 re, .int .i64 wk, .int .i64 ke, .int .i64 va, .int .i64 q] hg22).perm (.swap _ _ _)
            go_upto_region 25 with fail
            rw [← hg22, ← hW20]
            clear hg22 hW20
            have kg22 : Blk W20 g22 30 #[.int .i64 (e + 1), .int .i64 (n : Int), .int .i64 (sz : Int), .int .i64 re, .int .i64 wk, .int .i64 ke, .int .i64 va, .int .i64 q] := H20b.out.get (.tail _ (.head _))
            have q9 : W20.cell? ⟨g22, 0, none⟩ = some (.int .i64 (e + 1)) := kg22.cell 0
            have q10 : W20.cell? ⟨g22, 1, none⟩ = some (.int .i64 (n : Int)) := kg22.cell 1
            have q11 : W20.cell? ⟨g22, 2, none⟩ = some (.int .i64 (sz : Int)) := kg22.cell 2
            have q12 : W20.cell? ⟨g22, 3, none⟩ = some (.int .i64 re) := kg22.cell 3
            have q13 : W20.cell? ⟨g22, 4, none⟩ = some (.int .i64 wk) := kg22.cell 4
            have q14 : W20.cell? ⟨g22, 5, none⟩ = some (.int .i64 ke) := kg22.cell 5
            have q15 : W20.cell? ⟨g22, 6, none⟩ = some (.int .i64 va) := kg22.cell 6
            have q16 : W20.cell? ⟨g22, 7, none⟩ = some (.int .i64 q) := kg22.cell 7
            clear kg22
            have kg17 : Blk W20 g17 30 #[.int .i64 (e + 1), .int .i64 (n : Int), .int .i64 (sz : Int), .int .i64 re, .int .i64 wk, .int .i64 ke, .int .i64 va, .int .i64 q] := H20b.out.get (.tail _ (.tail _ (.head _)))
            have q17 : W20.cell? ⟨g17, 0, none⟩ = some (.int .i64 (e + 1)) := kg17.cell 0
            have q18 : W20.cell? ⟨g17, 1, none⟩ = some (.int .i64 (n : Int)) := kg17.cell 1
            have q19 : W20.cell? ⟨g17, 2, none⟩ = some (.int .i64 (sz : Int)) := kg17.cell 2
            have q20 : W20.cell? ⟨g17, 3, none⟩ = some (.int .i64 re) := kg17.cell 3
            have q21 : W20.cell? ⟨g17, 4, none⟩ = some (.int .i64 wk) := kg17.cell 4
            have q22 : W20.cell? ⟨g17, 5, none⟩ = some (.int .i64 ke) := kg17.cell 5
            have q23 : W20.cell? ⟨g17, 6, none⟩ = some (.int .i64 va) := kg17.cell 6
            have q24 : W20.cell? ⟨g17, 7, none⟩ = some (.int .i64 q) := kg17.cell 7
            clear kg17
            have kg16 : Blk W20 g16 30 #[.int .i64 (e + 1), .int .i64 (n : Int), .int .i64 (sz : Int), .int .i64 re, .int .i64 wk, .int .i64 ke, .int .i64 va, .int .i64 q] := H20b.out.get (.tail _ (.tail _ (.tail _ (.head _))))
            have q25 : W20.cell? ⟨g16, 0, none⟩ = some (.int .i64 (e + 1)) := kg16.cell 0
            have q26 : W20.cell? ⟨g16, 1, none⟩ = some (.int .i64 (n : Int)) := kg16.cell 1
            have q27 : W20.cell? ⟨g16, 2, none⟩ = some (.int .i64 (sz : Int)) := kg16.cell 2
            have q28 : W20.cell? ⟨g16, 3, none⟩ = some (.int .i64 re) := kg16.cell 3
            have q29 : W20.cell? ⟨g16, 4, none⟩ = some (.int .i64 wk) := kg16.cell 4
            have q30 : W20.cell? ⟨g16, 5, none⟩ = some (.int .i64 ke) := kg16.cell 5
            have q31 : W20.cell? ⟨g16, 6, none⟩ = some (.int .i64 va) := kg16.cell 6
            have q32 : W20.cell? ⟨g16, 7, none⟩ = some (.int .i64 q) := kg16.cell 7
            clear kg16
            go_upto_region 27 with fail
            have hzp : Sep w.heap.size w W20 (blkOb g11 30 #[.int .i64 e, .int .i64 (n : Int), .int .i64 (sz : Int), .int .i64 re, .int .i64 wk, .int .i64 ke, .int .i64 va, .int .i64 p] :: [devOb v L17 X2, blkOb g22 30 #[.int .i64 (e + 1), .int .i64 (n : Int), .int .i64 (sz : Int), .int .i64 re, .int .i64 wk, .int .i64 ke, .int .i64 va, .int .i64 q], blkOb g17 30 #[.int .i64 (e + 1), .int .i64 (n : Int), .int .i64 (sz : Int), .int .i64 re, .int .i64 wk, .int .i64 ke, .int .i64 va, .int .i64 q], blkOb g16 30 #[.int .i64 (e + 1), .int .i64 (n : Int), .int .i64 (sz : Int), .int .i64 re, .int .i64 wk, .int .i64 ke, .int .i64 va, .int .i64 q], blkOb g10 26 #[.int .i64 (n : Int), .int .i64 (sz : Int), .int .i64 re, .int .i64 wk, .int .i64 ke, .int .i64 va, .int .i64 po], blkOb b3 22 #[.int .u8 (n8 (b 0)), .int .u8 (n8 (b 1)), .int .u8 (n8 (b 2)), .int .u8 (n8 (b 3)), .int .u8 (n8 (b 4)), .int .u8 (n8 (b 5)), .int .u8 (n8 (b 6))]]) := H20b.out.perm (List.perm_middle (l₁ := [_, _, _, _]))
            have HZP := Lib.hid hzp
            clear hzp
            go_wp2_with (refine wpList_store_row rfl 30 _ _ rfl g11 (bkv (stB n sz re wk ke va (e + 1) q)) rfl rfl 30 #[.int .i64 e, .int .i64 (n : Int), .int .i64 (sz : Int), .int .i64 re, .int .i64 wk, .int .i64 ke, .int .i64 va, .int .i64 p] (show Blk _ g11 30 #[.int .i64 e, .int .i64 (n : Int), .int .i64 (sz : Int), .int .i64 re, .int .i64 wk, .int .i64 ke, .int .i64 va, .int .i64 p] from HZP.out.get (.head _)) bk_size rfl (bkv_one _) ?_)
            obtain ⟨W23, hW23⟩ : ∃ W23 : World, W23 = W20.setRow g11 (bkv (stB n sz re wk ke va (e + 1) q)) := ⟨_, rfl⟩
            have H23 : Hid (Sep w.heap.size w W23 (devOb v L17 X2 :: [blkOb g11 30 #[.int .i64 (e + 1), .int .i64 (n : Int), .int .i64 (sz : Int), .int .i64 re, .int .i64 wk, .int .i64 ke, .int .i64 va, .int .i64 q], blkOb g22 30 #[.int .i64 (e + 1), .int .i64 (n : Int), .int .i64 (sz : Int), .int .i64 re, .int .i64 wk, .int .i64 ke, .int .i64 va, .int .i64 q], blkOb g17 30 #[.int .i64 (e + 1), .int .i64 (n : Int), .int .i64 (sz : Int), .int .i64 re, .int .i64 wk, .int .i64 ke, .int .i64 va, .int .i64 q], blkOb g16 30 #[.int .i64 (e + 1), .int .i64 (n : Int), .int .i64 (sz : Int), .int .i64 re, .int .i64 wk, .int .i64 ke, .int .i64 va, .int .i64 q], blkOb g10 26 #[.int .i64 (n : Int), .int .i64 (sz : Int), .int .i64 re, .int .i64 wk, .int .i64 ke, .int .i64 va, .int .i64 po], blkOb b3 22 #[.int .u8 (n8 (b 0)), .int .u8 (n8 (b 1)), .int .u8 (n8 (b 2)), .int .u8 (n8 (b 3)), .int .u8 (n8 (b 4)), .int .u8 (n8 (b 5)), .int .u8 (n8 (b 6))]])) := by
              show Sep _ _ _ _
              rw [hW23]
              exact (HZP.out.setRowBlk (bkv (stB n sz re wk ke va (e + 1) q))).perm (.swap _ _ _)
            have hszW23 : Hid (W20.heap.size = W23.heap.size) := by
              show _ = _
              rw [hW23]
              simp
            rw [← hW23]
            clear hW23 HZP
            clear q9 q10 q11 q12 q13 q14 q15 q16 q17 q18 q19 q20 q21 q22 q23 q24 q25 q26 q27 q28 q29 q30 q31 q32
            go_wp2_with fail
            go_roundg (gk - 1)
            case measure => have := HJ.out; omega
            case rel => exact ⟨j + 1, L17, X2, e + 1, q, by have := HJ.out; omega, by go_num, HI2.out, H23.out.sub (.cons_cons _ (.cons_cons _ (.cons _ (.cons _ (.cons _ (List.Sublist.refl _))))))⟩
          · by_cases hz4 : cr = 4
            · subst hz4
              clear hz
              obtain ⟨ha1, ha2, ho1, X2, av, rv, hi2⟩ := at_four HI.out hj20 HQ.out dn kk ⟨hkk0, hkk1⟩
              have HA1 : Hid (armE 4 [kk] = 0) := ha1
              have HA2 : Hid (armE 1000 [0] = 0) := ha2
              have hops1 : Hid ((armX X 4 dn [kk]).ops ≤ 100000) := ho1
              clear ha1 ha2 ho1
              obtain ⟨bg, hbg⟩ : ∃ bg, bg = wc.heap.size := ⟨_, rfl⟩
              obtain ⟨W8, hW8⟩ : ∃ W8 : World, W8 = wc.alloc (.cells #[.int .i64 kk] 3) := ⟨_, rfl⟩
              have H8 : Hid (Sep w.heap.size w W8 (blkOb bg 3 #[.int .i64 kk] :: devOb v L X :: [blkOb g11 30 #[.int .i64 e, .int .i64 (n : Int), .int .i64 (sz : Int), .int .i64 re, .int .i64 wk, .int .i64 ke, .int .i64 va, .int .i64 p], blkOb g10 26 #[.int .i64 (n : Int), .int .i64 (sz : Int), .int .i64 re, .int .i64 wk, .int .i64 ke, .int .i64 va, .int .i64 po], blkOb b3 22 #[.int .u8 (n8 (b 0)), .int .u8 (n8 (b 1)), .int .u8 (n8 (b 2)), .int .u8 (n8 (b 3)), .int .u8 (n8 (b 4)), .int .u8 (n8 (b 5)), .int .u8 (n8 (b 6))]])) := by
                show Sep _ _ _ _
                rw [hW8]
                exact H7.out.newBlk bg _ _ hbg
              have CM := Lib.hid (lt_arm H8.out (AllCells.cons (cellOb_blk _ _ _) (AllCells.cons (cellOb_blk _ _ _) (AllCells.cons (cellOb_blk _ _ _) AllCells.nil))) 4 dn (by omega) HA1.out)
              go_wp2_with fail
              rw [← hbg, ← hW8]
              clear hbg hW8
              refine CM.out.mono ?_
              rintro e w9 ⟨rfl, L9, hs⟩
              have H9 := Lib.hid hs
              clear hs CM H8
              have HAV := Lib.hid av
              have HI2 := Lib.hid hi2
              have HRV : Hid (((readX X2).1 = 0 ∧ ((readX X2).2.1 : Int) = (par (stB n sz re wk ke va (e + 1) q) : Int)) ∧ (readX X2).2.2 = ⟨e + 1, ⟨(n : Int), (sz : Int), re, wk, ke, va, q⟩⟩) := by show _ ∧ _; rw [rv]; exact ⟨⟨rfl, rfl⟩, rfl⟩
              obtain ⟨kx, hkx⟩ : ∃ kx : Int, kx = (par (stB n sz re wk ke va (e + 1) q) : Int) := ⟨_, rfl⟩
              rw [← hkx] at HRV
              clear av rv hi2 hkx HI
              have kg11 : Blk w9 g11 30 #[.int .i64 e, .int .i64 (n : Int), .int .i64 (sz : Int), .int .i64 re, .int .i64 wk, .int .i64 ke, .int .i64 va, .int .i64 p] := H9.out.get (.tail _ (.head _))
              have q1 : w9.cell? ⟨g11, 0, none⟩ = some (.int .i64 e) := kg11.cell 0
              have q2 : w9.cell? ⟨g11, 1, none⟩ = some (.int .i64 (n : Int)) := kg11.cell 1
              have q3 : w9.cell? ⟨g11, 2, none⟩ = some (.int .i64 (sz : Int)) := kg11.cell 2
              have q4 : w9.cell? ⟨g11, 3, none⟩ = some (.int .i64 re) := kg11.cell 3
              have q5 : w9.cell? ⟨g11, 4, none⟩ = some (.int .i64 wk) := kg11.cell 4
              have q6 : w9.cell? ⟨g11, 5, none⟩ = some (.int .i64 ke) := kg11.cell 5
              have q7 : w9.cell? ⟨g11, 6, none⟩ = some (.int .i64 va) := kg11.cell 6
              have q8 : w9.cell? ⟨g11, 7, none⟩ = some (.int .i64 p) := kg11.cell 7
              clear kg11
              go_wp2_with fail
              refine (HP.out _).mono ?_
              rintro e w0 ⟨rfl, rfl⟩
              go_wp2_with fail
              refine (HP.out _).mono ?_
              rintro e w0 ⟨rfl, rfl⟩
              go_wp2_with fail
              obtain ⟨g16, hg16⟩ : ∃ g16, g16 = w9.heap.size := ⟨_, rfl⟩
              obtain ⟨W16, hW16⟩ : ∃ W16 : World, W16 = w9.alloc (.cells #[.int .i64 (e + 1), .int .i64 (n : Int), .int .i64 (sz : Int), .int .i64 re, .int .i64 wk, .int .i64 ke, .int .i64 va, .int .i64 q] 30) := ⟨_, rfl⟩
              have H16 : Hid (Sep w.heap.size w W16 (devOb v L9 (armX X 4 dn [kk]) :: [blkOb g16 30 #[.int .i64 (e + 1), .int .i64 (n : Int), .int .i64 (sz : Int), .int .i64 re, .int .i64 wk, .int .i64 ke, .int .i64 va, .int .i64 q], blkOb g11 30 #[.int .i64 e, .int .i64 (n : Int), .int .i64 (sz : Int), .int .i64 re, .int .i64 wk, .int .i64 ke, .int .i64 va, .int .i64 p], blkOb g10 26 #[.int .i64 (n : Int), .int .i64 (sz : Int), .int .i64 re, .int .i64 wk, .int .i64 ke, .int .i64 va, .int .i64 po], blkOb b3 22 #[.int .u8 (n8 (b 0)), .int .u8 (n8 (b 1)), .int .u8 (n8 (b 2)), .int .u8 (n8 (b 3)), .int .u8 (n8 (b 4)), .int .u8 (n8 (b 5)), .int .u8 (n8 (b 6))]])) := by
                show Sep _ _ _ _
                rw [hW16]
                exact (H9.out.newBlk g16 30 #[.int .i64 (e + 1), .int .i64 (n : Int), .int .i64 (sz : Int), .int .i64 re, .int .i64 wk, .int .i64 ke, .int .i64 va, .int .i64 q] hg16).perm (.swap _ _ _)
              rw [← hg16, ← hW16]
              clear hg16 hW16
              clear q1 q2 q3 q4 q5 q6 q7 q8
              refine (lt_adv H16.out (AllCells.cons (cellOb_blk _ _ _) (AllCells.cons (cellOb_blk _ _ _) (AllCells.cons (cellOb_blk _ _ _) (AllCells.cons (cellOb_blk _ _ _) AllCells.nil)))) hops1.out q 0 (e + 1) (n : Int) (sz : Int) re wk ke va q HAV.out).mono ?_
              rintro e w17 ⟨rfl, L17, hs⟩
              have H17 := Lib.hid hs
              clear hs
              obtain ⟨g17, hg17⟩ : ∃ g17, g17 = w17.heap.size := ⟨_, rfl⟩
              obtain ⟨W17, hW17⟩ : ∃ W17 : World, W17 = w17.alloc (.cells #[.int .i64 (e + 1), .int .i64 (n : Int), .int .i64 (sz : Int), .int .i64 re, .int .i64 wk, .int .i64 ke, .int .i64 va, .int .i64 q] 30) := ⟨_, rfl⟩
              have H17b : Hid (Sep w.heap.size w W17 (devOb v L17 X2 :: [blkOb g17 30 #[.int .i64 (e + 1), .int .i64 (n : Int), .int .i64 (sz : Int), .int .i64 re, .int .i64 wk, .int .i64 ke, .int .i64 va, .int .i64 q], blkOb g16 30 #[.int .i64 (e + 1), .int .i64 (n : Int), .int .i64 (sz : Int), .int .i64 re, .int .i64 wk, .int .i64 ke, .int .i64 va, .int .i64 q], blkOb g11 30 #[.int .i64 e, .int .i64 (n : Int), .int .i64 (sz : Int), .int .i64 re, .int .i64 wk, .int .i64 ke, .int .i64 va, .int .i64 p], blkOb g10 26 #[.int .i64 (n : Int), .int .i64 (sz : Int), .int .i64 re, .int .i64 wk, .int .i64 ke, .int .i64 va, .int .i64 po], blkOb b3 22 #[.int .u8 (n8 (b 0)), .int .u8 (n8 (b 1)), .int .u8 (n8 (b 2)), .int .u8 (n8 (b 3)), .int .u8 (n8 (b 4)), .int .u8 (n8 (b 5)), .int .u8 (n8 (b 6))]])) := by
                show Sep _ _ _ _
                rw [hW17]
                exact (H17.out.newBlk g17 30 #[.int .i64 (e + 1), .int .i64 (n : Int), .int .i64 (sz : Int), .int .i64 re, .int .i64 wk, .int .i64 ke, .int .i64 va, .int .i64 q] hg17).perm (.swap _ _ _)
              go_upto_region 17 with fail
              rw [← hg17, ← hW17]
              clear hg17 hW17
              have kg17 : Blk W17 g17 30 #[.int .i64 (e + 1), .int .i64 (n : Int), .int .i64 (sz : Int), .int .i64 re, .int .i64 wk, .int .i64 ke, .int .i64 va, .int .i64 q] := H17b.out.get (.tail _ (.head _))
              clear kg17
              go_wp2_with fail
              refine (lt_read H17b.out 0 kx (e + 1) (n : Int) (sz : Int) re wk ke va q HRV.out).mono ?_
              rintro e w20 ⟨rfl, hs⟩
              have H20 := Lib.hid hs
              clear hs
              obtain ⟨g22, hg22⟩ : ∃ g22, g22 = w20.heap.size := ⟨_, rfl⟩
              obtain ⟨W20, hW20⟩ : ∃ W20 : World, W20 = w20.alloc (.cells #[.int .i64 (e + 1), .int .i64 (n : Int), .int .i64 (sz : Int), .int .i64 re, .int .i64 wk, .int .i64 ke, .int .i64 va, .int .i64 q] 30) := ⟨_, rfl⟩
              have H20b : Hid (Sep w.heap.size w W20 (devOb v L17 X2 :: [blkOb g22 30 #[.int .i64 (e + 1), .int .i64 (n : Int), .int .i64 (sz : Int), .int .i64 re, .int .i64 wk, .int .i64 ke, .int .i64 va, .int .i64 q], blkOb g17 30 #[.int .i64 (e + 1), .int .i64 (n : Int), .int .i64 (sz : Int), .int .i64 re, .int .i64 wk, .int .i64 ke, .int .i64 va, .int .i64 q], blkOb g16 30 #[.int .i64 (e + 1), .int .i64 (n : Int), .int .i64 (sz : Int), .int .i64 re, .int .i64 wk, .int .i64 ke, .int .i64 va, .int .i64 q], blkOb g11 30 #[.int .i64 e, .int .i64 (n : Int), .int .i64 (sz : Int), .int .i64 re, .int .i64 wk, .int .i64 ke, .int .i64 va, .int .i64 p], blkOb g10 26 #[.int .i64 (n : Int), .int .i64 (sz : Int), .int .i64 re, .int .i64 wk, .int .i64 ke, .int .i64 va, .int .i64 po], blkOb b3 22 #[.int .u8 (n8 (b 0)), .int .u8 (n8 (b 1)), .int .u8 (n8 (b 2)), .int .u8 (n8 (b 3)), .int .u8 (n8 (b 4)), .int .u8 (n8 (b 5)), .int .u8 (n8 (b 6))]])) := by
                show Sep _ _ _ _
                rw [hW20]
                exact (H20.out.newBlk g22 30 #[.int .i64 (e + 1), .int .i64 (n : Int), .int .i64 (sz : Int), .int .i64 re, .int .i64 wk, .int .i64 ke, .int .i64 va, .int .i64 q] hg22).perm (.swap _ _ _)
              go_upto_region 25 with fail
              rw [← hg22, ← hW20]
              clear hg22 hW20
              have kg22 : Blk W20 g22 30 #[.int .i64 (e + 1), .int .i64 (n : Int), .int .i64 (sz : Int), .int .i64 re, .int .i64 wk, .int .i64 ke, .int .i64 va, .int .i64 q] := H20b.out.get (.tail _ (.head _))
              have q9 : W20.cell? ⟨g22, 0, none⟩ = some (.int .i64 (e + 1)) := kg22.cell 0
              have q10 : W20.cell? ⟨g22, 1, none⟩ = some (.int .i64 (n : Int)) := kg22.cell 1
              have q11 : W20.cell? ⟨g22, 2, none⟩ = some (.int .i64 (sz : Int)) := kg22.cell 2
              have q12 : W20.cell? ⟨g22, 3, none⟩ = some (.int .i64 re) := kg22.cell 3
              have q13 : W20.cell? ⟨g22, 4, none⟩ = some (.int .i64 wk) := kg22.cell 4
              have q14 : W20.cell? ⟨g22, 5, none⟩ = some (.int .i64 ke) := kg22.cell 5
              have q15 : W20.cell? ⟨g22, 6, none⟩ = some (.int .i64 va) := kg22.cell 6
              have q16 : W20.cell? ⟨g22, 7, none⟩ = some (.int .i64 q) := kg22.cell 7
              clear kg22
              have kg17 : Blk W20 g17 30 #[.int .i64 (e + 1), .int .i64 (n : Int), .int .i64 (sz : Int), .int .i64 re, .int .i64 wk, .int .i64 ke, .int .i64 va, .int .i64 q] := H20b.out.get (.tail _ (.tail _ (.head _)))
              have q17 : W20.cell? ⟨g17, 0, none⟩ = some (.int .i64 (e + 1)) := kg17.cell 0
              have q18 : W20.cell? ⟨g17, 1, none⟩ = some (.int .i64 (n : Int)) := kg17.cell 1
              have q19 : W20.cell? ⟨g17, 2, none⟩ = some (.int .i64 (sz : Int)) := kg17.cell 2
              have q20 : W20.cell? ⟨g17, 3, none⟩ = some (.int .i64 re) := kg17.cell 3
              have q21 : W20.cell? ⟨g17, 4, none⟩ = some (.int .i64 wk) := kg17.cell 4
              have q22 : W20.cell? ⟨g17, 5, none⟩ = some (.int .i64 ke) := kg17.cell 5
              have q23 : W20.cell? ⟨g17, 6, none⟩ = some (.int .i64 va) := kg17.cell 6
              have q24 : W20.cell? ⟨g17, 7, none⟩ = some (.int .i64 q) := kg17.cell 7
              clear kg17
              have kg16 : Blk W20 g16 30 #[.int .i64 (e + 1), .int .i64 (n : Int), .int .i64 (sz : Int), .int .i64 re, .int .i64 wk, .int .i64 ke, .int .i64 va, .int .i64 q] := H20b.out.get (.tail _ (.tail _ (.tail _ (.head _))))
              have q25 : W20.cell? ⟨g16, 0, none⟩ = some (.int .i64 (e + 1)) := kg16.cell 0
              have q26 : W20.cell? ⟨g16, 1, none⟩ = some (.int .i64 (n : Int)) := kg16.cell 1
              have q27 : W20.cell? ⟨g16, 2, none⟩ = some (.int .i64 (sz : Int)) := kg16.cell 2
              have q28 : W20.cell? ⟨g16, 3, none⟩ = some (.int .i64 re) := kg16.cell 3
              have q29 : W20.cell? ⟨g16, 4, none⟩ = some (.int .i64 wk) := kg16.cell 4
              have q30 : W20.cell? ⟨g16, 5, none⟩ = some (.int .i64 ke) := kg16.cell 5
              have q31 : W20.cell? ⟨g16, 6, none⟩ = some (.int .i64 va) := kg16.cell 6
              have q32 : W20.cell? ⟨g16, 7, none⟩ = some (.int .i64 q) := kg16.cell 7
              clear kg16
              go_upto_region 27 with fail
              have hzp : Sep w.heap.size w W20 (blkOb g11 30 #[.int .i64 e, .int .i64 (n : Int), .int .i64 (sz : Int), .int .i64 re, .int .i64 wk, .int .i64 ke, .int .i64 va, .int .i64 p] :: [devOb v L17 X2, blkOb g22 30 #[.int .i64 (e + 1), .int .i64 (n : Int), .int .i64 (sz : Int), .int .i64 re, .int .i64 wk, .int .i64 ke, .int .i64 va, .int .i64 q], blkOb g17 30 #[.int .i64 (e + 1), .int .i64 (n : Int), .int .i64 (sz : Int), .int .i64 re, .int .i64 wk, .int .i64 ke, .int .i64 va, .int .i64 q], blkOb g16 30 #[.int .i64 (e + 1), .int .i64 (n : Int), .int .i64 (sz : Int), .int .i64 re, .int .i64 wk, .int .i64 ke, .int .i64 va, .int .i64 q], blkOb g10 26 #[.int .i64 (n : Int), .int .i64 (sz : Int), .int .i64 re, .int .i64 wk, .int .i64 ke, .int .i64 va, .int .i64 po], blkOb b3 22 #[.int .u8 (n8 (b 0)), .int .u8 (n8 (b 1)), .int .u8 (n8 (b 2)), .int .u8 (n8 (b 3)), .int .u8 (n8 (b 4)), .int .u8 (n8 (b 5)), .int .u8 (n8 (b 6))]]) := H20b.out.perm (List.perm_middle (l₁ := [_, _, _, _]))
              have HZP := Lib.hid hzp
              clear hzp
              go_wp2_with (refine wpList_store_row rfl 30 _ _ rfl g11 (bkv (stB n sz re wk ke va (e + 1) q)) rfl rfl 30 #[.int .i64 e, .int .i64 (n : Int), .int .i64 (sz : Int), .int .i64 re, .int .i64 wk, .int .i64 ke, .int .i64 va, .int .i64 p] (show Blk _ g11 30 #[.int .i64 e, .int .i64 (n : Int), .int .i64 (sz : Int), .int .i64 re, .int .i64 wk, .int .i64 ke, .int .i64 va, .int .i64 p] from HZP.out.get (.head _)) bk_size rfl (bkv_one _) ?_)
              obtain ⟨W23, hW23⟩ : ∃ W23 : World, W23 = W20.setRow g11 (bkv (stB n sz re wk ke va (e + 1) q)) := ⟨_, rfl⟩
              have H23 : Hid (Sep w.heap.size w W23 (devOb v L17 X2 :: [blkOb g11 30 #[.int .i64 (e + 1), .int .i64 (n : Int), .int .i64 (sz : Int), .int .i64 re, .int .i64 wk, .int .i64 ke, .int .i64 va, .int .i64 q], blkOb g22 30 #[.int .i64 (e + 1), .int .i64 (n : Int), .int .i64 (sz : Int), .int .i64 re, .int .i64 wk, .int .i64 ke, .int .i64 va, .int .i64 q], blkOb g17 30 #[.int .i64 (e + 1), .int .i64 (n : Int), .int .i64 (sz : Int), .int .i64 re, .int .i64 wk, .int .i64 ke, .int .i64 va, .int .i64 q], blkOb g16 30 #[.int .i64 (e + 1), .int .i64 (n : Int), .int .i64 (sz : Int), .int .i64 re, .int .i64 wk, .int .i64 ke, .int .i64 va, .int .i64 q], blkOb g10 26 #[.int .i64 (n : Int), .int .i64 (sz : Int), .int .i64 re, .int .i64 wk, .int .i64 ke, .int .i64 va, .int .i64 po], blkOb b3 22 #[.int .u8 (n8 (b 0)), .int .u8 (n8 (b 1)), .int .u8 (n8 (b 2)), .int .u8 (n8 (b 3)), .int .u8 (n8 (b 4)), .int .u8 (n8 (b 5)), .int .u8 (n8 (b 6))]])) := by
                show Sep _ _ _ _
                rw [hW23]
                exact (HZP.out.setRowBlk (bkv (stB n sz re wk ke va (e + 1) q))).perm (.swap _ _ _)
              have hszW23 : Hid (W20.heap.size = W23.heap.size) := by
                show _ = _
                rw [hW23]
                simp
              rw [← hW23]
              clear hW23 HZP
              clear q9 q10 q11 q12 q13 q14 q15 q16 q17 q18 q19 q20 q21 q22 q23 q24 q25 q26 q27 q28 q29 q30 q31 q32
              obtain ⟨bh, hbh⟩ : ∃ bh, bh = W23.heap.size := ⟨_, rfl⟩
              obtain ⟨W24, hW24⟩ : ∃ W24 : World, W24 = W23.alloc (.cells #[.int .i64 0] 3) := ⟨_, rfl⟩
              have H24 : Hid (Sep w.heap.size w W24 (blkOb bh 3 #[.int .i64 0] :: devOb v L17 X2 :: [blkOb g11 30 #[.int .i64 (e + 1), .int .i64 (n : Int), .int .i64 (sz : Int), .int .i64 re, .int .i64 wk, .int .i64 ke, .int .i64 va, .int .i64 q], blkOb g22 30 #[.int .i64 (e + 1), .int .i64 (n : Int), .int .i64 (sz : Int), .int .i64 re, .int .i64 wk, .int .i64 ke, .int .i64 va, .int .i64 q], blkOb g17 30 #[.int .i64 (e + 1), .int .i64 (n : Int), .int .i64 (sz : Int), .int .i64 re, .int .i64 wk, .int .i64 ke, .int .i64 va, .int .i64 q], blkOb g16 30 #[.int .i64 (e + 1), .int .i64 (n : Int), .int .i64 (sz : Int), .int .i64 re, .int .i64 wk, .int .i64 ke, .int .i64 va, .int .i64 q], blkOb g10 26 #[.int .i64 (n : Int), .int .i64 (sz : Int), .int .i64 re, .int .i64 wk, .int .i64 ke, .int .i64 va, .int .i64 po], blkOb b3 22 #[.int .u8 (n8 (b 0)), .int .u8 (n8 (b 1)), .int .u8 (n8 (b 2)), .int .u8 (n8 (b 3)), .int .u8 (n8 (b 4)), .int .u8 (n8 (b 5)), .int .u8 (n8 (b 6))]])) := by
                show Sep _ _ _ _
                rw [hW24]
                exact H23.out.newBlk bh _ _ hbh
              have CM := Lib.hid (lt_arm H24.out (AllCells.cons (cellOb_blk _ _ _) (AllCells.cons (cellOb_blk _ _ _) (AllCells.cons (cellOb_blk _ _ _) (AllCells.cons (cellOb_blk _ _ _) (AllCells.cons (cellOb_blk _ _ _) (AllCells.cons (cellOb_blk _ _ _) AllCells.nil)))))) 1000 false (by omega) HA2.out)
              go_wp2_with fail
              rw [hszW23.out, ← hbh, ← hW24]
              clear hbh hW24
              refine CM.out.mono ?_
              rintro e w25 ⟨rfl, L25, hs⟩
              have H25 := Lib.hid hs
              clear hs CM H24
              go_wp2_with fail
              go_roundg (gk - 1)
              case measure => have := HJ.out; omega
              case rel => exact ⟨j + 1, L25, armX X2 1000 false [0], e + 1, q, by have := HJ.out; omega, by go_num, HI2.out, H25.out.sub (.cons_cons _ (.cons_cons _ (.cons _ (.cons _ (.cons _ (List.Sublist.refl _))))))⟩
            · have hc1 : 1 ≤ cr := by omega
              have hc3 : cr ≤ 3 := by omega
              have hce : (cr == 4) = false := by rw [beq_eq_false_iff_ne]; omega
              clear hz hz4
              obtain ⟨ha1, ho1, X2, e2, p2, av, hdown, rv, hcase, hi2⟩ := at_crash HI.out hj20 HQ.out cr (by omega) dn kk ⟨hkk0, hkk1⟩
              have HA1 : Hid (armE cr [kk] = 0) := ha1
              have hops1 : Hid ((armX X cr dn [kk]).ops ≤ 100000) := ho1
              have HDN : Hid (X2.down = true) := hdown
              clear ha1 ho1 hdown
              obtain ⟨bg, hbg⟩ : ∃ bg, bg = wc.heap.size := ⟨_, rfl⟩
              obtain ⟨W8, hW8⟩ : ∃ W8 : World, W8 = wc.alloc (.cells #[.int .i64 kk] 3) := ⟨_, rfl⟩
              have H8 : Hid (Sep w.heap.size w W8 (blkOb bg 3 #[.int .i64 kk] :: devOb v L X :: [blkOb g11 30 #[.int .i64 e, .int .i64 (n : Int), .int .i64 (sz : Int), .int .i64 re, .int .i64 wk, .int .i64 ke, .int .i64 va, .int .i64 p], blkOb g10 26 #[.int .i64 (n : Int), .int .i64 (sz : Int), .int .i64 re, .int .i64 wk, .int .i64 ke, .int .i64 va, .int .i64 po], blkOb b3 22 #[.int .u8 (n8 (b 0)), .int .u8 (n8 (b 1)), .int .u8 (n8 (b 2)), .int .u8 (n8 (b 3)), .int .u8 (n8 (b 4)), .int .u8 (n8 (b 5)), .int .u8 (n8 (b 6))]])) := by
                show Sep _ _ _ _
                rw [hW8]
                exact H7.out.newBlk bg _ _ hbg
              have CM := Lib.hid (lt_arm H8.out (AllCells.cons (cellOb_blk _ _ _) (AllCells.cons (cellOb_blk _ _ _) (AllCells.cons (cellOb_blk _ _ _) AllCells.nil))) cr dn (by omega) HA1.out)
              go_wp2_with fail
              rw [← hbg, ← hW8]
              clear hbg hW8
              refine CM.out.mono ?_
              rintro e w9 ⟨rfl, L9, hs⟩
              have H9 := Lib.hid hs
              clear hs CM H8
              have HAV := Lib.hid av
              have HI2 := Lib.hid hi2
              have HRV : Hid (((readX (restartX X2)).1 = 0 ∧ ((readX (restartX X2)).2.1 : Int) = (par (stB n sz re wk ke va e2 p2) : Int)) ∧ (readX (restartX X2)).2.2 = ⟨e2, ⟨(n : Int), (sz : Int), re, wk, ke, va, p2⟩⟩) := by show _ ∧ _; rw [rv]; exact ⟨⟨rfl, rfl⟩, rfl⟩
              have HCA := Lib.hid hcase
              obtain ⟨kx, hkx⟩ : ∃ kx : Int, kx = (par (stB n sz re wk ke va e2 p2) : Int) := ⟨_, rfl⟩
              rw [← hkx] at HRV
              clear av rv hi2 hcase hkx HI
              have kg11 : Blk w9 g11 30 #[.int .i64 e, .int .i64 (n : Int), .int .i64 (sz : Int), .int .i64 re, .int .i64 wk, .int .i64 ke, .int .i64 va, .int .i64 p] := H9.out.get (.tail _ (.head _))
              have q1 : w9.cell? ⟨g11, 0, none⟩ = some (.int .i64 e) := kg11.cell 0
              have q2 : w9.cell? ⟨g11, 1, none⟩ = some (.int .i64 (n : Int)) := kg11.cell 1
              have q3 : w9.cell? ⟨g11, 2, none⟩ = some (.int .i64 (sz : Int)) := kg11.cell 2
              have q4 : w9.cell? ⟨g11, 3, none⟩ = some (.int .i64 re) := kg11.cell 3
              have q5 : w9.cell? ⟨g11, 4, none⟩ = some (.int .i64 wk) := kg11.cell 4
              have q6 : w9.cell? ⟨g11, 5, none⟩ = some (.int .i64 ke) := kg11.cell 5
              have q7 : w9.cell? ⟨g11, 6, none⟩ = some (.int .i64 va) := kg11.cell 6
              have q8 : w9.cell? ⟨g11, 7, none⟩ = some (.int .i64 p) := kg11.cell 7
              clear kg11
              go_wp2_with fail
              refine (HP.out _).mono ?_
              rintro e w0 ⟨rfl, rfl⟩
              go_wp2_with fail
              refine (HP.out _).mono ?_
              rintro e w0 ⟨rfl, rfl⟩
              go_wp2_with fail
              obtain ⟨g16, hg16⟩ : ∃ g16, g16 = w9.heap.size := ⟨_, rfl⟩
              obtain ⟨W16, hW16⟩ : ∃ W16 : World, W16 = w9.alloc (.cells #[.int .i64 (e + 1), .int .i64 (n : Int), .int .i64 (sz : Int), .int .i64 re, .int .i64 wk, .int .i64 ke, .int .i64 va, .int .i64 q] 30) := ⟨_, rfl⟩
              have H16 : Hid (Sep w.heap.size w W16 (devOb v L9 (armX X cr dn [kk]) :: [blkOb g16 30 #[.int .i64 (e + 1), .int .i64 (n : Int), .int .i64 (sz : Int), .int .i64 re, .int .i64 wk, .int .i64 ke, .int .i64 va, .int .i64 q], blkOb g11 30 #[.int .i64 e, .int .i64 (n : Int), .int .i64 (sz : Int), .int .i64 re, .int .i64 wk, .int .i64 ke, .int .i64 va, .int .i64 p], blkOb g10 26 #[.int .i64 (n : Int), .int .i64 (sz : Int), .int .i64 re, .int .i64 wk, .int .i64 ke, .int .i64 va, .int .i64 po], blkOb b3 22 #[.int .u8 (n8 (b 0)), .int .u8 (n8 (b 1)), .int .u8 (n8 (b 2)), .int .u8 (n8 (b 3)), .int .u8 (n8 (b 4)), .int .u8 (n8 (b 5)), .int .u8 (n8 (b 6))]])) := by
                show Sep _ _ _ _
                rw [hW16]
                exact (H9.out.newBlk g16 30 #[.int .i64 (e + 1), .int .i64 (n : Int), .int .i64 (sz : Int), .int .i64 re, .int .i64 wk, .int .i64 ke, .int .i64 va, .int .i64 q] hg16).perm (.swap _ _ _)
              rw [← hg16, ← hW16]
              clear hg16 hW16
              clear q1 q2 q3 q4 q5 q6 q7 q8
              refine (lt_adv H16.out (AllCells.cons (cellOb_blk _ _ _) (AllCells.cons (cellOb_blk _ _ _) (AllCells.cons (cellOb_blk _ _ _) (AllCells.cons (cellOb_blk _ _ _) AllCells.nil)))) hops1.out q 13 0 0 0 0 0 0 0 0 HAV.out).mono ?_
              rintro e w17 ⟨rfl, L17, hs⟩
              have H17 := Lib.hid hs
              clear hs
              obtain ⟨g17, hg17⟩ : ∃ g17, g17 = w17.heap.size := ⟨_, rfl⟩
              obtain ⟨W17, hW17⟩ : ∃ W17 : World, W17 = w17.alloc (.cells #[.int .i64 0, .int .i64 0, .int .i64 0, .int .i64 0, .int .i64 0, .int .i64 0, .int .i64 0, .int .i64 0] 30) := ⟨_, rfl⟩
              have H17b : Hid (Sep w.heap.size w W17 (devOb v L17 X2 :: [blkOb g17 30 #[.int .i64 0, .int .i64 0, .int .i64 0, .int .i64 0, .int .i64 0, .int .i64 0, .int .i64 0, .int .i64 0], blkOb g16 30 #[.int .i64 (e + 1), .int .i64 (n : Int), .int .i64 (sz : Int), .int .i64 re, .int .i64 wk, .int .i64 ke, .int .i64 va, .int .i64 q], blkOb g11 30 #[.int .i64 e, .int .i64 (n : Int), .int .i64 (sz : Int), .int .i64 re, .int .i64 wk, .int .i64 ke, .int .i64 va, .int .i64 p], blkOb g10 26 #[.int .i64 (n : Int), .int .i64 (sz : Int), .int .i64 re, .int .i64 wk, .int .i64 ke, .int .i64 va, .int .i64 po], blkOb b3 22 #[.int .u8 (n8 (b 0)), .int .u8 (n8 (b 1)), .int .u8 (n8 (b 2)), .int .u8 (n8 (b 3)), .int .u8 (n8 (b 4)), .int .u8 (n8 (b 5)), .int .u8 (n8 (b 6))]])) := by
                show Sep _ _ _ _
                rw [hW17]
                exact (H17.out.newBlk g17 30 #[.int .i64 0, .int .i64 0, .int .i64 0, .int .i64 0, .int .i64 0, .int .i64 0, .int .i64 0, .int .i64 0] hg17).perm (.swap _ _ _)
              go_upto_region 17 with fail
              rw [← hg17, ← hW17]
              clear hg17 hW17
              have kg17 : Blk W17 g17 30 #[.int .i64 0, .int .i64 0, .int .i64 0, .int .i64 0, .int .i64 0, .int .i64 0, .int .i64 0, .int .i64 0] := H17b.out.get (.tail _ (.head _))
              have q9 : W17.cell? ⟨g17, 0, none⟩ = some (.int .i64 0) := kg17.cell 0
              have q10 : W17.cell? ⟨g17, 1, none⟩ = some (.int .i64 0) := kg17.cell 1
              have q11 : W17.cell? ⟨g17, 2, none⟩ = some (.int .i64 0) := kg17.cell 2
              have q12 : W17.cell? ⟨g17, 3, none⟩ = some (.int .i64 0) := kg17.cell 3
              have q13 : W17.cell? ⟨g17, 4, none⟩ = some (.int .i64 0) := kg17.cell 4
              have q14 : W17.cell? ⟨g17, 5, none⟩ = some (.int .i64 0) := kg17.cell 5
              have q15 : W17.cell? ⟨g17, 6, none⟩ = some (.int .i64 0) := kg17.cell 6
              have q16 : W17.cell? ⟨g17, 7, none⟩ = some (.int .i64 0) := kg17.cell 7
              clear kg17
              go_wp2_with fail
              refine (lt_down H17b.out true HDN.out).mono ?_
              rintro e w18 ⟨rfl, hs⟩
              have H18 := Lib.hid hs
              clear hs
              clear q9 q10 q11 q12 q13 q14 q15 q16
              go_wp2_with fail
              refine (sep_vrestart H18.out).mono ?_
              rintro e w19 ⟨rfl, hs⟩
              have H19 := Lib.hid hs
              clear hs
              go_wp2_with fail
              refine (lt_read H19.out 0 kx e2 (n : Int) (sz : Int) re wk ke va p2 HRV.out).mono ?_
              rintro e w20 ⟨rfl, hs⟩
              have H20 := Lib.hid hs
              clear hs
              obtain ⟨g19, hg19⟩ : ∃ g19, g19 = w20.heap.size := ⟨_, rfl⟩
              obtain ⟨W20, hW20⟩ : ∃ W20 : World, W20 = w20.alloc (.cells #[.int .i64 e2, .int .i64 (n : Int), .int .i64 (sz : Int), .int .i64 re, .int .i64 wk, .int .i64 ke, .int .i64 va, .int .i64 p2] 30) := ⟨_, rfl⟩
              have H20b : Hid (Sep w.heap.size w W20 (devOb v L17 (restartX X2) :: [blkOb g19 30 #[.int .i64 e2, .int .i64 (n : Int), .int .i64 (sz : Int), .int .i64 re, .int .i64 wk, .int .i64 ke, .int .i64 va, .int .i64 p2], blkOb g17 30 #[.int .i64 0, .int .i64 0, .int .i64 0, .int .i64 0, .int .i64 0, .int .i64 0, .int .i64 0, .int .i64 0], blkOb g16 30 #[.int .i64 (e + 1), .int .i64 (n : Int), .int .i64 (sz : Int), .int .i64 re, .int .i64 wk, .int .i64 ke, .int .i64 va, .int .i64 q], blkOb g11 30 #[.int .i64 e, .int .i64 (n : Int), .int .i64 (sz : Int), .int .i64 re, .int .i64 wk, .int .i64 ke, .int .i64 va, .int .i64 p], blkOb g10 26 #[.int .i64 (n : Int), .int .i64 (sz : Int), .int .i64 re, .int .i64 wk, .int .i64 ke, .int .i64 va, .int .i64 po], blkOb b3 22 #[.int .u8 (n8 (b 0)), .int .u8 (n8 (b 1)), .int .u8 (n8 (b 2)), .int .u8 (n8 (b 3)), .int .u8 (n8 (b 4)), .int .u8 (n8 (b 5)), .int .u8 (n8 (b 6))]])) := by
                show Sep _ _ _ _
                rw [hW20]
                exact (H20.out.newBlk g19 30 #[.int .i64 e2, .int .i64 (n : Int), .int .i64 (sz : Int), .int .i64 re, .int .i64 wk, .int .i64 ke, .int .i64 va, .int .i64 p2] hg19).perm (.swap _ _ _)
              go_upto_region 21 with fail
              rw [← hg19, ← hW20]
              clear hg19 hW20
              have hca := HCA.out
              clear HCA
              rcases hca with ⟨ha, hb⟩ | ⟨ha, hb⟩
              · subst e2
                subst p2
                have kg19 : Blk W20 g19 30 #[.int .i64 e, .int .i64 (n : Int), .int .i64 (sz : Int), .int .i64 re, .int .i64 wk, .int .i64 ke, .int .i64 va, .int .i64 p] := H20b.out.get (.tail _ (.head _))
                have q17 : W20.cell? ⟨g19, 0, none⟩ = some (.int .i64 e) := kg19.cell 0
                have q18 : W20.cell? ⟨g19, 1, none⟩ = some (.int .i64 (n : Int)) := kg19.cell 1
                have q19 : W20.cell? ⟨g19, 2, none⟩ = some (.int .i64 (sz : Int)) := kg19.cell 2
                have q20 : W20.cell? ⟨g19, 3, none⟩ = some (.int .i64 re) := kg19.cell 3
                have q21 : W20.cell? ⟨g19, 4, none⟩ = some (.int .i64 wk) := kg19.cell 4
                have q22 : W20.cell? ⟨g19, 5, none⟩ = some (.int .i64 ke) := kg19.cell 5
                have q23 : W20.cell? ⟨g19, 6, none⟩ = some (.int .i64 va) := kg19.cell 6
                have q24 : W20.cell? ⟨g19, 7, none⟩ = some (.int .i64 p) := kg19.cell 7
                clear kg19
                have kg11 : Blk W20 g11 30 #[.int .i64 e, .int .i64 (n : Int), .int .i64 (sz : Int), .int .i64 re, .int .i64 wk, .int .i64 ke, .int .i64 va, .int .i64 p] := H20b.out.get (.tail _ (.tail _ (.tail _ (.tail _ (.head _)))))
                have q25 : W20.cell? ⟨g11, 0, none⟩ = some (.int .i64 e) := kg11.cell 0
                have q26 : W20.cell? ⟨g11, 1, none⟩ = some (.int .i64 (n : Int)) := kg11.cell 1
                have q27 : W20.cell? ⟨g11, 2, none⟩ = some (.int .i64 (sz : Int)) := kg11.cell 2
                have q28 : W20.cell? ⟨g11, 3, none⟩ = some (.int .i64 re) := kg11.cell 3
                have q29 : W20.cell? ⟨g11, 4, none⟩ = some (.int .i64 wk) := kg11.cell 4
                have q30 : W20.cell? ⟨g11, 5, none⟩ = some (.int .i64 ke) := kg11.cell 5
                have q31 : W20.cell? ⟨g11, 6, none⟩ = some (.int .i64 va) := kg11.cell 6
                have q32 : W20.cell? ⟨g11, 7, none⟩ = some (.int .i64 p) := kg11.cell 7
                clear kg11
                have kg16 : Blk W20 g16 30 #[.int .i64 (e + 1), .int .i64 (n : Int), .int .i64 (sz : Int), .int .i64 re, .int .i64 wk, .int .i64 ke, .int .i64 va, .int .i64 q] := H20b.out.get (.tail _ (.tail _ (.tail _ (.head _))))
                have q33 : W20.cell? ⟨g16, 0, none⟩ = some (.int .i64 (e + 1)) := kg16.cell 0
                have q34 : W20.cell? ⟨g16, 1, none⟩ = some (.int .i64 (n : Int)) := kg16.cell 1
                have q35 : W20.cell? ⟨g16, 2, none⟩ = some (.int .i64 (sz : Int)) := kg16.cell 2
                have q36 : W20.cell? ⟨g16, 3, none⟩ = some (.int .i64 re) := kg16.cell 3
                have q37 : W20.cell? ⟨g16, 4, none⟩ = some (.int .i64 wk) := kg16.cell 4
                have q38 : W20.cell? ⟨g16, 5, none⟩ = some (.int .i64 ke) := kg16.cell 5
                have q39 : W20.cell? ⟨g16, 6, none⟩ = some (.int .i64 va) := kg16.cell 6
                have q40 : W20.cell? ⟨g16, 7, none⟩ = some (.int .i64 q) := kg16.cell 7
                clear kg16
                go_upto_region 23 with fail
                have hzp : Sep w.heap.size w W20 (blkOb g11 30 #[.int .i64 e, .int .i64 (n : Int), .int .i64 (sz : Int), .int .i64 re, .int .i64 wk, .int .i64 ke, .int .i64 va, .int .i64 p] :: [devOb v L17 (restartX X2), blkOb g19 30 #[.int .i64 e, .int .i64 (n : Int), .int .i64 (sz : Int), .int .i64 re, .int .i64 wk, .int .i64 ke, .int .i64 va, .int .i64 p], blkOb g17 30 #[.int .i64 0, .int .i64 0, .int .i64 0, .int .i64 0, .int .i64 0, .int .i64 0, .int .i64 0, .int .i64 0], blkOb g16 30 #[.int .i64 (e + 1), .int .i64 (n : Int), .int .i64 (sz : Int), .int .i64 re, .int .i64 wk, .int .i64 ke, .int .i64 va, .int .i64 q], blkOb g10 26 #[.int .i64 (n : Int), .int .i64 (sz : Int), .int .i64 re, .int .i64 wk, .int .i64 ke, .int .i64 va, .int .i64 po], blkOb b3 22 #[.int .u8 (n8 (b 0)), .int .u8 (n8 (b 1)), .int .u8 (n8 (b 2)), .int .u8 (n8 (b 3)), .int .u8 (n8 (b 4)), .int .u8 (n8 (b 5)), .int .u8 (n8 (b 6))]]) := H20b.out.perm (List.perm_middle (l₁ := [_, _, _, _]))
                have HZP := Lib.hid hzp
                clear hzp
                go_wp2_with (refine wpList_store_row rfl 30 _ _ rfl g11 (bkv (stB n sz re wk ke va e p)) rfl rfl 30 #[.int .i64 e, .int .i64 (n : Int), .int .i64 (sz : Int), .int .i64 re, .int .i64 wk, .int .i64 ke, .int .i64 va, .int .i64 p] (show Blk _ g11 30 #[.int .i64 e, .int .i64 (n : Int), .int .i64 (sz : Int), .int .i64 re, .int .i64 wk, .int .i64 ke, .int .i64 va, .int .i64 p] from HZP.out.get (.head _)) bk_size rfl (bkv_one _) ?_)
                obtain ⟨W23, hW23⟩ : ∃ W23 : World, W23 = W20.setRow g11 (bkv (stB n sz re wk ke va e p)) := ⟨_, rfl⟩
                have H23 : Hid (Sep w.heap.size w W23 (devOb v L17 (restartX X2) :: [blkOb g11 30 #[.int .i64 e, .int .i64 (n : Int), .int .i64 (sz : Int), .int .i64 re, .int .i64 wk, .int .i64 ke, .int .i64 va, .int .i64 p], blkOb g19 30 #[.int .i64 e, .int .i64 (n : Int), .int .i64 (sz : Int), .int .i64 re, .int .i64 wk, .int .i64 ke, .int .i64 va, .int .i64 p], blkOb g17 30 #[.int .i64 0, .int .i64 0, .int .i64 0, .int .i64 0, .int .i64 0, .int .i64 0, .int .i64 0, .int .i64 0], blkOb g16 30 #[.int .i64 (e + 1), .int .i64 (n : Int), .int .i64 (sz : Int), .int .i64 re, .int .i64 wk, .int .i64 ke, .int .i64 va, .int .i64 q], blkOb g10 26 #[.int .i64 (n : Int), .int .i64 (sz : Int), .int .i64 re, .int .i64 wk, .int .i64 ke, .int .i64 va, .int .i64 po], blkOb b3 22 #[.int .u8 (n8 (b 0)), .int .u8 (n8 (b 1)), .int .u8 (n8 (b 2)), .int .u8 (n8 (b 3)), .int .u8 (n8 (b 4)), .int .u8 (n8 (b 5)), .int .u8 (n8 (b 6))]])) := by
                  show Sep _ _ _ _
                  rw [hW23]
                  exact (HZP.out.setRowBlk (bkv (stB n sz re wk ke va e p))).perm (.swap _ _ _)
                have hszW23 : Hid (W20.heap.size = W23.heap.size) := by
                  show _ = _
                  rw [hW23]
                  simp
                rw [← hW23]
                clear hW23 HZP
                clear q17 q18 q19 q20 q21 q22 q23 q24 q25 q26 q27 q28 q29 q30 q31 q32 q33 q34 q35 q36 q37 q38 q39 q40
                go_wp2_with fail
                go_roundg (gk - 1)
                case measure => have := HJ.out; omega
                case rel => exact ⟨j + 1, L17, restartX X2, e, p, by have := HJ.out; omega, by go_num, HI2.out, H23.out.sub (.cons_cons _ (.cons_cons _ (.cons _ (.cons _ (.cons _ (List.Sublist.refl _))))))⟩
              · subst e2
                subst p2
                have kg19 : Blk W20 g19 30 #[.int .i64 (e + 1), .int .i64 (n : Int), .int .i64 (sz : Int), .int .i64 re, .int .i64 wk, .int .i64 ke, .int .i64 va, .int .i64 q] := H20b.out.get (.tail _ (.head _))
                have q41 : W20.cell? ⟨g19, 0, none⟩ = some (.int .i64 (e + 1)) := kg19.cell 0
                have q42 : W20.cell? ⟨g19, 1, none⟩ = some (.int .i64 (n : Int)) := kg19.cell 1
                have q43 : W20.cell? ⟨g19, 2, none⟩ = some (.int .i64 (sz : Int)) := kg19.cell 2
                have q44 : W20.cell? ⟨g19, 3, none⟩ = some (.int .i64 re) := kg19.cell 3
                have q45 : W20.cell? ⟨g19, 4, none⟩ = some (.int .i64 wk) := kg19.cell 4
                have q46 : W20.cell? ⟨g19, 5, none⟩ = some (.int .i64 ke) := kg19.cell 5
                have q47 : W20.cell? ⟨g19, 6, none⟩ = some (.int .i64 va) := kg19.cell 6
                have q48 : W20.cell? ⟨g19, 7, none⟩ = some (.int .i64 q) := kg19.cell 7
                clear kg19
                have kg11 : Blk W20 g11 30 #[.int .i64 e, .int .i64 (n : Int), .int .i64 (sz : Int), .int .i64 re, .int .i64 wk, .int .i64 ke, .int .i64 va, .int .i64 p] := H20b.out.get (.tail _ (.tail _ (.tail _ (.tail _ (.head _)))))
                have q49 : W20.cell? ⟨g11, 0, none⟩ = some (.int .i64 e) := kg11.cell 0
                have q50 : W20.cell? ⟨g11, 1, none⟩ = some (.int .i64 (n : Int)) := kg11.cell 1
                have q51 : W20.cell? ⟨g11, 2, none⟩ = some (.int .i64 (sz : Int)) := kg11.cell 2
                have q52 : W20.cell? ⟨g11, 3, none⟩ = some (.int .i64 re) := kg11.cell 3
                have q53 : W20.cell? ⟨g11, 4, none⟩ = some (.int .i64 wk) := kg11.cell 4
                have q54 : W20.cell? ⟨g11, 5, none⟩ = some (.int .i64 ke) := kg11.cell 5
                have q55 : W20.cell? ⟨g11, 6, none⟩ = some (.int .i64 va) := kg11.cell 6
                have q56 : W20.cell? ⟨g11, 7, none⟩ = some (.int .i64 p) := kg11.cell 7
                clear kg11
                have kg16 : Blk W20 g16 30 #[.int .i64 (e + 1), .int .i64 (n : Int), .int .i64 (sz : Int), .int .i64 re, .int .i64 wk, .int .i64 ke, .int .i64 va, .int .i64 q] := H20b.out.get (.tail _ (.tail _ (.tail _ (.head _))))
                have q57 : W20.cell? ⟨g16, 0, none⟩ = some (.int .i64 (e + 1)) := kg16.cell 0
                have q58 : W20.cell? ⟨g16, 1, none⟩ = some (.int .i64 (n : Int)) := kg16.cell 1
                have q59 : W20.cell? ⟨g16, 2, none⟩ = some (.int .i64 (sz : Int)) := kg16.cell 2
                have q60 : W20.cell? ⟨g16, 3, none⟩ = some (.int .i64 re) := kg16.cell 3
                have q61 : W20.cell? ⟨g16, 4, none⟩ = some (.int .i64 wk) := kg16.cell 4
                have q62 : W20.cell? ⟨g16, 5, none⟩ = some (.int .i64 ke) := kg16.cell 5
                have q63 : W20.cell? ⟨g16, 6, none⟩ = some (.int .i64 va) := kg16.cell 6
                have q64 : W20.cell? ⟨g16, 7, none⟩ = some (.int .i64 q) := kg16.cell 7
                clear kg16
                have hne1 : (e + 1 == e) = false := by rw [beq_eq_false_iff_ne]; omega
                go_upto_region 23 with fail
                have hzp : Sep w.heap.size w W20 (blkOb g11 30 #[.int .i64 e, .int .i64 (n : Int), .int .i64 (sz : Int), .int .i64 re, .int .i64 wk, .int .i64 ke, .int .i64 va, .int .i64 p] :: [devOb v L17 (restartX X2), blkOb g19 30 #[.int .i64 (e + 1), .int .i64 (n : Int), .int .i64 (sz : Int), .int .i64 re, .int .i64 wk, .int .i64 ke, .int .i64 va, .int .i64 q], blkOb g17 30 #[.int .i64 0, .int .i64 0, .int .i64 0, .int .i64 0, .int .i64 0, .int .i64 0, .int .i64 0, .int .i64 0], blkOb g16 30 #[.int .i64 (e + 1), .int .i64 (n : Int), .int .i64 (sz : Int), .int .i64 re, .int .i64 wk, .int .i64 ke, .int .i64 va, .int .i64 q], blkOb g10 26 #[.int .i64 (n : Int), .int .i64 (sz : Int), .int .i64 re, .int .i64 wk, .int .i64 ke, .int .i64 va, .int .i64 po], blkOb b3 22 #[.int .u8 (n8 (b 0)), .int .u8 (n8 (b 1)), .int .u8 (n8 (b 2)), .int .u8 (n8 (b 3)), .int .u8 (n8 (b 4)), .int .u8 (n8 (b 5)), .int .u8 (n8 (b 6))]]) := H20b.out.perm (List.perm_middle (l₁ := [_, _, _, _]))
                have HZP := Lib.hid hzp
                clear hzp
                go_wp2_with (refine wpList_store_row rfl 30 _ _ rfl g11 (bkv (stB n sz re wk ke va (e + 1) q)) rfl rfl 30 #[.int .i64 e, .int .i64 (n : Int), .int .i64 (sz : Int), .int .i64 re, .int .i64 wk, .int .i64 ke, .int .i64 va, .int .i64 p] (show Blk _ g11 30 #[.int .i64 e, .int .i64 (n : Int), .int .i64 (sz : Int), .int .i64 re, .int .i64 wk, .int .i64 ke, .int .i64 va, .int .i64 p] from HZP.out.get (.head _)) bk_size rfl (bkv_one _) ?_)
                obtain ⟨W23, hW23⟩ : ∃ W23 : World, W23 = W20.setRow g11 (bkv (stB n sz re wk ke va (e + 1) q)) := ⟨_, rfl⟩
                have H23 : Hid (Sep w.heap.size w W23 (devOb v L17 (restartX X2) :: [blkOb g11 30 #[.int .i64 (e + 1), .int .i64 (n : Int), .int .i64 (sz : Int), .int .i64 re, .int .i64 wk, .int .i64 ke, .int .i64 va, .int .i64 q], blkOb g19 30 #[.int .i64 (e + 1), .int .i64 (n : Int), .int .i64 (sz : Int), .int .i64 re, .int .i64 wk, .int .i64 ke, .int .i64 va, .int .i64 q], blkOb g17 30 #[.int .i64 0, .int .i64 0, .int .i64 0, .int .i64 0, .int .i64 0, .int .i64 0, .int .i64 0, .int .i64 0], blkOb g16 30 #[.int .i64 (e + 1), .int .i64 (n : Int), .int .i64 (sz : Int), .int .i64 re, .int .i64 wk, .int .i64 ke, .int .i64 va, .int .i64 q], blkOb g10 26 #[.int .i64 (n : Int), .int .i64 (sz : Int), .int .i64 re, .int .i64 wk, .int .i64 ke, .int .i64 va, .int .i64 po], blkOb b3 22 #[.int .u8 (n8 (b 0)), .int .u8 (n8 (b 1)), .int .u8 (n8 (b 2)), .int .u8 (n8 (b 3)), .int .u8 (n8 (b 4)), .int .u8 (n8 (b 5)), .int .u8 (n8 (b 6))]])) := by
                  show Sep _ _ _ _
                  rw [hW23]
                  exact (HZP.out.setRowBlk (bkv (stB n sz re wk ke va (e + 1) q))).perm (.swap _ _ _)
                have hszW23 : Hid (W20.heap.size = W23.heap.size) := by
                  show _ = _
                  rw [hW23]
                  simp
                rw [← hW23]
                clear hW23 HZP
                clear q41 q42 q43 q44 q45 q46 q47 q48 q49 q50 q51 q52 q53 q54 q55 q56 q57 q58 q59 q60 q61 q62 q63 q64
                go_wp2_with fail
                go_roundg (gk - 1)
                case measure => have := HJ.out; omega
                case rel => exact ⟨j + 1, L17, restartX X2, (e + 1), q, by have := HJ.out; omega, by go_num, HI2.out, H23.out.sub (.cons_cons _ (.cons_cons _ (.cons _ (.cons _ (.cons _ (List.Sublist.refl _))))))⟩
    · obtain rfl : j = m := by omega
      clear hj hi hs
      go_wp2_with fail
      refine (works_any _).mono ?_
      rintro e w37 ⟨rfl, hb⟩
      have H37 := Lib.hid (H5.out.below hb)
      clear hb
      go_wp2_with fail
      go_ret
      exact ⟨rfl, H37.out.bel⟩
theorem bytes_in {w : World} {v : Value} (h : ArgIn Try.prog w 54 v) : ∃ (A : Option Addr) (n c : Nat) (l : List (BitVec 8)), v = .slice A n c ∧ n = l.length ∧ n ≤ maxLen ∧ n ≤ c ∧ c ≤ maxLen ∧ Reads w w.heap.size 1 A n (u8s l) := by
  obtain ⟨A, n, c, zs, rfl, hr⟩ := h.row Try.underlying54 Try.underlying5 (by kernel_rfl)
  obtain ⟨l, h1, h2, h3, h4, h5⟩ := IsRow.bytes hr
  exact ⟨A, n, c, l, rfl, h1, h2, h3, h4, h5⟩
theorem DualcopyAtomic_walk (v0 v1 v2 v3 : Value) (w : World) (h0 : ArgIn Try.prog w 22 v0) (h1 : ArgIn Try.prog w 54 v1) (h2 : ArgIn Try.prog w 54 v2) (h3 : ArgIn Try.prog w 54 v3) :
    Calls Try.prog 5 #[v0, v1, v2, v3] w fun e w' => e = .returned (.bool true) ∧ Below w.heap.size w w' := by
  obtain ⟨b, rfl⟩ := seven_arg h0
  obtain ⟨A1, m1, c1, l1, rfl, a1, _, a3, a4, a5⟩ := bytes_in h1
  obtain ⟨A2, m2, c2, l2, rfl, b1, _, b3, b4, b5⟩ := bytes_in h2
  obtain ⟨A3, m3, c3, l3, rfl, d1, _, d3, d4, d5⟩ := bytes_in h3
  obtain ⟨n, hn, hn4, hn9⟩ := smallC_slots b
  obtain ⟨sz, hz, hs1, hs2⟩ := smallC_size b
  obtain ⟨c, hc⟩ : ∃ c, smallC b = c := ⟨_, rfl⟩
  rw [hc] at hn hz
  obtain ⟨e0, e1, re, wk, ke, va, po⟩ := c
  dsimp only at hn hz
  subst hn hz
  exact DualcopyAtomic_k b n sz re wk ke va po hc hn4 hn9 hs1 hs2 w A1 m1 c1 l1 a5 a1 a3 a4 A2 m2 c2 l2 b5 b1 b3 b4 A3 m3 c3 l3 d5 d1 d3 d4
end Go.Proofs.Ytnopljanpjmbgaa
