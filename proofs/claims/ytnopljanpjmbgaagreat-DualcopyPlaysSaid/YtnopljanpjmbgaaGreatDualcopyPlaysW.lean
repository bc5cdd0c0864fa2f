/-
  The walk of the law DualcopyPlays: it returns true and writes nothing that was there. No condition.
-/
import Derived.Test.YtnopljanpjmbgaaGreatMV
import Derived.Test.YtnopljanpjmbgaaGreatMQ
import Derived.Deep.CutBlock
import Derived.Deep.DeepCutAuto
import Derived.Deep.RegionHeld3
import Derived.Deep.RegionLaw
namespace Go.Proofs.YtnopljanpjmbgaaGreat
open Go.RowKit Go.Shelf Drum
set_option linter.unusedVariables false
theorem ps_swap {w0 W : World} {p q : Option Addr} {Y Z : Option DevD} {a b : Ob} {os : List Ob} (h : PS w0 W p q Y Z (a :: b :: os)) : PS w0 W p q Y Z (b :: a :: os) := by
  rcases h with ⟨h1, h2, h3, h4, hs⟩ | ⟨v, r, L, R, X, X', h1, h2, h3, h4, hX, hs⟩
  · exact .inl ⟨h1, h2, h3, h4, hs.perm (.swap _ _ _)⟩
  · exact .inr ⟨v, r, L, R, X, X', h1, h2, h3, h4, hX, hs.perm (.cons _ (.cons _ (.cons _ (.cons _ (.swap _ _ _)))))⟩
theorem dbuilt (s0 s1 s2 s3 s4 s5 s6 s7 : Int) : Tryz.prog.built 33 [(0, .int .i64 s0), (1, .agg #[.int .i64 s1, .int .i64 s2, .int .i64 s3, .int .i64 s4, .int .i64 s5, .int .i64 s6, .int .i64 s7])] = some #[.int .i64 s0, .int .i64 s1, .int .i64 s2, .int .i64 s3, .int .i64 s4, .int .i64 s5, .int .i64 s6, .int .i64 s7] := by
  kernel_rfl
set_option maxRecDepth 100000 in
set_option maxHeartbeats 32000000 in
theorem DualcopyPlays_k (nb : BitVec 8) (A : Option Addr) (n c : Nat) (sts : Nat → PStep) (w : World) (hst : PStepsAt w w.heap.size A n sts) (hn : n ≤ c) (hc : c ≤ maxLen) :
    Calls Tryz.prog 4 #[.int .u8 (n8 nb), .slice A n c] w fun e w' => e = .returned (.bool true) ∧ Below w.heap.size w w' := by
  have HST := Lib.hid hst
  unfold maxLen at hc
  obtain ⟨i0, j0⟩ := n8_bd nb
  obtain ⟨ns, hns⟩ : ∃ ns : Nat, ns = 2 + nb.toNat % 31 := ⟨_, rfl⟩
  obtain ⟨zm, hzm⟩ : ∃ zm : Int, n8 nb % 31 = zm := ⟨_, rfl⟩
  have hzn : 2 + zm = (ns : Int) := by rw [n8_nat] at hzm; omega
  have hz0 : 0 ≤ zm := by omega
  have hz1 : zm ≤ 30 := by omega
  have HZN : Hid (2 + zm = (ns : Int) ∧ 2 ≤ ns ∧ ns ≤ 32) := ⟨hzn, by omega, by omega⟩
  clear hst hns hzn
  by_cases h30 : 30 < n
  · go_enter Tryz.func4, Tryz.ntmps4
    go_wp2_with fail
    refine (works_any _).mono ?_
    rintro e w9 ⟨rfl, hb⟩
    have HB := Lib.hid (hb)
    clear hb
    go_wp2_with fail
    go_ret
    exact ⟨rfl, HB.out⟩
  · go_enter Tryz.func4, Tryz.ntmps4
    go_wp2_with fail
    refine (pnew1 _ ns HZN.out.2.1 HZN.out.2.2 (2 + zm) HZN.out.1).mono ?_
    rintro e w1 ⟨v, L, rfl, hs⟩
    have H1 := Lib.hid hs
    clear hs
    go_wp2_with fail
    refine (pnew2 ns HZN.out.2.1 HZN.out.2.2 (2 + zm) HZN.out.1 H1.out).mono ?_
    rintro e w2 ⟨r, rfl, hps⟩
    have HPS := Lib.hid hps
    clear hps H1
    go_wp2_with fail
    go_loopg [45] n (fun k v45 wr => ∃ (j : Nat) (X : DevD), j + k = n ∧ v45 = .int .i64 j ∧ X.ops ≤ 6 * j ∧ X.n = ns ∧ PS w wr (some ⟨v, 0, none⟩) (some ⟨r, 0, none⟩) (some X) (some X) ([]))
    case atStart => exact ⟨0, _, by omega, rfl, Nat.le_refl _, rfl, HPS.out⟩
    case round =>
      clear HPS
      obtain ⟨j, X, hj, rfl, hops, hnx, hps⟩ := hrel
      have HJ := Lib.hid hj
      have HPS := Lib.hid hps
      have HOPS := Lib.hid hops
      have HNX := Lib.hid hnx
      have hj' : j ≤ n := by omega
      have HOP : Hid (X.ops ≤ 100000) := by show _ ≤ _; omega
      clear hj hps hops hnx
      by_cases hlt : j < n
      · obtain ⟨ad, v10, hst0⟩ := HST.out j hlt
        have hst' := hst0.below HPS.out.bel
        obtain ⟨A4, n4, c4, rfl, e4, h41, h42, h43⟩ := hst0.ok.hv
        have hwf := hst0.ok.hc
        have hep := hst0.ok.he
        have hpo := hst0.ok.hp
        have c0_ := hst'.c0
        have c1_ := hst'.c1
        have c2_ := hst'.c2
        have c3_ := hst'.c3
        have c4_ := hst'.c4
        have c5_ := hst'.c5
        have c6_ := hst'.c6
        have c7_ := hst'.c7
        have c8_ := hst'.c8
        have c9_ := hst'.c9
        have c10_ := hst'.c10
        have c11_ := hst'.c11
        have c12_ := hst'.c12
        obtain rfl := hst0.a
        obtain ⟨st, hstv⟩ : ∃ st, sts j = st := ⟨_, rfl⟩
        rw [hstv] at c0_ c1_ c2_ c3_ c4_ c5_ c6_ c7_ c8_ c9_ c11_ c12_ e4 h43 hwf hep hpo
        obtain ⟨act, ⟨d1, d2, d3, d4, d5, d6, d7⟩, pol, ep, db, at_, kp⟩ := st
        have HV : Hid (Holds w (.slice A4 n4 c4) db) := ⟨A4, n4, c4, rfl, e4, h41, h42, h43⟩
        have HE4 : Hid (n4 = db.length) := e4
        have h42' : c4 ≤ 9223372036854775807 := h42
        dsimp only at c0_ c1_ c2_ c3_ c4_ c5_ c6_ c7_ c8_ c9_ c11_ c12_ hwf hep hpo
        have HWF : Hid (Cf.wf ⟨d1, d2, d3, d4, d5, d6, d7⟩) := hwf
        have HWB : Hid (Bk.wf ⟨ep, ⟨d1, d2, d3, d4, d5, d6, d7⟩⟩) := ⟨hep, hwf⟩
        obtain ⟨i1, j1⟩ := n8_bd act
        obtain ⟨i2, j2⟩ := n8_bd at_
        obtain ⟨i3, j3⟩ := n8_bd kp
        clear hst0 hst' e4 h43 hstv h42 hwf hep
        obtain ⟨bx, hbx⟩ : ∃ bx, bx = wr.heap.size := ⟨_, rfl⟩
        obtain ⟨wa, hwa⟩ : ∃ wa : World, wa = wr.alloc (.cells #[.int .u8 (n8 act), .int .i64 d1, .int .i64 d2, .int .i64 d3, .int .i64 d4, .int .i64 d5, .int .i64 d6, .int .i64 d7, .int .i64 pol, .int .i64 ep, .slice A4 n4 c4, .int .u8 (n8 at_), .int .u8 (n8 kp)] 54) := ⟨_, rfl⟩
        have H5 : Hid (PS w wa (some ⟨v, 0, none⟩) (some ⟨r, 0, none⟩) (some X) (some X) ([blkOb bx 54 #[.int .u8 (n8 act), .int .i64 d1, .int .i64 d2, .int .i64 d3, .int .i64 d4, .int .i64 d5, .int .i64 d6, .int .i64 d7, .int .i64 pol, .int .i64 ep, .slice A4 n4 c4, .int .u8 (n8 at_), .int .u8 (n8 kp)]])) := by
          show PS _ _ _ _ _ _ _
          rw [hwa]
          exact HPS.out.newBlk bx _ _ hbx
        have HC : Hid (AllCells [blkOb bx 54 #[.int .u8 (n8 act), .int .i64 d1, .int .i64 d2, .int .i64 d3, .int .i64 d4, .int .i64 d5, .int .i64 d6, .int .i64 d7, .int .i64 pol, .int .i64 ep, .slice A4 n4 c4, .int .u8 (n8 at_), .int .u8 (n8 kp)]]) := AllCells.cons (cellOb_blk _ _ _) AllCells.nil
        have HCEL : Hid (∀ W p q Y Z (os : List Ob), PS w W p q Y Z os → blkOb bx 54 #[.int .u8 (n8 act), .int .i64 d1, .int .i64 d2, .int .i64 d3, .int .i64 d4, .int .i64 d5, .int .i64 d6, .int .i64 d7, .int .i64 pol, .int .i64 ep, .slice A4 n4 c4, .int .u8 (n8 at_), .int .u8 (n8 kp)] ∈ os → W.cell? ⟨bx, 0, none⟩ = some (.int .u8 (n8 act)) ∧ W.cell? ⟨bx, 1, none⟩ = some (.int .i64 d1) ∧ W.cell? ⟨bx, 2, none⟩ = some (.int .i64 d2) ∧ W.cell? ⟨bx, 3, none⟩ = some (.int .i64 d3) ∧ W.cell? ⟨bx, 4, none⟩ = some (.int .i64 d4) ∧ W.cell? ⟨bx, 5, none⟩ = some (.int .i64 d5) ∧ W.cell? ⟨bx, 6, none⟩ = some (.int .i64 d6) ∧ W.cell? ⟨bx, 7, none⟩ = some (.int .i64 d7) ∧ W.cell? ⟨bx, 8, none⟩ = some (.int .i64 pol) ∧ W.cell? ⟨bx, 9, none⟩ = some (.int .i64 ep) ∧ W.cell? ⟨bx, 10, none⟩ = some (.slice A4 n4 c4) ∧ W.cell? ⟨bx, 11, none⟩ = some (.int .u8 (n8 at_)) ∧ W.cell? ⟨bx, 12, none⟩ = some (.int .u8 (n8 kp))) := fun W p q Y Z os h hm => by
          have hb : Blk W bx 54 #[.int .u8 (n8 act), .int .i64 d1, .int .i64 d2, .int .i64 d3, .int .i64 d4, .int .i64 d5, .int .i64 d6, .int .i64 d7, .int .i64 pol, .int .i64 ep, .slice A4 n4 c4, .int .u8 (n8 at_), .int .u8 (n8 kp)] := h.get hm
          exact ⟨hb.cell 0, hb.cell 1, hb.cell 2, hb.cell 3, hb.cell 4, hb.cell 5, hb.cell 6, hb.cell 7, hb.cell 8, hb.cell 9, hb.cell 10, hb.cell 11, hb.cell 12⟩
        go_upto_region 11 with fail
        rw [← hbx, ← hwa]
        clear hbx hwa HPS c0_ c1_ c2_ c3_ c4_ c5_ c6_ c7_ c8_ c9_ c10_ c11_ c12_
        obtain ⟨q0, q1, q2, q3, q4, q5, q6, q7, q8, q9, q10, q11, q12⟩ := HCEL.out _ _ _ _ _ _ H5.out (.head _)
        by_cases hb100 : 100 < n4
        · clear q0 q1 q2 q3 q4 q5 q6 q7 q8 q9 q11 q12
          go_wp2_with fail
          refine (works_any _).mono ?_
          rintro e w9 ⟨rfl, hb⟩
          have HB := Lib.hid (H5.out.bel.trans (hb.mono H5.out.bel.size))
          clear hb
          go_wp2_with fail
          go_ret
          exact ⟨rfl, HB.out⟩
        · have HDB : Hid (db.length ≤ 1000000) := by have := HE4.out; show db.length ≤ _; omega
          go_upto_block 2 with fail
          go_cut [12, 13, 56] (fun s12 s13 s56 wy => ∃ (er : Int) (X' : DevD), s12 = .int .i64 er ∧ s13 = .int .i64 er ∧ X'.ops ≤ X.ops + 6 ∧ X'.n = X.n ∧ PS w wy (some ⟨v, 0, none⟩) (some ⟨r, 0, none⟩) (some X') (some X') ([blkOb bx 54 #[.int .u8 (n8 act), .int .i64 d1, .int .i64 d2, .int .i64 d3, .int .i64 d4, .int .i64 d5, .int .i64 d6, .int .i64 d7, .int .i64 pol, .int .i64 ep, .slice A4 n4 c4, .int .u8 (n8 at_), .int .u8 (n8 kp)]]))
          case first =>
            have hk8 : n8 act % 8 = 0 ∨ n8 act % 8 = 1 ∨ n8 act % 8 = 2 ∨ n8 act % 8 = 3 ∨ n8 act % 8 = 4 ∨ n8 act % 8 = 5 ∨ n8 act % 8 = 6 ∨ n8 act % 8 = 7 := by omega
            rcases hk8 with ht | ht | ht | ht | ht | ht | ht | ht
            · as_aux_lemma =>
                clear q8 q9 q10 q11 q12
                obtain ⟨STA, hA⟩ : ∃ STA : World → Prop, STA = fun W => PS w W (some ⟨v, 0, none⟩) (some ⟨r, 0, none⟩) (some X) (some X) ([blkOb bx 54 #[.int .u8 (n8 act), .int .i64 d1, .int .i64 d2, .int .i64 d3, .int .i64 d4, .int .i64 d5, .int .i64 d6, .int .i64 d7, .int .i64 pol, .int .i64 ep, .slice A4 n4 c4, .int .u8 (n8 at_), .int .u8 (n8 kp)]]) := ⟨_, rfl⟩
                obtain ⟨STB, hB⟩ : ∃ STB : World → Prop, STB = fun W => PS w W (some ⟨v, 0, none⟩) (some ⟨r, 0, none⟩) (some ((beginX X ⟨d1, d2, d3, d4, d5, d6, d7⟩).2)) (some X) ([blkOb bx 54 #[.int .u8 (n8 act), .int .i64 d1, .int .i64 d2, .int .i64 d3, .int .i64 d4, .int .i64 d5, .int .i64 d6, .int .i64 d7, .int .i64 pol, .int .i64 ep, .slice A4 n4 c4, .int .u8 (n8 at_), .int .u8 (n8 kp)]]) := ⟨_, rfl⟩
                obtain ⟨STC, hC⟩ : ∃ STC : World → Prop, STC = fun W => PS w W (some ⟨v, 0, none⟩) (some ⟨r, 0, none⟩) (some ((beginX X ⟨d1, d2, d3, d4, d5, d6, d7⟩).2)) (some ((beginX X ⟨d1, d2, d3, d4, d5, d6, d7⟩).2)) ([blkOb bx 54 #[.int .u8 (n8 act), .int .i64 d1, .int .i64 d2, .int .i64 d3, .int .i64 d4, .int .i64 d5, .int .i64 d6, .int .i64 d7, .int .i64 pol, .int .i64 ep, .slice A4 n4 c4, .int .u8 (n8 at_), .int .u8 (n8 kp)]]) := ⟨_, rfl⟩
                have HC3 := Lib.hid hC
                obtain ⟨EE, hEE⟩ : ∃ EE, (beginX X ⟨d1, d2, d3, d4, d5, d6, d7⟩).1 = EE := ⟨_, rfl⟩
                have CA : Hid (∀ W, STA W → Calls Tryz.prog 18 #[.pointer (some ⟨v, 0, none⟩), .agg #[.int .i64 d1, .int .i64 d2, .int .i64 d3, .int .i64 d4, .int .i64 d5, .int .i64 d6, .int .i64 d7]] W fun e X' => e = .returned (.int .i64 EE) ∧ (X'.cell? ⟨bx, 1, none⟩ = some (.int .i64 d1) ∧ X'.cell? ⟨bx, 2, none⟩ = some (.int .i64 d2) ∧ X'.cell? ⟨bx, 3, none⟩ = some (.int .i64 d3) ∧ X'.cell? ⟨bx, 4, none⟩ = some (.int .i64 d4) ∧ X'.cell? ⟨bx, 5, none⟩ = some (.int .i64 d5) ∧ X'.cell? ⟨bx, 6, none⟩ = some (.int .i64 d6) ∧ X'.cell? ⟨bx, 7, none⟩ = some (.int .i64 d7)) ∧ STB X') := fun W h => by
                  rw [hA] at h
                  have h : PS w W (some ⟨v, 0, none⟩) (some ⟨r, 0, none⟩) (some X) (some X) ([blkOb bx 54 #[.int .u8 (n8 act), .int .i64 d1, .int .i64 d2, .int .i64 d3, .int .i64 d4, .int .i64 d5, .int .i64 d6, .int .i64 d7, .int .i64 pol, .int .i64 ep, .slice A4 n4 c4, .int .u8 (n8 at_), .int .u8 (n8 kp)]]) := h
                  skip
                  refine (pd_begin1 h HC.out HOP.out ⟨d1, d2, d3, d4, d5, d6, d7⟩ HWF.out).mono ?_
                  rintro e X' ⟨h1, h4⟩
                  · obtain ⟨z0, z1, z2, z3, z4, z5, z6, z7, z8, z9, z10, z11, z12⟩ := HCEL.out X' _ _ _ _ _ h4 (.head _)
                    exact ⟨by rw [← hEE]; exact h1, ⟨z1, z2, z3, z4, z5, z6, z7⟩, by rw [hB]; exact h4⟩
                have CB : Hid (∀ W, STB W → Calls Tryz.prog 19 #[.pointer (some ⟨r, 0, none⟩), .agg #[.int .i64 d1, .int .i64 d2, .int .i64 d3, .int .i64 d4, .int .i64 d5, .int .i64 d6, .int .i64 d7]] W fun e X' => e = .returned (.int .i64 EE) ∧ (X'.cell? ⟨bx, 1, none⟩ = some (.int .i64 d1) ∧ X'.cell? ⟨bx, 2, none⟩ = some (.int .i64 d2) ∧ X'.cell? ⟨bx, 3, none⟩ = some (.int .i64 d3) ∧ X'.cell? ⟨bx, 4, none⟩ = some (.int .i64 d4) ∧ X'.cell? ⟨bx, 5, none⟩ = some (.int .i64 d5) ∧ X'.cell? ⟨bx, 6, none⟩ = some (.int .i64 d6) ∧ X'.cell? ⟨bx, 7, none⟩ = some (.int .i64 d7)) ∧ STC X') := fun W h => by
                  rw [hB] at h
                  have h : PS w W (some ⟨v, 0, none⟩) (some ⟨r, 0, none⟩) (some ((beginX X ⟨d1, d2, d3, d4, d5, d6, d7⟩).2)) (some X) ([blkOb bx 54 #[.int .u8 (n8 act), .int .i64 d1, .int .i64 d2, .int .i64 d3, .int .i64 d4, .int .i64 d5, .int .i64 d6, .int .i64 d7, .int .i64 pol, .int .i64 ep, .slice A4 n4 c4, .int .u8 (n8 at_), .int .u8 (n8 kp)]]) := h
                  skip
                  refine (pd_begin2 h HOP.out ⟨d1, d2, d3, d4, d5, d6, d7⟩ HWF.out).mono ?_
                  rintro e X' ⟨h1, h4⟩
                  · obtain ⟨z0, z1, z2, z3, z4, z5, z6, z7, z8, z9, z10, z11, z12⟩ := HCEL.out X' _ _ _ _ _ h4 (.head _)
                    exact ⟨by rw [← hEE]; exact h1, ⟨z1, z2, z3, z4, z5, z6, z7⟩, by rw [hC]; exact h4⟩
                have sta0 : STA wa.drew := by rw [hA]; exact H5.out.below (show Below wa.heap.size wa wa.drew from (Below.refl _ _).drew)
                clear hA hB hC hEE
                go_wp2_with fail
                go_region_held3 (fun X' => X'.cell? ⟨bx, 1, none⟩ = some (.int .i64 d1) ∧ X'.cell? ⟨bx, 2, none⟩ = some (.int .i64 d2) ∧ X'.cell? ⟨bx, 3, none⟩ = some (.int .i64 d3) ∧ X'.cell? ⟨bx, 4, none⟩ = some (.int .i64 d4) ∧ X'.cell? ⟨bx, 5, none⟩ = some (.int .i64 d5) ∧ X'.cell? ⟨bx, 6, none⟩ = some (.int .i64 d6) ∧ X'.cell? ⟨bx, 7, none⟩ = some (.int .i64 d7)) ((repeat' apply And.intro) <;> first | assumption | go_keep)
                  (first
                    | (go_at_call 18; refine (CA.out _ (by assumption)).mono ?_; rintro e x4 ⟨rfl, ⟨k1, k2, k3, k4, k5, k6, k7⟩, stb⟩)
                    | (go_at_call 19; refine (CB.out _ (by assumption)).mono ?_; rintro e x5 ⟨rfl, ⟨l1, l2, l3, l4, l5, l6, l7⟩, stc⟩))
                all_goals
                  have hz := (by assumption : STC _)
                  rw [HC3.out] at hz
                  have HZ3 := Lib.hid hz
                  clear hz
                  clear q0 q1 q2 q3 q4 q5 q6 q7
                  go_wp2_with fail
                  go_meet
                  exact ⟨_, _, rfl, rfl, by have := beginX_ops X ⟨d1, d2, d3, d4, d5, d6, d7⟩; omega, (beginX_ops X ⟨d1, d2, d3, d4, d5, d6, d7⟩).2, HZ3.out⟩
            · as_aux_lemma =>
                clear q1 q2 q3 q4 q5 q6 q7 q9 q10 q11 q12
                obtain ⟨er, ⟨x0, x1, x2, x3, x4, x5, x6, x7⟩, Z, hadv⟩ : ∃ er b Z, advX X pol = (er, b, Z) := ⟨_, _, _, rfl⟩
                have hzo := advX_ops X pol
                rw [hadv] at hzo
                have HZO : Hid (Z.ops ≤ X.ops + 3 ∧ Z.n = X.n) := hzo
                have CA : Hid (Calls Tryz.prog 10 #[.pointer (some ⟨v, 0, none⟩), .int .i64 pol] wa fun e w' => e = .returned (.tuple #[.agg #[.int .i64 x0, .int .i64 x1, .int .i64 x2, .int .i64 x3, .int .i64 x4, .int .i64 x5, .int .i64 x6, .int .i64 x7], .int .i64 er]) ∧ PS w w' (some ⟨v, 0, none⟩) (some ⟨r, 0, none⟩) (some Z) (some X) ([blkOb bx 54 #[.int .u8 (n8 act), .int .i64 d1, .int .i64 d2, .int .i64 d3, .int .i64 d4, .int .i64 d5, .int .i64 d6, .int .i64 d7, .int .i64 pol, .int .i64 ep, .slice A4 n4 c4, .int .u8 (n8 at_), .int .u8 (n8 kp)]])) := by
                  have := pd_adv1 H5.out HC.out HOP.out pol
                  rw [hadv] at this
                  exact this
                have CB : Hid (∀ W (os : List Ob), PS w W (some ⟨v, 0, none⟩) (some ⟨r, 0, none⟩) (some Z) (some X) (os) → Calls Tryz.prog 20 #[.pointer (some ⟨r, 0, none⟩), .int .i64 pol] W fun e w' => e = .returned (.tuple #[.agg #[.int .i64 x0, .int .i64 x1, .int .i64 x2, .int .i64 x3, .int .i64 x4, .int .i64 x5, .int .i64 x6, .int .i64 x7], .int .i64 er]) ∧ PS w w' (some ⟨v, 0, none⟩) (some ⟨r, 0, none⟩) (some Z) (some Z) (os)) := fun W os hW => by
                  have := pd_adv2 hW HOP.out pol
                  rw [hadv] at this
                  exact this
                clear hadv hzo
                go_wp2_with fail
                refine CA.out.mono ?_
                rintro e w4 ⟨rfl, h4⟩
                obtain ⟨g14, hg14⟩ : ∃ g14, g14 = w4.heap.size := ⟨_, rfl⟩
                obtain ⟨W14, hW14⟩ : ∃ W14 : World, W14 = w4.alloc (.cells #[.int .i64 x0, .int .i64 x1, .int .i64 x2, .int .i64 x3, .int .i64 x4, .int .i64 x5, .int .i64 x6, .int .i64 x7] 33) := ⟨_, rfl⟩
                have H14 : Hid (PS w W14 (some ⟨v, 0, none⟩) (some ⟨r, 0, none⟩) (some Z) (some X) ([blkOb g14 33 #[.int .i64 x0, .int .i64 x1, .int .i64 x2, .int .i64 x3, .int .i64 x4, .int .i64 x5, .int .i64 x6, .int .i64 x7], blkOb bx 54 #[.int .u8 (n8 act), .int .i64 d1, .int .i64 d2, .int .i64 d3, .int .i64 d4, .int .i64 d5, .int .i64 d6, .int .i64 d7, .int .i64 pol, .int .i64 ep, .slice A4 n4 c4, .int .u8 (n8 at_), .int .u8 (n8 kp)]])) := by
                  show PS _ _ _ _ _ _ _
                  rw [hW14]
                  exact h4.newBlk g14 _ _ hg14
                clear h4 CA q0 q8
                go_upto_region 20 with fail
                rw [← hg14, ← hW14]
                clear hg14 hW14
                obtain ⟨-, -, -, -, -, -, -, -, q8, -, -, -, -⟩ := HCEL.out _ _ _ _ _ _ H14.out (.tail _ (.head _))
                go_wp2_with fail
                refine (CB.out _ _ H14.out).mono ?_
                rintro e w5 ⟨rfl, h5⟩
                obtain ⟨g16, hg16⟩ : ∃ g16, g16 = w5.heap.size := ⟨_, rfl⟩
                obtain ⟨W16, hW16⟩ : ∃ W16 : World, W16 = w5.alloc (.cells #[.int .i64 x0, .int .i64 x1, .int .i64 x2, .int .i64 x3, .int .i64 x4, .int .i64 x5, .int .i64 x6, .int .i64 x7] 57) := ⟨_, rfl⟩
                have H16 : Hid (PS w W16 (some ⟨v, 0, none⟩) (some ⟨r, 0, none⟩) (some Z) (some Z) ([blkOb g16 57 #[.int .i64 x0, .int .i64 x1, .int .i64 x2, .int .i64 x3, .int .i64 x4, .int .i64 x5, .int .i64 x6, .int .i64 x7], blkOb g14 33 #[.int .i64 x0, .int .i64 x1, .int .i64 x2, .int .i64 x3, .int .i64 x4, .int .i64 x5, .int .i64 x6, .int .i64 x7], blkOb bx 54 #[.int .u8 (n8 act), .int .i64 d1, .int .i64 d2, .int .i64 d3, .int .i64 d4, .int .i64 d5, .int .i64 d6, .int .i64 d7, .int .i64 pol, .int .i64 ep, .slice A4 n4 c4, .int .u8 (n8 at_), .int .u8 (n8 kp)]])) := by
                  show PS _ _ _ _ _ _ _
                  rw [hW16]
                  exact h5.newBlk g16 _ _ hg16
                clear h5 CB q8
                go_upto_region 21 with fail
                rw [← hg16, ← hW16]
                clear hg16 hW16
                have k16 : Blk W16 g16 57 #[.int .i64 x0, .int .i64 x1, .int .i64 x2, .int .i64 x3, .int .i64 x4, .int .i64 x5, .int .i64 x6, .int .i64 x7] := H16.out.get (.head _)
                have k14 : Blk W16 g14 33 #[.int .i64 x0, .int .i64 x1, .int .i64 x2, .int .i64 x3, .int .i64 x4, .int .i64 x5, .int .i64 x6, .int .i64 x7] := H16.out.get (.tail _ (.head _))
                have u0 : W16.cell? ⟨g16, 0, none⟩ = some (.int .i64 x0) := k16.cell 0
                have t0 : W16.cell? ⟨g14, 0, none⟩ = some (.int .i64 x0) := k14.cell 0
                have u1 : W16.cell? ⟨g16, 1, none⟩ = some (.int .i64 x1) := k16.cell 1
                have t1 : W16.cell? ⟨g14, 1, none⟩ = some (.int .i64 x1) := k14.cell 1
                have u2 : W16.cell? ⟨g16, 2, none⟩ = some (.int .i64 x2) := k16.cell 2
                have t2 : W16.cell? ⟨g14, 2, none⟩ = some (.int .i64 x2) := k14.cell 2
                have u3 : W16.cell? ⟨g16, 3, none⟩ = some (.int .i64 x3) := k16.cell 3
                have t3 : W16.cell? ⟨g14, 3, none⟩ = some (.int .i64 x3) := k14.cell 3
                have u4 : W16.cell? ⟨g16, 4, none⟩ = some (.int .i64 x4) := k16.cell 4
                have t4 : W16.cell? ⟨g14, 4, none⟩ = some (.int .i64 x4) := k14.cell 4
                have u5 : W16.cell? ⟨g16, 5, none⟩ = some (.int .i64 x5) := k16.cell 5
                have t5 : W16.cell? ⟨g14, 5, none⟩ = some (.int .i64 x5) := k14.cell 5
                have u6 : W16.cell? ⟨g16, 6, none⟩ = some (.int .i64 x6) := k16.cell 6
                have t6 : W16.cell? ⟨g14, 6, none⟩ = some (.int .i64 x6) := k14.cell 6
                have u7 : W16.cell? ⟨g16, 7, none⟩ = some (.int .i64 x7) := k16.cell 7
                have t7 : W16.cell? ⟨g14, 7, none⟩ = some (.int .i64 x7) := k14.cell 7
                clear k16 k14
                go_wp2_with fail
                go_meet
                exact ⟨er, Z, rfl, rfl, by have := HZO.out; omega, HZO.out.2, H16.out.drop.drop⟩
            · as_aux_lemma =>
                clear q1 q2 q3 q4 q5 q6 q7 q9 q10 q11 q12
                obtain ⟨er, ⟨x0, x1, x2, x3, x4, x5, x6, x7⟩, Z, hadv⟩ : ∃ er b Z, advX X pol = (er, b, Z) := ⟨_, _, _, rfl⟩
                have hzo := advX_ops X pol
                rw [hadv] at hzo
                have HZO : Hid (Z.ops ≤ X.ops + 3 ∧ Z.n = X.n) := hzo
                have CA : Hid (Calls Tryz.prog 10 #[.pointer (some ⟨v, 0, none⟩), .int .i64 pol] wa fun e w' => e = .returned (.tuple #[.agg #[.int .i64 x0, .int .i64 x1, .int .i64 x2, .int .i64 x3, .int .i64 x4, .int .i64 x5, .int .i64 x6, .int .i64 x7], .int .i64 er]) ∧ PS w w' (some ⟨v, 0, none⟩) (some ⟨r, 0, none⟩) (some Z) (some X) ([blkOb bx 54 #[.int .u8 (n8 act), .int .i64 d1, .int .i64 d2, .int .i64 d3, .int .i64 d4, .int .i64 d5, .int .i64 d6, .int .i64 d7, .int .i64 pol, .int .i64 ep, .slice A4 n4 c4, .int .u8 (n8 at_), .int .u8 (n8 kp)]])) := by
                  have := pd_adv1 H5.out HC.out HOP.out pol
                  rw [hadv] at this
                  exact this
                have CB : Hid (∀ W (os : List Ob), PS w W (some ⟨v, 0, none⟩) (some ⟨r, 0, none⟩) (some Z) (some X) (os) → Calls Tryz.prog 20 #[.pointer (some ⟨r, 0, none⟩), .int .i64 pol] W fun e w' => e = .returned (.tuple #[.agg #[.int .i64 x0, .int .i64 x1, .int .i64 x2, .int .i64 x3, .int .i64 x4, .int .i64 x5, .int .i64 x6, .int .i64 x7], .int .i64 er]) ∧ PS w w' (some ⟨v, 0, none⟩) (some ⟨r, 0, none⟩) (some Z) (some Z) (os)) := fun W os hW => by
                  have := pd_adv2 hW HOP.out pol
                  rw [hadv] at this
                  exact this
                clear hadv hzo
                go_wp2_with fail
                refine CA.out.mono ?_
                rintro e w4 ⟨rfl, h4⟩
                obtain ⟨g14, hg14⟩ : ∃ g14, g14 = w4.heap.size := ⟨_, rfl⟩
                obtain ⟨W14, hW14⟩ : ∃ W14 : World, W14 = w4.alloc (.cells #[.int .i64 x0, .int .i64 x1, .int .i64 x2, .int .i64 x3, .int .i64 x4, .int .i64 x5, .int .i64 x6, .int .i64 x7] 33) := ⟨_, rfl⟩
                have H14 : Hid (PS w W14 (some ⟨v, 0, none⟩) (some ⟨r, 0, none⟩) (some Z) (some X) ([blkOb g14 33 #[.int .i64 x0, .int .i64 x1, .int .i64 x2, .int .i64 x3, .int .i64 x4, .int .i64 x5, .int .i64 x6, .int .i64 x7], blkOb bx 54 #[.int .u8 (n8 act), .int .i64 d1, .int .i64 d2, .int .i64 d3, .int .i64 d4, .int .i64 d5, .int .i64 d6, .int .i64 d7, .int .i64 pol, .int .i64 ep, .slice A4 n4 c4, .int .u8 (n8 at_), .int .u8 (n8 kp)]])) := by
                  show PS _ _ _ _ _ _ _
                  rw [hW14]
                  exact h4.newBlk g14 _ _ hg14
                clear h4 CA q0 q8
                go_upto_region 20 with fail
                rw [← hg14, ← hW14]
                clear hg14 hW14
                obtain ⟨-, -, -, -, -, -, -, -, q8, -, -, -, -⟩ := HCEL.out _ _ _ _ _ _ H14.out (.tail _ (.head _))
                go_wp2_with fail
                refine (CB.out _ _ H14.out).mono ?_
                rintro e w5 ⟨rfl, h5⟩
                obtain ⟨g16, hg16⟩ : ∃ g16, g16 = w5.heap.size := ⟨_, rfl⟩
                obtain ⟨W16, hW16⟩ : ∃ W16 : World, W16 = w5.alloc (.cells #[.int .i64 x0, .int .i64 x1, .int .i64 x2, .int .i64 x3, .int .i64 x4, .int .i64 x5, .int .i64 x6, .int .i64 x7] 57) := ⟨_, rfl⟩
                have H16 : Hid (PS w W16 (some ⟨v, 0, none⟩) (some ⟨r, 0, none⟩) (some Z) (some Z) ([blkOb g16 57 #[.int .i64 x0, .int .i64 x1, .int .i64 x2, .int .i64 x3, .int .i64 x4, .int .i64 x5, .int .i64 x6, .int .i64 x7], blkOb g14 33 #[.int .i64 x0, .int .i64 x1, .int .i64 x2, .int .i64 x3, .int .i64 x4, .int .i64 x5, .int .i64 x6, .int .i64 x7], blkOb bx 54 #[.int .u8 (n8 act), .int .i64 d1, .int .i64 d2, .int .i64 d3, .int .i64 d4, .int .i64 d5, .int .i64 d6, .int .i64 d7, .int .i64 pol, .int .i64 ep, .slice A4 n4 c4, .int .u8 (n8 at_), .int .u8 (n8 kp)]])) := by
                  show PS _ _ _ _ _ _ _
                  rw [hW16]
                  exact h5.newBlk g16 _ _ hg16
                clear h5 CB q8
                go_upto_region 21 with fail
                rw [← hg16, ← hW16]
                clear hg16 hW16
                have k16 : Blk W16 g16 57 #[.int .i64 x0, .int .i64 x1, .int .i64 x2, .int .i64 x3, .int .i64 x4, .int .i64 x5, .int .i64 x6, .int .i64 x7] := H16.out.get (.head _)
                have k14 : Blk W16 g14 33 #[.int .i64 x0, .int .i64 x1, .int .i64 x2, .int .i64 x3, .int .i64 x4, .int .i64 x5, .int .i64 x6, .int .i64 x7] := H16.out.get (.tail _ (.head _))
                have u0 : W16.cell? ⟨g16, 0, none⟩ = some (.int .i64 x0) := k16.cell 0
                have t0 : W16.cell? ⟨g14, 0, none⟩ = some (.int .i64 x0) := k14.cell 0
                have u1 : W16.cell? ⟨g16, 1, none⟩ = some (.int .i64 x1) := k16.cell 1
                have t1 : W16.cell? ⟨g14, 1, none⟩ = some (.int .i64 x1) := k14.cell 1
                have u2 : W16.cell? ⟨g16, 2, none⟩ = some (.int .i64 x2) := k16.cell 2
                have t2 : W16.cell? ⟨g14, 2, none⟩ = some (.int .i64 x2) := k14.cell 2
                have u3 : W16.cell? ⟨g16, 3, none⟩ = some (.int .i64 x3) := k16.cell 3
                have t3 : W16.cell? ⟨g14, 3, none⟩ = some (.int .i64 x3) := k14.cell 3
                have u4 : W16.cell? ⟨g16, 4, none⟩ = some (.int .i64 x4) := k16.cell 4
                have t4 : W16.cell? ⟨g14, 4, none⟩ = some (.int .i64 x4) := k14.cell 4
                have u5 : W16.cell? ⟨g16, 5, none⟩ = some (.int .i64 x5) := k16.cell 5
                have t5 : W16.cell? ⟨g14, 5, none⟩ = some (.int .i64 x5) := k14.cell 5
                have u6 : W16.cell? ⟨g16, 6, none⟩ = some (.int .i64 x6) := k16.cell 6
                have t6 : W16.cell? ⟨g14, 6, none⟩ = some (.int .i64 x6) := k14.cell 6
                have u7 : W16.cell? ⟨g16, 7, none⟩ = some (.int .i64 x7) := k16.cell 7
                have t7 : W16.cell? ⟨g14, 7, none⟩ = some (.int .i64 x7) := k14.cell 7
                clear k16 k14
                go_wp2_with fail
                go_meet
                exact ⟨er, Z, rfl, rfl, by have := HZO.out; omega, HZO.out.2, H16.out.drop.drop⟩
            · as_aux_lemma =>
                clear q8 q10 q11 q12
                have hzo := writeX_ops X ⟨ep, ⟨d1, d2, d3, d4, d5, d6, d7⟩⟩
                obtain ⟨er, Z, hwr⟩ : ∃ er Z, writeX X ⟨ep, ⟨d1, d2, d3, d4, d5, d6, d7⟩⟩ = (er, Z) := ⟨_, _, rfl⟩
                rw [hwr] at hzo
                have HZO : Hid (Z.ops ≤ X.ops + 3 ∧ Z.n = X.n) := hzo
                have CA : Hid (Calls Tryz.prog 21 #[.pointer (some ⟨v, 0, none⟩), .agg #[.int .i64 ep, .int .i64 d1, .int .i64 d2, .int .i64 d3, .int .i64 d4, .int .i64 d5, .int .i64 d6, .int .i64 d7]] wa fun e w' => e = .returned (.int .i64 er) ∧ PS w w' (some ⟨v, 0, none⟩) (some ⟨r, 0, none⟩) (some Z) (some X) ([blkOb bx 54 #[.int .u8 (n8 act), .int .i64 d1, .int .i64 d2, .int .i64 d3, .int .i64 d4, .int .i64 d5, .int .i64 d6, .int .i64 d7, .int .i64 pol, .int .i64 ep, .slice A4 n4 c4, .int .u8 (n8 at_), .int .u8 (n8 kp)]])) := by
                  have := pd_write1 H5.out HC.out HOP.out ⟨ep, ⟨d1, d2, d3, d4, d5, d6, d7⟩⟩ HWB.out
                  rw [hwr] at this
                  exact this
                have CB : Hid (∀ W, PS w W (some ⟨v, 0, none⟩) (some ⟨r, 0, none⟩) (some Z) (some X) ([blkOb bx 54 #[.int .u8 (n8 act), .int .i64 d1, .int .i64 d2, .int .i64 d3, .int .i64 d4, .int .i64 d5, .int .i64 d6, .int .i64 d7, .int .i64 pol, .int .i64 ep, .slice A4 n4 c4, .int .u8 (n8 at_), .int .u8 (n8 kp)]]) → Calls Tryz.prog 22 #[.pointer (some ⟨r, 0, none⟩), .agg #[.int .i64 ep, .int .i64 d1, .int .i64 d2, .int .i64 d3, .int .i64 d4, .int .i64 d5, .int .i64 d6, .int .i64 d7]] W fun e w' => e = .returned (.int .i64 er) ∧ PS w w' (some ⟨v, 0, none⟩) (some ⟨r, 0, none⟩) (some Z) (some Z) ([blkOb bx 54 #[.int .u8 (n8 act), .int .i64 d1, .int .i64 d2, .int .i64 d3, .int .i64 d4, .int .i64 d5, .int .i64 d6, .int .i64 d7, .int .i64 pol, .int .i64 ep, .slice A4 n4 c4, .int .u8 (n8 at_), .int .u8 (n8 kp)]])) := fun W hW => by
                  have := pd_write2 hW HOP.out ⟨ep, ⟨d1, d2, d3, d4, d5, d6, d7⟩⟩ HWB.out
                  rw [hwr] at this
                  exact this
                clear hwr hzo
                go_wp2_with (first | (refine wpList_buildC rfl 33 _ _ _ _ rfl _ _ rfl rfl _ (dbuilt _ _ _ _ _ _ _ _) ?_) | (refine wpList_buildC rfl 57 _ _ _ _ rfl _ _ rfl rfl _ (rbuilt _ _ _ _ _ _ _ _) ?_))
                refine CA.out.mono ?_
                rintro e w4 ⟨rfl, h4⟩
                have H4 := Lib.hid h4
                clear h4 CA q0 q1 q2 q3 q4 q5 q6 q7 q9
                obtain ⟨-, q1, q2, q3, q4, q5, q6, q7, -, q9, -, -, -⟩ := HCEL.out _ _ _ _ _ _ H4.out (.head _)
                go_wp2_with (first | (refine wpList_buildC rfl 33 _ _ _ _ rfl _ _ rfl rfl _ (dbuilt _ _ _ _ _ _ _ _) ?_) | (refine wpList_buildC rfl 57 _ _ _ _ rfl _ _ rfl rfl _ (rbuilt _ _ _ _ _ _ _ _) ?_))
                refine (CB.out _ H4.out).mono ?_
                rintro e w5 ⟨rfl, h5⟩
                have H6 := Lib.hid h5
                clear h5 CB q1 q2 q3 q4 q5 q6 q7 q9
                go_wp2_with fail
                go_meet
                exact ⟨er, Z, rfl, rfl, by have := HZO.out; omega, HZO.out.2, H6.out⟩
            · as_aux_lemma =>
                clear q1 q2 q3 q4 q5 q6 q7 q8 q9 q12
                obtain ⟨a2, hat2⟩ : ∃ a2 : Int, n8 at_ % 2 = a2 := ⟨_, rfl⟩
                have ha0 : 0 ≤ a2 := by omega
                have ha1 : a2 ≤ 1 := by omega
                have hat2t : Int.tmod (n8 at_) 2 = a2 := by rw [Int.tmod_eq_emod_of_nonneg i2]; exact hat2
                have hwa : IntKind.i64.wrap a2 = a2 := by rw [IntKind.wrap_i64]; omega
                have hwz : IntKind.i64.wrap (2 + zm + a2) = 2 + zm + a2 := by rw [IntKind.wrap_i64]; omega
                obtain ⟨zz, hzz⟩ : ∃ zz : Int, 2 + zm + a2 = zz := ⟨_, rfl⟩
                have HZZ := Lib.hid hzz
                obtain ⟨STA, hA⟩ : ∃ STA : World → Prop, STA = fun W => PS w W (some ⟨v, 0, none⟩) (some ⟨r, 0, none⟩) (some X) (some X) ([blkOb bx 54 #[.int .u8 (n8 act), .int .i64 d1, .int .i64 d2, .int .i64 d3, .int .i64 d4, .int .i64 d5, .int .i64 d6, .int .i64 d7, .int .i64 pol, .int .i64 ep, .slice A4 n4 c4, .int .u8 (n8 at_), .int .u8 (n8 kp)]]) := ⟨_, rfl⟩
                obtain ⟨STB, hB⟩ : ∃ STB : World → Prop, STB = fun W => PS w W (some ⟨v, 0, none⟩) (some ⟨r, 0, none⟩) (some (appVX X zz db)) (some X) ([blkOb bx 54 #[.int .u8 (n8 act), .int .i64 d1, .int .i64 d2, .int .i64 d3, .int .i64 d4, .int .i64 d5, .int .i64 d6, .int .i64 d7, .int .i64 pol, .int .i64 ep, .slice A4 n4 c4, .int .u8 (n8 at_), .int .u8 (n8 kp)]]) := ⟨_, rfl⟩
                obtain ⟨STC, hC⟩ : ∃ STC : World → Prop, STC = fun W => PS w W (some ⟨v, 0, none⟩) (some ⟨r, 0, none⟩) (some (appVX X zz db)) (some (appVX X zz db)) ([blkOb bx 54 #[.int .u8 (n8 act), .int .i64 d1, .int .i64 d2, .int .i64 d3, .int .i64 d4, .int .i64 d5, .int .i64 d6, .int .i64 d7, .int .i64 pol, .int .i64 ep, .slice A4 n4 c4, .int .u8 (n8 at_), .int .u8 (n8 kp)]]) := ⟨_, rfl⟩
                have HC3 := Lib.hid hC
                obtain ⟨EE, hEE⟩ : ∃ EE, appVE X zz db = EE := ⟨_, rfl⟩
                have CA : Hid (∀ W, STA W → ∀ (z : Int), z = zz → Calls Tryz.prog 7 #[.pointer (some ⟨v, 0, none⟩), .int .i64 z, .slice A4 n4 c4] W fun e X' => e = .returned (.int .i64 EE) ∧ (X'.cell? ⟨bx, 10, none⟩ = some (.slice A4 n4 c4) ∧ X'.cell? ⟨bx, 11, none⟩ = some (.int .u8 (n8 at_))) ∧ STB X') := fun W h z hz => by
                  rw [hA] at h
                  have h : PS w W (some ⟨v, 0, none⟩) (some ⟨r, 0, none⟩) (some X) (some X) ([blkOb bx 54 #[.int .u8 (n8 act), .int .i64 d1, .int .i64 d2, .int .i64 d3, .int .i64 d4, .int .i64 d5, .int .i64 d6, .int .i64 d7, .int .i64 pol, .int .i64 ep, .slice A4 n4 c4, .int .u8 (n8 at_), .int .u8 (n8 kp)]]) := h
                  rw [hz]
                  refine (ps_append1 h HC.out (by have := HOP.out; show X.ops < _; omega) zz HV.out HDB.out).mono ?_
                  rintro e X' ⟨h1, h4⟩
                  · obtain ⟨z0, z1, z2, z3, z4, z5, z6, z7, z8, z9, z10, z11, z12⟩ := HCEL.out X' _ _ _ _ _ h4 (.head _)
                    exact ⟨by rw [← hEE]; exact h1, ⟨z10, z11⟩, by rw [hB]; exact h4⟩
                have CB : Hid (∀ W, STB W → ∀ (z : Int), z = zz → Calls Tryz.prog 23 #[.pointer (some ⟨r, 0, none⟩), .int .i64 z, .slice A4 n4 c4] W fun e X' => e = .returned (.int .i64 EE) ∧ (X'.cell? ⟨bx, 10, none⟩ = some (.slice A4 n4 c4) ∧ X'.cell? ⟨bx, 11, none⟩ = some (.int .u8 (n8 at_))) ∧ STC X') := fun W h z hz => by
                  rw [hB] at h
                  have h : PS w W (some ⟨v, 0, none⟩) (some ⟨r, 0, none⟩) (some (appVX X zz db)) (some X) ([blkOb bx 54 #[.int .u8 (n8 act), .int .i64 d1, .int .i64 d2, .int .i64 d3, .int .i64 d4, .int .i64 d5, .int .i64 d6, .int .i64 d7, .int .i64 pol, .int .i64 ep, .slice A4 n4 c4, .int .u8 (n8 at_), .int .u8 (n8 kp)]]) := h
                  rw [hz]
                  refine (ps_append2 h (by have := HOP.out; show X.ops < _; omega) zz HV.out HDB.out).mono ?_
                  rintro e X' ⟨h1, h4⟩
                  · obtain ⟨z0, z1, z2, z3, z4, z5, z6, z7, z8, z9, z10, z11, z12⟩ := HCEL.out X' _ _ _ _ _ h4 (.head _)
                    exact ⟨by rw [← hEE]; exact h1, ⟨z10, z11⟩, by rw [hC]; exact h4⟩
                have sta0 : STA wa.drew := by rw [hA]; exact H5.out.below (show Below wa.heap.size wa wa.drew from (Below.refl _ _).drew)
                clear hzz
                clear hA hB hC hEE
                go_wp2_with fail
                go_region_held3 (fun X' => X'.cell? ⟨bx, 10, none⟩ = some (.slice A4 n4 c4) ∧ X'.cell? ⟨bx, 11, none⟩ = some (.int .u8 (n8 at_))) ((repeat' apply And.intro) <;> first | assumption | go_keep)
                  (first
                    | (go_at_call 7; refine (CA.out _ (by assumption) _ (by first | with_reducible exact HZZ.out | with_reducible rfl | (rw [hwz]; with_reducible exact HZZ.out) | (simp only [hat2, hat2t, hwa, hwz]; with_reducible exact HZZ.out))).mono ?_; rintro e x4 ⟨rfl, ⟨k10, k11⟩, stb⟩)
                    | (go_at_call 23; refine (CB.out _ (by assumption) _ (by first | with_reducible exact HZZ.out | with_reducible rfl | (rw [hwz]; with_reducible exact HZZ.out) | (simp only [hat2, hat2t, hwa, hwz]; with_reducible exact HZZ.out))).mono ?_; rintro e x5 ⟨rfl, ⟨l10, l11⟩, stc⟩))
                all_goals
                  have hz := (by assumption : STC _)
                  rw [HC3.out] at hz
                  have HZ3 := Lib.hid hz
                  clear hz
                  clear q0 q10 q11
                  go_wp2_with fail
                  go_meet
                  exact ⟨_, _, rfl, rfl, by have := appVX_ops X zz db; omega, appVX_n X zz db, HZ3.out⟩
            · as_aux_lemma =>
                clear q1 q2 q3 q4 q5 q6 q7 q9 q10
                obtain ⟨dn, hdn⟩ : ∃ dn : Bool, (Int.tmod pol 2 == 0) = dn := ⟨_, rfl⟩
                have hpo1 := hpo.1
                have hpo2 := hpo.2
                obtain ⟨bg, hbg⟩ : ∃ bg, bg = wa.heap.size := ⟨_, rfl⟩
                obtain ⟨W7, hW7⟩ : ∃ W7 : World, W7 = wa.alloc (.cells #[.int .i64 (n8 kp)] 3) := ⟨_, rfl⟩
                have H7 : Hid (PS w W7 (some ⟨v, 0, none⟩) (some ⟨r, 0, none⟩) (some X) (some X) ([blkOb bg 3 #[.int .i64 (n8 kp)], blkOb bx 54 #[.int .u8 (n8 act), .int .i64 d1, .int .i64 d2, .int .i64 d3, .int .i64 d4, .int .i64 d5, .int .i64 d6, .int .i64 d7, .int .i64 pol, .int .i64 ep, .slice A4 n4 c4, .int .u8 (n8 at_), .int .u8 (n8 kp)]])) := by
                  show PS _ _ _ _ _ _ _
                  rw [hW7]
                  exact H5.out.newBlk bg _ _ hbg
                obtain ⟨g18, hg18⟩ : ∃ g18, g18 = W7.heap.size := ⟨_, rfl⟩
                obtain ⟨W8, hW8⟩ : ∃ W8 : World, W8 = W7.alloc (.cells #[.int .i64 (n8 at_), .bool dn, .slice (some ⟨bg, 0, none⟩) 1 1] 64) := ⟨_, rfl⟩
                have H8 : Hid (PS w W8 (some ⟨v, 0, none⟩) (some ⟨r, 0, none⟩) (some X) (some X) ([blkOb bg 3 #[.int .i64 (n8 kp)], blkOb g18 64 #[.int .i64 (n8 at_), .bool dn, .slice (some ⟨bg, 0, none⟩) 1 1], blkOb bx 54 #[.int .u8 (n8 act), .int .i64 d1, .int .i64 d2, .int .i64 d3, .int .i64 d4, .int .i64 d5, .int .i64 d6, .int .i64 d7, .int .i64 pol, .int .i64 ep, .slice A4 n4 c4, .int .u8 (n8 at_), .int .u8 (n8 kp)]])) := by
                  show PS _ _ _ _ _ _ _
                  rw [hW8]
                  exact ps_swap (H7.out.newBlk g18 _ _ hg18)
                go_upto_region 31 with fail
                have hg18b : bg + 1 = g18 := by rw [hg18, hW7, hbg]; first | rfl | simp
                rw [← hbg, ← hW7, hg18b, ← hW8]
                clear hbg hW7 hg18 hg18b hW8 q0 q8 q11 q12
                have kg : Blk W8 g18 64 #[.int .i64 (n8 at_), .bool dn, .slice (some ⟨bg, 0, none⟩) 1 1] := H8.out.get (.tail _ (.head _))
                have q0 := kg.cell 0
                have q1 := kg.cell 1
                have q2 := kg.cell 2
                clear kg
                have HC5 : Hid (AllCells [blkOb g18 64 #[.int .i64 (n8 at_), .bool dn, .slice (some ⟨bg, 0, none⟩) 1 1], blkOb bx 54 #[.int .u8 (n8 act), .int .i64 d1, .int .i64 d2, .int .i64 d3, .int .i64 d4, .int .i64 d5, .int .i64 d6, .int .i64 d7, .int .i64 pol, .int .i64 ep, .slice A4 n4 c4, .int .u8 (n8 at_), .int .u8 (n8 kp)]]) := AllCells.cons (cellOb_blk _ _ _) (AllCells.cons (cellOb_blk _ _ _) AllCells.nil)
                obtain ⟨STA, hA⟩ : ∃ STA : World → Prop, STA = fun W => PS w W (some ⟨v, 0, none⟩) (some ⟨r, 0, none⟩) (some X) (some X) ([blkOb bg 3 #[.int .i64 (n8 kp)], blkOb g18 64 #[.int .i64 (n8 at_), .bool dn, .slice (some ⟨bg, 0, none⟩) 1 1], blkOb bx 54 #[.int .u8 (n8 act), .int .i64 d1, .int .i64 d2, .int .i64 d3, .int .i64 d4, .int .i64 d5, .int .i64 d6, .int .i64 d7, .int .i64 pol, .int .i64 ep, .slice A4 n4 c4, .int .u8 (n8 at_), .int .u8 (n8 kp)]]) := ⟨_, rfl⟩
                obtain ⟨STB, hB⟩ : ∃ STB : World → Prop, STB = fun W => PS w W (some ⟨v, 0, none⟩) (some ⟨r, 0, none⟩) (some (armX X (n8 at_) dn [n8 kp])) (some X) ([blkOb bg 3 #[.int .i64 (n8 kp)], blkOb g18 64 #[.int .i64 (n8 at_), .bool dn, .slice (some ⟨bg, 0, none⟩) 1 1], blkOb bx 54 #[.int .u8 (n8 act), .int .i64 d1, .int .i64 d2, .int .i64 d3, .int .i64 d4, .int .i64 d5, .int .i64 d6, .int .i64 d7, .int .i64 pol, .int .i64 ep, .slice A4 n4 c4, .int .u8 (n8 at_), .int .u8 (n8 kp)]]) := ⟨_, rfl⟩
                obtain ⟨STC, hC⟩ : ∃ STC : World → Prop, STC = fun W => PS w W (some ⟨v, 0, none⟩) (some ⟨r, 0, none⟩) (some (armX X (n8 at_) dn [n8 kp])) (some (armX X (n8 at_) dn [n8 kp])) ([blkOb bg 3 #[.int .i64 (n8 kp)], blkOb g18 64 #[.int .i64 (n8 at_), .bool dn, .slice (some ⟨bg, 0, none⟩) 1 1], blkOb bx 54 #[.int .u8 (n8 act), .int .i64 d1, .int .i64 d2, .int .i64 d3, .int .i64 d4, .int .i64 d5, .int .i64 d6, .int .i64 d7, .int .i64 pol, .int .i64 ep, .slice A4 n4 c4, .int .u8 (n8 at_), .int .u8 (n8 kp)]]) := ⟨_, rfl⟩
                have HC3 := Lib.hid hC
                obtain ⟨EE, hEE⟩ : ∃ EE, armE (n8 at_) [n8 kp] = EE := ⟨_, rfl⟩
                have CA : Hid (∀ W, STA W → Calls Tryz.prog 24 #[.pointer (some ⟨v, 0, none⟩), .agg #[.int .i64 (n8 at_), .bool dn, .slice (some ⟨bg, 0, none⟩) 1 1]] W fun e X' => e = .returned (.int .i64 EE) ∧ (X'.cell? ⟨g18, 0, none⟩ = some (.int .i64 (n8 at_)) ∧ X'.cell? ⟨g18, 1, none⟩ = some (.bool dn) ∧ X'.cell? ⟨g18, 2, none⟩ = some (.slice (some ⟨bg, 0, none⟩) 1 1)) ∧ STB X') := fun W h => by
                  rw [hA] at h
                  have h : PS w W (some ⟨v, 0, none⟩) (some ⟨r, 0, none⟩) (some X) (some X) ([blkOb bg 3 #[.int .i64 (n8 kp)], blkOb g18 64 #[.int .i64 (n8 at_), .bool dn, .slice (some ⟨bg, 0, none⟩) 1 1], blkOb bx 54 #[.int .u8 (n8 act), .int .i64 d1, .int .i64 d2, .int .i64 d3, .int .i64 d4, .int .i64 d5, .int .i64 d6, .int .i64 d7, .int .i64 pol, .int .i64 ep, .slice A4 n4 c4, .int .u8 (n8 at_), .int .u8 (n8 kp)]]) := h
                  skip
                  refine (pd_arm1 h HC5.out (n8 at_) dn (by omega)).mono ?_
                  rintro e X' ⟨h1, h4⟩
                  · have hb : Blk X' g18 64 #[.int .i64 (n8 at_), .bool dn, .slice (some ⟨bg, 0, none⟩) 1 1] := h4.get (.tail _ (.head _))
                    exact ⟨by rw [← hEE]; exact h1, ⟨hb.cell 0, hb.cell 1, hb.cell 2⟩, by rw [hB]; exact h4⟩
                have CB : Hid (∀ W, STB W → Calls Tryz.prog 25 #[.pointer (some ⟨r, 0, none⟩), .agg #[.int .i64 (n8 at_), .bool dn, .slice (some ⟨bg, 0, none⟩) 1 1]] W fun e X' => e = .returned (.int .i64 EE) ∧ (X'.cell? ⟨g18, 0, none⟩ = some (.int .i64 (n8 at_)) ∧ X'.cell? ⟨g18, 1, none⟩ = some (.bool dn) ∧ X'.cell? ⟨g18, 2, none⟩ = some (.slice (some ⟨bg, 0, none⟩) 1 1)) ∧ STC X') := fun W h => by
                  rw [hB] at h
                  have h : PS w W (some ⟨v, 0, none⟩) (some ⟨r, 0, none⟩) (some (armX X (n8 at_) dn [n8 kp])) (some X) ([blkOb bg 3 #[.int .i64 (n8 kp)], blkOb g18 64 #[.int .i64 (n8 at_), .bool dn, .slice (some ⟨bg, 0, none⟩) 1 1], blkOb bx 54 #[.int .u8 (n8 act), .int .i64 d1, .int .i64 d2, .int .i64 d3, .int .i64 d4, .int .i64 d5, .int .i64 d6, .int .i64 d7, .int .i64 pol, .int .i64 ep, .slice A4 n4 c4, .int .u8 (n8 at_), .int .u8 (n8 kp)]]) := h
                  skip
                  refine (pd_arm2 h (n8 at_) dn (by omega)).mono ?_
                  rintro e X' ⟨h1, h4⟩
                  · have hb : Blk X' g18 64 #[.int .i64 (n8 at_), .bool dn, .slice (some ⟨bg, 0, none⟩) 1 1] := h4.get (.tail _ (.head _))
                    exact ⟨by rw [← hEE]; exact h1, ⟨hb.cell 0, hb.cell 1, hb.cell 2⟩, by rw [hC]; exact h4⟩
                have sta0 : STA W8.drew := by rw [hA]; exact H8.out.below (show Below W8.heap.size W8 W8.drew from (Below.refl _ _).drew)
                clear hA hB hC hEE
                go_wp2_with fail
                go_region_held3 (fun X' => X'.cell? ⟨g18, 0, none⟩ = some (.int .i64 (n8 at_)) ∧ X'.cell? ⟨g18, 1, none⟩ = some (.bool dn) ∧ X'.cell? ⟨g18, 2, none⟩ = some (.slice (some ⟨bg, 0, none⟩) 1 1)) ((repeat' apply And.intro) <;> first | assumption | go_keep)
                  (first
                    | (go_at_call 24; refine (CA.out _ (by assumption)).mono ?_; rintro e x4 ⟨rfl, ⟨k0, k1, k2⟩, stb⟩)
                    | (go_at_call 25; refine (CB.out _ (by assumption)).mono ?_; rintro e x5 ⟨rfl, ⟨l0, l1, l2⟩, stc⟩))
                all_goals
                  have hz := (by assumption : STC _)
                  rw [HC3.out] at hz
                  have HZ3 := Lib.hid hz
                  clear hz
                  clear q0 q1 q2
                  go_wp2_with fail
                  go_meet
                  exact ⟨_, _, rfl, rfl, by rw [armX_ops]; omega, armX_n X _ _ _, HZ3.out.drop.drop⟩
            · as_aux_lemma =>
                clear q1 q2 q3 q4 q5 q6 q7 q8 q9 q10 q11 q12
                have CA := Lib.hid (ps_restart1 H5.out HC.out)
                go_wp2_with fail
                refine CA.out.mono ?_
                rintro e x4 ⟨rfl, h4⟩
                have CB := Lib.hid (ps_restart2 h4)
                clear h4 CA q0
                go_wp2_with fail
                refine CB.out.mono ?_
                rintro e x5 ⟨rfl, h5⟩
                have HZ3 := Lib.hid h5
                clear h5 CB
                go_wp2_with fail
                go_meet
                exact ⟨0, restartX X, rfl, rfl, by show X.ops ≤ _; omega, rfl, HZ3.out⟩
            · as_aux_lemma =>
                clear q1 q2 q3 q4 q5 q6 q7 q8 q9 q10 q12
                obtain ⟨a2, hat2⟩ : ∃ a2 : Int, n8 at_ % 2 = a2 := ⟨_, rfl⟩
                have ha0 : 0 ≤ a2 := by omega
                have ha1 : a2 ≤ 1 := by omega
                have hat2t : Int.tmod (n8 at_) 2 = a2 := by rw [Int.tmod_eq_emod_of_nonneg i2]; exact hat2
                have hwa : IntKind.i64.wrap a2 = a2 := by rw [IntKind.wrap_i64]; omega
                have hwz : IntKind.i64.wrap (2 + zm + a2) = 2 + zm + a2 := by rw [IntKind.wrap_i64]; omega
                obtain ⟨zz, hzz⟩ : ∃ zz : Int, 2 + zm + a2 = zz := ⟨_, rfl⟩
                have HZZ := Lib.hid hzz
                obtain ⟨STA, hA⟩ : ∃ STA : World → Prop, STA = fun W => PS w W (some ⟨v, 0, none⟩) (some ⟨r, 0, none⟩) (some X) (some X) ([blkOb bx 54 #[.int .u8 (n8 act), .int .i64 d1, .int .i64 d2, .int .i64 d3, .int .i64 d4, .int .i64 d5, .int .i64 d6, .int .i64 d7, .int .i64 pol, .int .i64 ep, .slice A4 n4 c4, .int .u8 (n8 at_), .int .u8 (n8 kp)]]) := ⟨_, rfl⟩
                obtain ⟨STB, hB⟩ : ∃ STB : World → Prop, STB = fun W => PS w W (some ⟨v, 0, none⟩) (some ⟨r, 0, none⟩) (some (EraseVX X zz)) (some X) ([blkOb bx 54 #[.int .u8 (n8 act), .int .i64 d1, .int .i64 d2, .int .i64 d3, .int .i64 d4, .int .i64 d5, .int .i64 d6, .int .i64 d7, .int .i64 pol, .int .i64 ep, .slice A4 n4 c4, .int .u8 (n8 at_), .int .u8 (n8 kp)]]) := ⟨_, rfl⟩
                obtain ⟨STC, hC⟩ : ∃ STC : World → Prop, STC = fun W => PS w W (some ⟨v, 0, none⟩) (some ⟨r, 0, none⟩) (some (EraseVX X zz)) (some (EraseVX X zz)) ([blkOb bx 54 #[.int .u8 (n8 act), .int .i64 d1, .int .i64 d2, .int .i64 d3, .int .i64 d4, .int .i64 d5, .int .i64 d6, .int .i64 d7, .int .i64 pol, .int .i64 ep, .slice A4 n4 c4, .int .u8 (n8 at_), .int .u8 (n8 kp)]]) := ⟨_, rfl⟩
                have HC3 := Lib.hid hC
                obtain ⟨EE, hEE⟩ : ∃ EE, oneVE X zz = EE := ⟨_, rfl⟩
                have CA : Hid (∀ W, STA W → ∀ (z : Int), z = zz → Calls Tryz.prog 28 #[.pointer (some ⟨v, 0, none⟩), .int .i64 z] W fun e X' => e = .returned (.int .i64 EE) ∧ (X'.cell? ⟨bx, 11, none⟩ = some (.int .u8 (n8 at_))) ∧ STB X') := fun W h z hz => by
                  rw [hA] at h
                  have h : PS w W (some ⟨v, 0, none⟩) (some ⟨r, 0, none⟩) (some X) (some X) ([blkOb bx 54 #[.int .u8 (n8 act), .int .i64 d1, .int .i64 d2, .int .i64 d3, .int .i64 d4, .int .i64 d5, .int .i64 d6, .int .i64 d7, .int .i64 pol, .int .i64 ep, .slice A4 n4 c4, .int .u8 (n8 at_), .int .u8 (n8 kp)]]) := h
                  rw [hz]
                  refine (ps_erase1 h HC.out (by have := HOP.out; show X.ops < _; omega) zz).mono ?_
                  rintro e X' ⟨h1, h4⟩
                  · obtain ⟨z0, z1, z2, z3, z4, z5, z6, z7, z8, z9, z10, z11, z12⟩ := HCEL.out X' _ _ _ _ _ h4 (.head _)
                    exact ⟨by rw [← hEE]; exact h1, z11, by rw [hB]; exact h4⟩
                have CB : Hid (∀ W, STB W → ∀ (z : Int), z = zz → Calls Tryz.prog 29 #[.pointer (some ⟨r, 0, none⟩), .int .i64 z] W fun e X' => e = .returned (.int .i64 EE) ∧ (X'.cell? ⟨bx, 11, none⟩ = some (.int .u8 (n8 at_))) ∧ STC X') := fun W h z hz => by
                  rw [hB] at h
                  have h : PS w W (some ⟨v, 0, none⟩) (some ⟨r, 0, none⟩) (some (EraseVX X zz)) (some X) ([blkOb bx 54 #[.int .u8 (n8 act), .int .i64 d1, .int .i64 d2, .int .i64 d3, .int .i64 d4, .int .i64 d5, .int .i64 d6, .int .i64 d7, .int .i64 pol, .int .i64 ep, .slice A4 n4 c4, .int .u8 (n8 at_), .int .u8 (n8 kp)]]) := h
                  rw [hz]
                  refine (ps_erase2 h (by have := HOP.out; show X.ops < _; omega) zz).mono ?_
                  rintro e X' ⟨h1, h4⟩
                  · obtain ⟨z0, z1, z2, z3, z4, z5, z6, z7, z8, z9, z10, z11, z12⟩ := HCEL.out X' _ _ _ _ _ h4 (.head _)
                    exact ⟨by rw [← hEE]; exact h1, z11, by rw [hC]; exact h4⟩
                have sta0 : STA wa.drew := by rw [hA]; exact H5.out.below (show Below wa.heap.size wa wa.drew from (Below.refl _ _).drew)
                clear hzz
                clear hA hB hC hEE
                go_wp2_with fail
                go_region_held3 (fun X' => X'.cell? ⟨bx, 11, none⟩ = some (.int .u8 (n8 at_))) ((repeat' apply And.intro) <;> first | assumption | go_keep)
                  (first
                    | (go_at_call 28; refine (CA.out _ (by assumption) _ (by first | with_reducible exact HZZ.out | with_reducible rfl | (rw [hwz]; with_reducible exact HZZ.out) | (simp only [hat2, hat2t, hwa, hwz]; with_reducible exact HZZ.out))).mono ?_; rintro e x4 ⟨rfl, k11, stb⟩)
                    | (go_at_call 29; refine (CB.out _ (by assumption) _ (by first | with_reducible exact HZZ.out | with_reducible rfl | (rw [hwz]; with_reducible exact HZZ.out) | (simp only [hat2, hat2t, hwa, hwz]; with_reducible exact HZZ.out))).mono ?_; rintro e x5 ⟨rfl, l11, stc⟩))
                all_goals
                  have hz := (by assumption : STC _)
                  rw [HC3.out] at hz
                  have HZ3 := Lib.hid hz
                  clear hz
                  clear q0 q11
                  go_wp2_with fail
                  go_meet
                  exact ⟨_, _, rfl, rfl, by have := eraseVX_ops X zz; omega, eraseVX_n X zz, HZ3.out⟩
          case rest =>
            obtain ⟨er, X1, rfl, rfl, hops1, hn1, hps⟩ := hcut
            have H6 := Lib.hid hps
            have HOPS1 : Hid (X1.ops ≤ 6 * (j + 1) ∧ X1.n = ns) := by
              have := HOPS.out
              have := HNX.out
              exact ⟨by omega, by omega⟩
            clear hps hops1 hn1 q0 q1 q2 q3 q4 q5 q6 q7 q8 q9 q10 q11 q12
            go_wp2_with fail
            refine (shows_any H6.out).mono ?_
            rintro e y1 ⟨rfl, hb⟩
            have H7 := Lib.hid (H6.out.below hb)
            clear hb
            go_wp2_with fail
            go_roundg (gk - 1)
            case measure => have := HJ.out; omega
            case rel => exact ⟨j + 1, X1, by have := HJ.out; omega, by go_num, HOPS1.out.1, HOPS1.out.2, H7.out.drop⟩
      · obtain rfl : j = n := by have := HJ.out; omega
        go_wp2_with fail
        refine (works_any _).mono ?_
        rintro e w9 ⟨rfl, hb⟩
        have HB := Lib.hid (HPS.out.bel.trans (hb.mono HPS.out.bel.size))
        clear hb
        go_wp2_with fail
        go_ret
        exact ⟨rfl, HB.out⟩
theorem DualcopyPlays_walk (v0 v1 : Value) (w : World) (h0 : ArgIn Tryz.prog w 5 v0) (h1 : ArgIn Tryz.prog w 47 v1) :
    Calls Tryz.prog 4 #[v0, v1] w fun e w' => e = .returned (.bool true) ∧ Below w.heap.size w w' := by
  obtain ⟨y, rfl, k⟩ := h0.int (k := .u8) Tryz.underlying5
  obtain ⟨nb, rfl⟩ := u8_of_wf k
  obtain ⟨A, n, c, sts, rfl, k1, k2, k3⟩ := psteps_arg h1
  exact DualcopyPlays_k nb A n c sts w k3 k1 k2
end Go.Proofs.YtnopljanpjmbgaaGreat
