/-
  The walk of the law DeviceReads: it returns true and writes nothing that was there. No condition.
-/
import Derived.Test.YteglaedkhopbgaaMN
import Derived.Deep.QuietTactic
import Derived.BigQuiet
namespace Go.Proofs.Yteglaedkhopbgaa
open Go.RowKit Go.Shelf
set_option linter.unusedVariables false
set_option maxHeartbeats 32000000 in
set_option maxRecDepth 100000 in
theorem DeviceReads_w (a b : BitVec 8) (A : Option Addr) (m c : Nat) (ts : Nat → Turn3) (w : World) (hr : TurnsAt w w.heap.size A m ts) (hn : m ≤ c) (hc : c ≤ maxLen) :
    Calls Try.prog 4 #[.int .u8 (n8 a), .int .u8 (n8 b), .slice A m c] w fun e w' => e = .returned (.bool true) ∧ Below w.heap.size w w' := by
  have HR := Lib.hid hr
  unfold maxLen at hc
  clear hr
  by_cases hm : 100 < m
  · go_enter Try.func4, Try.ntmps4
    go_wp2_with fail
    refine (works_any _).mono ?_
    rintro e w9 ⟨rfl, hb⟩
    have HB := Lib.hid hb
    clear hb
    go_wp2_with fail
    go_ret
    exact ⟨rfl, HB.out⟩
  obtain ⟨hb1, hb2⟩ := n8_bd b
  go_enter Try.func4, Try.ntmps4
  go_wp2_with fail
  refine (sep_vbegin (Sep.start w) a b).mono ?_
  rintro e w1 ⟨v, L, rfl, hs⟩
  obtain ⟨n, hnn⟩ : ∃ n, a.toNat % 4 + 2 = n := ⟨_, rfl⟩
  obtain ⟨sz, hsz⟩ : ∃ sz, b.toNat % 40 + 1 = sz := ⟨_, rfl⟩
  have hn2 : 2 ≤ n := by omega
  have hn5 : n ≤ 5 := by omega
  have hsz40 : 1 ≤ sz ∧ sz ≤ 40 := by omega
  have hszz : (1 : Int) + n8 b % 40 = (sz : Int) := by rw [n8_nat]; omega
  have HSZZ := Lib.hid hszz
  rw [hnn, hsz] at hs
  rw [hnn]
  have HS1 := Lib.hid hs
  have HMS : ∀ W, (Instr.makeSlice 42 (.int .i64 ((n : Int) + 2)) (.int .i64 ((n : Int) + 2))).run Try.prog W = .ok (.slice (some ⟨W.heap.size, 0, none⟩) (n + 2) (n + 2)) (W.alloc (.cells (strA (newVD n sz).D (n + 2)) 9)) := fun W => by
    have := make_elems 42 9 (.string ByteArray.empty) 16 Try.underlying42 string_info rfl (by omega) (n + 2) (by omega) W
    rw [← strA_new n sz]
    exact this
  have HMI : ∀ W, (Instr.makeSlice 29 (.int .i64 ((n : Int) + 2)) (.int .i64 ((n : Int) + 2))).run Try.prog W = .ok (.slice (some ⟨W.heap.size, 0, none⟩) (n + 2) (n + 2)) (W.alloc (.cells (durA (newVD n sz).D (n + 2)) 3)) := fun W => by
    have := make_elems 29 3 (.int .i64 0) 8 Try.underlying29 clone_int_info rfl (by omega) (n + 2) (by omega) W
    rw [← durA_new n sz]
    exact this
  clear hs hnn hsz hszz
  go_wp2_with fail
  obtain ⟨gw, hgw⟩ : ∃ gw, gw = w1.heap.size := ⟨_, rfl⟩
  obtain ⟨gs, hgs⟩ : ∃ gs, gs = w1.heap.size + 1 := ⟨_, rfl⟩
  have hs2 : Sep w.heap.size w ((w1.alloc (.cells (strA (newVD n sz).D (n + 2)) 9)).alloc (.cells (durA (newVD n sz).D (n + 2)) 3)) [blkOb gs 3 (durA (newVD n sz).D (n + 2)), blkOb gw 9 (strA (newVD n sz).D (n + 2)), devOb v L (newVD n sz)] :=
    (HS1.out.newBlk gw _ _ hgw).newBlk gs _ _ (by rw [hgs]; simp)
  have HS2 : Hid (Sep w.heap.size w _ [devOb v L (newVD n sz), blkOb gw 9 (strA (newVD n sz).D (n + 2)), blkOb gs 3 (durA (newVD n sz).D (n + 2))]) := hs2.perm (List.reverse_perm _).symm
  rw [← hgs, ← hgw]
  clear hs2 hgw hgs HMS HMI
  go_loopg [11, 12] m (fun q v11 v12 wr => ∃ (j : Nat) (L' : DLay), j + q = m ∧ v12 = .int .i64 j ∧ v11 = .int .i64 ((runV (newVD n sz) ts j).ops : Nat) ∧ Sep w.heap.size w wr [devOb v L' (runV (newVD n sz) ts j), blkOb gw 9 (strA (runV (newVD n sz) ts j).D (n + 2)), blkOb gs 3 (durA (runV (newVD n sz) ts j).D (n + 2))])
  case atStart => exact ⟨0, L, by omega, rfl, rfl, HS2.out⟩
  case round =>
    obtain ⟨j, L1, hj, rfl, rfl, hs⟩ := hrel
    have HJ := Lib.hid hj
    have hj' : j ≤ m := by omega
    have hnum := runV_new n sz ts j
    obtain ⟨X, hX⟩ : ∃ X, runV (newVD n sz) ts j = X := ⟨_, rfl⟩
    have hp : Peace X n sz := by rw [← hX]; exact calm_run (calm_new n sz) ts j
    rw [hX] at hnum hs
    have HS := Lib.hid hs
    have HP := Lib.hid hp
    have HXN := Lib.hid hnum.1
    have hXo := hnum.2
    rw [hX]
    obtain ⟨xo, hxo⟩ : ∃ xo, X.ops = xo := ⟨_, rfl⟩
    rw [hxo] at hXo ⊢
    have HXO := Lib.hid hxo
    by_cases hlt : j < m
    · have HXS : Hid (runV (newVD n sz) ts (j + 1) = vdoX X (ts j).a (ts j).s (ts j).b j) := by rw [← hX]; rfl
      obtain ⟨ad, ht⟩ := HR.out.below hs.bel j hlt
      obtain rfl := ht.a
      obtain ⟨ta, hta⟩ : ∃ ta, (ts j).a = ta := ⟨_, rfl⟩
      obtain ⟨tS, htS⟩ : ∃ tS, (ts j).s = tS := ⟨_, rfl⟩
      obtain ⟨tb, htb⟩ : ∃ tb, (ts j).b = tb := ⟨_, rfl⟩
      have HTC : Hid (∀ W, Below w.heap.size w W → W.cell? (ad.add (j * 3)) = some (.int .u8 (n8 ta)) ∧ W.cell? ⟨(ad.add (j * 3)).block, (ad.add (j * 3)).off + 1, none⟩ = some (.int .u8 (n8 tS)) ∧ W.cell? ⟨(ad.add (j * 3)).block, (ad.add (j * 3)).off + 2, none⟩ = some (.int .u8 (n8 tb))) := fun W hW => by
        obtain ⟨ad2, ht2⟩ := HR.out.below hW j hlt
        have := ht2.a
        injection this with this
        subst this
        rw [← hta, ← htS, ← htb]
        exact ⟨ht2.c0, ht2.c1, ht2.c2⟩
      rw [hta, htS, htb] at HXS
      obtain ⟨c0, c1, c2⟩ := HTC.out wr hs.bel
      obtain ⟨ha1, ha2⟩ := n8_bd ta
      obtain ⟨hs1, hs2⟩ := n8_bd tS
      obtain ⟨ht1, ht2⟩ := n8_bd tb
      obtain ⟨sl, hsl⟩ : ∃ sl, tS.toNat % (n + 2) = sl := ⟨_, rfl⟩
      have hsln : sl < n + 2 := by rw [← hsl]; exact Nat.mod_lt _ (by omega)
      have hrems : Int.tmod (n8 tS) ((n : Int) + 2) = (sl : Int) := by rw [n8_nat, Int.tmod_eq_emod_of_nonneg (by omega), ← hsl, Int.natCast_emod]; rfl
      have n20 : ¬ ((n : Int) + 2 = 0) := by omega
      obtain ⟨ka, hka⟩ : ∃ ka, ta.toNat % 8 = ka := ⟨_, rfl⟩
      have hkaz : n8 ta % 8 = (ka : Int) := by rw [n8_nat]; omega
      have hkalt : ka < 8 := by omega
      obtain ⟨kn, hkn⟩ : ∃ kn, tb.toNat % 12 = kn := ⟨_, rfl⟩
      have hknz : n8 tb % 12 = (kn : Int) := by rw [n8_nat]; omega
      have hknlt : kn < 12 := by omega
      have HCC : Hid (AllCells [blkOb gw 9 (strA X.D (n + 2)), blkOb gs 3 (durA X.D (n + 2))]) := AllCells.cons (cellOb_blk _ _ _) (AllCells.cons (cellOb_blk _ _ _) AllCells.nil)
      have HDO := Lib.hid (sep_vdo hs HCC.out (by omega) ta tS tb n j hnum.1 (by omega))
      unfold turn3V at HDO
      have hcalm := calm_do hp ta tS tb j
      have HLAW : Hid ((5 ≤ ka ∧ ka ≠ 7 ∧ vdoE X ta tS tb j = 0 ∧ vdoX X ta tS tb j = { X with D := syncD X.D sl, ops := X.ops + 1 }) ∨ (ka = 7 ∧ vdoE X ta tS tb j = 0 ∧ vdoX X ta tS tb j = { X with D := eraseD X.D sl, ops := X.ops + 1 }) ∨
          (ka < 5 ∧ (X.D sl).bytes.length + kn ≤ szAt n sz sl ∧ vdoE X ta tS tb j = 0 ∧ vdoX X ta tS tb j = { X with D := updF X.D sl ⟨(X.D sl).size, (X.D sl).bytes ++ mvD tb j, (X.D sl).dur⟩, ops := X.ops + 1 }) ∨ (ka < 5 ∧ szAt n sz sl < (X.D sl).bytes.length + kn ∧ vdoE X ta tS tb j = 4 ∧ vdoX X ta tS tb j = X)) := by
        show _ ∨ _
        have hszs := hp.size sl hsln
        have hml : (mvD tb j).length = kn := by rw [mvD_length]; exact hkn
        unfold turnOk turnF at hcalm
        rw [hka, hsl, hml, hszs] at hcalm
        rcases hcalm with ⟨k1, k2, k3⟩ | ⟨k1, k2, k3⟩
        · by_cases e5 : ka < 5
          · refine .inr (.inr (.inl ⟨e5, k1 e5, k2, ?_⟩))
            rw [k3, if_pos e5]
            unfold appD
            rw [hml, hszs, if_pos (k1 e5)]
          · by_cases e7 : ka = 7
            · exact .inr (.inl ⟨e7, k2, by rw [k3, if_neg e5, if_pos e7]⟩)
            · exact .inl ⟨by omega, e7, k2, by rw [k3, if_neg e5, if_neg e7]⟩
        · have e5 : ka < 5 := by
            by_cases e5 : ka < 5
            · exact e5
            · exact absurd (fun h => absurd h e5) k1
          refine .inr (.inr (.inr ⟨e5, ?_, k2, k3⟩))
          by_cases e6 : (X.D sl).bytes.length + kn ≤ szAt n sz sl
          · exact absurd (fun _ => e6) k1
          · omega
      obtain ⟨EX, hEX⟩ : ∃ EX, vdoE X ta tS tb j = EX := ⟨_, rfl⟩
      obtain ⟨X2, hX2⟩ : ∃ X2, vdoX X ta tS tb j = X2 := ⟨_, rfl⟩
      rw [hEX, hX2] at HDO HLAW
      rw [hX2] at HXS
      obtain ⟨S, hS⟩ : ∃ S, strOf (X.D sl).bytes = S := ⟨_, rfl⟩
      obtain ⟨ln, hln⟩ : ∃ ln, (X.D sl).bytes.length = ln := ⟨_, rfl⟩
      have hSs : S.size = ln := by rw [← hS, strOf_size]; exact hln
      have HSS := Lib.hid hS
      have HLN := Lib.hid hln
      have hnumS := hp.num sl hsln
      have hszS := hp.size sl hsln
      have hln64 : ln ≤ 64 := by
        rw [hln] at hnumS
        rw [hszS] at hnumS
        have : szAt n sz sl ≤ 64 := by unfold szAt; split <;> omega
        omega
      obtain ⟨rm, hrm⟩ : ∃ rm, szAt n sz sl = rm := ⟨_, rfl⟩
      rw [hrm] at HLAW
      have HRM : Hid ((sl < n ∧ rm = sz) ∨ (n ≤ sl ∧ rm = 64)) := by
        show _ ∨ _
        unfold szAt at hrm
        by_cases e : sl < n
        · rw [if_pos e] at hrm; exact .inl ⟨e, hrm.symm⟩
        · rw [if_neg e] at hrm; exact .inr ⟨by omega, hrm.symm⟩
      have hszz := HSZZ.out
      have HMV := Lib.hid hkn
      rw [hln] at HLAW
      clear hj hs ht hnum hp hX hxo hta htS htb hsl hka hkn hcalm hEX hX2 hS hln hnumS hszS hrm HS
      rcases HRM.out with ⟨hr1, rfl⟩ | ⟨hr1, rfl⟩
      · have hge : decide (n ≤ sl) = false := by simp; omega
        go_wp2_with fail
        refine HDO.out.mono ?_
        rintro e w3 ⟨rfl, L3, hs⟩
        have HS3 := Lib.hid hs
        have hqw : Blk w3 gw 9 (strA X.D (n + 2)) := hs.get (.tail _ (.head _))
        have hqs : Blk w3 gs 3 (durA X.D (n + 2)) := hs.get (.tail _ (.tail _ (.head _)))
        have y1 : w3.cell? ⟨gw, sl, none⟩ = some (.string S) := by rw [hqw.cell, strA_at hsln, HSS.out]
        have y2 : w3.cell? ⟨gs, sl, none⟩ = some (.int .i64 ((X.D sl).dur : Int)) := by rw [hqs.cell, durA_at hsln]
        have y3 := hqw.frozen sl
        have y4 := hqs.frozen sl
        clear c0 c1 c2
        obtain ⟨c0, c1, c2⟩ := HTC.out w3 hs.bel
        clear hs hqw hqs HDO
        rcases HLAW.out with ⟨h5, h7, rfl, hXX⟩ | ⟨h7, rfl, hXX⟩ | ⟨h5, hfit, rfl, hXX⟩ | ⟨h5, hfit, rfl, hXX⟩
        · have g7 : ((ka : Int) == 7) = false := by rw [beq_eq_false_iff_ne]; omega
          have g5 : decide (5 ≤ ka) = true := by simp; omega
          have HXX := Lib.hid hXX
          have HOPS : Hid (X2.ops = xo + 1) := by show _ = _; rw [hXX]; show X.ops + 1 = _; rw [HXO.out]
          have hsep : Sep w.heap.size w (w3.setCell ⟨gs, sl, none⟩ (.int .i64 (ln : Int))) [devOb v L3 X2, blkOb gw 9 (strA X2.D (n + 2)), blkOb gs 3 (durA X2.D (n + 2))] := by
            have h1 := ((HS3.out.perm (List.reverse_perm _).symm).setBlk sl (.int .i64 (ln : Int))).perm (List.reverse_perm _).symm
            have e1 : strA X2.D (n + 2) = strA X.D (n + 2) := by rw [hXX]; exact strA_congr (fun i _ => syncD_bytes _ _ _)
            have e2 : (durA X.D (n + 2)).setIfInBounds sl (.int .i64 (ln : Int)) = durA X2.D (n + 2) := by rw [hXX, ← HLN.out]; exact durA_set X.D hsln ⟨(X.D sl).size, (X.D sl).bytes, (X.D sl).bytes.length⟩
            rw [e1, ← e2]
            exact h1
          have HSEP := Lib.hid hsep
          obtain ⟨w4, hw4⟩ : ∃ w4, w4 = w3.setCell ⟨gs, sl, none⟩ (.int .i64 (ln : Int)) := ⟨_, rfl⟩
          rw [← hw4] at HSEP
          have HW4 := Lib.hid hw4
          clear hXX hsep hw4 HLAW
          go_wp2_with fail
          rw [← HW4.out]
          refine (dev_ops HSEP.out.dev).mono ?_
          rintro e w' ⟨rfl, rfl⟩
          rw [HOPS.out]
          go_wp2_with fail
          go_roundg (gk - 1)
          case measure => have := HJ.out; omega
          case rel => exact ⟨j + 1, L3, by have := HJ.out; omega, by go_num, by rw [HXS.out, HOPS.out]; go_num, by rw [HXS.out]; exact HSEP.out⟩
        · subst h7
          have g7 : ((7 : Int) == 7) = true := by rfl
          have HXX := Lib.hid hXX
          have HOPS : Hid (X2.ops = xo + 1) := by show _ = _; rw [hXX]; show X.ops + 1 = _; rw [HXO.out]
          have hsep : Sep w.heap.size w ((w3.setCell ⟨gw, sl, none⟩ (.string ⟨#[]⟩)).setCell ⟨gs, sl, none⟩ (.int .i64 0)) [devOb v L3 X2, blkOb gw 9 (strA X2.D (n + 2)), blkOb gs 3 (durA X2.D (n + 2))] := by
            have h1 := (HS3.out.perm (.swap _ _ _)).setBlk sl (.string ⟨#[]⟩)
            have h2 := ((h1.perm (List.reverse_perm _).symm).setBlk sl (.int .i64 0)).perm (List.Perm.cons _ (.swap _ _ _) |>.trans ((List.reverse_perm _).symm.trans (List.Perm.refl _)))
            have e1 : (strA X.D (n + 2)).setIfInBounds sl (.string ⟨#[]⟩) = strA X2.D (n + 2) := by rw [hXX]; exact strA_set X.D hsln ⟨(X.D sl).size, [], 0⟩
            have e2 : (durA X.D (n + 2)).setIfInBounds sl (.int .i64 0) = durA X2.D (n + 2) := by rw [hXX]; exact durA_set X.D hsln ⟨(X.D sl).size, [], 0⟩
            rw [e1, e2] at h2
            exact h2.perm (by first | exact List.Perm.refl _ | exact .swap _ _ _ | exact (List.reverse_perm _) | exact (.cons _ (.swap _ _ _)) | exact ((List.Perm.swap _ _ _).trans (.cons _ (.swap _ _ _))) | exact ((List.Perm.cons _ (.swap _ _ _)).trans (.swap _ _ _)))
          have y4' : (w3.setCell ⟨gw, sl, none⟩ (.string ⟨#[]⟩)).cell? ⟨gs, sl, none⟩ = some (.int .i64 ((X.D sl).dur : Int)) := by
            have h1 := (HS3.out.perm (.swap _ _ _)).setBlk sl (.string ⟨#[]⟩)
            have h2 : Blk (w3.setCell ⟨gw, sl, none⟩ (.string ⟨#[]⟩)) gs 3 (durA X.D (n + 2)) := h1.get (.tail _ (.tail _ (.head _)))
            rw [h2.cell, durA_at hsln]
          have HSEP := Lib.hid hsep
          obtain ⟨w4, hw4⟩ : ∃ w4, w4 = (w3.setCell ⟨gw, sl, none⟩ (.string ⟨#[]⟩)).setCell ⟨gs, sl, none⟩ (.int .i64 0) := ⟨_, rfl⟩
          rw [← hw4] at HSEP
          have HW4 := Lib.hid hw4
          clear hXX hsep hw4 HLAW
          go_wp2_with fail
          rw [← HW4.out]
          refine (dev_ops HSEP.out.dev).mono ?_
          rintro e w' ⟨rfl, rfl⟩
          rw [HOPS.out]
          go_wp2_with fail
          go_roundg (gk - 1)
          case measure => have := HJ.out; omega
          case rel => exact ⟨j + 1, L3, by have := HJ.out; omega, by go_num, by rw [HXS.out, HOPS.out]; go_num, by rw [HXS.out]; exact HSEP.out⟩
        · have g7 : ((ka : Int) == 7) = false := by rw [beq_eq_false_iff_ne]; omega
          have g5 : decide (5 ≤ ka) = false := by simp; omega
          have HXX := Lib.hid hXX
          have HOPS : Hid (X2.ops = xo + 1) := by show _ = _; rw [hXX]; show X.ops + 1 = _; rw [HXO.out]
          clear hXX HLAW
          obtain ⟨mv, hmv⟩ : ∃ mv, mvD tb j = mv := ⟨_, rfl⟩
          have HML : Hid (mv.length = kn) := by show _ = _; rw [← hmv, mvD_length]; exact HMV.out
          have HMA : Hid (∀ k (h : k < mv.length), mv[k] = BitVec.ofNat 8 (j * 16 + k)) := by
            intro k h
            subst hmv
            exact mvD_at tb j k h
          rw [hmv] at HXX
          obtain ⟨DJ, hDJ⟩ : ∃ DJ : Nat → Nat → SlotD, DJ = fun q => updF X.D sl ⟨(X.D sl).size, (X.D sl).bytes ++ mv.take q, (X.D sl).dur⟩ := ⟨_, rfl⟩
          have HDJS : Hid (∀ q, strOf (DJ q sl).bytes = strOf ((X.D sl).bytes ++ mv.take q)) := fun q => by rw [hDJ]; dsimp only; rw [updF_same]
          have HDJ0 : Hid (strA (DJ 0) (n + 2) = strA X.D (n + 2)) := strA_congr (fun i _ => by
            rw [hDJ]
            dsimp only
            rcases updF_or X.D sl i ⟨(X.D sl).size, (X.D sl).bytes ++ mv.take 0, (X.D sl).dur⟩ with ⟨e, rfl⟩ | ⟨e, _⟩
            · rw [e]; simp
            · rw [e])
          have HDJN : Hid (∀ q, (strA (DJ q) (n + 2)).setIfInBounds sl (.string (strOf ((X.D sl).bytes ++ mv.take (q + 1)))) = strA (DJ (q + 1)) (n + 2)) := fun q => by
            have := strA_set (DJ q) hsln ⟨(X.D sl).size, (X.D sl).bytes ++ mv.take (q + 1), (X.D sl).dur⟩
            rw [show (⟨(X.D sl).size, (X.D sl).bytes ++ mv.take (q + 1), (X.D sl).dur⟩ : SlotD).bytes = (X.D sl).bytes ++ mv.take (q + 1) from rfl] at this
            rw [this]
            refine strA_congr (fun i _ => ?_)
            rw [hDJ]
            dsimp only
            unfold updF
            split <;> rfl
          have HDJE : Hid (strA (DJ kn) (n + 2) = strA X2.D (n + 2) ∧ durA X.D (n + 2) = durA X2.D (n + 2)) := by
            have hall : mv.take kn = mv := List.take_of_length_le (by rw [HML.out]; exact Nat.le_refl _)
            refine ⟨by rw [hDJ, HXX.out]; dsimp only; rw [hall], ?_⟩
            refine durA_congr (fun i _ => ?_)
            rw [HXX.out]
            dsimp only
            rcases updF_or X.D sl i ⟨(X.D sl).size, (X.D sl).bytes ++ mv, (X.D sl).dur⟩ with ⟨e, rfl⟩ | ⟨e, _⟩
            · rw [e]
            · rw [e]
          have HLB : Hid (∀ q, q ≤ kn → ((X.D sl).bytes ++ mv.take q).length ≤ 80) := fun q hq => by
            rw [List.length_append, List.length_take, HLN.out]
            omega
          clear hmv hDJ
          have hs0 : Sep w.heap.size w w3 [devOb v L3 X2, blkOb gw 9 (strA (DJ 0) (n + 2)), blkOb gs 3 (durA X.D (n + 2))] := by rw [HDJ0.out]; exact HS3.out
          have HS30 := Lib.hid hs0
          clear hs0
          obtain ⟨gk1, rfl⟩ : ∃ gk1, gk1 = gk := ⟨_, rfl⟩
          go_wp2_with fail
          go_loopg [17] kn (fun q v17 wr => ∃ (k : Nat), k + q = kn ∧ v17 = .int .i64 k ∧ Sep w.heap.size w wr [devOb v L3 X2, blkOb gw 9 (strA (DJ k) (n + 2)), blkOb gs 3 (durA X.D (n + 2))])
          case atStart => exact ⟨0, by omega, rfl, HS30.out⟩
          case round =>
            obtain ⟨k, hj, rfl, hs⟩ := hrel
            have HJ2 := Lib.hid hj
            have hk : k ≤ kn := by omega
            have HS4 := Lib.hid hs
            by_cases hlt2 : k < kn
            · have hkm : k < mv.length := by rw [HML.out]; exact hlt2
              have hqw : Blk wr gw 9 (strA (DJ k) (n + 2)) := hs.get (.tail _ (.head _))
              obtain ⟨x, hx⟩ : ∃ x, mv[k] = x := ⟨_, rfl⟩
              have hxv : x = BitVec.ofNat 8 (j * 16 + k) := by rw [← hx]; exact HMA.out k hkm
              obtain ⟨Sk, hSk⟩ : ∃ Sk, strOf ((X.D sl).bytes ++ mv.take k) = Sk := ⟨_, rfl⟩
              obtain ⟨S1, hS1⟩ : ∃ S1, strOf [x] = S1 := ⟨_, rfl⟩
              obtain ⟨Sn, hSn⟩ : ∃ Sn, strOf ((X.D sl).bytes ++ mv.take (k + 1)) = Sn := ⟨_, rfl⟩
              have hcat : Sk ++ S1 = Sn := by
                rw [← hSk, ← hS1, ← hSn, strOf_app, List.append_assoc, take_snoc mv k hkm, hx]
              have hsz1 : ¬ (9223372036854775807 < Sk.size + S1.size) := by
                have e1 : Sk.size = ((X.D sl).bytes ++ mv.take k).length := by rw [← hSk]; exact strOf_size _
                have e2 : S1.size = 1 := by rw [← hS1]; exact strOf_size _
                have := HLB.out k (by omega)
                omega
              have y5 : wr.cell? ⟨gw, sl, none⟩ = some (.string Sk) := by rw [hqw.cell, strA_at hsln, HDJS.out, hSk]
              obtain ⟨z, hz⟩ : ∃ z, ((j : Int) * 16 + (k : Int)) % 256 = z := ⟨_, rfl⟩
              have hzx : z = n8 x := by rw [hxv, n8_ofNat, ← hz]; push_cast; rfl
              have HSA : Hid (Sep w.heap.size w (wr.alloc (.cells #[.int .u8 z] 5)) [devOb v L3 X2, blkOb gw 9 (strA (DJ k) (n + 2)), blkOb gs 3 (durA X.D (n + 2))]) := hs.alloc _
              have hqa : Blk (wr.alloc (.cells #[.int .u8 z] 5)) gw 9 (strA (DJ k) (n + 2)) := HSA.out.get (.tail _ (.head _))
              have y5a : (wr.alloc (.cells #[.int .u8 z] 5)).cell? ⟨gw, sl, none⟩ = some (.string Sk) := by rw [hqa.cell, strA_at hsln, HDJS.out, hSk]
              have y6a := hqa.frozen sl
              have hcv : (convert 27 9 (.slice (some ⟨wr.heap.size, 0, none⟩) 1 1)).run Try.prog (wr.alloc (.cells #[.int .u8 z] 5)).drew = .ok (.string S1) (wr.alloc (.cells #[.int .u8 z] 5)).drew := by
                rw [← hS1]
                exact str_bytes ((reads_new wr 5 _ (0, 0) [x] 1 rfl (by rw [hzx]; rfl)).drew)
              have HST : Hid (Sep w.heap.size w ((wr.alloc (.cells #[.int .u8 z] 5)).setCell ⟨gw, sl, none⟩ (.string Sn)) [devOb v L3 X2, blkOb gw 9 (strA (DJ (k + 1)) (n + 2)), blkOb gs 3 (durA X.D (n + 2))]) := by
                have h1 := ((HSA.out.perm (.swap _ _ _)).setBlk sl (.string Sn)).perm (.swap _ _ _)
                rw [← hSn, HDJN.out] at h1
                rw [← hSn]
                exact h1
              have hslz : (sl : Int) < (n : Int) + 2 := by omega
              clear hj hs hqw hqa hSk hS1 hSn hx hxv hzx
              go_wp2_with fail
              go_region
              all_goals
                go_wp2_with fail
                go_roundg (gk - 1)
                case measure => have := HJ2.out; omega
                case rel => exact ⟨k + 1, by have := HJ2.out; omega, by go_num, HST.out.drew⟩
            · obtain rfl : k = kn := by omega
              have HSEP : Hid (Sep w.heap.size w wr [devOb v L3 X2, blkOb gw 9 (strA X2.D (n + 2)), blkOb gs 3 (durA X2.D (n + 2))]) := by
                show Sep _ _ _ _
                rw [← HDJE.out.1, ← HDJE.out.2]
                exact hs
              clear hj hs
              go_wp2_with fail
              refine (dev_ops HSEP.out.dev).mono ?_
              rintro e w' ⟨rfl, rfl⟩
              rw [HOPS.out]
              go_wp2_with fail
              go_roundg (gk1 - 1)
              case measure => have := HJ.out; omega
              case rel => exact ⟨j + 1, L3, by have := HJ.out; omega, by go_num, by rw [HXS.out, HOPS.out]; go_num, by rw [HXS.out]; exact HSEP.out⟩
        · have g7 : ((ka : Int) == 7) = false := by rw [beq_eq_false_iff_ne]; omega
          have g5 : decide (5 ≤ ka) = false := by simp; omega
          have HXX := Lib.hid hXX
          clear hXX HLAW
          go_wp2_with fail
          go_roundg (gk - 1)
          case measure => have := HJ.out; omega
          case rel => exact ⟨j + 1, L3, by have := HJ.out; omega, by go_num, by rw [HXS.out, HXX.out, HXO.out], by rw [HXS.out, HXX.out]; rw [HXX.out] at HS3; exact HS3.out⟩
      · have hge : decide (n ≤ sl) = true := by simp; omega
        go_wp2_with fail
        refine HDO.out.mono ?_
        rintro e w3 ⟨rfl, L3, hs⟩
        have HS3 := Lib.hid hs
        have hqw : Blk w3 gw 9 (strA X.D (n + 2)) := hs.get (.tail _ (.head _))
        have hqs : Blk w3 gs 3 (durA X.D (n + 2)) := hs.get (.tail _ (.tail _ (.head _)))
        have y1 : w3.cell? ⟨gw, sl, none⟩ = some (.string S) := by rw [hqw.cell, strA_at hsln, HSS.out]
        have y2 : w3.cell? ⟨gs, sl, none⟩ = some (.int .i64 ((X.D sl).dur : Int)) := by rw [hqs.cell, durA_at hsln]
        have y3 := hqw.frozen sl
        have y4 := hqs.frozen sl
        clear c0 c1 c2
        obtain ⟨c0, c1, c2⟩ := HTC.out w3 hs.bel
        clear hs hqw hqs HDO
        rcases HLAW.out with ⟨h5, h7, rfl, hXX⟩ | ⟨h7, rfl, hXX⟩ | ⟨h5, hfit, rfl, hXX⟩ | ⟨h5, hfit, rfl, hXX⟩
        · have g7 : ((ka : Int) == 7) = false := by rw [beq_eq_false_iff_ne]; omega
          have g5 : decide (5 ≤ ka) = true := by simp; omega
          have HXX := Lib.hid hXX
          have HOPS : Hid (X2.ops = xo + 1) := by show _ = _; rw [hXX]; show X.ops + 1 = _; rw [HXO.out]
          have hsep : Sep w.heap.size w (w3.setCell ⟨gs, sl, none⟩ (.int .i64 (ln : Int))) [devOb v L3 X2, blkOb gw 9 (strA X2.D (n + 2)), blkOb gs 3 (durA X2.D (n + 2))] := by
            have h1 := ((HS3.out.perm (List.reverse_perm _).symm).setBlk sl (.int .i64 (ln : Int))).perm (List.reverse_perm _).symm
            have e1 : strA X2.D (n + 2) = strA X.D (n + 2) := by rw [hXX]; exact strA_congr (fun i _ => syncD_bytes _ _ _)
            have e2 : (durA X.D (n + 2)).setIfInBounds sl (.int .i64 (ln : Int)) = durA X2.D (n + 2) := by rw [hXX, ← HLN.out]; exact durA_set X.D hsln ⟨(X.D sl).size, (X.D sl).bytes, (X.D sl).bytes.length⟩
            rw [e1, ← e2]
            exact h1
          have HSEP := Lib.hid hsep
          obtain ⟨w4, hw4⟩ : ∃ w4, w4 = w3.setCell ⟨gs, sl, none⟩ (.int .i64 (ln : Int)) := ⟨_, rfl⟩
          rw [← hw4] at HSEP
          have HW4 := Lib.hid hw4
          clear hXX hsep hw4 HLAW
          go_wp2_with fail
          rw [← HW4.out]
          refine (dev_ops HSEP.out.dev).mono ?_
          rintro e w' ⟨rfl, rfl⟩
          rw [HOPS.out]
          go_wp2_with fail
          go_roundg (gk - 1)
          case measure => have := HJ.out; omega
          case rel => exact ⟨j + 1, L3, by have := HJ.out; omega, by go_num, by rw [HXS.out, HOPS.out]; go_num, by rw [HXS.out]; exact HSEP.out⟩
        · subst h7
          have g7 : ((7 : Int) == 7) = true := by rfl
          have HXX := Lib.hid hXX
          have HOPS : Hid (X2.ops = xo + 1) := by show _ = _; rw [hXX]; show X.ops + 1 = _; rw [HXO.out]
          have hsep : Sep w.heap.size w ((w3.setCell ⟨gw, sl, none⟩ (.string ⟨#[]⟩)).setCell ⟨gs, sl, none⟩ (.int .i64 0)) [devOb v L3 X2, blkOb gw 9 (strA X2.D (n + 2)), blkOb gs 3 (durA X2.D (n + 2))] := by
            have h1 := (HS3.out.perm (.swap _ _ _)).setBlk sl (.string ⟨#[]⟩)
            have h2 := ((h1.perm (List.reverse_perm _).symm).setBlk sl (.int .i64 0)).perm (List.Perm.cons _ (.swap _ _ _) |>.trans ((List.reverse_perm _).symm.trans (List.Perm.refl _)))
            have e1 : (strA X.D (n + 2)).setIfInBounds sl (.string ⟨#[]⟩) = strA X2.D (n + 2) := by rw [hXX]; exact strA_set X.D hsln ⟨(X.D sl).size, [], 0⟩
            have e2 : (durA X.D (n + 2)).setIfInBounds sl (.int .i64 0) = durA X2.D (n + 2) := by rw [hXX]; exact durA_set X.D hsln ⟨(X.D sl).size, [], 0⟩
            rw [e1, e2] at h2
            exact h2.perm (by first | exact List.Perm.refl _ | exact .swap _ _ _ | exact (List.reverse_perm _) | exact (.cons _ (.swap _ _ _)) | exact ((List.Perm.swap _ _ _).trans (.cons _ (.swap _ _ _))) | exact ((List.Perm.cons _ (.swap _ _ _)).trans (.swap _ _ _)))
          have y4' : (w3.setCell ⟨gw, sl, none⟩ (.string ⟨#[]⟩)).cell? ⟨gs, sl, none⟩ = some (.int .i64 ((X.D sl).dur : Int)) := by
            have h1 := (HS3.out.perm (.swap _ _ _)).setBlk sl (.string ⟨#[]⟩)
            have h2 : Blk (w3.setCell ⟨gw, sl, none⟩ (.string ⟨#[]⟩)) gs 3 (durA X.D (n + 2)) := h1.get (.tail _ (.tail _ (.head _)))
            rw [h2.cell, durA_at hsln]
          have HSEP := Lib.hid hsep
          obtain ⟨w4, hw4⟩ : ∃ w4, w4 = (w3.setCell ⟨gw, sl, none⟩ (.string ⟨#[]⟩)).setCell ⟨gs, sl, none⟩ (.int .i64 0) := ⟨_, rfl⟩
          rw [← hw4] at HSEP
          have HW4 := Lib.hid hw4
          clear hXX hsep hw4 HLAW
          go_wp2_with fail
          rw [← HW4.out]
          refine (dev_ops HSEP.out.dev).mono ?_
          rintro e w' ⟨rfl, rfl⟩
          rw [HOPS.out]
          go_wp2_with fail
          go_roundg (gk - 1)
          case measure => have := HJ.out; omega
          case rel => exact ⟨j + 1, L3, by have := HJ.out; omega, by go_num, by rw [HXS.out, HOPS.out]; go_num, by rw [HXS.out]; exact HSEP.out⟩
        · have g7 : ((ka : Int) == 7) = false := by rw [beq_eq_false_iff_ne]; omega
          have g5 : decide (5 ≤ ka) = false := by simp; omega
          have HXX := Lib.hid hXX
          have HOPS : Hid (X2.ops = xo + 1) := by show _ = _; rw [hXX]; show X.ops + 1 = _; rw [HXO.out]
          clear hXX HLAW
          obtain ⟨mv, hmv⟩ : ∃ mv, mvD tb j = mv := ⟨_, rfl⟩
          have HML : Hid (mv.length = kn) := by show _ = _; rw [← hmv, mvD_length]; exact HMV.out
          have HMA : Hid (∀ k (h : k < mv.length), mv[k] = BitVec.ofNat 8 (j * 16 + k)) := by
            intro k h
            subst hmv
            exact mvD_at tb j k h
          rw [hmv] at HXX
          obtain ⟨DJ, hDJ⟩ : ∃ DJ : Nat → Nat → SlotD, DJ = fun q => updF X.D sl ⟨(X.D sl).size, (X.D sl).bytes ++ mv.take q, (X.D sl).dur⟩ := ⟨_, rfl⟩
          have HDJS : Hid (∀ q, strOf (DJ q sl).bytes = strOf ((X.D sl).bytes ++ mv.take q)) := fun q => by rw [hDJ]; dsimp only; rw [updF_same]
          have HDJ0 : Hid (strA (DJ 0) (n + 2) = strA X.D (n + 2)) := strA_congr (fun i _ => by
            rw [hDJ]
            dsimp only
            rcases updF_or X.D sl i ⟨(X.D sl).size, (X.D sl).bytes ++ mv.take 0, (X.D sl).dur⟩ with ⟨e, rfl⟩ | ⟨e, _⟩
            · rw [e]; simp
            · rw [e])
          have HDJN : Hid (∀ q, (strA (DJ q) (n + 2)).setIfInBounds sl (.string (strOf ((X.D sl).bytes ++ mv.take (q + 1)))) = strA (DJ (q + 1)) (n + 2)) := fun q => by
            have := strA_set (DJ q) hsln ⟨(X.D sl).size, (X.D sl).bytes ++ mv.take (q + 1), (X.D sl).dur⟩
            rw [show (⟨(X.D sl).size, (X.D sl).bytes ++ mv.take (q + 1), (X.D sl).dur⟩ : SlotD).bytes = (X.D sl).bytes ++ mv.take (q + 1) from rfl] at this
            rw [this]
            refine strA_congr (fun i _ => ?_)
            rw [hDJ]
            dsimp only
            unfold updF
            split <;> rfl
          have HDJE : Hid (strA (DJ kn) (n + 2) = strA X2.D (n + 2) ∧ durA X.D (n + 2) = durA X2.D (n + 2)) := by
            have hall : mv.take kn = mv := List.take_of_length_le (by rw [HML.out]; exact Nat.le_refl _)
            refine ⟨by rw [hDJ, HXX.out]; dsimp only; rw [hall], ?_⟩
            refine durA_congr (fun i _ => ?_)
            rw [HXX.out]
            dsimp only
            rcases updF_or X.D sl i ⟨(X.D sl).size, (X.D sl).bytes ++ mv, (X.D sl).dur⟩ with ⟨e, rfl⟩ | ⟨e, _⟩
            · rw [e]
            · rw [e]
          have HLB : Hid (∀ q, q ≤ kn → ((X.D sl).bytes ++ mv.take q).length ≤ 80) := fun q hq => by
            rw [List.length_append, List.length_take, HLN.out]
            omega
          clear hmv hDJ
          have hs0 : Sep w.heap.size w w3 [devOb v L3 X2, blkOb gw 9 (strA (DJ 0) (n + 2)), blkOb gs 3 (durA X.D (n + 2))] := by rw [HDJ0.out]; exact HS3.out
          have HS30 := Lib.hid hs0
          clear hs0
          obtain ⟨gk1, rfl⟩ : ∃ gk1, gk1 = gk := ⟨_, rfl⟩
          go_wp2_with fail
          go_loopg [17] kn (fun q v17 wr => ∃ (k : Nat), k + q = kn ∧ v17 = .int .i64 k ∧ Sep w.heap.size w wr [devOb v L3 X2, blkOb gw 9 (strA (DJ k) (n + 2)), blkOb gs 3 (durA X.D (n + 2))])
          case atStart => exact ⟨0, by omega, rfl, HS30.out⟩
          case round =>
            obtain ⟨k, hj, rfl, hs⟩ := hrel
            have HJ2 := Lib.hid hj
            have hk : k ≤ kn := by omega
            have HS4 := Lib.hid hs
            by_cases hlt2 : k < kn
            · have hkm : k < mv.length := by rw [HML.out]; exact hlt2
              have hqw : Blk wr gw 9 (strA (DJ k) (n + 2)) := hs.get (.tail _ (.head _))
              obtain ⟨x, hx⟩ : ∃ x, mv[k] = x := ⟨_, rfl⟩
              have hxv : x = BitVec.ofNat 8 (j * 16 + k) := by rw [← hx]; exact HMA.out k hkm
              obtain ⟨Sk, hSk⟩ : ∃ Sk, strOf ((X.D sl).bytes ++ mv.take k) = Sk := ⟨_, rfl⟩
              obtain ⟨S1, hS1⟩ : ∃ S1, strOf [x] = S1 := ⟨_, rfl⟩
              obtain ⟨Sn, hSn⟩ : ∃ Sn, strOf ((X.D sl).bytes ++ mv.take (k + 1)) = Sn := ⟨_, rfl⟩
              have hcat : Sk ++ S1 = Sn := by
                rw [← hSk, ← hS1, ← hSn, strOf_app, List.append_assoc, take_snoc mv k hkm, hx]
              have hsz1 : ¬ (9223372036854775807 < Sk.size + S1.size) := by
                have e1 : Sk.size = ((X.D sl).bytes ++ mv.take k).length := by rw [← hSk]; exact strOf_size _
                have e2 : S1.size = 1 := by rw [← hS1]; exact strOf_size _
                have := HLB.out k (by omega)
                omega
              have y5 : wr.cell? ⟨gw, sl, none⟩ = some (.string Sk) := by rw [hqw.cell, strA_at hsln, HDJS.out, hSk]
              obtain ⟨z, hz⟩ : ∃ z, ((j : Int) * 16 + (k : Int)) % 256 = z := ⟨_, rfl⟩
              have hzx : z = n8 x := by rw [hxv, n8_ofNat, ← hz]; push_cast; rfl
              have HSA : Hid (Sep w.heap.size w (wr.alloc (.cells #[.int .u8 z] 5)) [devOb v L3 X2, blkOb gw 9 (strA (DJ k) (n + 2)), blkOb gs 3 (durA X.D (n + 2))]) := hs.alloc _
              have hqa : Blk (wr.alloc (.cells #[.int .u8 z] 5)) gw 9 (strA (DJ k) (n + 2)) := HSA.out.get (.tail _ (.head _))
              have y5a : (wr.alloc (.cells #[.int .u8 z] 5)).cell? ⟨gw, sl, none⟩ = some (.string Sk) := by rw [hqa.cell, strA_at hsln, HDJS.out, hSk]
              have y6a := hqa.frozen sl
              have hcv : (convert 27 9 (.slice (some ⟨wr.heap.size, 0, none⟩) 1 1)).run Try.prog (wr.alloc (.cells #[.int .u8 z] 5)).drew = .ok (.string S1) (wr.alloc (.cells #[.int .u8 z] 5)).drew := by
                rw [← hS1]
                exact str_bytes ((reads_new wr 5 _ (0, 0) [x] 1 rfl (by rw [hzx]; rfl)).drew)
              have HST : Hid (Sep w.heap.size w ((wr.alloc (.cells #[.int .u8 z] 5)).setCell ⟨gw, sl, none⟩ (.string Sn)) [devOb v L3 X2, blkOb gw 9 (strA (DJ (k + 1)) (n + 2)), blkOb gs 3 (durA X.D (n + 2))]) := by
                have h1 := ((HSA.out.perm (.swap _ _ _)).setBlk sl (.string Sn)).perm (.swap _ _ _)
                rw [← hSn, HDJN.out] at h1
                rw [← hSn]
                exact h1
              have hslz : (sl : Int) < (n : Int) + 2 := by omega
              clear hj hs hqw hqa hSk hS1 hSn hx hxv hzx
              go_wp2_with fail
              go_region
              all_goals
                go_wp2_with fail
                go_roundg (gk - 1)
                case measure => have := HJ2.out; omega
                case rel => exact ⟨k + 1, by have := HJ2.out; omega, by go_num, HST.out.drew⟩
            · obtain rfl : k = kn := by omega
              have HSEP : Hid (Sep w.heap.size w wr [devOb v L3 X2, blkOb gw 9 (strA X2.D (n + 2)), blkOb gs 3 (durA X2.D (n + 2))]) := by
                show Sep _ _ _ _
                rw [← HDJE.out.1, ← HDJE.out.2]
                exact hs
              clear hj hs
              go_wp2_with fail
              refine (dev_ops HSEP.out.dev).mono ?_
              rintro e w' ⟨rfl, rfl⟩
              rw [HOPS.out]
              go_wp2_with fail
              go_roundg (gk1 - 1)
              case measure => have := HJ.out; omega
              case rel => exact ⟨j + 1, L3, by have := HJ.out; omega, by go_num, by rw [HXS.out, HOPS.out]; go_num, by rw [HXS.out]; exact HSEP.out⟩
        · have g7 : ((ka : Int) == 7) = false := by rw [beq_eq_false_iff_ne]; omega
          have g5 : decide (5 ≤ ka) = false := by simp; omega
          have HXX := Lib.hid hXX
          clear hXX HLAW
          go_wp2_with fail
          go_roundg (gk - 1)
          case measure => have := HJ.out; omega
          case rel => exact ⟨j + 1, L3, by have := HJ.out; omega, by go_num, by rw [HXS.out, HXX.out, HXO.out], by rw [HXS.out, HXX.out]; rw [HXX.out] at HS3; exact HS3.out⟩
    · clear hj hXo hxo
      go_wp2_with fail
      go_loopg [18] (n + 2) (fun q v18 wr => ∃ (i : Nat), i + q = n + 2 ∧ v18 = .int .i64 i ∧ Sep w.heap.size w wr [devOb v L1 X, blkOb gw 9 (strA X.D (n + 2)), blkOb gs 3 (durA X.D (n + 2))])
      case atStart => exact ⟨0, by omega, rfl, HS.out⟩
      case round =>
        obtain ⟨i, hj, rfl, hs⟩ := hrel
        have HJ2 := Lib.hid hj
        have hi2 : i ≤ n + 2 := by omega
        have HS2 := Lib.hid hs
        by_cases hlt2 : i < n + 2
        · have hchk := HP.out.chk i hlt2
          have hszS := HP.out.size i hlt2
          have hnumS := HP.out.num i hlt2
          obtain ⟨bs, hbs⟩ : ∃ bs, (X.D i).bytes = bs := ⟨_, rfl⟩
          obtain ⟨du, hdu⟩ : ∃ du, (X.D i).dur = du := ⟨_, rfl⟩
          obtain ⟨k, hk⟩ : ∃ k, bs.length = k := ⟨_, rfl⟩
          obtain ⟨rm, hrm⟩ : ∃ rm, szAt n sz i = rm := ⟨_, rfl⟩
          have HRM : Hid ((i < n ∧ rm = sz) ∨ (n ≤ i ∧ rm = 64)) := by
            show _ ∨ _
            unfold szAt at hrm
            by_cases e : i < n
            · rw [if_pos e] at hrm; exact .inl ⟨e, hrm.symm⟩
            · rw [if_neg e] at hrm; exact .inr ⟨by omega, hrm.symm⟩
          rw [hszS, hrm, hbs, hdu, hk] at hnumS
          obtain ⟨hdk, hkr⟩ := hnumS
          have hrm64 : rm ≤ 64 := by rcases HRM.out with ⟨_, h⟩ | ⟨_, h⟩ <;> omega
          have HLV : Hid (lenV X (i : Int) = (k : Int) ∧ unsV X (i : Int) = (k : Int) - (du : Int) ∧ roomV X (i : Int) = (rm : Int) - (k : Int) ∧ chkE X (i : Int) = 0) := by
            refine ⟨?_, ?_, ?_, hchk⟩
            · unfold lenV; rw [if_pos hchk, Int.toNat_natCast, hbs, hk]
            · unfold unsV; rw [if_pos hchk, Int.toNat_natCast, hbs, hk, hdu]
            · unfold roomV; rw [if_pos hchk, Int.toNat_natCast, hszS, hrm, hbs, hk]
          have HBS := Lib.hid hbs
          have HK := Lib.hid hk
          obtain ⟨h, hh⟩ : ∃ h, k / 2 = h := ⟨_, rfl⟩
          have hhk : h ≤ k := by omega
          have htd : Int.tdiv (k : Int) 2 = (h : Int) := by rw [Int.tdiv_eq_ediv_of_nonneg (by omega)]; omega
          obtain ⟨S, hS⟩ : ∃ S, strOf bs = S := ⟨_, rfl⟩
          have hSs : S.size = k := by rw [← hS, strOf_size]; exact hk
          obtain ⟨Sh, hSh⟩ : ∃ Sh, strOf (bs.drop h) = Sh := ⟨_, rfl⟩
          have hex : S.extract h S.size = Sh := by rw [← hS, ← hSh]; exact strOf_drop _ _
          have hslc : ∀ W, (Instr.slice 9 (.string S) (some (.int .i64 (h : Int))) none none).run Try.prog W = .ok (.string Sh) W := fun W => by
            have := run_slice_string_l (P := Try.prog) W 9 S Try.underlying9 .i64 (h : Int) (by omega) (by rw [hSs]; omega)
            rw [this, Int.toNat_natCast, hex]
          have HSLC := Lib.hid hslc
          have HCELL : Hid (∀ W, Sep w.heap.size w W [devOb v L1 X, blkOb gw 9 (strA X.D (n + 2)), blkOb gs 3 (durA X.D (n + 2))] → W.cell? ⟨gw, i, none⟩ = some (.string S) ∧ W.cell? ⟨gs, i, none⟩ = some (.int .i64 (du : Int))) := fun W hW => by
            have h1 : Blk W gw 9 (strA X.D (n + 2)) := hW.get (.tail _ (.head _))
            have h2 : Blk W gs 3 (durA X.D (n + 2)) := hW.get (.tail _ (.tail _ (.head _)))
            rw [h1.cell, h2.cell, strA_at hlt2, durA_at hlt2, hbs, hS, hdu]
            exact ⟨rfl, rfl⟩
          have HSTR := Lib.hid hS
          have HSTH := Lib.hid hSh
          clear hj hs hchk hszS hbs hk hrm hdu hh hS hSh hex hslc
          go_wp2_with fail
          refine (dev_len HS2.out.dev (i : Int)).mono ?_
          rintro e w4 ⟨rfl, hb⟩
          rw [HLV.out.1, HLV.out.2.2.2]
          have HS3 := Lib.hid (HS2.out.below hb)
          clear hb
          go_wp2_with fail
          refine (dev_read HS3.out.dev (i : Int) 0 (k : Int)).mono ?_
          rintro e w5 ⟨u, r, rfl, hq, hb⟩
          obtain ⟨rfl, ho⟩ := read_ok (s := i) (a := 0) (b := k) hq HLV.out.2.2.2 (by rw [HBS.out, HK.out]; omega)
          rw [HBS.out, List.drop_zero, List.take_of_length_le (by rw [HK.out]; exact Nat.le_refl _)] at ho
          obtain ⟨A5, c5, rfl, hc5, hr5⟩ := own_reads ho (by omega)
          have HS4 := Lib.hid (HS3.out.below hb)
          have HR5 := Lib.hid hr5
          clear hb hq ho hr5
          go_wp2_with fail
          refine (dev_unsynced HS4.out.dev (i : Int)).mono ?_
          rintro e w6 ⟨rfl, hb⟩
          rw [HLV.out.2.1, HLV.out.2.2.2]
          have HS5 := Lib.hid (HS4.out.below hb)
          have HR6 := Lib.hid ((HR5.out.below hb).more hb.size)
          clear hb
          go_wp2_with fail
          refine (dev_read HS5.out.dev (i : Int) (h : Int) ((k : Int) - (h : Int))).mono ?_
          rintro e w7 ⟨u, r, rfl, hq, hb⟩
          rw [show (k : Int) - (h : Int) = ((k - h : Nat) : Int) by omega] at hq
          obtain ⟨rfl, ho⟩ := read_ok (s := i) (a := h) (b := k - h) hq HLV.out.2.2.2 (by rw [HBS.out, HK.out]; omega)
          rw [HBS.out, List.take_of_length_le (by rw [List.length_drop, HK.out]; exact Nat.le_refl _)] at ho
          obtain ⟨A7, c7, rfl, hc7, hr7⟩ := own_reads ho (by omega)
          have HS6 := Lib.hid (HS5.out.below hb)
          have HR7 := Lib.hid ((HR6.out.below hb).more hb.size)
          have HH7 := Lib.hid hr7
          clear hb hq ho hr7
          go_wp2_with fail
          refine (dev_read HS6.out.dev (i : Int) (k : Int) 1).mono ?_
          rintro e w8 ⟨u, r, rfl, hq, hb⟩
          obtain ⟨rfl, rfl⟩ : r = 3 ∧ u = .slice none 0 0 := by
            rcases hq with ⟨g1, _⟩ | ⟨_, s', e9, _, g2 | ⟨a', b', e1, e2, e3, _⟩⟩
            · exact absurd HLV.out.2.2.2 g1
            · exact ⟨g2.2.1, g2.2.2⟩
            · obtain rfl : s' = i := by omega
              rw [HBS.out, HK.out] at e3
              omega
          have HS7 := Lib.hid (HS6.out.below hb)
          have HR8 := Lib.hid ((HR7.out.below hb).more hb.size)
          have HH8 := Lib.hid ((HH7.out.below hb).more hb.size)
          clear hb hq
          have hszz := HSZZ.out
          rcases HRM.out with ⟨hr1, rfl⟩ | ⟨hr1, rfl⟩
          · have hge : decide (n ≤ i) = false := by simp; omega
            go_wp2_with fail
            refine (dev_room HS7.out.dev (i : Int)).mono ?_
            rintro e w9 ⟨rfl, hb⟩
            rw [HLV.out.2.2.1, HLV.out.2.2.2]
            have HS8 := Lib.hid (HS7.out.below hb)
            obtain ⟨y1, y2⟩ := HCELL.out w9 HS8.out
            have s1 : ∀ q, (convert 27 9 (.slice A5 k c5)).run Try.prog (w9.drewN q) = .ok (.string S) (w9.drewN q) := fun q => by rw [← HSTR.out]; exact str_bytes (((HR8.out.below hb).more hb.size).drewN q)
            have s2 : ∀ q, (convert 27 9 (.slice A7 (k - h) c7)).run Try.prog (w9.drewN q) = .ok (.string Sh) (w9.drewN q) := fun q => by rw [← HSTH.out]; exact str_bytes (((HH8.out.below hb).more hb.size).drewN q)
            have hslc := HSLC.out
            have hilt : (i : Int) < (n : Int) + 2 := by omega
            clear hb
            go_wp2_with fail
            refine wp_region_quiet_lit (by kernel_rfl) (by kernel_rfl) ?_
            try simp only [List.append_eq, List.cons_append, List.nil_append]
            repeat (go_big_quiet_step (fail))
            refine wpQuiet_nil ?_
            intro _ hw'
            obtain ⟨nq, hw''⟩ := hw'
            subst hw''
            have HS9 := Lib.hid (HS8.out.drewN nq)
            generalize w9.drewN nq = w10 at HS9 ⊢
            clear s1 s2 y1 y2 hslc
            go_wp2_with fail
            go_roundg (gk - 1)
            case measure => have := HJ2.out; omega
            case rel => exact ⟨i + 1, by have := HJ2.out; omega, by go_num, HS9.out⟩
          · have hge : decide (n ≤ i) = true := by simp; omega
            go_wp2_with fail
            refine (dev_room HS7.out.dev (i : Int)).mono ?_
            rintro e w9 ⟨rfl, hb⟩
            rw [HLV.out.2.2.1, HLV.out.2.2.2]
            have HS8 := Lib.hid (HS7.out.below hb)
            obtain ⟨y1, y2⟩ := HCELL.out w9 HS8.out
            have s1 : ∀ q, (convert 27 9 (.slice A5 k c5)).run Try.prog (w9.drewN q) = .ok (.string S) (w9.drewN q) := fun q => by rw [← HSTR.out]; exact str_bytes (((HR8.out.below hb).more hb.size).drewN q)
            have s2 : ∀ q, (convert 27 9 (.slice A7 (k - h) c7)).run Try.prog (w9.drewN q) = .ok (.string Sh) (w9.drewN q) := fun q => by rw [← HSTH.out]; exact str_bytes (((HH8.out.below hb).more hb.size).drewN q)
            have hslc := HSLC.out
            have hilt : (i : Int) < (n : Int) + 2 := by omega
            clear hb
            go_wp2_with fail
            refine wp_region_quiet_lit (by kernel_rfl) (by kernel_rfl) ?_
            try simp only [List.append_eq, List.cons_append, List.nil_append]
            repeat (go_big_quiet_step (fail))
            refine wpQuiet_nil ?_
            intro _ hw'
            obtain ⟨nq, hw''⟩ := hw'
            subst hw''
            have HS9 := Lib.hid (HS8.out.drewN nq)
            generalize w9.drewN nq = w10 at HS9 ⊢
            clear s1 s2 y1 y2 hslc
            go_wp2_with fail
            go_roundg (gk - 1)
            case measure => have := HJ2.out; omega
            case rel => exact ⟨i + 1, by have := HJ2.out; omega, by go_num, HS9.out⟩
        · obtain rfl : i = n + 2 := by omega
          clear hj hs
          go_wp2_with fail
          refine (dev_slots HS2.out.dev).mono ?_
          rintro e w' ⟨rfl, rfl⟩
          rw [HXN.out]
          go_wp2_with fail
          refine (works_any _).mono ?_
          rintro e w22 ⟨rfl, hb⟩
          have HB : Hid (Below w.heap.size w w22) := HS2.out.bel.trans (hb.mono HS2.out.big)
          clear hb
          go_wp2_with fail
          go_ret
          exact ⟨rfl, HB.out⟩
theorem DeviceReads_walk (v0 v1 v2 : Value) (w : World) (a0 : ArgIn Try.prog w 5 v0) (a1 : ArgIn Try.prog w 5 v1) (a2 : ArgIn Try.prog w 39 v2) :
    Calls Try.prog 4 #[v0, v1, v2] w fun e w' => e = .returned (.bool true) ∧ Below w.heap.size w w' := by
  obtain ⟨x0, rfl, h0⟩ := a0.int (k := .u8) Try.underlying5
  obtain ⟨x1, rfl, h1⟩ := a1.int (k := .u8) Try.underlying5
  obtain ⟨A, n, c, ts, rfl, hn, hc, ht⟩ := turns_arg a2
  obtain ⟨b0, rfl⟩ := u8_of_wf h0
  obtain ⟨b1, rfl⟩ := u8_of_wf h1
  exact DeviceReads_w b0 b1 A n c ts w ht hn hc
end Go.Proofs.Yteglaedkhopbgaa
