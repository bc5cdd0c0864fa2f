/-
  The walk of the law DevicePlays: it returns true and writes nothing that was there. No condition.
-/
import Derived.Test.YteglaedkhopbgaaGreatMN
import Derived.Test.YteglaedkhopbgaaGreatMJ
import Derived.Deep.CutBlock
import Derived.Deep.DeepCutAuto
import Derived.Deep.RegionHeld3
namespace Go.Proofs.YteglaedkhopbgaaGreat
open Go.RowKit Go.Shelf
set_option linter.unusedVariables false
/-- What New gives, on both. -/
theorem vnew1 (a b : Int) (w : World) :
    Calls Tryz.prog 6 #[.int .i64 a, .int .i64 b] w fun e w' => ∃ p E Y, e = .returned (.tuple #[.pointer p, .int .i64 E]) ∧ Hid ((okNew a b ∧ E = 0 ∧ ∃ v L, p = some ⟨v, 0, none⟩ ∧ Y = some (newVD a.toNat b.toNat) ∧ Sep w.heap.size w w' [devOb v L (newVD a.toNat b.toNat)]) ∨ (¬ okNew a b ∧ E = 2 ∧ p = none ∧ Y = none ∧ Below w.heap.size w w')) := by
  refine (newdev_any a b w).mono ?_
  rintro e w' (⟨h1, v, L, rfl, h2, h3, h4⟩ | ⟨h1, rfl, h2⟩)
  · exact ⟨_, _, some (newVD a.toNat b.toNat), rfl, .inl ⟨h1, rfl, v, L, rfl, rfl, (Sep.start w).add (a := devOb v L (newVD a.toNat b.toNat)) h4 h2 h3⟩⟩
  · exact ⟨_, _, none, rfl, .inr ⟨h1, rfl, rfl, rfl, h2⟩⟩
theorem vnew2 {a b : Int} {w w1 : World} {p : Option Addr} {E : Int} {Y : Option DevD} (h : (okNew a b ∧ E = 0 ∧ ∃ v L, p = some ⟨v, 0, none⟩ ∧ Y = some (newVD a.toNat b.toNat) ∧ Sep w.heap.size w w1 [devOb v L (newVD a.toNat b.toNat)]) ∨ (¬ okNew a b ∧ E = 2 ∧ p = none ∧ Y = none ∧ Below w.heap.size w w1)) :
    Calls Tryz.prog 7 #[.int .i64 a, .int .i64 b] w1 fun e w' => ∃ q, e = .returned (.tuple #[.pointer q, .int .i64 E]) ∧ Hid (PS w w' p q Y Y []) ∧ Hid (opsO Y = 0) ∧ ((p = none ∧ q = none) ∨ ∃ v r, p = some v ∧ q = some r) := by
  rcases h with ⟨h1, rfl, v, L, rfl, rfl, hs⟩ | ⟨h1, rfl, rfl, rfl, hb⟩
  · refine (rd_new hs a b).mono ?_
    rintro e w' (⟨_, r, R, rfl, h2⟩ | ⟨h2, _⟩)
    · exact ⟨_, rfl, .inr ⟨v, r, L, R, _, _, rfl, rfl, rfl, rfl, newVD_ok _ _ (by have := h1.1; omega) (by have := h1.1; omega), ps_tor h2⟩, rfl, .inr ⟨_, _, rfl, rfl⟩⟩
    · exact absurd h1 h2
  · have hs : Sep w.heap.size w w1 [] := ⟨hb, hb.size, (fun o ho => by cases ho), List.Pairwise.nil⟩
    refine (rd_new hs a b).mono ?_
    rintro e w' (⟨h2, _⟩ | ⟨_, rfl, h2⟩)
    · exact absurd h2 h1
    · exact ⟨_, rfl, .inl ⟨rfl, rfl, rfl, rfl, hs.below h2⟩, rfl, .inl ⟨rfl, rfl⟩⟩
set_option maxRecDepth 100000 in
set_option maxHeartbeats 16000000 in
theorem DevicePlays_w (a b : Int) (A : Option Addr) (n c : Nat) (sts : Nat → VStep) (w : World) (hst : VStepsAt w w.heap.size A n sts) (hn : n ≤ c) (hc : c ≤ maxLen) :
    Calls Tryz.prog 3 #[.int .i64 a, .int .i64 b, .slice A n c] w fun e w' => e = .returned (.bool true) ∧ Below w.heap.size w w' := by
  have HST := Lib.hid hst
  have HSH := Lib.hid (vshort_any A n c sts 60 w hst hn hc)
  unfold maxLen at hc
  clear hst
  go_enter Tryz.func3, Tryz.ntmps3
  go_wp2_with fail
  refine HSH.out.mono ?_
  rintro e wx ⟨rr, rfl, hsh, rfl⟩
  cases rr with
  | false =>
    clear hsh
    go_wp2_with fail
    refine (works_any _).mono ?_
    rintro e w9 ⟨rfl, hb⟩
    have HB := Lib.hid hb
    clear hb
    go_wp2_with fail
    go_ret
    exact ⟨rfl, HB.out⟩
  | true =>
    obtain ⟨hm60, hss⟩ := hsh rfl
    have HSS := Lib.hid hss
    clear hsh hss HSH
    go_wp2_with fail
    refine (vnew1 a b w).mono ?_
    rintro e w1 ⟨p0, E, Y0, rfl, HN1⟩
    go_wp2_with fail
    refine (vnew2 HN1.out).mono ?_
    rintro e w2 ⟨q0, rfl, HP2, HO2, hpq⟩
    clear HN1
    go_upto_region 5 with fail
    go_cut [7, 9, 54] (fun s7 s9 s54 wy => ∃ p q, s7 = .pointer p ∧ s9 = .pointer q ∧ s54 = .bool false ∧ PS w wy p q Y0 Y0 [])
    case first =>
      rcases hpq with ⟨rfl, rfl⟩ | ⟨v, r, rfl, rfl⟩
      · go_wp2_with fail
        go_meet
        exact ⟨none, none, rfl, rfl, rfl, HP2.out⟩
      · go_wp2_with fail
        go_meet
        exact ⟨_, _, rfl, rfl, rfl, HP2.out⟩
    case rest =>
      obtain ⟨p, q, rfl, rfl, rfl, hps⟩ := hcut
      have HPS := Lib.hid hps
      clear hps hpq HP2
      go_wp2_with fail
      go_loopg [7, 9, 11] n (fun k v7 v9 v11 wr => ∃ (j : Nat) (p q : Option Addr) (Y : Option DevD), j + k = n ∧ v7 = .pointer p ∧ v9 = .pointer q ∧ v11 = .int .i64 j ∧ opsO Y ≤ j ∧ PS w wr p q Y Y [])
      case atStart => exact ⟨0, _, _, Y0, by omega, rfl, rfl, rfl, Nat.le_of_eq HO2.out, HPS.out⟩
      case round =>
        clear HPS HO2
        obtain ⟨j, p, q, Y, hj, rfl, rfl, rfl, hops, hps⟩ := hrel
        have HJ := Lib.hid hj
        have HPS := Lib.hid hps
        have HOPS := Lib.hid hops
        have hj' : j ≤ n := by omega
        clear hj hps hops
        by_cases hlt : j < n
        · obtain ⟨ad, v4, v7, hst0⟩ := HST.out j hlt
          have hst' := hst0.below HPS.out.bel
          obtain ⟨A4, n4, c4, rfl, e4, h41, h42, h43⟩ := hst0.ok.hv
          obtain ⟨⟨A7, n7, c7, rfl, e7, h71, h72, h73⟩, h74⟩ := hst0.ok.hk
          have hz7 : A7 = none → c7 = 0 := fun e => hst0.ok.hz n7 c7 (by rw [e])
          have hha := hst0.ok.ha
          have hsh := HSS.out j hlt
          have c0 := hst'.c0
          have c1 := hst'.c1
          have c2 := hst'.c2
          have c3 := hst'.c3
          have c4' := hst'.c4
          have c5 := hst'.c5
          have c6 := hst'.c6
          have c7' := hst'.c7
          obtain rfl := hst0.a
          obtain ⟨st, hstv⟩ : ∃ st, sts j = st := ⟨_, rfl⟩
          rw [hstv] at c0 c1 c2 c3 c5 c6 e4 e7 h43 h73 h74 hsh hha
          obtain ⟨d0, d1, d2, d3, db, d5, d6, dk⟩ := st
          have HV : Hid (Holds w (.slice A4 n4 c4) db) := ⟨A4, n4, c4, rfl, e4, h41, h42, h43⟩
          have HK : Hid (HoldsI w (.slice A7 n7 c7) dk) := ⟨⟨A7, n7, c7, rfl, e7, h71, h72, h73⟩, h74⟩
          have HZ : Hid (A7 = none → c7 = 0) := hz7
          have HAT : Hid (-9223372036854775808 ≤ d5 ∧ d5 ≤ 9223372036854775807) := hha
          have HDB : Hid (db.length ≤ 1000000) := by have := hsh.1; show db.length ≤ 1000000; simp only at this; omega
          have HOP : Hid (opsO Y < 4611686018427387904) := by have := HOPS.out; show opsO Y < _; omega
          have h42' : c4 ≤ 9223372036854775807 := h42
          have h72' : c7 ≤ 9223372036854775807 := h72
          clear hst0 hst' e4 e7 h43 h73 h74 hsh hstv h42 h72 hz7 hha
          dsimp only at c0 c1 c2 c3 c5 c6
          obtain ⟨bx, hbx⟩ : ∃ bx, bx = wr.heap.size := ⟨_, rfl⟩
          obtain ⟨wa, hwa⟩ : ∃ wa : World, wa = wr.alloc (.cells #[.int .i64 d0, .int .i64 d1, .int .i64 d2, .int .i64 d3, .slice A4 n4 c4, .int .i64 d5, .bool d6, .slice A7 n7 c7] 37) := ⟨_, rfl⟩
          have H5 : Hid (PS w wa p q Y Y [blkOb bx 37 #[.int .i64 d0, .int .i64 d1, .int .i64 d2, .int .i64 d3, .slice A4 n4 c4, .int .i64 d5, .bool d6, .slice A7 n7 c7]]) := by
            show PS _ _ _ _ _ _ _
            rw [hwa]
            exact HPS.out.newBlk bx _ _ hbx
          have HC : Hid (AllCells [blkOb bx 37 #[.int .i64 d0, .int .i64 d1, .int .i64 d2, .int .i64 d3, .slice A4 n4 c4, .int .i64 d5, .bool d6, .slice A7 n7 c7]]) := AllCells.cons (cellOb_blk _ _ _) AllCells.nil
          have HCEL : Hid (∀ X p q Y Z, PS w X p q Y Z [blkOb bx 37 #[.int .i64 d0, .int .i64 d1, .int .i64 d2, .int .i64 d3, .slice A4 n4 c4, .int .i64 d5, .bool d6, .slice A7 n7 c7]] → X.cell? ⟨bx, 0, none⟩ = some (.int .i64 d0) ∧ X.cell? ⟨bx, 1, none⟩ = some (.int .i64 d1) ∧ X.cell? ⟨bx, 2, none⟩ = some (.int .i64 d2) ∧ X.cell? ⟨bx, 3, none⟩ = some (.int .i64 d3) ∧ X.cell? ⟨bx, 4, none⟩ = some (.slice A4 n4 c4) ∧ X.cell? ⟨bx, 5, none⟩ = some (.int .i64 d5) ∧ X.cell? ⟨bx, 6, none⟩ = some (.bool d6) ∧ X.cell? ⟨bx, 7, none⟩ = some (.slice A7 n7 c7)) := fun X p q Y Z h => by
            have hb : Blk X bx 37 #[.int .i64 d0, .int .i64 d1, .int .i64 d2, .int .i64 d3, .slice A4 n4 c4, .int .i64 d5, .bool d6, .slice A7 n7 c7] := h.get (.head _)
            exact ⟨hb.cell 0, hb.cell 1, hb.cell 2, hb.cell 3, hb.cell 4, hb.cell 5, hb.cell 6, hb.cell 7⟩
          have HWA := Lib.hid hwa
          have HBX := Lib.hid hbx
          clear hwa hbx HPS
          go_upto_block 2 with fail
          rw [← HWA.out]
          rw [← HBX.out]
          go_cut [7, 9] (fun s7 s9 wy => ∃ p q Y, s7 = .pointer p ∧ s9 = .pointer q ∧ opsO Y ≤ j + 1 ∧ PS w wy p q Y Y [blkOb bx 37 #[.int .i64 d0, .int .i64 d1, .int .i64 d2, .int .i64 d3, .slice A4 n4 c4, .int .i64 d5, .bool d6, .slice A7 n7 c7]])
          case first =>
            as_aux_lemma =>
              by_cases e0 : d0 = 0
              · have f0 : (d0 == 0) = true := by simpa using e0

                clear e0
                obtain ⟨STA, hA⟩ : ∃ STA : World → Prop, STA = fun X => PS w X p q Y Y [blkOb bx 37 #[.int .i64 d0, .int .i64 d1, .int .i64 d2, .int .i64 d3, .slice A4 n4 c4, .int .i64 d5, .bool d6, .slice A7 n7 c7]] := ⟨_, rfl⟩
                obtain ⟨STB, hB⟩ : ∃ STB : World → Prop, STB = fun X => PS w X p q (Y.map (fun X => appVX X d1 db)) Y [blkOb bx 37 #[.int .i64 d0, .int .i64 d1, .int .i64 d2, .int .i64 d3, .slice A4 n4 c4, .int .i64 d5, .bool d6, .slice A7 n7 c7]] := ⟨_, rfl⟩
                obtain ⟨STC, hC⟩ : ∃ STC : World → Prop, STC = fun X => PS w X p q (Y.map (fun X => appVX X d1 db)) (Y.map (fun X => appVX X d1 db)) [blkOb bx 37 #[.int .i64 d0, .int .i64 d1, .int .i64 d2, .int .i64 d3, .slice A4 n4 c4, .int .i64 d5, .bool d6, .slice A7 n7 c7]] := ⟨_, rfl⟩
                have HC3 := Lib.hid hC
                obtain ⟨EE, hEE⟩ : ∃ EE, eO Y 1 (fun X => appVE X d1 db) = EE := ⟨_, rfl⟩
                have CA : Hid (∀ X, STA X → Calls Tryz.prog 8 #[.pointer p, .int .i64 d1, .slice A4 n4 c4] X fun e X' => e = .returned (.int .i64 EE) ∧ (X'.cell? ⟨bx, 1, none⟩ = some (.int .i64 d1) ∧ X'.cell? ⟨bx, 4, none⟩ = some (.slice A4 n4 c4)) ∧ STB X') := fun X h => by
                  rw [hA] at h
                  have h : PS w X p q Y Y [blkOb bx 37 #[.int .i64 d0, .int .i64 d1, .int .i64 d2, .int .i64 d3, .slice A4 n4 c4, .int .i64 d5, .bool d6, .slice A7 n7 c7]] := h
                  refine (ps_append1 h HC.out HOP.out d1 HV.out HDB.out).mono ?_
                  rintro e X' ⟨h1, h4⟩
                  obtain ⟨z0, z1, z2, z3, z4, z5, z6, z7⟩ := HCEL.out X' _ _ _ _ h4
                  exact ⟨by rw [← hEE]; exact h1, ⟨z1, z4⟩, by rw [hB]; exact h4⟩
                have CB : Hid (∀ X, STB X → Calls Tryz.prog 9 #[.pointer q, .int .i64 d1, .slice A4 n4 c4] X fun e X' => e = .returned (.int .i64 EE) ∧ (X'.cell? ⟨bx, 1, none⟩ = some (.int .i64 d1) ∧ X'.cell? ⟨bx, 4, none⟩ = some (.slice A4 n4 c4)) ∧ STC X') := fun X h => by
                  rw [hB] at h
                  have h : PS w X p q (Y.map (fun X => appVX X d1 db)) Y [blkOb bx 37 #[.int .i64 d0, .int .i64 d1, .int .i64 d2, .int .i64 d3, .slice A4 n4 c4, .int .i64 d5, .bool d6, .slice A7 n7 c7]] := h
                  refine (ps_append2 h HOP.out d1 HV.out HDB.out).mono ?_
                  rintro e X' ⟨h1, h4⟩
                  obtain ⟨z0, z1, z2, z3, z4, z5, z6, z7⟩ := HCEL.out X' _ _ _ _ h4
                  exact ⟨by rw [← hEE]; exact h1, ⟨z1, z4⟩, by rw [hC]; exact h4⟩
                have sta0 : STA wa.drew := by rw [hA]; exact H5.out.below (show Below wa.heap.size wa wa.drew from (Below.refl _ _).drew)
                obtain ⟨q0, q1, q2, q3, q4, q5, q6, q7⟩ := HCEL.out wa _ _ _ _ H5.out
                clear hA hB hC hEE
                go_wp2_with fail
                go_region_held3 (fun X' => X'.cell? ⟨bx, 1, none⟩ = some (.int .i64 d1) ∧ X'.cell? ⟨bx, 4, none⟩ = some (.slice A4 n4 c4)) ((repeat' apply And.intro) <;> first | assumption | go_keep)
                  (first
                    | (go_at_call 8; refine (CA.out _ (by assumption)).mono ?_; rintro e x4 ⟨rfl, ⟨k1, k4⟩, stb⟩)
                    | (go_at_call 9; refine (CB.out _ (by assumption)).mono ?_; rintro e x5 ⟨rfl, ⟨l1, l4⟩, stc⟩))
                all_goals
                  have hz := (by assumption : STC _)
                  rw [HC3.out] at hz
                  have HZ3 := Lib.hid hz
                  clear hz q0 q1 q2 q3 q4 q5 q6 q7
                  go_wp2_with fail
                  go_meet
                  exact ⟨_, _, _, rfl, rfl, opsO_map HOPS.out (fun X => appVX_ops X d1 db), HZ3.out⟩
              by_cases e1 : d0 = 1
              · have f1 : (d0 == 1) = true := by simpa using e1
                have f0 : (d0 == 0) = false := by simpa using e0
                clear e0 e1
                obtain ⟨STA, hA⟩ : ∃ STA : World → Prop, STA = fun X => PS w X p q Y Y [blkOb bx 37 #[.int .i64 d0, .int .i64 d1, .int .i64 d2, .int .i64 d3, .slice A4 n4 c4, .int .i64 d5, .bool d6, .slice A7 n7 c7]] := ⟨_, rfl⟩
                obtain ⟨STB, hB⟩ : ∃ STB : World → Prop, STB = fun X => PS w X p q (Y.map (fun X => SyncVX X d1)) Y [blkOb bx 37 #[.int .i64 d0, .int .i64 d1, .int .i64 d2, .int .i64 d3, .slice A4 n4 c4, .int .i64 d5, .bool d6, .slice A7 n7 c7]] := ⟨_, rfl⟩
                obtain ⟨STC, hC⟩ : ∃ STC : World → Prop, STC = fun X => PS w X p q (Y.map (fun X => SyncVX X d1)) (Y.map (fun X => SyncVX X d1)) [blkOb bx 37 #[.int .i64 d0, .int .i64 d1, .int .i64 d2, .int .i64 d3, .slice A4 n4 c4, .int .i64 d5, .bool d6, .slice A7 n7 c7]] := ⟨_, rfl⟩
                have HC3 := Lib.hid hC
                obtain ⟨EE, hEE⟩ : ∃ EE, eO Y 1 (fun X => oneVE X d1) = EE := ⟨_, rfl⟩
                have CA : Hid (∀ X, STA X → Calls Tryz.prog 10 #[.pointer p, .int .i64 d1] X fun e X' => e = .returned (.int .i64 EE) ∧ (X'.cell? ⟨bx, 1, none⟩ = some (.int .i64 d1)) ∧ STB X') := fun X h => by
                  rw [hA] at h
                  have h : PS w X p q Y Y [blkOb bx 37 #[.int .i64 d0, .int .i64 d1, .int .i64 d2, .int .i64 d3, .slice A4 n4 c4, .int .i64 d5, .bool d6, .slice A7 n7 c7]] := h
                  refine (ps_sync1 h HC.out HOP.out d1).mono ?_
                  rintro e X' ⟨h1, h4⟩
                  obtain ⟨z0, z1, z2, z3, z4, z5, z6, z7⟩ := HCEL.out X' _ _ _ _ h4
                  exact ⟨by rw [← hEE]; exact h1, z1, by rw [hB]; exact h4⟩
                have CB : Hid (∀ X, STB X → Calls Tryz.prog 11 #[.pointer q, .int .i64 d1] X fun e X' => e = .returned (.int .i64 EE) ∧ (X'.cell? ⟨bx, 1, none⟩ = some (.int .i64 d1)) ∧ STC X') := fun X h => by
                  rw [hB] at h
                  have h : PS w X p q (Y.map (fun X => SyncVX X d1)) Y [blkOb bx 37 #[.int .i64 d0, .int .i64 d1, .int .i64 d2, .int .i64 d3, .slice A4 n4 c4, .int .i64 d5, .bool d6, .slice A7 n7 c7]] := h
                  refine (ps_sync2 h HOP.out d1).mono ?_
                  rintro e X' ⟨h1, h4⟩
                  obtain ⟨z0, z1, z2, z3, z4, z5, z6, z7⟩ := HCEL.out X' _ _ _ _ h4
                  exact ⟨by rw [← hEE]; exact h1, z1, by rw [hC]; exact h4⟩
                have sta0 : STA wa.drew := by rw [hA]; exact H5.out.below (show Below wa.heap.size wa wa.drew from (Below.refl _ _).drew)
                obtain ⟨q0, q1, q2, q3, q4, q5, q6, q7⟩ := HCEL.out wa _ _ _ _ H5.out
                clear hA hB hC hEE
                go_wp2_with fail
                go_region_held3 (fun X' => X'.cell? ⟨bx, 1, none⟩ = some (.int .i64 d1)) ((repeat' apply And.intro) <;> first | assumption | go_keep)
                  (first
                    | (go_at_call 10; refine (CA.out _ (by assumption)).mono ?_; rintro e x4 ⟨rfl, k1, stb⟩)
                    | (go_at_call 11; refine (CB.out _ (by assumption)).mono ?_; rintro e x5 ⟨rfl, l1, stc⟩))
                all_goals
                  have hz := (by assumption : STC _)
                  rw [HC3.out] at hz
                  have HZ3 := Lib.hid hz
                  clear hz q0 q1 q2 q3 q4 q5 q6 q7
                  go_wp2_with fail
                  go_meet
                  exact ⟨_, _, _, rfl, rfl, opsO_map HOPS.out (fun X => syncVX_ops X d1), HZ3.out⟩
              by_cases e2 : d0 = 2
              · have f2 : (d0 == 2) = true := by simpa using e2
                have f0 : (d0 == 0) = false := by simpa using e0
                have f1 : (d0 == 1) = false := by simpa using e1
                clear e0 e1 e2
                obtain ⟨STA, hA⟩ : ∃ STA : World → Prop, STA = fun X => PS w X p q Y Y [blkOb bx 37 #[.int .i64 d0, .int .i64 d1, .int .i64 d2, .int .i64 d3, .slice A4 n4 c4, .int .i64 d5, .bool d6, .slice A7 n7 c7]] := ⟨_, rfl⟩
                obtain ⟨STB, hB⟩ : ∃ STB : World → Prop, STB = fun X => PS w X p q (Y.map (fun X => EraseVX X d1)) Y [blkOb bx 37 #[.int .i64 d0, .int .i64 d1, .int .i64 d2, .int .i64 d3, .slice A4 n4 c4, .int .i64 d5, .bool d6, .slice A7 n7 c7]] := ⟨_, rfl⟩
                obtain ⟨STC, hC⟩ : ∃ STC : World → Prop, STC = fun X => PS w X p q (Y.map (fun X => EraseVX X d1)) (Y.map (fun X => EraseVX X d1)) [blkOb bx 37 #[.int .i64 d0, .int .i64 d1, .int .i64 d2, .int .i64 d3, .slice A4 n4 c4, .int .i64 d5, .bool d6, .slice A7 n7 c7]] := ⟨_, rfl⟩
                have HC3 := Lib.hid hC
                obtain ⟨EE, hEE⟩ : ∃ EE, eO Y 1 (fun X => oneVE X d1) = EE := ⟨_, rfl⟩
                have CA : Hid (∀ X, STA X → Calls Tryz.prog 12 #[.pointer p, .int .i64 d1] X fun e X' => e = .returned (.int .i64 EE) ∧ (X'.cell? ⟨bx, 1, none⟩ = some (.int .i64 d1)) ∧ STB X') := fun X h => by
                  rw [hA] at h
                  have h : PS w X p q Y Y [blkOb bx 37 #[.int .i64 d0, .int .i64 d1, .int .i64 d2, .int .i64 d3, .slice A4 n4 c4, .int .i64 d5, .bool d6, .slice A7 n7 c7]] := h
                  refine (ps_erase1 h HC.out HOP.out d1).mono ?_
                  rintro e X' ⟨h1, h4⟩
                  obtain ⟨z0, z1, z2, z3, z4, z5, z6, z7⟩ := HCEL.out X' _ _ _ _ h4
                  exact ⟨by rw [← hEE]; exact h1, z1, by rw [hB]; exact h4⟩
                have CB : Hid (∀ X, STB X → Calls Tryz.prog 13 #[.pointer q, .int .i64 d1] X fun e X' => e = .returned (.int .i64 EE) ∧ (X'.cell? ⟨bx, 1, none⟩ = some (.int .i64 d1)) ∧ STC X') := fun X h => by
                  rw [hB] at h
                  have h : PS w X p q (Y.map (fun X => EraseVX X d1)) Y [blkOb bx 37 #[.int .i64 d0, .int .i64 d1, .int .i64 d2, .int .i64 d3, .slice A4 n4 c4, .int .i64 d5, .bool d6, .slice A7 n7 c7]] := h
                  refine (ps_erase2 h HOP.out d1).mono ?_
                  rintro e X' ⟨h1, h4⟩
                  obtain ⟨z0, z1, z2, z3, z4, z5, z6, z7⟩ := HCEL.out X' _ _ _ _ h4
                  exact ⟨by rw [← hEE]; exact h1, z1, by rw [hC]; exact h4⟩
                have sta0 : STA wa.drew := by rw [hA]; exact H5.out.below (show Below wa.heap.size wa wa.drew from (Below.refl _ _).drew)
                obtain ⟨q0, q1, q2, q3, q4, q5, q6, q7⟩ := HCEL.out wa _ _ _ _ H5.out
                clear hA hB hC hEE
                go_wp2_with fail
                go_region_held3 (fun X' => X'.cell? ⟨bx, 1, none⟩ = some (.int .i64 d1)) ((repeat' apply And.intro) <;> first | assumption | go_keep)
                  (first
                    | (go_at_call 12; refine (CA.out _ (by assumption)).mono ?_; rintro e x4 ⟨rfl, k1, stb⟩)
                    | (go_at_call 13; refine (CB.out _ (by assumption)).mono ?_; rintro e x5 ⟨rfl, l1, stc⟩))
                all_goals
                  have hz := (by assumption : STC _)
                  rw [HC3.out] at hz
                  have HZ3 := Lib.hid hz
                  clear hz q0 q1 q2 q3 q4 q5 q6 q7
                  go_wp2_with fail
                  go_meet
                  exact ⟨_, _, _, rfl, rfl, opsO_map HOPS.out (fun X => eraseVX_ops X d1), HZ3.out⟩
              by_cases e3 : d0 = 3
              · have f3 : (d0 == 3) = true := by simpa using e3
                have f0 : (d0 == 0) = false := by simpa using e0
                have f1 : (d0 == 1) = false := by simpa using e1
                have f2 : (d0 == 2) = false := by simpa using e2
                clear e0 e1 e2 e3
                obtain ⟨STA, hA⟩ : ∃ STA : World → Prop, STA = fun X => PS w X p q Y Y [blkOb bx 37 #[.int .i64 d0, .int .i64 d1, .int .i64 d2, .int .i64 d3, .slice A4 n4 c4, .int .i64 d5, .bool d6, .slice A7 n7 c7]] := ⟨_, rfl⟩
                obtain ⟨STB, hB⟩ : ∃ STB : World → Prop, STB = fun X => PS w X p q (Y.map (fun X => armX X d5 d6 dk)) Y [blkOb bx 37 #[.int .i64 d0, .int .i64 d1, .int .i64 d2, .int .i64 d3, .slice A4 n4 c4, .int .i64 d5, .bool d6, .slice A7 n7 c7]] := ⟨_, rfl⟩
                obtain ⟨STC, hC⟩ : ∃ STC : World → Prop, STC = fun X => PS w X p q (Y.map (fun X => armX X d5 d6 dk)) (Y.map (fun X => armX X d5 d6 dk)) [blkOb bx 37 #[.int .i64 d0, .int .i64 d1, .int .i64 d2, .int .i64 d3, .slice A4 n4 c4, .int .i64 d5, .bool d6, .slice A7 n7 c7]] := ⟨_, rfl⟩
                have HC3 := Lib.hid hC
                obtain ⟨EE, hEE⟩ : ∃ EE, eO Y 1 (fun _ => armE d5 dk) = EE := ⟨_, rfl⟩
                have CA : Hid (∀ X, STA X → Calls Tryz.prog 14 #[.pointer p, .agg #[.int .i64 d5, .bool d6, .slice A7 n7 c7]] X fun e X' => e = .returned (.int .i64 EE) ∧ (X'.cell? ⟨bx, 5, none⟩ = some (.int .i64 d5) ∧ X'.cell? ⟨bx, 6, none⟩ = some (.bool d6) ∧ X'.cell? ⟨bx, 7, none⟩ = some (.slice A7 n7 c7)) ∧ STB X') := fun X h => by
                  rw [hA] at h
                  have h : PS w X p q Y Y [blkOb bx 37 #[.int .i64 d0, .int .i64 d1, .int .i64 d2, .int .i64 d3, .slice A4 n4 c4, .int .i64 d5, .bool d6, .slice A7 n7 c7]] := h
                  refine (ps_arm1 h HC.out d5 d6 HK.out HZ.out HAT.out).mono ?_
                  rintro e X' ⟨h1, h4⟩
                  obtain ⟨z0, z1, z2, z3, z4, z5, z6, z7⟩ := HCEL.out X' _ _ _ _ h4
                  exact ⟨by rw [← hEE]; exact h1, ⟨z5, z6, z7⟩, by rw [hB]; exact h4⟩
                have CB : Hid (∀ X, STB X → Calls Tryz.prog 15 #[.pointer q, .agg #[.int .i64 d5, .bool d6, .slice A7 n7 c7]] X fun e X' => e = .returned (.int .i64 EE) ∧ (X'.cell? ⟨bx, 5, none⟩ = some (.int .i64 d5) ∧ X'.cell? ⟨bx, 6, none⟩ = some (.bool d6) ∧ X'.cell? ⟨bx, 7, none⟩ = some (.slice A7 n7 c7)) ∧ STC X') := fun X h => by
                  rw [hB] at h
                  have h : PS w X p q (Y.map (fun X => armX X d5 d6 dk)) Y [blkOb bx 37 #[.int .i64 d0, .int .i64 d1, .int .i64 d2, .int .i64 d3, .slice A4 n4 c4, .int .i64 d5, .bool d6, .slice A7 n7 c7]] := h
                  refine (ps_arm2 h d5 d6 HK.out HAT.out).mono ?_
                  rintro e X' ⟨h1, h4⟩
                  obtain ⟨z0, z1, z2, z3, z4, z5, z6, z7⟩ := HCEL.out X' _ _ _ _ h4
                  exact ⟨by rw [← hEE]; exact h1, ⟨z5, z6, z7⟩, by rw [hC]; exact h4⟩
                have sta0 : STA wa.drew := by rw [hA]; exact H5.out.below (show Below wa.heap.size wa wa.drew from (Below.refl _ _).drew)
                obtain ⟨q0, q1, q2, q3, q4, q5, q6, q7⟩ := HCEL.out wa _ _ _ _ H5.out
                clear hA hB hC hEE
                go_wp2_with fail
                go_region_held3 (fun X' => X'.cell? ⟨bx, 5, none⟩ = some (.int .i64 d5) ∧ X'.cell? ⟨bx, 6, none⟩ = some (.bool d6) ∧ X'.cell? ⟨bx, 7, none⟩ = some (.slice A7 n7 c7)) ((repeat' apply And.intro) <;> first | assumption | go_keep)
                  (first
                    | (go_at_call 14; refine (CA.out _ (by assumption)).mono ?_; rintro e x4 ⟨rfl, ⟨k5, k6, k7⟩, stb⟩)
                    | (go_at_call 15; refine (CB.out _ (by assumption)).mono ?_; rintro e x5 ⟨rfl, ⟨l5, l6, l7⟩, stc⟩))
                all_goals
                  have hz := (by assumption : STC _)
                  rw [HC3.out] at hz
                  have HZ3 := Lib.hid hz
                  clear hz q0 q1 q2 q3 q4 q5 q6 q7
                  go_wp2_with fail
                  go_meet
                  exact ⟨_, _, _, rfl, rfl, opsO_map HOPS.out (fun X => by rw [armX_ops]; omega), HZ3.out⟩
              by_cases e4 : d0 = 4
              · have f4 : (d0 == 4) = true := by simpa using e4
                have f0 : (d0 == 0) = false := by simpa using e0
                have f1 : (d0 == 1) = false := by simpa using e1
                have f2 : (d0 == 2) = false := by simpa using e2
                have f3 : (d0 == 3) = false := by simpa using e3
                clear e0 e1 e2 e3 e4
                obtain ⟨q0, -, -, -, -, -, -, -⟩ := HCEL.out wa _ _ _ _ H5.out
                have CA := Lib.hid (ps_restart1 H5.out HC.out)
                obtain ⟨EE, hEE⟩ : ∃ EE, eO Y 1 (fun _ => 0) = EE := ⟨_, rfl⟩
                rw [hEE] at CA
                go_wp2_with fail
                refine CA.out.mono ?_
                rintro e x4 ⟨rfl, h4⟩
                have CB := Lib.hid (ps_restart2 h4)
                rw [hEE] at CB
                clear h4 CA hEE q0
                go_wp2_with fail
                refine CB.out.mono ?_
                rintro e x5 ⟨rfl, h5⟩
                have HZ3 := Lib.hid h5
                clear h5 CB
                go_wp2_with fail
                go_meet
                exact ⟨_, _, _, rfl, rfl, opsO_map (g := restartX) HOPS.out (fun X => Nat.le_succ _), HZ3.out⟩
              by_cases e6 : d0 = 6
              · have f6 : (d0 == 6) = true := by simpa using e6
                have f0 : (d0 == 0) = false := by simpa using e0
                have f1 : (d0 == 1) = false := by simpa using e1
                have f2 : (d0 == 2) = false := by simpa using e2
                have f3 : (d0 == 3) = false := by simpa using e3
                have f4 : (d0 == 4) = false := by simpa using e4
                clear e0 e1 e2 e3 e4 e6
                obtain ⟨q0, -, -, -, -, -, -, -⟩ := HCEL.out wa _ _ _ _ H5.out
                go_wp2_with fail
                refine (ps_copy1 H5.out).mono ?_
                rintro e x4 ⟨p', rfl, h4⟩
                have H4 := Lib.hid h4
                clear h4 q0
                go_wp2_with fail
                refine (ps_copy2 H4.out).mono ?_
                rintro e x5 ⟨q', rfl, h5⟩
                have HZ3 := Lib.hid h5
                clear h5
                go_wp2_with fail
                go_meet
                exact ⟨_, _, _, rfl, rfl, Nat.le_succ_of_le HOPS.out, HZ3.out⟩
              have f0 : (d0 == 0) = false := by simpa using e0
              have f1 : (d0 == 1) = false := by simpa using e1
              have f2 : (d0 == 2) = false := by simpa using e2
              have f3 : (d0 == 3) = false := by simpa using e3
              have f4 : (d0 == 4) = false := by simpa using e4
              have f6 : (d0 == 6) = false := by simpa using e6
              clear e0 e1 e2 e3 e4 e6
              obtain ⟨q0, -, -, -, -, -, -, -⟩ := HCEL.out wa _ _ _ _ H5.out
              go_wp2_with fail
              go_meet
              exact ⟨_, _, _, rfl, rfl, Nat.le_succ_of_le HOPS.out, H5.out⟩
          case rest =>
            obtain ⟨p, q, Y1, rfl, rfl, hops, hps⟩ := hcut
            have HPS := Lib.hid hps
            have HOPS1 := Lib.hid hops
            clear hps hops
            as_aux_lemma =>
              obtain ⟨-, q1, q2, q3, -, -, -, -⟩ := HCEL.out wc _ _ _ _ HPS.out
              go_wp2_with fail
              refine (ps_read1 HPS.out d1 d2 d3).mono ?_
              rintro e x1 ⟨Aa, na, ca, la, ka, rfl, hra, hna, hrda, hb⟩
              have HRA := Lib.hid hra
              have HRDA := Lib.hid hrda
              have H1 := Lib.hid (HPS.out.below hb)
              clear hra hrda hb q1 q2 q3
              obtain ⟨-, q1, q2, q3, -, -, -, -⟩ := HCEL.out x1 _ _ _ _ H1.out
              go_wp2_with fail
              refine (ps_read2 H1.out d1 d2 d3).mono ?_
              rintro e x2 ⟨Ab, nb, cb, lb, kb, rfl, hrb, hnb, hrdb, hb⟩
              obtain ⟨rfl, rfl⟩ := HRA.out.same hrb
              have hnab : na = nb := by have h1 := HRDA.out.1; have h2 := hrdb.1; omega
              subst hnab
              have HRDB := Lib.hid hrdb
              have HRDA2 := Lib.hid ((HRDA.out.below hb).more hb.size)
              have H2 := Lib.hid (H1.out.below hb)
              clear hrb hrdb hb q1 q2 q3 hnb HRA HRDA
              obtain ⟨v_len, hv_len⟩ : ∃ v, eO Y1 0 (fun X => lenV X d1) = v := ⟨_, rfl⟩
              obtain ⟨e_len, he_len⟩ : ∃ v, eO Y1 1 (fun X => chkE X d1) = v := ⟨_, rfl⟩
              obtain ⟨-, q1, -, -, -, -, -, -⟩ := HCEL.out x2 _ _ _ _ H2.out
              have CC := Lib.hid (ps_len1 H2.out d1)
              rw [hv_len, he_len] at CC
              go_wp2_with fail
              refine CC.out.mono ?_
              rintro e x3 ⟨rfl, hb⟩
              have H3 := Lib.hid (H2.out.below hb)
              have R1_3 := Lib.hid ((HRDA2.out.below hb).more hb.size)
              have R2_3 := Lib.hid ((HRDB.out.below hb).more hb.size)
              clear hb q1 CC H2 HRDA2 HRDB
              obtain ⟨-, q1, -, -, -, -, -, -⟩ := HCEL.out x3 _ _ _ _ H3.out
              have CC := Lib.hid (ps_len2 H3.out d1)
              rw [hv_len, he_len] at CC
              go_wp2_with fail
              refine CC.out.mono ?_
              rintro e x4 ⟨rfl, hb⟩
              have H4 := Lib.hid (H3.out.below hb)
              have R1_4 := Lib.hid ((R1_3.out.below hb).more hb.size)
              have R2_4 := Lib.hid ((R2_3.out.below hb).more hb.size)
              clear hb q1 CC H3 R1_3 R2_3
              clear hv_len he_len
              obtain ⟨v_uns, hv_uns⟩ : ∃ v, eO Y1 0 (fun X => unsV X d1) = v := ⟨_, rfl⟩
              obtain ⟨e_uns, he_uns⟩ : ∃ v, eO Y1 1 (fun X => chkE X d1) = v := ⟨_, rfl⟩
              obtain ⟨-, q1, -, -, -, -, -, -⟩ := HCEL.out x4 _ _ _ _ H4.out
              have CC := Lib.hid (ps_uns1 H4.out d1)
              rw [hv_uns, he_uns] at CC
              go_wp2_with fail
              refine CC.out.mono ?_
              rintro e x5 ⟨rfl, hb⟩
              have H5 := Lib.hid (H4.out.below hb)
              have R1_5 := Lib.hid ((R1_4.out.below hb).more hb.size)
              have R2_5 := Lib.hid ((R2_4.out.below hb).more hb.size)
              clear hb q1 CC H4 R1_4 R2_4
              obtain ⟨-, q1, -, -, -, -, -, -⟩ := HCEL.out x5 _ _ _ _ H5.out
              have CC := Lib.hid (ps_uns2 H5.out d1)
              rw [hv_uns, he_uns] at CC
              go_wp2_with fail
              refine CC.out.mono ?_
              rintro e x6 ⟨rfl, hb⟩
              have H6 := Lib.hid (H5.out.below hb)
              have R1_6 := Lib.hid ((R1_5.out.below hb).more hb.size)
              have R2_6 := Lib.hid ((R2_5.out.below hb).more hb.size)
              clear hb q1 CC H5 R1_5 R2_5
              clear hv_uns he_uns
              obtain ⟨v_room, hv_room⟩ : ∃ v, eO Y1 0 (fun X => roomV X d1) = v := ⟨_, rfl⟩
              obtain ⟨e_room, he_room⟩ : ∃ v, eO Y1 1 (fun X => chkE X d1) = v := ⟨_, rfl⟩
              obtain ⟨-, q1, -, -, -, -, -, -⟩ := HCEL.out x6 _ _ _ _ H6.out
              have CC := Lib.hid (ps_room1 H6.out d1)
              rw [hv_room, he_room] at CC
              go_wp2_with fail
              refine CC.out.mono ?_
              rintro e x7 ⟨rfl, hb⟩
              have H7 := Lib.hid (H6.out.below hb)
              have R1_7 := Lib.hid ((R1_6.out.below hb).more hb.size)
              have R2_7 := Lib.hid ((R2_6.out.below hb).more hb.size)
              clear hb q1 CC H6 R1_6 R2_6
              obtain ⟨-, q1, -, -, -, -, -, -⟩ := HCEL.out x7 _ _ _ _ H7.out
              have CC := Lib.hid (ps_room2 H7.out d1)
              rw [hv_room, he_room] at CC
              go_wp2_with fail
              refine CC.out.mono ?_
              rintro e x8 ⟨rfl, hb⟩
              have H8 := Lib.hid (H7.out.below hb)
              have R1_8 := Lib.hid ((R1_7.out.below hb).more hb.size)
              have R2_8 := Lib.hid ((R2_7.out.below hb).more hb.size)
              clear hb q1 CC H7 R1_7 R2_7
              clear hv_room he_room
              go_wp2_with fail
              refine (rsame Aa Ab na ca cb la _ (by omega) R1_8.out R2_8.out).mono ?_
              rintro e x9 ⟨rfl, q8, rfl⟩
              obtain ⟨W8, hW8⟩ : ∃ W8, W8 = x8.drewN q8 := ⟨_, rfl⟩
              have H9 : Hid (PS w W8 p q Y1 Y1 [blkOb bx 37 #[.int .i64 d0, .int .i64 d1, .int .i64 d2, .int .i64 d3, .slice A4 n4 c4, .int .i64 d5, .bool d6, .slice A7 n7 c7]]) := by
                rw [hW8]
                exact H8.out.below (bel_drewN' x8 q8)
              rw [← hW8]
              clear hW8
              obtain ⟨v_down, hv_down⟩ : ∃ v, bO Y1 = v := ⟨_, rfl⟩
              have CC := Lib.hid (ps_down1 H9.out)
              rw [hv_down] at CC
              go_wp2_with fail
              refine CC.out.mono ?_
              rintro e x10 ⟨rfl, hb⟩
              have H10 := Lib.hid (H9.out.below hb)
              clear hb CC H9
              have CC := Lib.hid (ps_down2 H10.out)
              rw [hv_down] at CC
              go_wp2_with fail
              refine CC.out.mono ?_
              rintro e x11 ⟨rfl, hb⟩
              have H11 := Lib.hid (H10.out.below hb)
              clear hb CC H10
              clear hv_down
              obtain ⟨v_ops, hv_ops⟩ : ∃ v, eO Y1 0 (fun X => (X.ops : Int)) = v := ⟨_, rfl⟩
              have CC := Lib.hid (ps_ops1 H11.out)
              rw [hv_ops] at CC
              go_wp2_with fail
              refine CC.out.mono ?_
              rintro e x12 ⟨rfl, hb⟩
              have H12 := Lib.hid (H11.out.below hb)
              clear hb CC H11
              have CC := Lib.hid (ps_ops2 H12.out)
              rw [hv_ops] at CC
              go_wp2_with fail
              refine CC.out.mono ?_
              rintro e x13 ⟨rfl, hb⟩
              have H13 := Lib.hid (H12.out.below hb)
              clear hb CC H12
              clear hv_ops
              obtain ⟨v_slots, hv_slots⟩ : ∃ v, eO Y1 0 (fun X => (X.n : Int)) = v := ⟨_, rfl⟩
              have CC := Lib.hid (ps_slots1 H13.out)
              rw [hv_slots] at CC
              go_wp2_with fail
              refine CC.out.mono ?_
              rintro e x14 ⟨rfl, hb⟩
              have H14 := Lib.hid (H13.out.below hb)
              clear hb CC H13
              have CC := Lib.hid (ps_slots2 H14.out)
              rw [hv_slots] at CC
              go_wp2_with fail
              refine CC.out.mono ?_
              rintro e x15 ⟨rfl, hb⟩
              have H15 := Lib.hid (H14.out.below hb)
              clear hb CC H14
              clear hv_slots
              go_wp2_with fail
              refine (ps_disk1 H15.out).mono ?_
              rintro e y1 ⟨dk1, rfl, hdk, hb⟩
              have HDK1 := Lib.hid hdk
              have G1 := Lib.hid (H15.out.below hb)
              clear hb hdk H15
              go_wp2_with fail
              refine (ps_disk2 G1.out).mono ?_
              rintro e y2 ⟨dk2, rfl, hdk, hb⟩
              have HDK2 := Lib.hid hdk
              have HDK3 := Lib.hid (HDK1.out.below hb)
              have G2 := Lib.hid (G1.out.below hb)
              clear hb hdk G1 HDK1
              go_wp2_with fail
              refine (disks_any HDK3.out HDK2.out).mono ?_
              rintro e y3 ⟨rfl, hb⟩
              have G3 := Lib.hid (G2.out.below hb)
              clear hb
              go_wp2_with fail
              go_roundg (gk - 1)
              case measure => have := HJ.out; omega
              case rel => exact ⟨j + 1, _, _, Y1, by have := HJ.out; omega, rfl, rfl, by go_num, HOPS1.out, G3.out.drop⟩
        · have e8 : j = n := by omega
          subst e8
          go_wp2_with fail
          refine (works_any _).mono ?_
          rintro e w9 ⟨rfl, hb⟩
          have HB := Lib.hid (bt HPS.out.bel hb)
          clear hb
          go_wp2_with fail
          go_ret
          exact ⟨rfl, HB.out⟩
theorem DevicePlays_walk (v0 v1 v2 : Value) (w : World) (h0 : ArgIn Tryz.prog w 3 v0) (h1 : ArgIn Tryz.prog w 3 v1) (h2 : ArgIn Tryz.prog w 22 v2) :
    Calls Tryz.prog 3 #[v0, v1, v2] w fun e w' => e = .returned (.bool true) ∧ Below w.heap.size w w' := by
  obtain ⟨a, rfl, _⟩ := h0.int (k := .i64) Tryz.underlying3
  obtain ⟨b, rfl, _⟩ := h1.int (k := .i64) Tryz.underlying3
  obtain ⟨A, n, c, sts, rfl, k1, k2, k3⟩ := vsteps_arg h2
  exact DevicePlays_w a b A n c sts w k3 k1 k2
end Go.Proofs.YteglaedkhopbgaaGreat
