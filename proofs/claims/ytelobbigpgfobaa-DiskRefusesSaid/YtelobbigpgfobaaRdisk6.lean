/-
  The document's disk's Crash (drumlinref10). Conditions: the disk is as New makes it; what is kept can be read beside it, and is not negative.
-/
import Derived.Test.YtelobbigpgfobaaRdisk5
import Derived.Deep.RegionHeld3
import Derived.StillTailTactics
namespace Go.Proofs.Ytelobbigpgfobaa
open Go.RowKit
set_option linter.unusedVariables false
/-- The first j slots have crashed. -/
def crTo (zs : List Int) (D : Nat → SlotD) (j : Nat) : Nat → SlotD := fun i => if i < j then crashS (keepAt zs i) (D i) else D i
theorem crTo_zero (zs : List Int) (D : Nat → SlotD) : crTo zs D 0 = D := by funext i; simp [crTo]
theorem crTo_succ (zs : List Int) (D : Nat → SlotD) (j : Nat) : crTo zs D (j + 1) = updF (crTo zs D j) j (crashS (keepAt zs j) (D j)) := by
  funext i
  show (if i < j + 1 then crashS (keepAt zs i) (D i) else D i) = if i = j then crashS (keepAt zs j) (D j) else (if i < j then crashS (keepAt zs i) (D i) else D i)
  by_cases e : i = j
  · subst e; simp
  · rw [if_neg e]
    by_cases e2 : i < j
    · rw [if_pos (by omega), if_pos e2]
    · rw [if_neg (by omega), if_neg e2]
section
variable {w w' w1 : World} {S S' : Nat → Prop} {d n : Nat} {D : Nat → SlotD}
theorem RTo.comp {S1 : Nat → Prop} (h1 : ∀ k, S k → S1 k) (h2 : ∀ k, S1 k → S k ∨ w.heap.size ≤ k) (hc : Chg (fun k => k = d) w w1) (h : RTo w1 w' S1 d n D) : RTo w w' S d n D := by
  obtain ⟨S2, l1, l2, l3, l4⟩ := h
  have := hc.size
  exact ⟨S2, l1, fun k hk => l2 k (h1 k hk), fun k hk => by
    rcases l3 k hk with e | e
    · exact h2 k e
    · exact .inr (by omega), hc.trans l4 (fun _ _ h => h)⟩
theorem RTo.trans {D1 : Nat → SlotD} {w2 : World} (h : RTo w w1 S d n D) (h2 : ∀ S1, IsR w1 S1 d n D → RTo w1 w2 S1 d n D1) : RTo w w2 S d n D1 := by
  obtain ⟨S1, k1, k2, k3, k4⟩ := h
  obtain ⟨S2, l1, l2, l3, l4⟩ := h2 S1 k1
  have := k4.size
  exact ⟨S2, l1, fun k hk => l2 k (k2 k hk), fun k hk => by
    rcases l3 k hk with e | e
    · exact k3 k e
    · exact .inr (by omega), k4.trans l4 (fun _ _ h => h)⟩
theorem rset' (h : IsR w S d n D) (hn : 0 < n) (hm34 : n ≤ 65536) (i : Nat) (hi : i < n) (x : SlotD) (B : Option Addr) (cb ln : Nat) (a b : Int) (ha : a = (x.size : Int)) (hl : ln = x.bytes.length) (hbd : b = (x.dur : Int)) (hb : BytesAt w S B cb x.bytes) (hx : x.dur ≤ x.bytes.length ∧ x.bytes.length ≤ x.size ∧ 1 ≤ x.size ∧ x.size ≤ 8192) :
    Calls Try.prog 54 #[.pointer (some ⟨d, 0, none⟩), .int .i64 (i : Int), .agg #[.int .i64 a, .slice B ln cb, .int .i64 b]] w fun e w' => e = .returned (.tuple #[]) ∧ RTo w w' S d n (updF D i x) := by
  subst ha hl hbd
  exact rset h hn hm34 i hi x B cb hb hx
set_option maxRecDepth 100000 in
set_option maxHeartbeats 4000000 in
theorem rcrash (h : IsR w S d n D) (hn : 0 < n) (hm34 : n ≤ 65536) (A : Option Addr) (m c : Nat) (zs : List Int)
    (hr : ∀ W, Chg (fun k => k = d) w W → Reads W W.heap.size 1 A m (ints zs)) (h1 : 1 ≤ m) (h2 : m ≤ 34) (hk : ∀ z ∈ zs, 0 ≤ z ∧ z ≤ 9223372036854775807) :
    Calls Try.prog 28 #[.pointer (some ⟨d, 0, none⟩), .slice A m c] w fun e w' => e = .returned (.int .i64 0) ∧ RTo w w' S d n (crashD zs D) := by
  have hlen : zs.length = m := by have := (hr w (Chg.refl _ _)).1; rw [ints_length] at this; omega
  have H := Lib.hid h
  have HV := Lib.hid (rvalid h hn)
  have HL := Lib.hid hlen
  have HK := Lib.hid hk
  have HA : Hid (∀ W, Chg (fun k => k = d) w W → ∀ i, i < m → ∃ ad, A = some ad ∧ 0 ≤ zs.getD i 0 ∧ zs.getD i 0 ≤ 9223372036854775807 ∧ ad.block < W.heap.size ∧ W.cell? (ad.add i) = some (.int .i64 (zs.getD i 0))) := fun W hW i hi => by
    obtain ⟨ad, u, e, hab, hx, hc⟩ := (hr W hW).at_ hi
    have hkz : i < zs.length := by omega
    rw [ints_at hkz] at hx
    injection hx with hx
    subst hx
    rw [List.getD_eq_getElem?_getD, List.getElem?_eq_getElem hkz, Option.getD_some]
    obtain ⟨z0, z1⟩ := hk _ (List.getElem_mem hkz)
    exact ⟨ad, e, z0, z1, hab, hc⟩
  have t1 : ((m : Int) == 0) = false := by simp; omega
  have t2 : decide (34 < (m : Int)) = false := by simp; omega
  clear h hr hk hlen
  go_enter Try.func28, Try.ntmps28
  go_wp2_with fail
  refine HV.out.mono ?_
  rintro e w' ⟨rfl, rfl⟩
  go_wp2_with fail
  go_loopg [5] m (fun q v5 wr => ∃ (j : Nat), j + q = m ∧ v5 = .int .i64 j ∧ w = wr)
  case atStart => exact ⟨0, by omega, rfl, rfl⟩
  case round =>
    obtain ⟨j, hj, rfl, rfl⟩ := hrel
    have HJ := Lib.hid hj
    have hj' : j ≤ m := by omega
    by_cases hlt : j < m
    · obtain ⟨ad, rfl, z0, z1, _, hc⟩ := HA.out w (Chg.refl _ _) j hlt
      obtain ⟨z, hz⟩ : ∃ z, zs.getD j 0 = z := ⟨_, rfl⟩
      rw [hz] at hc z0 z1
      clear hj hz
      go_wp2_with fail
      go_roundg (gk - 1)
      case measure => have := HJ.out; omega
      case rel => exact ⟨j + 1, by have := HJ.out; omega, by go_num, rfl⟩
    · have e8 : j = m := by omega
      subst e8
      clear hj HJ
      go_wp2_with fail
      go_loopg [6] n (fun q v6 wr => ∃ (i : Nat), i + q = n ∧ v6 = .int .i64 i ∧ RTo w wr S d n (crTo zs D i))
      case atStart => exact ⟨0, by omega, rfl, by rw [crTo_zero]; exact RTo.refl H.out (Below.refl _ _)⟩
      case round =>
        obtain ⟨i, hi, rfl, ht⟩ := hrel
        have HI := Lib.hid hi
        have HT := Lib.hid ht
        obtain ⟨S1, hd, hs1, hs2, hch⟩ := ht
        have HS1 := Lib.hid hs1
        have HS2 := Lib.hid hs2
        clear hs1 hs2
        have hi' : i ≤ n := by omega
        by_cases hlt2 : i < n
        · obtain ⟨A2, c2, q0, _, hnc, hcm, hc⟩ := hd.cells
          obtain ⟨ad2, B, cb, rfl, a0, a1, a2, hb⟩ := hc i hlt2
          have hcx : crTo zs D i i = D i := by simp [crTo]
          rw [hcx] at a0 a1 a2 hb
          obtain ⟨u1, u2, u3, u4⟩ := H.out.nums i hlt2
          have hxm : i % j < j := Nat.mod_lt _ (by omega)
          obtain ⟨ad, rfl, z0, z1, had, hz⟩ := HA.out wr hch (i % j) hxm
          have hb1 := hb.1
          have hb2 := hb.2.1
          have hka : keepAt zs i = zs.getD (i % j) 0 := by unfold keepAt; rw [HL.out]
          obtain ⟨z, hzz⟩ : ∃ z, zs.getD (i % j) 0 = z := ⟨_, rfl⟩
          rw [hzz] at hz z0 z1 hka
          obtain ⟨y, hy⟩ : ∃ y, i % j = y := ⟨_, rfl⟩
          rw [hy] at hz hxm
          have hrem : Int.tmod (i : Int) (j : Int) = (y : Int) := by rw [Int.tmod_eq_emod_of_nonneg (by omega)]; omega
          obtain ⟨L, hL⟩ : ∃ L, (D i).bytes.length = L := ⟨_, rfl⟩
          obtain ⟨dur, hdur⟩ : ∃ dur, (D i).dur = dur := ⟨_, rfl⟩
          have hcr : crashN z (D i) = dur + min z.toNat (L - dur) := by unfold crashN; rw [hL, hdur]
          obtain ⟨K, hK⟩ : ∃ K, crashN z (D i) = K := ⟨_, rfl⟩
          obtain ⟨mn, hmn⟩ : ∃ mn : Nat, (if (L : Int) - (dur : Int) < z then (L : Int) - (dur : Int) else z) = (mn : Int) := ⟨min z.toNat (L - dur), by split <;> omega⟩
          have hKm : K = dur + mn := by rw [← hK, hcr]; split at hmn <;> omega
          unfold maxLen at hcm hb2
          have HX : Hid (crashS (keepAt zs i) (D i) = ⟨(D i).size, (D i).bytes.take K, K⟩ ∧ K ≤ L) := ⟨by rw [hka]; unfold crashS; rw [hK], by split at hmn <;> omega⟩
          obtain ⟨wx, hwx⟩ : ∃ wx, wx = wr.alloc (.cells #[.int .i64 ((D i).size : Int), .slice B L cb, .int .i64 (dur : Int)] 87) := ⟨_, rfl⟩
          have hbx : Below wr.heap.size wr wx := by rw [hwx]; exact (Below.refl _ _).alloc (Nat.le_refl _) _
          have p0 : wx.cell? ⟨wr.heap.size, 0, none⟩ = some (.int .i64 ((D i).size : Int)) := by rw [hwx]; exact (Blk.new wr _ _).cell 0
          have p1 : wx.cell? ⟨wr.heap.size, 1, none⟩ = some (.slice B L cb) := by rw [hwx]; exact (Blk.new wr _ _).cell 1
          have p2 : wx.cell? ⟨wr.heap.size, 2, none⟩ = some (.int .i64 (dur : Int)) := by rw [hwx]; exact (Blk.new wr _ _).cell 2
          have p5 : wx.frozen? ⟨wr.heap.size, 2, none⟩ = false := by rw [hwx]; exact (Blk.new wr _ _).frozen 2
          have p4 : wx.frozen? ⟨wr.heap.size, 1, none⟩ = false := by rw [hwx]; exact (Blk.new wr _ _).frozen 1
          have p3 : wx.cell? (ad.add y) = some (.int .i64 z) := (hbx.cell (p := ad.add y) (by rw [block_of_add]; exact had)).trans hz
          have HBX := Lib.hid hbx
          have HB := Lib.hid hb
          have HCH := Lib.hid hch
          have HDK := Lib.hid hd
          have HWX := Lib.hid hwx
          rw [hL] at a1 u1 u2 hb1
          rw [hdur] at a2 u1
          have HL2 := Lib.hid hL
          clear hi hd hch hc hb hcx hka hzz hy hcr hK hwx hbx hL hdur
          have hm64 : j ≠ 0 := by omega
          have hwz : IntKind.i64.wrap z = z := by rw [IntKind.wrap_i64]; omega
          have hle : dur + mn ≤ cb := by have := HX.out.2; omega
          have hws : IntKind.i64.wrap ((dur : Int) + (mn : Int)) = (dur : Int) + (mn : Int) := by rw [IntKind.wrap_i64]; omega
          have hwd : IntKind.i64.wrap ((L : Int) - (dur : Int)) = (L : Int) - (dur : Int) := by rw [IntKind.wrap_i64]; omega
          have hi0' : (0 : Int) ≤ (dur : Int) + (mn : Int) := by omega
          have hi1' : (dur : Int) + (mn : Int) ≤ (cb : Int) := by omega
          have htn : ((dur : Int) + (mn : Int)).toNat = dur + mn := by omega
          cases B with
          | none =>
            go_wp2_with fail
            rw [← HWX.out]
            go_still_tail 21, (by kernel_rfl)
            change wpList _ _ _ _ _ wx.drew
            obtain ⟨w2, hw2⟩ : ∃ w2, w2 = wx.drew := ⟨_, rfl⟩
            have r0 : w2.cell? ⟨wr.heap.size, 0, none⟩ = some (.int .i64 ((D i).size : Int)) := by rw [hw2]; exact p0
            have r1 : w2.cell? ⟨wr.heap.size, 1, none⟩ = some (.slice none L cb) := by rw [hw2]; exact p1
            have r2 : w2.cell? ⟨wr.heap.size, 2, none⟩ = some (.int .i64 (dur : Int)) := by rw [hw2]; exact p2
            have r3 : w2.frozen? ⟨wr.heap.size, 1, none⟩ = false := by rw [hw2]; exact p4
            have r4 : w2.frozen? ⟨wr.heap.size, 2, none⟩ = false := by rw [hw2]; exact p5
            have HB2 : Hid (Below wr.heap.size wr w2) := by
              show Below _ _ _
              rw [hw2]
              exact HBX.out.drew
            rw [← hw2]
            clear p0 p1 p2 p3 p4 p5 hw2 HWX HBX hmn hws hwd hz hrem
            go_wp2_with fail
            obtain ⟨w3, hw3⟩ : ∃ w3, w3 = (w2.setCell ⟨wr.heap.size, 1, none⟩ (.slice none (dur + mn) cb)).setCell ⟨wr.heap.size, 2, none⟩ (.int .i64 ((dur : Int) + (mn : Int))) := ⟨_, rfl⟩
            rw [← hw3]
            have hB3 : Below wr.heap.size wr w3 := by
              rw [hw3]
              exact (HB2.out.setCell (Nat.le_refl _) _).setCell (Nat.le_refl _) _
            have HSET := Lib.hid (rset' (HDK.out.below hB3) hn hm34 i hlt2 ⟨(D i).size, (D i).bytes.take K, K⟩ none cb (dur + mn) _ ((dur : Int) + (mn : Int)) rfl (by have := HX.out.2; have := HL2.out; rw [List.length_take]; omega) (by rw [hKm]; simp) ((HB.out.take K).chg HDK.out.lt (Chg.of_below (F := fun _ => False) hB3) (fun _ _ h => h)) (by have := HX.out.2; have := HL2.out; rw [List.length_take]; refine ⟨?_, ?_, u3, u4⟩ <;> simp only <;> omega))
            have HBB := Lib.hid hB3
            clear hw3 hB3
            refine HSET.out.mono ?_
            rintro e w4 ⟨rfl, hq⟩
            have HQ := Lib.hid hq
            clear hq
            go_wp2_with fail
            go_roundg (gk - 1)
            case measure => have := HI.out; omega
            case rel =>
              refine ⟨i + 1, by have := HI.out; omega, by go_num, ?_⟩
              rw [crTo_succ, HX.out.1]
              exact RTo.comp HS1.out HS2.out HCH.out (HQ.out.before HBB.out)
          | some B =>
            go_wp2_with fail
            rw [← HWX.out]
            go_still_tail 21, (by kernel_rfl)
            change wpList _ _ _ _ _ wx.drew
            obtain ⟨w2, hw2⟩ : ∃ w2, w2 = wx.drew := ⟨_, rfl⟩
            have r0 : w2.cell? ⟨wr.heap.size, 0, none⟩ = some (.int .i64 ((D i).size : Int)) := by rw [hw2]; exact p0
            have r1 : w2.cell? ⟨wr.heap.size, 1, none⟩ = some (.slice (some B) L cb) := by rw [hw2]; exact p1
            have r2 : w2.cell? ⟨wr.heap.size, 2, none⟩ = some (.int .i64 (dur : Int)) := by rw [hw2]; exact p2
            have r3 : w2.frozen? ⟨wr.heap.size, 1, none⟩ = false := by rw [hw2]; exact p4
            have r4 : w2.frozen? ⟨wr.heap.size, 2, none⟩ = false := by rw [hw2]; exact p5
            have HB2 : Hid (Below wr.heap.size wr w2) := by
              show Below _ _ _
              rw [hw2]
              exact HBX.out.drew
            rw [← hw2]
            clear p0 p1 p2 p3 p4 p5 hw2 HWX HBX hmn hws hwd hz hrem
            go_wp2_with fail
            obtain ⟨w3, hw3⟩ : ∃ w3, w3 = (w2.setCell ⟨wr.heap.size, 1, none⟩ (.slice (some B) (dur + mn) cb)).setCell ⟨wr.heap.size, 2, none⟩ (.int .i64 ((dur : Int) + (mn : Int))) := ⟨_, rfl⟩
            rw [← hw3]
            have hB3 : Below wr.heap.size wr w3 := by
              rw [hw3]
              exact (HB2.out.setCell (Nat.le_refl _) _).setCell (Nat.le_refl _) _
            have HSET := Lib.hid (rset' (HDK.out.below hB3) hn hm34 i hlt2 ⟨(D i).size, (D i).bytes.take K, K⟩ (some B) cb (dur + mn) _ ((dur : Int) + (mn : Int)) rfl (by have := HX.out.2; have := HL2.out; rw [List.length_take]; omega) (by rw [hKm]; simp) ((HB.out.take K).chg HDK.out.lt (Chg.of_below (F := fun _ => False) hB3) (fun _ _ h => h)) (by have := HX.out.2; have := HL2.out; rw [List.length_take]; refine ⟨?_, ?_, u3, u4⟩ <;> simp only <;> omega))
            have HBB := Lib.hid hB3
            clear hw3 hB3
            refine HSET.out.mono ?_
            rintro e w4 ⟨rfl, hq⟩
            have HQ := Lib.hid hq
            clear hq
            go_wp2_with fail
            go_roundg (gk - 1)
            case measure => have := HI.out; omega
            case rel =>
              refine ⟨i + 1, by have := HI.out; omega, by go_num, ?_⟩
              rw [crTo_succ, HX.out.1]
              exact RTo.comp HS1.out HS2.out HCH.out (HQ.out.before HBB.out)
        · have e8 : i = n := by omega
          subst e8
          clear hi
          have hdd := hd.cells
          obtain ⟨A2, c2, q0, _, hnc, hcm, hc⟩ := hdd
          unfold maxLen at hcm
          clear hd hch hc
          go_wp2_with fail
          go_ret
          refine ⟨rfl, ?_⟩
          obtain ⟨S2, l1, l2, l3, l4⟩ := HT.out
          exact ⟨S2, l1.congr (fun q hq => by unfold crTo crashD; rw [if_pos hq]), l2, l3, l4⟩
end
end Go.Proofs.Ytelobbigpgfobaa
