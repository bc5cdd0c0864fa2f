/-
  The walk of the law DeviceCrash: it returns true and writes nothing that was there. Condition: the bytes can be read.
-/
import Derived.Test.YteglaedkhopbgaaML
import Derived.Deep.QuietTactic
import Derived.BigQuiet
namespace Go.Proofs.Yteglaedkhopbgaa
open Go.RowKit Go.Shelf
set_option linter.unusedVariables false
theorem int_cell {w : World} {n q : Nat} {A : Option Addr} {zs : List Int} (h : (rowOb 3 1 (.slice A n q) n (ints zs)).P w) (i : Nat) (hi : i < n) (hz : i < zs.length) : ∃ ad, A = some ad ∧ w.cell? (ad.add i) = some (.int .i64 zs[i]) := by
  obtain ⟨ad, u, e, hu, _, hc⟩ := row_cell h i hi
  rw [ints_at hz] at hu
  injection hu with hu
  subst hu
  exact ⟨ad, e, hc⟩
set_option maxHeartbeats 32000000 in
set_option maxRecDepth 100000 in
theorem DeviceCrash_w (a b : BitVec 8) (A : Option Addr) (m c : Nat) (ts : Nat → Turn3) (f : BitVec 8) (dn : Bool) (A5 : Option Addr) (m5 c5 : Nat) (kl : List (BitVec 8)) (w : World) (hr : TurnsAt w w.heap.size A m ts) (hn : m ≤ c) (hc : c ≤ maxLen) (hr5 : Reads w w.heap.size 1 A5 m5 (u8s kl)) (hm5 : m5 = kl.length) (hn5 : m5 ≤ c5) (hc5 : c5 ≤ maxLen) :
    Calls Try.prog 7 #[.int .u8 (n8 a), .int .u8 (n8 b), .slice A m c, .int .u8 (n8 f), .bool dn, .slice A5 m5 c5] w fun e w' => e = .returned (.bool true) ∧ Below w.heap.size w w' := by
  obtain ⟨i1, hi1, hy0, hy1, hy2⟩ := info_parts clone_int_info
  have HR := Lib.hid hr
  have HR5 := Lib.hid hr5
  have HM5 : Hid (m5 = kl.length) := hm5
  unfold maxLen at hc hc5
  clear hr hr5 hm5
  by_cases hm : 80 < m
  · go_enter Try.func7, Try.ntmps7
    go_wp2_with fail
    refine (works_any _).mono ?_
    rintro e w9 ⟨rfl, hb⟩
    have HB := Lib.hid hb
    clear hb
    go_wp2_with fail
    go_ret
    exact ⟨rfl, HB.out⟩
  by_cases hm0 : m = 0
  · subst hm0
    go_enter Try.func7, Try.ntmps7
    go_wp2_with fail
    refine (works_any _).mono ?_
    rintro e w9 ⟨rfl, hb⟩
    have HB := Lib.hid hb
    clear hb
    go_wp2_with fail
    go_ret
    exact ⟨rfl, HB.out⟩
  by_cases h50 : m5 = 0
  · subst h50
    go_enter Try.func7, Try.ntmps7
    go_wp2_with fail
    refine (works_any _).mono ?_
    rintro e w9 ⟨rfl, hb⟩
    have HB := Lib.hid hb
    clear hb
    go_wp2_with fail
    go_ret
    exact ⟨rfl, HB.out⟩
  by_cases h534 : 34 < m5
  · go_enter Try.func7, Try.ntmps7
    go_wp2_with fail
    refine (works_any _).mono ?_
    rintro e w9 ⟨rfl, hb⟩
    have HB := Lib.hid hb
    clear hb
    go_wp2_with fail
    go_ret
    exact ⟨rfl, HB.out⟩
  have hmz : ((m : Int) == 0) = false := by rw [beq_eq_false_iff_ne]; omega
  have h5z : ((m5 : Int) == 0) = false := by rw [beq_eq_false_iff_ne]; omega
  obtain ⟨hf1, hf2⟩ := n8_bd f
  obtain ⟨kk, hkk⟩ : ∃ kk, f.toNat % m = kk := ⟨_, rfl⟩
  have hkkm : kk < m := by rw [← hkk]; exact Nat.mod_lt _ (by omega)
  have hremk : Int.tmod (n8 f) (m : Int) = (kk : Int) := by rw [n8_nat, Int.tmod_eq_emod_of_nonneg (by omega), ← hkk]; rfl
  clear hkk
  go_enter Try.func7, Try.ntmps7
  go_wp2_with fail
  refine (sep_vbegin (Sep.start w) a b).mono ?_
  rintro e w1 ⟨v, L, rfl, hs⟩
  obtain ⟨n, hnn⟩ : ∃ n, a.toNat % 4 + 2 = n := ⟨_, rfl⟩
  obtain ⟨sz, hsz⟩ : ∃ sz, b.toNat % 40 + 1 = sz := ⟨_, rfl⟩
  have hn2 : 2 ≤ n := by omega
  have hn5' : n ≤ 5 := by omega
  rw [hnn, hsz] at hs
  rw [hnn]
  have HS1 := Lib.hid hs
  clear hs hnn hsz
  go_wp2_with fail
  obtain ⟨pb, hpb⟩ : ∃ pb, pb = w1.heap.size := ⟨_, rfl⟩
  have hs2 : Sep w.heap.size w (w1.alloc (.cells #[.int .i64 1, .bool dn, .slice none 0 0] 31)) [rowOb 3 1 (.slice none 0 0) 0 (ints ((keepL kl).take 0)), blkOb pb 31 #[.int .i64 1, .bool dn, .slice none 0 0], devOb v L (newVD n sz)] := (HS1.out.newBlk pb _ _ hpb).nilRow _
  rw [← hpb]
  have HS2 := Lib.hid hs2
  clear hs2 hpb
  go_loopg [16] m5 (fun q v16 wr => ∃ (j : Nat) (Av : Option Addr) (cv : Nat), j + q = m5 ∧ v16 = .int .i64 j ∧ Sep w.heap.size w wr [rowOb 3 1 (.slice Av j cv) j (ints ((keepL kl).take j)), blkOb pb 31 #[.int .i64 1, .bool dn, .slice Av j cv], devOb v L (newVD n sz)])
  case atStart => exact ⟨0, none, 0, by omega, rfl, HS2.out⟩
  case round =>
    obtain ⟨j, Av, cv, hj, rfl, hs⟩ := hrel
    have HJ := Lib.hid hj
    have hj' : j ≤ m5 := by omega
    have HS := Lib.hid hs
    have hpk : Blk wr pb 31 #[.int .i64 1, .bool dn, .slice Av j cv] := hs.get (.tail _ (.head _))
    by_cases hlt : j < m5
    · obtain ⟨ad5, u5, rfl, hab5, hu5, hc5'⟩ := (HR5.out.below hs.bel).at_ hlt
      obtain ⟨hjk, rfl⟩ := u8s_at hu5
      obtain ⟨x5, hx5⟩ : ∃ x5, kl[j] = x5 := ⟨_, rfl⟩
      rw [hx5] at hc5'
      obtain ⟨hx1, hx2⟩ := n8_bd x5
      have hzt : IntKind.i64.wrap ((n8 x5).tmod 16) = ((x5.toNat % 16 : Nat) : Int) := by
        rw [Int.tmod_eq_emod_of_nonneg (by omega), IntKind.wrap_i64, n8_nat]
        omega
      have HTK : Hid (ints ((keepL kl).take j) ++ ints [IntKind.i64.wrap ((n8 x5).tmod 16)] = ints ((keepL kl).take (j + 1))) := by
        show _ = _
        rw [keepL_take kl j hjk, hx5, ints_append, hzt]
      have hrow : wr.ownsRow 0 3 1 (.slice Av j cv) j (ints ((keepL kl).take j)) := hs.get (.head _)
      obtain ⟨A6, c6, e6, hcv, hcv2, _⟩ := own_slice hrow
      injection e6 with e6 e7 e8
      subst e6 e8
      have q2 : wr.cell? ⟨pb, 2, none⟩ = some (.slice Av j cv) := hpk.cell 2
      obtain ⟨W1, hW1⟩ : ∃ W1, W1 = (wr.alloc (.cells #[.int .i64 (IntKind.i64.wrap ((n8 x5).tmod 16))] 3)).drew := ⟨_, rfl⟩
      have HSA : Hid (Sep w.heap.size w W1 [rowOb 3 1 (.slice Av j cv) j (ints ((keepL kl).take j)), blkOb pb 31 #[.int .i64 1, .bool dn, .slice Av j cv], devOb v L (newVD n sz)]) := by
        show Sep _ _ _ _
        rw [hW1]
        exact (hs.alloc _).drew
      have HOA : Hid (W1.ownsRow 0 3 1 (.slice Av j cv) j (ints ((keepL kl).take j))) := HSA.out.get (.head _)
      have HRN : Hid (Reads W1 (wr.heap.size + 1) 1 (some ⟨wr.heap.size, 0, none⟩) 1 (ints [IntKind.i64.wrap ((n8 x5).tmod 16)])) := by
        show Reads _ _ _ _ _ _
        rw [hW1]
        exact (reads_news wr 3 #[.int .i64 (IntKind.i64.wrap ((n8 x5).tmod 16))] (0, 0) 1 rfl).drew
      have HBK : Hid (∀ w4 v1, W1.grownBy w4 (Value.slice Av j cv).ownBlock → w4.ownsRow 0 3 1 v1 (j + 1) (ints ((keepL kl).take j) ++ ints [IntKind.i64.wrap ((n8 x5).tmod 16)]) → (v1.ownBlock = (Value.slice Av j cv).ownBlock ∨ v1.ownBlock = some W1.heap.size) → w4.frozen? ⟨pb, 2, none⟩ = false ∧ w4.cell? ⟨pb, 2, none⟩ = some (.slice Av j cv) ∧ Sep w.heap.size w (w4.setCell ⟨pb, 2, none⟩ v1) [rowOb 3 1 v1 (j + 1) (ints ((keepL kl).take (j + 1))), blkOb pb 31 #[.int .i64 1, .bool dn, v1], devOb v L (newVD n sz)]) := by
        intro w4 v1 hg ho hat
        rw [HTK.out] at ho
        have h1 := HSA.out.grow ho hg hat
        have h2 : Blk w4 pb 31 #[.int .i64 1, .bool dn, .slice Av j cv] := h1.get (.tail _ (.head _))
        refine ⟨h2.frozen 2, h2.cell 2, ?_⟩
        exact ((h1.perm (.swap _ _ _)).setBlk 2 v1).perm (.swap _ _ _)
      have q2a : (wr.alloc (.cells #[.int .i64 (IntKind.i64.wrap ((n8 x5).tmod 16))] 3)).cell? ⟨pb, 2, none⟩ = some (.slice Av j cv) := (World.cell?_alloc_lt wr _ ⟨pb, 2, none⟩ hpk.lt).trans q2
      have hc5a : (wr.alloc (.cells #[.int .i64 (IntKind.i64.wrap ((n8 x5).tmod 16))] 3)).cell? (ad5.add j) = some (.int .u8 (n8 x5)) := (World.cell?_alloc_lt wr _ (ad5.add j) (block_lt_of_cell hc5')).trans hc5'
      have HW1 := Lib.hid hW1
      have hj34 : j < 34 := by omega
      unfold maxLen at hcv2
      clear hj hs hpk hu5 hx5 hrow hW1 hzt
      go_wp2_with fail
      go_region_law (first
        | (refine step_append_any _ (by rfl) (.tmp 70) (.tmp 77) _ (by rfl) 0 3 i1 _ 1 8 Try.underlying29 hi1 hy0 hy1 hy2 (by rfl) (by omega) (.slice Av j cv) j (ints ((keepL kl).take j)) (by rfl)
            (by rw [← HW1.out]; exact HOA.out) (wr.heap.size + 1) _ 1 1 (ints [IntKind.i64.wrap ((n8 x5).tmod 16)]) (by rfl) (by rw [← HW1.out]; exact HRN.out) (ints_one' _) (by simp only [maxLen]; omega) (by omega) (Nat.zero_le _) ?_; intro v1 w4 hown1 hg1 hat1
           rw [← HW1.out] at hg1 hat1
           obtain ⟨f2, q3, hs4⟩ := HBK.out w4 v1 hg1 hown1 hat1
           obtain ⟨A7, c7, rfl, hA7, hc7, _⟩ := own_slice hown1
           have HS4 := Lib.hid hs4
           clear hown1 hg1 hat1 hs4))
      all_goals
        go_wp2_with fail
        go_roundg (gk - 1)
        case measure => have := HJ.out; omega
        case rel => exact ⟨j + 1, A7, c7, by have := HJ.out; omega, by go_num, HS4.out⟩
    · obtain rfl : j = m5 := by omega
      have hall : (keepL kl).take j = keepL kl := List.take_of_length_le (by rw [keepL_length, ← HM5.out]; exact Nat.le_refl _)
      rw [hall] at hs
      obtain ⟨rest, hrest⟩ : ∃ rest, rest = [rowOb 3 1 (.slice Av j cv) j (ints (keepL kl)), blkOb pb 31 #[.int .i64 1, .bool dn, .slice Av j cv]] := ⟨_, rfl⟩
      have HREST := Lib.hid hrest
      have HS3 : Hid (Sep w.heap.size w wr (devOb v L (newVD n sz) :: rest)) := by
        show Sep _ _ _ _
        rw [hrest]
        exact hs.perm (List.perm_append_comm (l₁ := [_, _]) (l₂ := [_]))
      have HCR : Hid (AllCells rest) := by
        show AllCells _
        rw [hrest]
        exact AllCells.cons (cellOb_row _ _ _ _ _) (AllCells.cons (cellOb_blk _ _ _) AllCells.nil)
      have hrow : wr.ownsRow 0 3 1 (.slice Av j cv) j (ints (keepL kl)) := hs.get (.head _)
      obtain ⟨A6, c6, e6, hcv, hcv2, _⟩ := own_slice hrow
      injection e6 with e6 e7 e8
      subst e6 e8
      have HNIL := Lib.hid (own_nil_cap hrow)
      have HCV : Hid (cv ≤ maxLen) := hcv2
      unfold maxLen at hcv2
      have hm0' : ¬ (m : Int) = 0 := by omega
      clear hj hs hall hrest hpk hrow HS HS1 HS2
      go_wp2_with fail
      go_loopg [18] kk (fun q v18 wr => ∃ (i : Nat) (L' : DLay), i + q = kk ∧ v18 = .int .i64 i ∧ Sep w.heap.size w wr (devOb v L' (runV (newVD n sz) ts i) :: rest))
      case atStart => exact ⟨0, L, by omega, rfl, HS3.out⟩
      case round =>
        obtain ⟨i, L1, hj, rfl, hs⟩ := hrel
        have HJ2 := Lib.hid hj
        have hi2 : i ≤ kk := by omega
        have HS := Lib.hid hs
        have hnum := runV_new n sz ts i
        by_cases hlt2 : i < kk
        · obtain ⟨ad, ht⟩ := HR.out.below hs.bel i (by omega)
          obtain rfl := ht.a
          have c0 := ht.c0
          have c1 := ht.c1
          have c2 := ht.c2
          have HDO := Lib.hid (sep_vdo HS.out HCR.out (by omega) (ts i).a (ts i).s (ts i).b n i hnum.1 (by omega))
          unfold turn3V at HDO
          have him : i < m := by omega
          clear hj hs ht hnum
          go_wp2_with fail
          refine HDO.out.mono ?_
          rintro e w3 ⟨rfl, L3, hs⟩
          have HS4 := Lib.hid hs
          clear hs c0 c1 c2 HDO
          go_wp2_with fail
          go_roundg (gk - 1)
          case measure => have := HJ2.out; omega
          case rel => exact ⟨i + 1, L3, by have := HJ2.out; omega, by go_num, HS4.out⟩
        · obtain rfl : i = kk := by omega
          obtain ⟨X, hX⟩ : ∃ X, runV (newVD n sz) ts i = X := ⟨_, rfl⟩
          have hp : Peace X n sz := by rw [← hX]; exact calm_run (calm_new n sz) ts i
          rw [hX] at hnum
          have HSX : Hid (Sep w.heap.size w wr (devOb v L1 X :: rest)) := by rw [← hX]; exact hs
          have HP := Lib.hid hp
          have HXN : Hid (X.n = n) := hp.hn
          have HXO : Hid (X.ops ≤ 80) := by show _ ≤ _; omega
          obtain ⟨ad, ht0⟩ := HR.out i hkkm
          obtain rfl := ht0.a
          have HTW : Hid (∀ W, Below w.heap.size w W → TurnAt W w.heap.size (some ad) i ad (ts i)) := fun W hW => by
            obtain ⟨ad2, ht2⟩ := HR.out.below hW i hkkm
            have := ht2.a
            injection this with this
            subst this
            exact ht2
          obtain ⟨ta, hta⟩ : ∃ ta, (ts i).a = ta := ⟨_, rfl⟩
          obtain ⟨tS, htS⟩ : ∃ tS, (ts i).s = tS := ⟨_, rfl⟩
          obtain ⟨tb, htb⟩ : ∃ tb, (ts i).b = tb := ⟨_, rfl⟩
          have HTC : Hid (∀ W, Below w.heap.size w W → W.cell? (ad.add (i * 3)) = some (.int .u8 (n8 ta)) ∧ W.cell? ⟨(ad.add (i * 3)).block, (ad.add (i * 3)).off + 1, none⟩ = some (.int .u8 (n8 tS)) ∧ W.cell? ⟨(ad.add (i * 3)).block, (ad.add (i * 3)).off + 2, none⟩ = some (.int .u8 (n8 tb))) := fun W hW => by
            have h := HTW.out W hW
            rw [← hta, ← htS, ← htb]
            exact ⟨h.c0, h.c1, h.c2⟩
          obtain ⟨ha1, ha2⟩ := n8_bd ta
          obtain ⟨hs1, hs2⟩ := n8_bd tS
          clear hj hs hX hp hnum HS ht0 hta htS htb HTW
          go_wp2_with fail
          refine (sep_vcopy HSX.out HSX.out.dev).mono ?_
          rintro e w4 ⟨vc, Lc, rfl, hs⟩
          obtain ⟨c0, c1, c2⟩ := HTC.out w4 hs.bel
          have HDC := Lib.hid (sep_vdo hs (AllCells.cons (cellOb_dev _ _ _) HCR.out) (by have := HXO.out; omega) ta tS tb n i HXN.out (by omega))
          unfold turn3V at HDC
          obtain ⟨E, hE⟩ : ∃ E, vdoE X ta tS tb i = E := ⟨_, rfl⟩
          obtain ⟨X2, hX2⟩ : ∃ X2, vdoX X ta tS tb i = X2 := ⟨_, rfl⟩
          rw [hE, hX2] at HDC
          have HE := Lib.hid hE
          have HX2 := Lib.hid hX2
          have HX2N : Hid (X2.n = n) := by show _ = _; rw [← hX2, (vdoX_nums X ta tS tb i).1]; exact HXN.out
          clear hs hE hX2
          go_wp2_with fail
          refine HDC.out.mono ?_
          rintro e w5 ⟨rfl, Lc2, hs⟩
          have HS5 : Hid (Sep w.heap.size w w5 (devOb v L1 X :: devOb vc Lc2 X2 :: rest)) := hs.perm (.swap _ _ _)
          clear hs c0 c1 c2 HDC
          go_wp2_with fail
          refine (dev_disk HS5.out.dev).mono ?_
          rintro e w6 ⟨d1, rb1, lay1, rfl, hd, _, hb⟩
          have HS6 := Lib.hid (HS5.out.below hb)
          have HD := Lib.hid hd
          clear hd hb
          go_wp2_with fail
          refine (sep_contents HS6.out HD.out (by omega) (by rw [HXN.out]; omega)).mono ?_
          rintro e w7 ⟨u1, v1, rfl, hs⟩
          rw [HXN.out] at hs
          obtain ⟨A1, q1, rfl, hq1, hq1m⟩ := row_form (hs.get (.head _))
          obtain ⟨A2, q2, rfl, hq2, hq2m⟩ := row_form (hs.get (.tail _ (.head _)))
          have HS7 := Lib.hid hs
          unfold maxLen at hq1m hq2m
          clear hs HD
          go_wp2_with fail
          refine (dev_disk (HS7.out.get (.tail _ (.tail _ (.tail _ (.head _)))))).mono ?_
          rintro e w8 ⟨d2, rb2, lay2, rfl, hd, _, hb⟩
          have HS8 := Lib.hid (HS7.out.below hb)
          have HD := Lib.hid hd
          clear hd hb
          go_wp2_with fail
          refine (sep_contents HS8.out HD.out (by omega) (by rw [HX2N.out]; omega)).mono ?_
          rintro e w9 ⟨u3, v3, rfl, hs⟩
          rw [HX2N.out] at hs
          obtain ⟨A3, q3, rfl, hq3, hq3m⟩ := row_form (hs.get (.head _))
          obtain ⟨os9, hos9⟩ : ∃ os9, os9 = rowOb 9 1 (.slice A3 (n + 2) q3) (n + 2) (strs X2.D (n + 2)) :: rowOb 9 1 (.slice A1 (n + 2) q1) (n + 2) (strs X.D (n + 2)) :: rowOb 3 1 (.slice A2 (n + 2) q2) (n + 2) (ints (durs X.D (n + 2))) :: rest := ⟨_, rfl⟩
          have HOS9 := Lib.hid hos9
          have HS9 : Hid (Sep w.heap.size w w9 (devOb v L1 X :: os9)) := by
            show Sep _ _ _ _
            rw [hos9]
            exact (hs.sub (.cons_cons _ (.cons _ (.cons_cons _ (.cons_cons _ (.cons_cons _ (.cons _ (List.Sublist.refl _)))))))).perm (List.perm_middle (l₁ := [_, _, _]))
          have HC9 : Hid (AllCells os9) := by
            show AllCells _
            rw [hos9]
            exact AllCells.cons (cellOb_row _ _ _ _ _) (AllCells.cons (cellOb_row _ _ _ _ _) (AllCells.cons (cellOb_row _ _ _ _ _) HCR.out))
          have HRK : Hid (∀ W, Kept w.heap.size w os9 W → Reads W W.heap.size 1 Av j (ints (keepL kl))) := fun W hW => by
            have h2 : W.ownsRow 0 3 1 (.slice Av j cv) j (ints (keepL kl)) := hW.2 (rowOb 3 1 (.slice Av j cv) j (ints (keepL kl))) (by rw [hos9, HREST.out]; exact .tail _ (.tail _ (.tail _ (.head _))))
            exact Reads.of_own h2
          have HPB : Hid (∀ W, Sep w.heap.size w W (devOb v L1 X :: os9) → W.cell? ⟨pb, 0, none⟩ = some (.int .i64 1) ∧ W.cell? ⟨pb, 1, none⟩ = some (.bool dn) ∧ W.cell? ⟨pb, 2, none⟩ = some (.slice Av j cv)) := fun W hW => by
            have h2 : Blk W pb 31 #[.int .i64 1, .bool dn, .slice Av j cv] := hW.get (by rw [hos9, HREST.out]; exact .tail _ (.tail _ (.tail _ (.tail _ (.tail _ (.head _))))))
            exact ⟨h2.cell 0, h2.cell 1, h2.cell 2⟩
          unfold maxLen at hq3m
          clear hs HD hos9
          go_wp2_with fail
          refine (dev_ops HS9.out.dev).mono ?_
          rintro e w' ⟨rfl, rfl⟩
          obtain ⟨xo, hxo⟩ : ∃ xo, X.ops = xo := ⟨_, rfl⟩
          have HXE := Lib.hid hxo
          have hxo80 : xo ≤ 80 := by rw [← hxo]; exact HXO.out
          rw [hxo]
          clear hxo
          obtain ⟨p0, p1, p2⟩ := HPB.out w9 HS9.out
          go_wp2_with fail
          refine (sep_varm HS9.out HC9.out 1 dn Av j cv (keepL kl) HRK.out (by omega) HCV.out HNIL.out (fun ad2 e2 hj0 hvf => ?hA) (by omega)).mono ?_
          case hA =>
            refine (List.pairwise_cons.1 HS9.out.apart).1 (rowOb 3 1 (.slice Av j cv) j (ints (keepL kl))) (by rw [HOS9.out, HREST.out]; exact .tail _ (.tail _ (.tail _ (.head _)))) ad2.block hvf ?_
            show (Value.slice Av j cv).ownBlock = some ad2.block
            rw [e2]; rfl
          rintro e w10 ⟨rfl, L10, hs⟩
          have hokp : okPlan 1 (keepL kl) := keepL_ok kl (by rw [← HM5.out]; omega) (by rw [← HM5.out]; omega) 1 (by omega)
          obtain ⟨Y, hY⟩ : ∃ Y, armX X 1 dn (keepL kl) = Y := ⟨_, rfl⟩
          have hYA : Armed X Y n sz 1 dn (keepL kl) := by
            rw [← hY]
            unfold armX
            rw [if_pos hokp, if_neg (by omega)]
            exact ⟨HP.out, HXN.out, rfl, HP.out.up, rfl, rfl, by omega⟩
          rw [hY] at hs
          rw [show armE 1 (keepL kl) = 0 from by unfold armE; rw [if_pos hokp]]
          obtain ⟨c0, c1, c2⟩ := HTC.out w10 hs.bel
          have HS10 := Lib.hid hs
          have HYA := Lib.hid hYA
          have HDD := Lib.hid (sep_vdo hs HC9.out (by rw [hYA.ops]; have := HXO.out; omega) ta tS tb n i hYA.n (by omega))
          unfold turn3V at HDD
          have HLAW : Hid ((E = 4 ∧ vdoE Y ta tS tb i = 4 ∧ vdoX Y ta tS tb i = Y) ∨ (turnOk n X.D ta tS tb i ∧ E = 0 ∧ vdoE Y ta tS tb i = 13 ∧ vdoX Y ta tS tb i = { X with D := crashD (keepL kl) (turnCr n X.D ta tS tb i dn), T := none, ops := X.ops + 1, down := true })) := by
            show _ ∨ _
            rcases armed_do hYA ta tS tb i with ⟨k1, k2, k3⟩ | ⟨k1, k2, _⟩ | ⟨k1, _, k3, k4⟩
            · rcases calm_do HP.out ta tS tb i with ⟨e1, _⟩ | ⟨_, e2, _⟩
              · exact absurd e1 k1
              · exact .inl ⟨by rw [← HE.out]; exact e2, k2, k3⟩
            · omega
            · rcases calm_do HP.out ta tS tb i with ⟨_, e2, _⟩ | ⟨e1, _⟩
              · exact .inr ⟨k1, by rw [← HE.out]; exact e2, k3, k4⟩
              · exact absurd k1 e1
          obtain ⟨EY, hEY⟩ : ∃ EY, vdoE Y ta tS tb i = EY := ⟨_, rfl⟩
          obtain ⟨Y2, hY2⟩ : ∃ Y2, vdoX Y ta tS tb i = Y2 := ⟨_, rfl⟩
          rw [hEY, hY2] at HDD HLAW
          clear hs hokp hY hYA hEY hY2 p0 p1 p2
          go_wp2_with fail
          refine HDD.out.mono ?_
          rintro e w11 ⟨rfl, L11, hs⟩
          have HS11 := Lib.hid hs
          clear hs c0 c1 c2 HDD
          rcases HLAW.out with ⟨rfl, rfl, hYY⟩ | ⟨hok, rfl, rfl, hYY⟩
          · have HDN := Lib.hid (dev_down HS11.out.dev)
            have HOP := Lib.hid (dev_ops HS11.out.dev)
            rw [hYY, HYA.out.up] at HDN
            rw [hYY, HYA.out.ops, HXE.out] at HOP
            clear hYY HLAW
            go_wp2_with fail
            refine HDN.out.mono ?_
            rintro e w' ⟨rfl, rfl⟩
            go_wp2_with fail
            refine HOP.out.mono ?_
            rintro e w' ⟨rfl, rfl⟩
            go_wp2_with fail
            refine (works_any _).mono ?_
            rintro e w22 ⟨rfl, hb⟩
            have HB : Hid (Below w.heap.size w w22) := HS11.out.bel.trans (hb.mono HS11.out.big)
            clear hb
            go_wp2_with fail
            go_ret
            exact ⟨rfl, HB.out⟩
          · have HYN : Hid (Y2.n = n) := by show _ = _; rw [hYY]; exact HXN.out
            have HYO : Hid (Y2.ops = xo + 1) := by show _ = _; rw [hYY]; show X.ops + 1 = _; rw [HXE.out]
            have HYDN : Hid (Y2.down = true) := by show _ = _; rw [hYY]
            have HYT : Hid (Y2.T = none) := by show _ = _; rw [hYY]
            have HYD : Hid (Y2.D = crashD (keepL kl) (turnCr n X.D ta tS tb i dn)) := by show _ = _; rw [hYY]
            have HOK := Lib.hid hok
            clear hYY HLAW hok
            go_wp2_with fail
            refine (dev_disk HS11.out.dev).mono ?_
            rintro e w12 ⟨d3, rb3, lay3, rfl, hd, _, hb⟩
            have HS12 := Lib.hid (HS11.out.below hb)
            have HD := Lib.hid hd
            clear hd hb
            go_wp2_with fail
            refine (sep_contents HS12.out HD.out (by omega) (by rw [HYN.out]; omega)).mono ?_
            rintro e w13 ⟨u6, v6, rfl, hs⟩
            rw [HYN.out] at hs
            obtain ⟨A6, q6, rfl, hq6, hq6m⟩ := row_form (hs.get (.head _))
            obtain ⟨A7, q7, rfl, hq7, hq7m⟩ := row_form (hs.get (.tail _ (.head _)))
            obtain ⟨os13, hos13⟩ : ∃ os13, os13 = rowOb 9 1 (.slice A6 (n + 2) q6) (n + 2) (strs Y2.D (n + 2)) :: rowOb 3 1 (.slice A7 (n + 2) q7) (n + 2) (ints (durs Y2.D (n + 2))) :: devOb v L11 Y2 :: os9 := ⟨_, rfl⟩
            have HS13 : Hid (Sep w.heap.size w w13 os13) := by rw [hos13]; exact hs
            have HOS13 := Lib.hid hos13
            unfold maxLen at hq6m hq7m
            clear hs HD hos13
            obtain ⟨c0, c1, c2⟩ := HTC.out w13 HS13.out.bel
            have HDEV : Hid (∀ W, Sep w.heap.size w W os13 → IsDev W v L11 Y2) := fun W hW => hW.get (by rw [HOS13.out]; exact .tail _ (.tail _ (.head _)))
            go_wp2_with fail
            refine (dev_down (HDEV.out _ HS13.out)).mono ?_
            rintro e w' ⟨rfl, rfl⟩
            rw [HYDN.out]
            go_wp2_with fail
            refine (dev_ops (HDEV.out _ HS13.out)).mono ?_
            rintro e w' ⟨rfl, rfl⟩
            rw [HYO.out]
            obtain ⟨sl, hsl⟩ : ∃ sl, tS.toNat % (n + 2) = sl := ⟨_, rfl⟩
            have hsln : sl < n + 2 := by rw [← hsl]; exact Nat.mod_lt _ (by omega)
            have hrems : Int.tmod (n8 tS) ((n : Int) + 2) = (sl : Int) := by rw [n8_nat, Int.tmod_eq_emod_of_nonneg (by omega), ← hsl, Int.natCast_emod]; rfl
            have n20 : ¬ ((n : Int) + 2 = 0) := by omega
            have HSL := Lib.hid hsl
            clear hsl
            go_wp2_with fail
            go_loopg [30, 31, 32, 33] (n + 2) (fun q v30 v31 v32 v33 wr => ∃ (k : Nat), k + q = n + 2 ∧ v30 = .int .i64 k ∧ Sep w.heap.size w wr os13)
            case atStart => exact ⟨0, by omega, rfl, HS13.out⟩
            case round =>
              obtain ⟨k, hj, rfl, hs⟩ := hrel
              have HJ3 := Lib.hid hj
              have HS14 := Lib.hid hs
              have hk3 : k ≤ n + 2 := by omega
              clear hj hs c0 c1 c2
              by_cases hlt3 : k < n + 2
              · obtain ⟨y, hy⟩ : ∃ y, k % j = y := ⟨_, rfl⟩
                have hyj : y < j := by rw [← hy]; exact Nat.mod_lt _ (by omega)
                have hremy : Int.tmod (k : Int) (j : Int) = (y : Int) := by rw [Int.tmod_eq_emod_of_nonneg (by omega), ← hy]; rfl
                have hj0 : ¬ (j : Int) = 0 := by omega
                have hyl : y < (keepL kl).length := by rw [keepL_length, ← HM5.out]; exact hyj
                obtain ⟨kz, hkz⟩ : ∃ kz, (keepL kl)[y] = kz := ⟨_, rfl⟩
                have hkz0 : 0 ≤ kz ∧ kz < 16 := by rw [← hkz]; exact keepL_bd kl _ (List.getElem_mem hyl)
                have hka : keepAt (keepL kl) k = kz := by
                  unfold keepAt
                  rw [keepL_length, ← HM5.out, hy, List.getD_eq_getElem?_getD, List.getElem?_eq_getElem hyl, Option.getD_some]
                  exact hkz
                obtain ⟨T, hT⟩ : ∃ T, turnCr n X.D ta tS tb i dn k = T := ⟨_, rfl⟩
                have hTn := turnCr_num HP.out ta tS tb i dn HOK.out k hlt3
                rw [hT] at hTn
                obtain ⟨hT1, hT2, hT3⟩ := hTn
                have hY2k : Y2.D k = crashS kz T := by rw [HYD.out]; unfold crashD; rw [hka, hT]
                obtain ⟨wn, hwn⟩ : ∃ wn, crashN kz T = wn := ⟨_, rfl⟩
                have hmin := crashN_min (keep := kz) (x := T) hkz0.1 hT1
                have hwle := crashN_le (keep := kz) (x := T) hT1
                rw [hwn] at hmin hwle
                obtain ⟨ln, hln⟩ : ∃ ln, T.bytes.length = ln := ⟨_, rfl⟩
                obtain ⟨du, hdu⟩ : ∃ du, T.dur = du := ⟨_, rfl⟩
                rw [hln, hdu] at hmin hT1
                rw [hln] at hT2 hwle
                obtain ⟨S, hS⟩ : ∃ S, strOf T.bytes = S := ⟨_, rfl⟩
                have hSs : S.size = ln := by rw [← hS, strOf_size]; exact hln
                obtain ⟨S6, hS6⟩ : ∃ S6, strOf (T.bytes.take wn) = S6 := ⟨_, rfl⟩
                have hsl6 : S.extract 0 wn = S6 := by rw [← hS, ← hS6]; exact strOf_take _ _
                have hln72 : ln ≤ 8192 := by
                  have := (HDEV.out _ HS14.out).disk.nums (i := k) (by rw [HYN.out]; exact hlt3)
                  rw [hT3] at hT2
                  have h40 := HP.out
                  have h5 := HSX.out.dev.disk.nums (i := k) (by rw [HXN.out]; exact hlt3)
                  rw [HP.out.size k hlt3] at h5
                  omega
                have HFACT : Hid (∃ a1 a2 a3 a6 a7 ak s1 d1 s3, A1 = some a1 ∧ A2 = some a2 ∧ A3 = some a3 ∧ A6 = some a6 ∧ A7 = some a7 ∧ Av = some ak ∧ s1 = strOf (X.D k).bytes ∧ d1 = (X.D k).dur ∧ s3 = strOf (X2.D k).bytes ∧ ∀ W, Sep w.heap.size w W os13 → W.cell? (a1.add k) = some (.string s1) ∧ W.cell? (a2.add k) = some (.int .i64 (d1 : Int)) ∧ W.cell? (a3.add k) = some (.string s3) ∧ W.cell? (a6.add k) = some (.string S6) ∧ W.cell? (a7.add k) = some (.int .i64 (wn : Int)) ∧ W.cell? (ak.add y) = some (.int .i64 kz) ∧ W.cell? ⟨pb, 2, none⟩ = some (.slice Av j cv)) := by
                  have key : ∀ W, Sep w.heap.size w W os13 → ∃ a1 a2 a3 a6 a7 ak, A1 = some a1 ∧ A2 = some a2 ∧ A3 = some a3 ∧ A6 = some a6 ∧ A7 = some a7 ∧ Av = some ak ∧ W.cell? (a1.add k) = some (.string (strOf (X.D k).bytes)) ∧ W.cell? (a2.add k) = some (.int .i64 ((X.D k).dur : Int)) ∧ W.cell? (a3.add k) = some (.string (strOf (X2.D k).bytes)) ∧ W.cell? (a6.add k) = some (.string S6) ∧ W.cell? (a7.add k) = some (.int .i64 (wn : Int)) ∧ W.cell? (ak.add y) = some (.int .i64 kz) ∧ W.cell? ⟨pb, 2, none⟩ = some (.slice Av j cv) := fun W hW => by
                    rw [HOS13.out, HOS9.out, HREST.out] at hW
                    obtain ⟨a6, e6, z6⟩ := str_cell (hW.get (.head _)) k hlt3
                    obtain ⟨a7, e7, z7⟩ := dur_cell (hW.get (.tail _ (.head _))) k hlt3
                    obtain ⟨a3, e3, z3⟩ := str_cell (hW.get (.tail _ (.tail _ (.tail _ (.head _))))) k hlt3
                    obtain ⟨a1, e1, z1⟩ := str_cell (hW.get (.tail _ (.tail _ (.tail _ (.tail _ (.head _)))))) k hlt3
                    obtain ⟨a2, e2, z2⟩ := dur_cell (hW.get (.tail _ (.tail _ (.tail _ (.tail _ (.tail _ (.head _))))))) k hlt3
                    obtain ⟨ak, ek, zk⟩ := int_cell (hW.get (.tail _ (.tail _ (.tail _ (.tail _ (.tail _ (.tail _ (.head _)))))))) y hyj hyl
                    have hpk : Blk W pb 31 #[.int .i64 1, .bool dn, .slice Av j cv] := hW.get (.tail _ (.tail _ (.tail _ (.tail _ (.tail _ (.tail _ (.tail _ (.head _))))))))
                    rw [hY2k] at z6 z7
                    have e8 : (crashS kz T).bytes = T.bytes.take wn := by unfold crashS; rw [hwn]
                    have e9 : (crashS kz T).dur = wn := by unfold crashS; exact hwn
                    rw [e8, hS6] at z6
                    rw [e9] at z7
                    rw [hkz] at zk
                    exact ⟨a1, a2, a3, a6, a7, ak, e1, e2, e3, e6, e7, ek, z1, z2, z3, z6, z7, zk, hpk.cell 2⟩
                  obtain ⟨a1, a2, a3, a6, a7, ak, e1, e2, e3, e6, e7, ek, _⟩ := key wr HS14.out
                  refine ⟨a1, a2, a3, a6, a7, ak, _, _, _, e1, e2, e3, e6, e7, ek, rfl, rfl, rfl, fun W hW => ?_⟩
                  obtain ⟨b1, b2, b3, b6, b7, bk, f1, f2, f3, f6, f7, fk, g⟩ := key W hW
                  rw [e1] at f1; rw [e2] at f2; rw [e3] at f3; rw [e6] at f6; rw [e7] at f7; rw [ek] at fk
                  injection f1 with f1; injection f2 with f2; injection f3 with f3; injection f6 with f6; injection f7 with f7; injection fk with fk
                  subst f1 f2 f3 f6 f7 fk
                  exact g
                obtain ⟨a1, a2, a3, a6, a7, ak, s1, d1, s3, rfl, rfl, rfl, rfl, rfl, rfl, hs1e, hd1e, hs3e, hcells⟩ := HFACT.out
                have HCELLS := Lib.hid hcells
                obtain ⟨ka, hka8⟩ : ∃ ka, ta.toNat % 8 = ka := ⟨_, rfl⟩
                have hkaz : n8 ta % 8 = (ka : Int) := by rw [n8_nat]; omega
                have hkalt : ka < 8 := by omega
                have HCASE : Hid ((k ≠ sl ∧ s1 = S ∧ d1 = du) ∨ (k = sl ∧ ka < 5 ∧ s3 = S ∧ d1 = du) ∨ (k = sl ∧ ka = 7 ∧ dn = true ∧ S = ⟨#[]⟩ ∧ ln = 0 ∧ du = 0) ∨ (k = sl ∧ ka = 7 ∧ dn = false ∧ s1 = S ∧ d1 = du) ∨ (k = sl ∧ (ka = 5 ∨ ka = 6) ∧ s1 = S ∧ d1 = du)) := by
                  show _ ∨ _
                  by_cases e : k = sl
                  · by_cases e5 : ka < 5
                    · obtain ⟨g1, g2⟩ := turnCr_app HP.out ta tS tb i dn HOK.out (by omega) k
                      rw [hT] at g1 g2
                      exact .inr (.inl ⟨e, e5, by rw [hs3e, ← HX2.out, ← g1]; exact hS, by rw [hd1e, ← g2]; exact hdu⟩)
                    · by_cases e7 : ka = 7
                      · cases dn with
                        | true =>
                          obtain ⟨g1, g2⟩ := turnCr_erase n X.D ta tS tb i (by omega)
                          rw [HSL.out, ← e, hT] at g1 g2
                          exact .inr (.inr (.inl ⟨e, e7, rfl, by rw [← hS, g1]; rfl, by rw [← hln, g1]; rfl, by rw [← hdu]; exact g2⟩))
                        | false =>
                          have g := turnCr_same n X.D ta tS tb i false (by omega) (fun _ => rfl) k
                          rw [hT] at g
                          exact .inr (.inr (.inr (.inl ⟨e, e7, rfl, by rw [hs1e, ← g]; exact hS, by rw [hd1e, ← g]; exact hdu⟩)))
                      · have g := turnCr_same n X.D ta tS tb i dn (by omega) (fun h => absurd h (by omega)) k
                        rw [hT] at g
                        exact .inr (.inr (.inr (.inr ⟨e, by omega, by rw [hs1e, ← g]; exact hS, by rw [hd1e, ← g]; exact hdu⟩)))
                  · have g := turnCr_other n X.D ta tS tb i dn k (by rw [HSL.out]; exact e)
                    rw [hT] at g
                    exact .inl ⟨e, by rw [hs1e, ← g]; exact hS, by rw [hd1e, ← g]; exact hdu⟩
                clear hcells HFACT hs1e hd1e hs3e hka8 hY2k hT hka hkz hy hyl hwn hln hdu hS hS6 hT2 hT3
                have hslc : ∀ W, (Instr.slice 9 (.string S) none (some (.int .i64 (wn : Int))) none).run Try.prog W = .ok (.string S6) W := fun W => by
                  have := run_slice_string_h (P := Try.prog) W 9 S Try.underlying9 .i64 (wn : Int) (by omega) (by rw [hSs]; omega)
                  rw [this, Int.toNat_natCast, hsl6]
                have HMIN : Hid (min (ln : Int) ((du : Int) + kz) = (wn : Int)) := by
                  show min _ _ = _
                  rw [← hmin, Int.min_def]
                  split <;> split <;> omega
                have HSLC := Lib.hid hslc
                clear hmin
                clear hslc hsl6
                have hkz1 := hkz0.1
                have hkz2 := hkz0.2
                clear hkz0
                obtain ⟨z1, z2, z3, z6, z7, zk, zp⟩ := HCELLS.out wr HS14.out
                obtain ⟨c0, c1, c2⟩ := HTC.out wr HS14.out.bel
                rcases HCASE.out with ⟨hne, rfl, rfl⟩ | ⟨rfl, h5, rfl, rfl⟩ | ⟨rfl, h7, rfl, rfl, rfl, rfl⟩ | ⟨rfl, h7, rfl, rfl, rfl⟩ | ⟨rfl, h56, rfl, rfl⟩
                · have g1 : ((k : Int) == (sl : Int)) = false := by rw [beq_eq_false_iff_ne]; omega
                  go_wp2_with fail
                  go_quiet (fail)
                  have HS20 := Lib.hid (HS14.out.drewN nq)
                  generalize wr.drewN nq = wa at HS20 ⊢
                  clear z1 z2 z3 z6 z7 zk zp c0 c1 c2
                  obtain ⟨z1, z2, z3, z6, z7, zk, zp⟩ := HCELLS.out wa HS20.out
                  obtain ⟨c0, c1, c2⟩ := HTC.out wa HS20.out.bel
                  go_wp2_with fail
                  go_quiet (fail)
                  have HS21 := Lib.hid (HS20.out.drewN nq)
                  generalize wa.drewN nq = wb at HS21 ⊢
                  rw [HMIN.out]
                  clear z1 z2 z3 z6 z7 zk zp c0 c1 c2
                  obtain ⟨z1, z2, z3, z6, z7, zk, zp⟩ := HCELLS.out wb HS21.out
                  have hslc := HSLC.out
                  go_wp2_with fail
                  go_quiet (fail)
                  have HS22 := Lib.hid (HS21.out.drewN nq)
                  generalize wb.drewN nq = wd at HS22 ⊢
                  clear z1 z2 z3 z6 z7 zk zp hslc
                  go_wp2_with fail
                  go_roundg (gk - 1)
                  case measure => have := HJ3.out; omega
                  case rel => exact ⟨k + 1, by have := HJ3.out; omega, by go_num, HS22.out⟩
                · have g1 : ((k : Int) == (k : Int)) = true := by simp
                  have g2 : decide ((ka : Int) < 5) = true := by simp; omega
                  have g3 : ((ka : Int) == 7) = false := by rw [beq_eq_false_iff_ne]; omega
                  go_wp2_with fail
                  go_quiet (fail)
                  have HS20 := Lib.hid (HS14.out.drewN nq)
                  generalize wr.drewN nq = wa at HS20 ⊢
                  clear z1 z2 z3 z6 z7 zk zp c0 c1 c2
                  obtain ⟨z1, z2, z3, z6, z7, zk, zp⟩ := HCELLS.out wa HS20.out
                  obtain ⟨c0, c1, c2⟩ := HTC.out wa HS20.out.bel
                  go_wp2_with fail
                  go_quiet (fail)
                  have HS21 := Lib.hid (HS20.out.drewN nq)
                  generalize wa.drewN nq = wb at HS21 ⊢
                  rw [HMIN.out]
                  clear z1 z2 z3 z6 z7 zk zp c0 c1 c2
                  obtain ⟨z1, z2, z3, z6, z7, zk, zp⟩ := HCELLS.out wb HS21.out
                  have hslc := HSLC.out
                  go_wp2_with fail
                  go_quiet (fail)
                  have HS22 := Lib.hid (HS21.out.drewN nq)
                  generalize wb.drewN nq = wd at HS22 ⊢
                  clear z1 z2 z3 z6 z7 zk zp hslc
                  go_wp2_with fail
                  go_roundg (gk - 1)
                  case measure => have := HJ3.out; omega
                  case rel => exact ⟨k + 1, by have := HJ3.out; omega, by go_num, HS22.out⟩
                · have g1 : ((k : Int) == (k : Int)) = true := by simp
                  have g2 : decide ((ka : Int) < 5) = false := by simp; omega
                  have g3 : ((ka : Int) == 7) = true := by rw [beq_iff_eq]; omega
                  go_wp2_with fail
                  go_quiet (fail)
                  have HS20 := Lib.hid (HS14.out.drewN nq)
                  generalize wr.drewN nq = wa at HS20 ⊢
                  clear z1 z2 z3 z6 z7 zk zp c0 c1 c2
                  obtain ⟨z1, z2, z3, z6, z7, zk, zp⟩ := HCELLS.out wa HS20.out
                  obtain ⟨c0, c1, c2⟩ := HTC.out wa HS20.out.bel
                  go_wp2_with fail
                  go_quiet (fail)
                  have HS21 := Lib.hid (HS20.out.drewN nq)
                  generalize wa.drewN nq = wb at HS21 ⊢
                  rw [show min (0 : Int) kz = (wn : Int) from by have h9 := HMIN.out; rw [← h9]; simp]
                  clear z1 z2 z3 z6 z7 zk zp c0 c1 c2
                  obtain ⟨z1, z2, z3, z6, z7, zk, zp⟩ := HCELLS.out wb HS21.out
                  have hslc := HSLC.out
                  go_wp2_with fail
                  go_quiet (fail)
                  have HS22 := Lib.hid (HS21.out.drewN nq)
                  generalize wb.drewN nq = wd at HS22 ⊢
                  clear z1 z2 z3 z6 z7 zk zp hslc
                  go_wp2_with fail
                  go_roundg (gk - 1)
                  case measure => have := HJ3.out; omega
                  case rel => exact ⟨k + 1, by have := HJ3.out; omega, by go_num, HS22.out⟩
                · have g1 : ((k : Int) == (k : Int)) = true := by simp
                  have g2 : decide ((ka : Int) < 5) = false := by simp; omega
                  have g3 : ((ka : Int) == 7) = true := by rw [beq_iff_eq]; omega
                  go_wp2_with fail
                  go_quiet (fail)
                  have HS20 := Lib.hid (HS14.out.drewN nq)
                  generalize wr.drewN nq = wa at HS20 ⊢
                  clear z1 z2 z3 z6 z7 zk zp c0 c1 c2
                  obtain ⟨z1, z2, z3, z6, z7, zk, zp⟩ := HCELLS.out wa HS20.out
                  obtain ⟨c0, c1, c2⟩ := HTC.out wa HS20.out.bel
                  go_wp2_with fail
                  go_quiet (fail)
                  have HS21 := Lib.hid (HS20.out.drewN nq)
                  generalize wa.drewN nq = wb at HS21 ⊢
                  rw [HMIN.out]
                  clear z1 z2 z3 z6 z7 zk zp c0 c1 c2
                  obtain ⟨z1, z2, z3, z6, z7, zk, zp⟩ := HCELLS.out wb HS21.out
                  have hslc := HSLC.out
                  go_wp2_with fail
                  go_quiet (fail)
                  have HS22 := Lib.hid (HS21.out.drewN nq)
                  generalize wb.drewN nq = wd at HS22 ⊢
                  clear z1 z2 z3 z6 z7 zk zp hslc
                  go_wp2_with fail
                  go_roundg (gk - 1)
                  case measure => have := HJ3.out; omega
                  case rel => exact ⟨k + 1, by have := HJ3.out; omega, by go_num, HS22.out⟩
                · have g1 : ((k : Int) == (k : Int)) = true := by simp
                  have g2 : decide ((ka : Int) < 5) = false := by simp; omega
                  have g3 : ((ka : Int) == 7) = false := by rw [beq_eq_false_iff_ne]; omega
                  go_wp2_with fail
                  go_quiet (fail)
                  have HS20 := Lib.hid (HS14.out.drewN nq)
                  generalize wr.drewN nq = wa at HS20 ⊢
                  clear z1 z2 z3 z6 z7 zk zp c0 c1 c2
                  obtain ⟨z1, z2, z3, z6, z7, zk, zp⟩ := HCELLS.out wa HS20.out
                  obtain ⟨c0, c1, c2⟩ := HTC.out wa HS20.out.bel
                  go_wp2_with fail
                  go_quiet (fail)
                  have HS21 := Lib.hid (HS20.out.drewN nq)
                  generalize wa.drewN nq = wb at HS21 ⊢
                  rw [HMIN.out]
                  clear z1 z2 z3 z6 z7 zk zp c0 c1 c2
                  obtain ⟨z1, z2, z3, z6, z7, zk, zp⟩ := HCELLS.out wb HS21.out
                  have hslc := HSLC.out
                  go_wp2_with fail
                  go_quiet (fail)
                  have HS22 := Lib.hid (HS21.out.drewN nq)
                  generalize wb.drewN nq = wd at HS22 ⊢
                  clear z1 z2 z3 z6 z7 zk zp hslc
                  go_wp2_with fail
                  go_roundg (gk - 1)
                  case measure => have := HJ3.out; omega
                  case rel => exact ⟨k + 1, by have := HJ3.out; omega, by go_num, HS22.out⟩
              · obtain rfl : k = n + 2 := by omega
                go_wp2_with fail
                refine (sep_vrestart (Sep.sub HS14.out (os' := [devOb v L11 Y2]) (by rw [HOS13.out]; exact .cons _ (.cons _ (.cons_cons _ (List.nil_sublist _)))))).mono ?_
                rintro e w15 ⟨rfl, hs⟩
                have HS15 := Lib.hid hs
                clear hs
                go_wp2_with fail
                refine (dev_down HS15.out.dev).mono ?_
                rintro e w' ⟨rfl, rfl⟩
                rw [show (restartX Y2).down = false from rfl]
                go_wp2_with fail
                have HFS := Lib.hid (free1_sync (Y := restartX Y2) (n := n) (s := 0) ⟨HYN.out, rfl, HYT.out⟩ (by omega))
                refine (sep_vsync HS15.out AllCells.nil (by show Y2.ops < _; rw [HYO.out]; omega) 0).mono ?_
                rintro e w16 ⟨rfl, L16, hs⟩
                rw [show oneVE (restartX Y2) 0 = 0 from HFS.out.1]
                have HB16 := Lib.hid hs.bel
                have HBG16 := Lib.hid hs.big
                clear hs
                go_wp2_with fail
                refine (works_any _).mono ?_
                rintro e w22 ⟨rfl, hb⟩
                have HB : Hid (Below w.heap.size w w22) := HB16.out.trans (hb.mono HBG16.out)
                clear hb
                go_wp2_with fail
                go_ret
                exact ⟨rfl, HB.out⟩
theorem DeviceCrash_walk (v0 v1 v2 v3 v4 v5 : Value) (w : World) (a0 : ArgIn Try.prog w 5 v0) (a1 : ArgIn Try.prog w 5 v1) (a2 : ArgIn Try.prog w 39 v2) (a3 : ArgIn Try.prog w 5 v3) (a4 : ArgIn Try.prog w 4 v4) (a5 : ArgIn Try.prog w 27 v5) :
    Calls Try.prog 7 #[v0, v1, v2, v3, v4, v5] w fun e w' => e = .returned (.bool true) ∧ Below w.heap.size w w' := by
  obtain ⟨x0, rfl, h0⟩ := a0.int (k := .u8) Try.underlying5
  obtain ⟨x1, rfl, h1⟩ := a1.int (k := .u8) Try.underlying5
  obtain ⟨A, n, c, ts, rfl, hn, hc, ht⟩ := turns_arg a2
  obtain ⟨x4, rfl, h4⟩ := a3.int (k := .u8) Try.underlying5
  obtain ⟨dn, rfl⟩ := a4.bool Try.underlying4
  obtain ⟨A5, n5, c5, zs, rfl, h5⟩ := a5.row (k := .u8) Try.underlying27 Try.underlying5 (by decide +kernel)
  obtain ⟨l, e1, e2, e3, e4, e5⟩ := h5.bytes
  obtain ⟨b0, rfl⟩ := u8_of_wf h0
  obtain ⟨b1, rfl⟩ := u8_of_wf h1
  obtain ⟨b4, rfl⟩ := u8_of_wf h4
  exact DeviceCrash_w b0 b1 A n c ts b4 dn A5 n5 c5 l w ht hn hc e5 e1 e3 e4
end Go.Proofs.Yteglaedkhopbgaa
