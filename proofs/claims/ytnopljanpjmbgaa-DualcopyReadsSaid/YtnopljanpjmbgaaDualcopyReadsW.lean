/-
  The walk of the law DualcopyReads. No condition.
-/
import Derived.Test.YtnopljanpjmbgaaMT
import Derived.Test.YtnopljanpjmbgaaMS
import Derived.Test.YtnopljanpjmbgaaMQ
import Derived.Deep.DeepCutAuto
import Derived.Deep.CutBlock
namespace Go.Proofs.Ytnopljanpjmbgaa
open Go.RowKit Go.Shelf Drum
set_option linter.unusedVariables false
theorem mask_xor (x : BitVec 8) (k : Nat) (hk : k < 4) : bits .xor .u8 (n8 x) (1 + (k : Int)) = n8 (x ^^^ mask8 k) := by
  have e : (1 + (k : Int)) = n8 (mask8 k) := by
    rw [n8_nat]; unfold mask8; rw [BitVec.toNat_ofNat]; omega
  rw [e]
  exact xor_u8 x _
set_option maxRecDepth 100000 in
set_option maxHeartbeats 16000000 in
theorem DualcopyReads_k1 (b : Fin 7 → BitVec 8) (n sz : Nat) (re wk ke va po : Int) (hc : smallC b = ⟨(n : Int), (sz : Int), re, wk, ke, va, po⟩) (hn4 : 4 ≤ n) (hn9 : n ≤ 9) (hs1 : 34 ≤ sz) (hs2 : sz ≤ 400) (f s : Nat) (hf : f < 4294967296) (hs : s < 4294967296) (hlt : (2 + 2 * (f : Int)) < (1 + 2 * (s : Int)))
    (cb lb : BitVec 8) (q k ln : Nat) (hq : n8 cb % 64 = (q : Int)) (hq64 : q < 64) (hk : n8 cb / 64 = (k : Int)) (hk4 : k < 4) (hl : n8 lb % 64 = (ln : Int)) (hl64 : ln < 64) (w : World) :
    Calls Try.prog 6 #[.agg #[.int .u8 (n8 (b 0)), .int .u8 (n8 (b 1)), .int .u8 (n8 (b 2)), .int .u8 (n8 (b 3)), .int .u8 (n8 (b 4)), .int .u8 (n8 (b 5)), .int .u8 (n8 (b 6))], .int .u32 (f : Int), .int .u32 (s : Int), .int .u8 (n8 cb), .int .u8 (n8 lb)] w fun e w' => e = .returned (.bool true) ∧ Below w.heap.size w w' := by
  have hok := smallC_ok b
  have hwf := smallC_wf b
  rw [hc] at hok hwf
  have HSM : Hid (∀ W, Calls Try.prog 18 #[.agg #[.int .u8 (n8 (b 0)), .int .u8 (n8 (b 1)), .int .u8 (n8 (b 2)), .int .u8 (n8 (b 3)), .int .u8 (n8 (b 4)), .int .u8 (n8 (b 5)), .int .u8 (n8 (b 6))]] W fun e w' => e = .returned (.agg #[.int .i64 (n : Int), .int .i64 (sz : Int), .int .i64 re, .int .i64 wk, .int .i64 ke, .int .i64 va, .int .i64 po]) ∧ Below W.heap.size W w') := fun W => by
    have := small_any b W
    rw [hc] at this
    exact this
  have hel := encOf_length (evB ⟨(n : Int), (sz : Int), re, wk, ke, va, po⟩ f)
  have hel2 := encOf_length (odB ⟨(n : Int), (sz : Int), re, wk, ke, va, po⟩ s)
  obtain ⟨X1, X2, X4, X6, K⟩ := reads_plain n sz ⟨(n : Int), (sz : Int), re, wk, ke, va, po⟩ hok f s hf hs ((encOf (evB ⟨(n : Int), (sz : Int), re, wk, ke, va, po⟩ f)).set q ((encOf (evB ⟨(n : Int), (sz : Int), re, wk, ke, va, po⟩ f)).getD q 0#8 ^^^ mask8 k)) ((encOf (odB ⟨(n : Int), (sz : Int), re, wk, ke, va, po⟩ s)).take ln) (by rw [List.length_set]; exact hel) (mask_dec (evB_ok hok f hf) q hq64 k hk4) (by rw [List.length_take]; omega)
  have HK := Lib.hid K
  have hx1 : Hid ((newVD n sz).ops ≤ 100000) := by have := K.ops; show _ ≤ _; omega
  have hx2 : Hid (X1.ops ≤ 100000) := by have := K.ops; show _ ≤ _; omega
  have hx3 : Hid (X2.ops ≤ 100000) := by have := K.ops; show _ ≤ _; omega
  have hx4 : Hid (X4.ops ≤ 100000) := by have := K.ops; show _ ≤ _; omega
  have hx5 : Hid (X6.ops ≤ 100000) := by have := K.ops; show _ ≤ _; omega
  have hx6 : Hid ((EraseVX X2 (n : Int)).ops ≤ 100000) := by have := K.ops; have := erase_ops X2 (n : Int); show _ ≤ _; omega
  have hx7 : Hid ((EraseVX X4 ((n : Int) + 1)).ops ≤ 100000) := by have := K.ops; have := erase_ops X4 ((n : Int) + 1); show _ ≤ _; omega
  have hR2 : readX X2 = (0, 1, odB ⟨(n : Int), (sz : Int), re, wk, ke, va, po⟩ s) := by
    have := K.r2
    rw [if_pos (show (evB ⟨(n : Int), (sz : Int), re, wk, ke, va, po⟩ f).epoch < (odB ⟨(n : Int), (sz : Int), re, wk, ke, va, po⟩ s).epoch from hlt)] at this
    exact this
  have HR2 : Hid (((readX X2).1 = 0 ∧ ((readX X2).2.1 : Int) = 1) ∧ (readX X2).2.2 = ⟨(1 + 2 * (s : Int)), ⟨(n : Int), (sz : Int), re, wk, ke, va, po⟩⟩) := by show _ ∧ _; rw [hR2]; exact ⟨⟨rfl, rfl⟩, rfl⟩
  have HR4 : Hid (((readX X4).1 = 0 ∧ ((readX X4).2.1 : Int) = 1) ∧ (readX X4).2.2 = ⟨(1 + 2 * (s : Int)), ⟨(n : Int), (sz : Int), re, wk, ke, va, po⟩⟩) := by show _ ∧ _; rw [K.r4]; exact ⟨⟨rfl, rfl⟩, rfl⟩
  have HR6 : Hid (((readX X6).1 = 5 ∧ ((readX X6).2.1 : Int) = 0) ∧ (readX X6).2.2 = ⟨0, ⟨0, 0, 0, 0, 0, 0, 0⟩⟩) := by show _ ∧ _; rw [K.r6]; exact ⟨⟨rfl, rfl⟩, rfl⟩
  have hchk : ∀ (X : DevD) (j : Nat), X.n = n → X.down = false → j < n + 2 → chkE X (j : Int) = 0 := fun X j h1 h2 h3 => by
    unfold chkE
    rw [h2, if_neg (by simp)]
    exact if_pos (show inRange (X.n + 2) (j : Int) from ⟨by omega, by omega⟩)
  have HC2 : Hid (chkE X2 (n : Int) = 0) := hchk X2 n K.n2.1 K.n2.2 (by omega)
  have HC4 : Hid (chkE X4 ((n + 1 : Nat) : Int) = 0) := hchk X4 (n + 1) K.n4.1 K.n4.2 (by omega)
  have HY2 : Hid ((X2.D n).bytes.take 64 = encOf (evB ⟨(n : Int), (sz : Int), re, wk, ke, va, po⟩ f)) := by show _ = _; rw [K.by0, ← hel, List.take_length]
  have HZ2 : Hid (64 ≤ (X2.D n).bytes.length) := by show _ ≤ _; rw [K.by0]; omega
  have HY4 : Hid ((X4.D (n + 1)).bytes.take ln = ((encOf (odB ⟨(n : Int), (sz : Int), re, wk, ke, va, po⟩ s)).take ln)) := by show _ = _; rw [K.by1]
  have HZ4 : Hid (ln ≤ (X4.D (n + 1)).bytes.length) := by show _ ≤ _; rw [K.by1]; omega
  have HWA : Hid (Bk.wf ⟨(2 + 2 * (f : Int)), ⟨(n : Int), (sz : Int), re, wk, ke, va, po⟩⟩) := bk_wf _ hwf (2 + 2 * (f : Int)) (by omega)
  have HWB : Hid (Bk.wf ⟨(1 + 2 * (s : Int)), ⟨(n : Int), (sz : Int), re, wk, ke, va, po⟩⟩) := bk_wf _ hwf (1 + 2 * (s : Int)) (by omega)
  have HEL := Lib.hid hel
  have HEL2 := Lib.hid hel2
  obtain ⟨i0, j0⟩ := n8_bd cb
  obtain ⟨i1, j1⟩ := n8_bd lb
  obtain ⟨g5, hg5⟩ : ∃ g5, g5 = w.heap.size := ⟨_, rfl⟩
  obtain ⟨W1, hW1⟩ : ∃ W1 : World, W1 = w.alloc (.cells #[.int .u8 (n8 (b 0)), .int .u8 (n8 (b 1)), .int .u8 (n8 (b 2)), .int .u8 (n8 (b 3)), .int .u8 (n8 (b 4)), .int .u8 (n8 (b 5)), .int .u8 (n8 (b 6))] 22) := ⟨_, rfl⟩
  have H1 : Hid (Sep w.heap.size w W1 [blkOb g5 22 #[.int .u8 (n8 (b 0)), .int .u8 (n8 (b 1)), .int .u8 (n8 (b 2)), .int .u8 (n8 (b 3)), .int .u8 (n8 (b 4)), .int .u8 (n8 (b 5)), .int .u8 (n8 (b 6))]]) := by
    show Sep _ _ _ _
    rw [hW1]
    exact (Sep.start w).newBlk g5 _ _ hg5
  have hnI : (4 : Int) ≤ (n : Int) ∧ (n : Int) ≤ 9 := by omega
  have hsI : (34 : Int) ≤ (sz : Int) ∧ (sz : Int) ≤ 400 := by omega
  have hfI : (0 : Int) ≤ (f : Int) ∧ (f : Int) < 4294967296 := by omega
  have hsI2 : (0 : Int) ≤ (s : Int) ∧ (s : Int) < 4294967296 := by omega
  have hqI : (0 : Int) ≤ (q : Int) ∧ (q : Int) < 64 := by omega
  have hkI : (0 : Int) ≤ (k : Int) ∧ (k : Int) < 4 := by omega
  have hlI : (0 : Int) ≤ (ln : Int) ∧ (ln : Int) < 64 := by omega
  obtain ⟨hnI1, hnI2⟩ := hnI
  obtain ⟨hsI1, hsI0⟩ := hsI
  obtain ⟨hfI1, hfI2⟩ := hfI
  obtain ⟨hsI3, hsI4⟩ := hsI2
  obtain ⟨hqI1, hqI2⟩ := hqI
  obtain ⟨hkI1, hkI2⟩ := hkI
  obtain ⟨hlI1, hlI2⟩ := hlI
  have HB4 := Lib.hid (And.intro hn4 (And.intro hn9 (And.intro hs1 (And.intro hs2 (And.intro hk4 (And.intro hq64 hl64))))))
  clear K hR2 hok hwf hc hel hel2 hchk hn4 hn9 hs1 hs2 hf hs hq64 hk4 hl64
  go_enter Try.func6, Try.ntmps6
  go_wp2_with fail
  rw [← hg5, ← hW1]
  clear hW1 hg5
  refine (HSM.out _).mono ?_
  rintro e w2 ⟨rfl, hb⟩
  have H2 := Lib.hid (H1.out.below hb)
  clear hb HSM
  obtain ⟨g11, hg11⟩ : ∃ g11, g11 = w2.heap.size := ⟨_, rfl⟩
  obtain ⟨W2, hW2⟩ : ∃ W2 : World, W2 = w2.alloc (.cells #[.int .i64 (n : Int), .int .i64 (sz : Int), .int .i64 re, .int .i64 wk, .int .i64 ke, .int .i64 va, .int .i64 po] 26) := ⟨_, rfl⟩
  have H2b : Hid (Sep w.heap.size w W2 [blkOb g11 26 #[.int .i64 (n : Int), .int .i64 (sz : Int), .int .i64 re, .int .i64 wk, .int .i64 ke, .int .i64 va, .int .i64 po], blkOb g5 22 #[.int .u8 (n8 (b 0)), .int .u8 (n8 (b 1)), .int .u8 (n8 (b 2)), .int .u8 (n8 (b 3)), .int .u8 (n8 (b 4)), .int .u8 (n8 (b 5)), .int .u8 (n8 (b 6))]]) := by
    show Sep _ _ _ _
    rw [hW2]
    exact H2.out.newBlk g11 _ _ hg11
  go_upto_region 2 with fail
  rw [← hg11, ← hW2]
  clear hg11 hW2
  have kg11 : Blk W2 g11 26 #[.int .i64 (n : Int), .int .i64 (sz : Int), .int .i64 re, .int .i64 wk, .int .i64 ke, .int .i64 va, .int .i64 po] := H2b.out.get (.head _)
  have q1 : W2.cell? ⟨g11, 0, none⟩ = some (.int .i64 (n : Int)) := kg11.cell 0
  have q2 : W2.cell? ⟨g11, 1, none⟩ = some (.int .i64 (sz : Int)) := kg11.cell 1
  clear kg11
  have CN := Lib.hid (sep_vnew H2b.out n sz (by have := HB4.out; omega) (by have := HB4.out; omega) (by have := HB4.out; omega) (by have := HB4.out; omega))
  go_wp2_with fail
  refine CN.out.mono ?_
  rintro e w3 ⟨v, L3, rfl, hs⟩
  have H3 := Lib.hid hs
  clear hs CN q1 q2
  have kg11 : Blk w3 g11 26 #[.int .i64 (n : Int), .int .i64 (sz : Int), .int .i64 re, .int .i64 wk, .int .i64 ke, .int .i64 va, .int .i64 po] := H3.out.get (.tail _ (.head _))
  have q11 : w3.cell? ⟨g11, 0, none⟩ = some (.int .i64 (n : Int)) := kg11.cell 0
  have q12 : w3.cell? ⟨g11, 1, none⟩ = some (.int .i64 (sz : Int)) := kg11.cell 1
  have q13 : w3.cell? ⟨g11, 2, none⟩ = some (.int .i64 re) := kg11.cell 2
  have q14 : w3.cell? ⟨g11, 3, none⟩ = some (.int .i64 wk) := kg11.cell 3
  have q15 : w3.cell? ⟨g11, 4, none⟩ = some (.int .i64 ke) := kg11.cell 4
  have q16 : w3.cell? ⟨g11, 5, none⟩ = some (.int .i64 va) := kg11.cell 5
  have q17 : w3.cell? ⟨g11, 6, none⟩ = some (.int .i64 po) := kg11.cell 6
  clear kg11
  go_upto_region 5 with fail
  obtain ⟨g14, hg14⟩ : ∃ g14, g14 = w3.heap.size := ⟨_, rfl⟩
  obtain ⟨W5, hW5⟩ : ∃ W5 : World, W5 = w3.alloc (.cells #[.int .i64 (2 + 2 * (f : Int)), .int .i64 (n : Int), .int .i64 (sz : Int), .int .i64 re, .int .i64 wk, .int .i64 ke, .int .i64 va, .int .i64 po] 30) := ⟨_, rfl⟩
  have H5 : Hid (Sep w.heap.size w W5 (devOb v L3 (newVD n sz) :: [blkOb g14 30 #[.int .i64 (2 + 2 * (f : Int)), .int .i64 (n : Int), .int .i64 (sz : Int), .int .i64 re, .int .i64 wk, .int .i64 ke, .int .i64 va, .int .i64 po], blkOb g11 26 #[.int .i64 (n : Int), .int .i64 (sz : Int), .int .i64 re, .int .i64 wk, .int .i64 ke, .int .i64 va, .int .i64 po], blkOb g5 22 #[.int .u8 (n8 (b 0)), .int .u8 (n8 (b 1)), .int .u8 (n8 (b 2)), .int .u8 (n8 (b 3)), .int .u8 (n8 (b 4)), .int .u8 (n8 (b 5)), .int .u8 (n8 (b 6))]])) := by
    show Sep _ _ _ _
    rw [hW5]
    exact (H3.out.newBlk g14 30 #[.int .i64 (2 + 2 * (f : Int)), .int .i64 (n : Int), .int .i64 (sz : Int), .int .i64 re, .int .i64 wk, .int .i64 ke, .int .i64 va, .int .i64 po] hg14).perm (.swap _ _ _)
  go_upto_region 6 with fail
  rw [← hg14, ← hW5]
  clear hg14 hW5
  clear q11 q12 q13 q14 q15 q16 q17
  have kg11 : Blk W5 g11 26 #[.int .i64 (n : Int), .int .i64 (sz : Int), .int .i64 re, .int .i64 wk, .int .i64 ke, .int .i64 va, .int .i64 po] := H5.out.get (.tail _ (.tail _ (.head _)))
  have q18 : W5.cell? ⟨g11, 0, none⟩ = some (.int .i64 (n : Int)) := kg11.cell 0
  have q19 : W5.cell? ⟨g11, 1, none⟩ = some (.int .i64 (sz : Int)) := kg11.cell 1
  have q20 : W5.cell? ⟨g11, 2, none⟩ = some (.int .i64 re) := kg11.cell 2
  have q21 : W5.cell? ⟨g11, 3, none⟩ = some (.int .i64 wk) := kg11.cell 3
  have q22 : W5.cell? ⟨g11, 4, none⟩ = some (.int .i64 ke) := kg11.cell 4
  have q23 : W5.cell? ⟨g11, 5, none⟩ = some (.int .i64 va) := kg11.cell 5
  have q24 : W5.cell? ⟨g11, 6, none⟩ = some (.int .i64 po) := kg11.cell 6
  clear kg11
  obtain ⟨g15, hg15⟩ : ∃ g15, g15 = W5.heap.size := ⟨_, rfl⟩
  obtain ⟨W6, hW6⟩ : ∃ W6 : World, W6 = W5.alloc (.cells #[.int .i64 (1 + 2 * (s : Int)), .int .i64 (n : Int), .int .i64 (sz : Int), .int .i64 re, .int .i64 wk, .int .i64 ke, .int .i64 va, .int .i64 po] 30) := ⟨_, rfl⟩
  have H6 : Hid (Sep w.heap.size w W6 (devOb v L3 (newVD n sz) :: [blkOb g15 30 #[.int .i64 (1 + 2 * (s : Int)), .int .i64 (n : Int), .int .i64 (sz : Int), .int .i64 re, .int .i64 wk, .int .i64 ke, .int .i64 va, .int .i64 po], blkOb g14 30 #[.int .i64 (2 + 2 * (f : Int)), .int .i64 (n : Int), .int .i64 (sz : Int), .int .i64 re, .int .i64 wk, .int .i64 ke, .int .i64 va, .int .i64 po], blkOb g11 26 #[.int .i64 (n : Int), .int .i64 (sz : Int), .int .i64 re, .int .i64 wk, .int .i64 ke, .int .i64 va, .int .i64 po], blkOb g5 22 #[.int .u8 (n8 (b 0)), .int .u8 (n8 (b 1)), .int .u8 (n8 (b 2)), .int .u8 (n8 (b 3)), .int .u8 (n8 (b 4)), .int .u8 (n8 (b 5)), .int .u8 (n8 (b 6))]])) := by
    show Sep _ _ _ _
    rw [hW6]
    exact (H5.out.newBlk g15 30 #[.int .i64 (1 + 2 * (s : Int)), .int .i64 (n : Int), .int .i64 (sz : Int), .int .i64 re, .int .i64 wk, .int .i64 ke, .int .i64 va, .int .i64 po] hg15).perm (.swap _ _ _)
  go_upto_region 7 with fail
  rw [← hg15, ← hW6]
  clear hg15 hW6
  clear q18 q19 q20 q21 q22 q23 q24
  have kg14 : Blk W6 g14 30 #[.int .i64 (2 + 2 * (f : Int)), .int .i64 (n : Int), .int .i64 (sz : Int), .int .i64 re, .int .i64 wk, .int .i64 ke, .int .i64 va, .int .i64 po] := H6.out.get (.tail _ (.tail _ (.head _)))
  have q25 : W6.cell? ⟨g14, 0, none⟩ = some (.int .i64 (2 + 2 * (f : Int))) := kg14.cell 0
  have q26 : W6.cell? ⟨g14, 1, none⟩ = some (.int .i64 (n : Int)) := kg14.cell 1
  have q27 : W6.cell? ⟨g14, 2, none⟩ = some (.int .i64 (sz : Int)) := kg14.cell 2
  have q28 : W6.cell? ⟨g14, 3, none⟩ = some (.int .i64 re) := kg14.cell 3
  have q29 : W6.cell? ⟨g14, 4, none⟩ = some (.int .i64 wk) := kg14.cell 4
  have q30 : W6.cell? ⟨g14, 5, none⟩ = some (.int .i64 ke) := kg14.cell 5
  have q31 : W6.cell? ⟨g14, 6, none⟩ = some (.int .i64 va) := kg14.cell 6
  have q32 : W6.cell? ⟨g14, 7, none⟩ = some (.int .i64 po) := kg14.cell 7
  clear kg14
  go_wp2_with fail
  refine (lt_write H6.out (AllCells.cons (cellOb_blk _ _ _) (AllCells.cons (cellOb_blk _ _ _) (AllCells.cons (cellOb_blk _ _ _) (AllCells.cons (cellOb_blk _ _ _) AllCells.nil)))) hx1.out (2 + 2 * (f : Int)) (n : Int) (sz : Int) re wk ke va po 0 HWA.out HK.out.w0).mono ?_
  rintro e w7 ⟨rfl, L7, hs⟩
  have H7 := Lib.hid hs
  clear hs
  clear q25 q26 q27 q28 q29 q30 q31 q32
  have kg15 : Blk w7 g15 30 #[.int .i64 (1 + 2 * (s : Int)), .int .i64 (n : Int), .int .i64 (sz : Int), .int .i64 re, .int .i64 wk, .int .i64 ke, .int .i64 va, .int .i64 po] := H7.out.get (.tail _ (.head _))
  have q33 : w7.cell? ⟨g15, 0, none⟩ = some (.int .i64 (1 + 2 * (s : Int))) := kg15.cell 0
  have q34 : w7.cell? ⟨g15, 1, none⟩ = some (.int .i64 (n : Int)) := kg15.cell 1
  have q35 : w7.cell? ⟨g15, 2, none⟩ = some (.int .i64 (sz : Int)) := kg15.cell 2
  have q36 : w7.cell? ⟨g15, 3, none⟩ = some (.int .i64 re) := kg15.cell 3
  have q37 : w7.cell? ⟨g15, 4, none⟩ = some (.int .i64 wk) := kg15.cell 4
  have q38 : w7.cell? ⟨g15, 5, none⟩ = some (.int .i64 ke) := kg15.cell 5
  have q39 : w7.cell? ⟨g15, 6, none⟩ = some (.int .i64 va) := kg15.cell 6
  have q40 : w7.cell? ⟨g15, 7, none⟩ = some (.int .i64 po) := kg15.cell 7
  clear kg15
  go_wp2_with fail
  refine (lt_write H7.out (AllCells.cons (cellOb_blk _ _ _) (AllCells.cons (cellOb_blk _ _ _) (AllCells.cons (cellOb_blk _ _ _) (AllCells.cons (cellOb_blk _ _ _) AllCells.nil)))) hx2.out (1 + 2 * (s : Int)) (n : Int) (sz : Int) re wk ke va po 0 HWB.out HK.out.w1).mono ?_
  rintro e w8 ⟨rfl, L8, hs⟩
  have H8 := Lib.hid hs
  clear hs
  clear q33 q34 q35 q36 q37 q38 q39 q40
  have kg14 : Blk w8 g14 30 #[.int .i64 (2 + 2 * (f : Int)), .int .i64 (n : Int), .int .i64 (sz : Int), .int .i64 re, .int .i64 wk, .int .i64 ke, .int .i64 va, .int .i64 po] := H8.out.get (.tail _ (.tail _ (.head _)))
  have q41 : w8.cell? ⟨g14, 0, none⟩ = some (.int .i64 (2 + 2 * (f : Int))) := kg14.cell 0
  have q42 : w8.cell? ⟨g14, 1, none⟩ = some (.int .i64 (n : Int)) := kg14.cell 1
  have q43 : w8.cell? ⟨g14, 2, none⟩ = some (.int .i64 (sz : Int)) := kg14.cell 2
  have q44 : w8.cell? ⟨g14, 3, none⟩ = some (.int .i64 re) := kg14.cell 3
  have q45 : w8.cell? ⟨g14, 4, none⟩ = some (.int .i64 wk) := kg14.cell 4
  have q46 : w8.cell? ⟨g14, 5, none⟩ = some (.int .i64 ke) := kg14.cell 5
  have q47 : w8.cell? ⟨g14, 6, none⟩ = some (.int .i64 va) := kg14.cell 6
  have q48 : w8.cell? ⟨g14, 7, none⟩ = some (.int .i64 po) := kg14.cell 7
  clear kg14
  go_upto_region 9 with fail
  obtain ⟨g16, hg16⟩ : ∃ g16, g16 = w8.heap.size := ⟨_, rfl⟩
  obtain ⟨W9, hW9⟩ : ∃ W9 : World, W9 = w8.alloc (.cells #[.int .i64 (2 + 2 * (f : Int)), .int .i64 (n : Int), .int .i64 (sz : Int), .int .i64 re, .int .i64 wk, .int .i64 ke, .int .i64 va, .int .i64 po] 30) := ⟨_, rfl⟩
  have H9 : Hid (Sep w.heap.size w W9 (devOb v L8 X2 :: [blkOb g16 30 #[.int .i64 (2 + 2 * (f : Int)), .int .i64 (n : Int), .int .i64 (sz : Int), .int .i64 re, .int .i64 wk, .int .i64 ke, .int .i64 va, .int .i64 po], blkOb g15 30 #[.int .i64 (1 + 2 * (s : Int)), .int .i64 (n : Int), .int .i64 (sz : Int), .int .i64 re, .int .i64 wk, .int .i64 ke, .int .i64 va, .int .i64 po], blkOb g14 30 #[.int .i64 (2 + 2 * (f : Int)), .int .i64 (n : Int), .int .i64 (sz : Int), .int .i64 re, .int .i64 wk, .int .i64 ke, .int .i64 va, .int .i64 po], blkOb g11 26 #[.int .i64 (n : Int), .int .i64 (sz : Int), .int .i64 re, .int .i64 wk, .int .i64 ke, .int .i64 va, .int .i64 po], blkOb g5 22 #[.int .u8 (n8 (b 0)), .int .u8 (n8 (b 1)), .int .u8 (n8 (b 2)), .int .u8 (n8 (b 3)), .int .u8 (n8 (b 4)), .int .u8 (n8 (b 5)), .int .u8 (n8 (b 6))]])) := by
    show Sep _ _ _ _
    rw [hW9]
    exact (H8.out.newBlk g16 30 #[.int .i64 (2 + 2 * (f : Int)), .int .i64 (n : Int), .int .i64 (sz : Int), .int .i64 re, .int .i64 wk, .int .i64 ke, .int .i64 va, .int .i64 po] hg16).perm (.swap _ _ _)
  go_upto_region 10 with fail
  rw [← hg16, ← hW9]
  clear hg16 hW9
  clear q41 q42 q43 q44 q45 q46 q47 q48
  have kg14 : Blk W9 g14 30 #[.int .i64 (2 + 2 * (f : Int)), .int .i64 (n : Int), .int .i64 (sz : Int), .int .i64 re, .int .i64 wk, .int .i64 ke, .int .i64 va, .int .i64 po] := H9.out.get (.tail _ (.tail _ (.tail _ (.head _))))
  have q49 : W9.cell? ⟨g14, 0, none⟩ = some (.int .i64 (2 + 2 * (f : Int))) := kg14.cell 0
  clear kg14
  have kg15 : Blk W9 g15 30 #[.int .i64 (1 + 2 * (s : Int)), .int .i64 (n : Int), .int .i64 (sz : Int), .int .i64 re, .int .i64 wk, .int .i64 ke, .int .i64 va, .int .i64 po] := H9.out.get (.tail _ (.tail _ (.head _)))
  have q50 : W9.cell? ⟨g15, 0, none⟩ = some (.int .i64 (1 + 2 * (s : Int))) := kg15.cell 0
  have q51 : W9.cell? ⟨g15, 1, none⟩ = some (.int .i64 (n : Int)) := kg15.cell 1
  have q52 : W9.cell? ⟨g15, 2, none⟩ = some (.int .i64 (sz : Int)) := kg15.cell 2
  have q53 : W9.cell? ⟨g15, 3, none⟩ = some (.int .i64 re) := kg15.cell 3
  have q54 : W9.cell? ⟨g15, 4, none⟩ = some (.int .i64 wk) := kg15.cell 4
  have q55 : W9.cell? ⟨g15, 5, none⟩ = some (.int .i64 ke) := kg15.cell 5
  have q56 : W9.cell? ⟨g15, 6, none⟩ = some (.int .i64 va) := kg15.cell 6
  have q57 : W9.cell? ⟨g15, 7, none⟩ = some (.int .i64 po) := kg15.cell 7
  clear kg15
  have hgt : decide ((2 + 2 * (f : Int)) < (1 + 2 * (s : Int))) = true := decide_eq_true hlt
  have hzp : Sep w.heap.size w W9 (blkOb g16 30 #[.int .i64 (2 + 2 * (f : Int)), .int .i64 (n : Int), .int .i64 (sz : Int), .int .i64 re, .int .i64 wk, .int .i64 ke, .int .i64 va, .int .i64 po] :: [devOb v L8 X2, blkOb g15 30 #[.int .i64 (1 + 2 * (s : Int)), .int .i64 (n : Int), .int .i64 (sz : Int), .int .i64 re, .int .i64 wk, .int .i64 ke, .int .i64 va, .int .i64 po], blkOb g14 30 #[.int .i64 (2 + 2 * (f : Int)), .int .i64 (n : Int), .int .i64 (sz : Int), .int .i64 re, .int .i64 wk, .int .i64 ke, .int .i64 va, .int .i64 po], blkOb g11 26 #[.int .i64 (n : Int), .int .i64 (sz : Int), .int .i64 re, .int .i64 wk, .int .i64 ke, .int .i64 va, .int .i64 po], blkOb g5 22 #[.int .u8 (n8 (b 0)), .int .u8 (n8 (b 1)), .int .u8 (n8 (b 2)), .int .u8 (n8 (b 3)), .int .u8 (n8 (b 4)), .int .u8 (n8 (b 5)), .int .u8 (n8 (b 6))]]) := H9.out.perm (List.perm_middle (l₁ := [_]))
  have HZP := Lib.hid hzp
  clear hzp
  go_upto_region 12 with (refine wpList_store_row rfl 30 _ _ rfl g16 (bkv ⟨(1 + 2 * (s : Int)), ⟨(n : Int), (sz : Int), re, wk, ke, va, po⟩⟩) rfl rfl 30 #[.int .i64 (2 + 2 * (f : Int)), .int .i64 (n : Int), .int .i64 (sz : Int), .int .i64 re, .int .i64 wk, .int .i64 ke, .int .i64 va, .int .i64 po] (show Blk _ g16 30 #[.int .i64 (2 + 2 * (f : Int)), .int .i64 (n : Int), .int .i64 (sz : Int), .int .i64 re, .int .i64 wk, .int .i64 ke, .int .i64 va, .int .i64 po] from HZP.out.get (.head _)) bk_size rfl (bkv_one _) ?_)
  obtain ⟨W10, hW10⟩ : ∃ W10 : World, W10 = W9.setRow g16 (bkv ⟨(1 + 2 * (s : Int)), ⟨(n : Int), (sz : Int), re, wk, ke, va, po⟩⟩) := ⟨_, rfl⟩
  have H10 : Hid (Sep w.heap.size w W10 (devOb v L8 X2 :: [blkOb g16 30 #[.int .i64 (1 + 2 * (s : Int)), .int .i64 (n : Int), .int .i64 (sz : Int), .int .i64 re, .int .i64 wk, .int .i64 ke, .int .i64 va, .int .i64 po], blkOb g15 30 #[.int .i64 (1 + 2 * (s : Int)), .int .i64 (n : Int), .int .i64 (sz : Int), .int .i64 re, .int .i64 wk, .int .i64 ke, .int .i64 va, .int .i64 po], blkOb g14 30 #[.int .i64 (2 + 2 * (f : Int)), .int .i64 (n : Int), .int .i64 (sz : Int), .int .i64 re, .int .i64 wk, .int .i64 ke, .int .i64 va, .int .i64 po], blkOb g11 26 #[.int .i64 (n : Int), .int .i64 (sz : Int), .int .i64 re, .int .i64 wk, .int .i64 ke, .int .i64 va, .int .i64 po], blkOb g5 22 #[.int .u8 (n8 (b 0)), .int .u8 (n8 (b 1)), .int .u8 (n8 (b 2)), .int .u8 (n8 (b 3)), .int .u8 (n8 (b 4)), .int .u8 (n8 (b 5)), .int .u8 (n8 (b 6))]])) := by
    show Sep _ _ _ _
    rw [hW10]
    exact (HZP.out.setRowBlk (bkv ⟨(1 + 2 * (s : Int)), ⟨(n : Int), (sz : Int), re, wk, ke, va, po⟩⟩)).perm (.swap _ _ _)
  rw [← hW10]
  clear hW10 HZP
  clear q49 q50 q51 q52 q53 q54 q55 q56 q57
  go_wp2_with fail
  refine (lt_read H10.out 0 1 (1 + 2 * (s : Int)) (n : Int) (sz : Int) re wk ke va po HR2.out).mono ?_
  rintro e w12 ⟨rfl, hs⟩
  have H12 := Lib.hid hs
  clear hs
  obtain ⟨g18, hg18⟩ : ∃ g18, g18 = w12.heap.size := ⟨_, rfl⟩
  obtain ⟨W12, hW12⟩ : ∃ W12 : World, W12 = w12.alloc (.cells #[.int .i64 (1 + 2 * (s : Int)), .int .i64 (n : Int), .int .i64 (sz : Int), .int .i64 re, .int .i64 wk, .int .i64 ke, .int .i64 va, .int .i64 po] 30) := ⟨_, rfl⟩
  have H12b : Hid (Sep w.heap.size w W12 (devOb v L8 X2 :: [blkOb g18 30 #[.int .i64 (1 + 2 * (s : Int)), .int .i64 (n : Int), .int .i64 (sz : Int), .int .i64 re, .int .i64 wk, .int .i64 ke, .int .i64 va, .int .i64 po], blkOb g16 30 #[.int .i64 (1 + 2 * (s : Int)), .int .i64 (n : Int), .int .i64 (sz : Int), .int .i64 re, .int .i64 wk, .int .i64 ke, .int .i64 va, .int .i64 po], blkOb g15 30 #[.int .i64 (1 + 2 * (s : Int)), .int .i64 (n : Int), .int .i64 (sz : Int), .int .i64 re, .int .i64 wk, .int .i64 ke, .int .i64 va, .int .i64 po], blkOb g14 30 #[.int .i64 (2 + 2 * (f : Int)), .int .i64 (n : Int), .int .i64 (sz : Int), .int .i64 re, .int .i64 wk, .int .i64 ke, .int .i64 va, .int .i64 po], blkOb g11 26 #[.int .i64 (n : Int), .int .i64 (sz : Int), .int .i64 re, .int .i64 wk, .int .i64 ke, .int .i64 va, .int .i64 po], blkOb g5 22 #[.int .u8 (n8 (b 0)), .int .u8 (n8 (b 1)), .int .u8 (n8 (b 2)), .int .u8 (n8 (b 3)), .int .u8 (n8 (b 4)), .int .u8 (n8 (b 5)), .int .u8 (n8 (b 6))]])) := by
    show Sep _ _ _ _
    rw [hW12]
    exact (H12.out.newBlk g18 30 #[.int .i64 (1 + 2 * (s : Int)), .int .i64 (n : Int), .int .i64 (sz : Int), .int .i64 re, .int .i64 wk, .int .i64 ke, .int .i64 va, .int .i64 po] hg18).perm (.swap _ _ _)
  go_upto_region 13 with fail
  rw [← hg18, ← hW12]
  clear hg18 hW12
  have kg18 : Blk W12 g18 30 #[.int .i64 (1 + 2 * (s : Int)), .int .i64 (n : Int), .int .i64 (sz : Int), .int .i64 re, .int .i64 wk, .int .i64 ke, .int .i64 va, .int .i64 po] := H12b.out.get (.tail _ (.head _))
  have q58 : W12.cell? ⟨g18, 0, none⟩ = some (.int .i64 (1 + 2 * (s : Int))) := kg18.cell 0
  have q59 : W12.cell? ⟨g18, 1, none⟩ = some (.int .i64 (n : Int)) := kg18.cell 1
  have q60 : W12.cell? ⟨g18, 2, none⟩ = some (.int .i64 (sz : Int)) := kg18.cell 2
  have q61 : W12.cell? ⟨g18, 3, none⟩ = some (.int .i64 re) := kg18.cell 3
  have q62 : W12.cell? ⟨g18, 4, none⟩ = some (.int .i64 wk) := kg18.cell 4
  have q63 : W12.cell? ⟨g18, 5, none⟩ = some (.int .i64 ke) := kg18.cell 5
  have q64 : W12.cell? ⟨g18, 6, none⟩ = some (.int .i64 va) := kg18.cell 6
  have q65 : W12.cell? ⟨g18, 7, none⟩ = some (.int .i64 po) := kg18.cell 7
  clear kg18
  have kg16 : Blk W12 g16 30 #[.int .i64 (1 + 2 * (s : Int)), .int .i64 (n : Int), .int .i64 (sz : Int), .int .i64 re, .int .i64 wk, .int .i64 ke, .int .i64 va, .int .i64 po] := H12b.out.get (.tail _ (.tail _ (.head _)))
  have q66 : W12.cell? ⟨g16, 0, none⟩ = some (.int .i64 (1 + 2 * (s : Int))) := kg16.cell 0
  have q67 : W12.cell? ⟨g16, 1, none⟩ = some (.int .i64 (n : Int)) := kg16.cell 1
  have q68 : W12.cell? ⟨g16, 2, none⟩ = some (.int .i64 (sz : Int)) := kg16.cell 2
  have q69 : W12.cell? ⟨g16, 3, none⟩ = some (.int .i64 re) := kg16.cell 3
  have q70 : W12.cell? ⟨g16, 4, none⟩ = some (.int .i64 wk) := kg16.cell 4
  have q71 : W12.cell? ⟨g16, 5, none⟩ = some (.int .i64 ke) := kg16.cell 5
  have q72 : W12.cell? ⟨g16, 6, none⟩ = some (.int .i64 va) := kg16.cell 6
  have q73 : W12.cell? ⟨g16, 7, none⟩ = some (.int .i64 po) := kg16.cell 7
  clear kg16
  have kg11 : Blk W12 g11 26 #[.int .i64 (n : Int), .int .i64 (sz : Int), .int .i64 re, .int .i64 wk, .int .i64 ke, .int .i64 va, .int .i64 po] := H12b.out.get (.tail _ (.tail _ (.tail _ (.tail _ (.tail _ (.head _))))))
  have q74 : W12.cell? ⟨g11, 0, none⟩ = some (.int .i64 (n : Int)) := kg11.cell 0
  clear kg11
  have CR := Lib.hid (lt_raw1 H12b.out n 64 (n : Int) rfl HC2.out (encOf (evB ⟨(n : Int), (sz : Int), re, wk, ke, va, po⟩ f)) HY2.out HZ2.out (by omega))
  go_wp2_with fail
  refine CR.out.mono ?_
  rintro e w15 ⟨g21, c21, cs, rfl, hc1, hc2, hcs, htk, hs⟩
  have H15 : Hid (Sep w.heap.size w w15 (devOb v L8 X2 :: blkOb g21 5 cs :: [blkOb g18 30 #[.int .i64 (1 + 2 * (s : Int)), .int .i64 (n : Int), .int .i64 (sz : Int), .int .i64 re, .int .i64 wk, .int .i64 ke, .int .i64 va, .int .i64 po], blkOb g16 30 #[.int .i64 (1 + 2 * (s : Int)), .int .i64 (n : Int), .int .i64 (sz : Int), .int .i64 re, .int .i64 wk, .int .i64 ke, .int .i64 va, .int .i64 po], blkOb g15 30 #[.int .i64 (1 + 2 * (s : Int)), .int .i64 (n : Int), .int .i64 (sz : Int), .int .i64 re, .int .i64 wk, .int .i64 ke, .int .i64 va, .int .i64 po], blkOb g14 30 #[.int .i64 (2 + 2 * (f : Int)), .int .i64 (n : Int), .int .i64 (sz : Int), .int .i64 re, .int .i64 wk, .int .i64 ke, .int .i64 va, .int .i64 po], blkOb g11 26 #[.int .i64 (n : Int), .int .i64 (sz : Int), .int .i64 re, .int .i64 wk, .int .i64 ke, .int .i64 va, .int .i64 po], blkOb g5 22 #[.int .u8 (n8 (b 0)), .int .u8 (n8 (b 1)), .int .u8 (n8 (b 2)), .int .u8 (n8 (b 3)), .int .u8 (n8 (b 4)), .int .u8 (n8 (b 5)), .int .u8 (n8 (b 6))]])) := hs.perm (.swap _ _ _)
  have HCS := Lib.hid (And.intro hcs htk)
  have HCC := Lib.hid (And.intro hc1 hc2)
  have hc3 : (64 : Int) ≤ (c21 : Int) := by omega
  clear hs CR hcs htk hc1
  clear q58 q59 q60 q61 q62 q63 q64 q65 q66 q67 q68 q69 q70 q71 q72 q73 q74
  have hgq : (encOf (evB ⟨(n : Int), (sz : Int), re, wk, ke, va, po⟩ f)).getD q 0#8 = (encOf (evB ⟨(n : Int), (sz : Int), re, wk, ke, va, po⟩ f))[q]'(by rw [HEL.out]; exact HB4.out.2.2.2.2.2.1) := by
    rw [List.getD_eq_getElem?_getD, List.getElem?_eq_getElem (by rw [HEL.out]; exact HB4.out.2.2.2.2.2.1)]; rfl
  have HGQ := Lib.hid hgq
  obtain ⟨u, hu⟩ : ∃ u, (encOf (evB ⟨(n : Int), (sz : Int), re, wk, ke, va, po⟩ f)).getD q 0#8 = u := ⟨_, rfl⟩
  have kg : Blk w15 g21 5 cs := H15.out.get (.tail _ (.head _))
  have hcell : w15.cell? ⟨g21, q, none⟩ = some (.int .u8 (n8 u)) := by
    rw [kg.cell]
    have h1 : cs.toList[q]? = (cs.toList.take 64)[q]? := by rw [List.getElem?_take, if_pos HB4.out.2.2.2.2.2.1]
    rw [HCS.out.2, u8s_get (by rw [HEL.out]; exact HB4.out.2.2.2.2.2.1), ← hgq, hu] at h1
    simpa using h1
  have hfr := kg.frozen q
  have hxo := mask_xor u k HB4.out.2.2.2.2.1
  have HT2 : Hid ((cs.setIfInBounds q (.int .u8 (n8 (u ^^^ mask8 k)))).toList.take 64 = u8s ((encOf (evB ⟨(n : Int), (sz : Int), re, wk, ke, va, po⟩ f)).set q ((encOf (evB ⟨(n : Int), (sz : Int), re, wk, ke, va, po⟩ f)).getD q 0#8 ^^^ mask8 k))) := by
    show _ = _
    rw [u8s_set, ← HCS.out.2, Array.toList_setIfInBounds, List.take_set, hu]
  have hqc : q < 64 := HB4.out.2.2.2.2.2.1
  clear kg hgq hu
  go_upto_region 19 with fail
  obtain ⟨W18, hW18⟩ : ∃ W18 : World, W18 = w15.setCell ⟨g21, q, none⟩ (.int .u8 (n8 (u ^^^ mask8 k))) := ⟨_, rfl⟩
  obtain ⟨cs2, hcs2⟩ : ∃ cs2, cs2 = cs.setIfInBounds q (.int .u8 (n8 (u ^^^ mask8 k))) := ⟨_, rfl⟩
  rw [← hcs2] at HT2
  have hcs3 : Sep w.heap.size w W18 (blkOb g21 5 cs2 :: devOb v L8 X2 :: [blkOb g18 30 #[.int .i64 (1 + 2 * (s : Int)), .int .i64 (n : Int), .int .i64 (sz : Int), .int .i64 re, .int .i64 wk, .int .i64 ke, .int .i64 va, .int .i64 po], blkOb g16 30 #[.int .i64 (1 + 2 * (s : Int)), .int .i64 (n : Int), .int .i64 (sz : Int), .int .i64 re, .int .i64 wk, .int .i64 ke, .int .i64 va, .int .i64 po], blkOb g15 30 #[.int .i64 (1 + 2 * (s : Int)), .int .i64 (n : Int), .int .i64 (sz : Int), .int .i64 re, .int .i64 wk, .int .i64 ke, .int .i64 va, .int .i64 po], blkOb g14 30 #[.int .i64 (2 + 2 * (f : Int)), .int .i64 (n : Int), .int .i64 (sz : Int), .int .i64 re, .int .i64 wk, .int .i64 ke, .int .i64 va, .int .i64 po], blkOb g11 26 #[.int .i64 (n : Int), .int .i64 (sz : Int), .int .i64 re, .int .i64 wk, .int .i64 ke, .int .i64 va, .int .i64 po], blkOb g5 22 #[.int .u8 (n8 (b 0)), .int .u8 (n8 (b 1)), .int .u8 (n8 (b 2)), .int .u8 (n8 (b 3)), .int .u8 (n8 (b 4)), .int .u8 (n8 (b 5)), .int .u8 (n8 (b 6))]]) := by
    rw [hW18, hcs2]
    exact (H15.out.perm (.swap _ _ _)).setBlk q _
  have H18 : Hid (Sep w.heap.size w W18 (devOb v L8 X2 :: [blkOb g21 5 cs2, blkOb g18 30 #[.int .i64 (1 + 2 * (s : Int)), .int .i64 (n : Int), .int .i64 (sz : Int), .int .i64 re, .int .i64 wk, .int .i64 ke, .int .i64 va, .int .i64 po], blkOb g16 30 #[.int .i64 (1 + 2 * (s : Int)), .int .i64 (n : Int), .int .i64 (sz : Int), .int .i64 re, .int .i64 wk, .int .i64 ke, .int .i64 va, .int .i64 po], blkOb g15 30 #[.int .i64 (1 + 2 * (s : Int)), .int .i64 (n : Int), .int .i64 (sz : Int), .int .i64 re, .int .i64 wk, .int .i64 ke, .int .i64 va, .int .i64 po], blkOb g14 30 #[.int .i64 (2 + 2 * (f : Int)), .int .i64 (n : Int), .int .i64 (sz : Int), .int .i64 re, .int .i64 wk, .int .i64 ke, .int .i64 va, .int .i64 po], blkOb g11 26 #[.int .i64 (n : Int), .int .i64 (sz : Int), .int .i64 re, .int .i64 wk, .int .i64 ke, .int .i64 va, .int .i64 po], blkOb g5 22 #[.int .u8 (n8 (b 0)), .int .u8 (n8 (b 1)), .int .u8 (n8 (b 2)), .int .u8 (n8 (b 3)), .int .u8 (n8 (b 4)), .int .u8 (n8 (b 5)), .int .u8 (n8 (b 6))]])) := hcs3.perm (.swap _ _ _)
  rw [← hW18]
  clear hW18 hcell hfr hxo hcs2 hcs3 hqc
  have kg11 : Blk W18 g11 26 #[.int .i64 (n : Int), .int .i64 (sz : Int), .int .i64 re, .int .i64 wk, .int .i64 ke, .int .i64 va, .int .i64 po] := H18.out.get (.tail _ (.tail _ (.tail _ (.tail _ (.tail _ (.tail _ (.head _)))))))
  have q75 : W18.cell? ⟨g11, 0, none⟩ = some (.int .i64 (n : Int)) := kg11.cell 0
  clear kg11
  go_wp2_with fail
  refine (lt_erase H18.out (AllCells.cons (cellOb_blk _ _ _) (AllCells.cons (cellOb_blk _ _ _) (AllCells.cons (cellOb_blk _ _ _) (AllCells.cons (cellOb_blk _ _ _) (AllCells.cons (cellOb_blk _ _ _) (AllCells.cons (cellOb_blk _ _ _) (AllCells.cons (cellOb_blk _ _ _) AllCells.nil))))))) hx3.out (n : Int) 0 HK.out.e2 rfl).mono ?_
  rintro e w19 ⟨rfl, L19, hs⟩
  have H19 := Lib.hid hs
  clear hs
  clear q75
  have kg11 : Blk w19 g11 26 #[.int .i64 (n : Int), .int .i64 (sz : Int), .int .i64 re, .int .i64 wk, .int .i64 ke, .int .i64 va, .int .i64 po] := H19.out.get (.tail _ (.tail _ (.tail _ (.tail _ (.tail _ (.tail _ (.head _)))))))
  have q76 : w19.cell? ⟨g11, 0, none⟩ = some (.int .i64 (n : Int)) := kg11.cell 0
  clear kg11
  have CAP := Lib.hid (lt_app (vb := .slice (some ⟨g21, 0, none⟩) 64 c21) (l := ((encOf (evB ⟨(n : Int), (sz : Int), re, wk, ke, va, po⟩ f)).set q ((encOf (evB ⟨(n : Int), (sz : Int), re, wk, ke, va, po⟩ f)).getD q 0#8 ^^^ mask8 k))) H19.out (AllCells.cons (cellOb_blk _ _ _) (AllCells.cons (cellOb_blk _ _ _) (AllCells.cons (cellOb_blk _ _ _) (AllCells.cons (cellOb_blk _ _ _) (AllCells.cons (cellOb_blk _ _ _) (AllCells.cons (cellOb_blk _ _ _) (AllCells.cons (cellOb_blk _ _ _) AllCells.nil))))))) hx6.out (n : Int) 0 (fun W hW => blk_holds (hW.2 _ (.head _)) (by rw [List.length_set]; exact HEL.out) HCC.out.1 HCC.out.2 HT2.out) HK.out.a2 HK.out.x4)
  go_wp2_with fail
  refine CAP.out.mono ?_
  rintro e w20 ⟨rfl, L20, hs⟩
  have H20 := Lib.hid hs
  clear hs CAP
  clear q76
  go_wp2_with fail
  refine (lt_read H20.out 0 1 (1 + 2 * (s : Int)) (n : Int) (sz : Int) re wk ke va po HR4.out).mono ?_
  rintro e w21 ⟨rfl, hs⟩
  have H21 := Lib.hid hs
  clear hs
  obtain ⟨g22, hg22⟩ : ∃ g22, g22 = w21.heap.size := ⟨_, rfl⟩
  obtain ⟨W21, hW21⟩ : ∃ W21 : World, W21 = w21.alloc (.cells #[.int .i64 (1 + 2 * (s : Int)), .int .i64 (n : Int), .int .i64 (sz : Int), .int .i64 re, .int .i64 wk, .int .i64 ke, .int .i64 va, .int .i64 po] 30) := ⟨_, rfl⟩
  have H21b : Hid (Sep w.heap.size w W21 (devOb v L20 X4 :: [blkOb g22 30 #[.int .i64 (1 + 2 * (s : Int)), .int .i64 (n : Int), .int .i64 (sz : Int), .int .i64 re, .int .i64 wk, .int .i64 ke, .int .i64 va, .int .i64 po], blkOb g21 5 cs2, blkOb g18 30 #[.int .i64 (1 + 2 * (s : Int)), .int .i64 (n : Int), .int .i64 (sz : Int), .int .i64 re, .int .i64 wk, .int .i64 ke, .int .i64 va, .int .i64 po], blkOb g16 30 #[.int .i64 (1 + 2 * (s : Int)), .int .i64 (n : Int), .int .i64 (sz : Int), .int .i64 re, .int .i64 wk, .int .i64 ke, .int .i64 va, .int .i64 po], blkOb g15 30 #[.int .i64 (1 + 2 * (s : Int)), .int .i64 (n : Int), .int .i64 (sz : Int), .int .i64 re, .int .i64 wk, .int .i64 ke, .int .i64 va, .int .i64 po], blkOb g14 30 #[.int .i64 (2 + 2 * (f : Int)), .int .i64 (n : Int), .int .i64 (sz : Int), .int .i64 re, .int .i64 wk, .int .i64 ke, .int .i64 va, .int .i64 po], blkOb g11 26 #[.int .i64 (n : Int), .int .i64 (sz : Int), .int .i64 re, .int .i64 wk, .int .i64 ke, .int .i64 va, .int .i64 po], blkOb g5 22 #[.int .u8 (n8 (b 0)), .int .u8 (n8 (b 1)), .int .u8 (n8 (b 2)), .int .u8 (n8 (b 3)), .int .u8 (n8 (b 4)), .int .u8 (n8 (b 5)), .int .u8 (n8 (b 6))]])) := by
    show Sep _ _ _ _
    rw [hW21]
    exact (H21.out.newBlk g22 30 #[.int .i64 (1 + 2 * (s : Int)), .int .i64 (n : Int), .int .i64 (sz : Int), .int .i64 re, .int .i64 wk, .int .i64 ke, .int .i64 va, .int .i64 po] hg22).perm (.swap _ _ _)
  go_upto_region 22 with fail
  rw [← hg22, ← hW21]
  clear hg22 hW21
  have kg22 : Blk W21 g22 30 #[.int .i64 (1 + 2 * (s : Int)), .int .i64 (n : Int), .int .i64 (sz : Int), .int .i64 re, .int .i64 wk, .int .i64 ke, .int .i64 va, .int .i64 po] := H21b.out.get (.tail _ (.head _))
  have q77 : W21.cell? ⟨g22, 0, none⟩ = some (.int .i64 (1 + 2 * (s : Int))) := kg22.cell 0
  have q78 : W21.cell? ⟨g22, 1, none⟩ = some (.int .i64 (n : Int)) := kg22.cell 1
  have q79 : W21.cell? ⟨g22, 2, none⟩ = some (.int .i64 (sz : Int)) := kg22.cell 2
  have q80 : W21.cell? ⟨g22, 3, none⟩ = some (.int .i64 re) := kg22.cell 3
  have q81 : W21.cell? ⟨g22, 4, none⟩ = some (.int .i64 wk) := kg22.cell 4
  have q82 : W21.cell? ⟨g22, 5, none⟩ = some (.int .i64 ke) := kg22.cell 5
  have q83 : W21.cell? ⟨g22, 6, none⟩ = some (.int .i64 va) := kg22.cell 6
  have q84 : W21.cell? ⟨g22, 7, none⟩ = some (.int .i64 po) := kg22.cell 7
  clear kg22
  have kg15 : Blk W21 g15 30 #[.int .i64 (1 + 2 * (s : Int)), .int .i64 (n : Int), .int .i64 (sz : Int), .int .i64 re, .int .i64 wk, .int .i64 ke, .int .i64 va, .int .i64 po] := H21b.out.get (.tail _ (.tail _ (.tail _ (.tail _ (.tail _ (.head _))))))
  have q85 : W21.cell? ⟨g15, 0, none⟩ = some (.int .i64 (1 + 2 * (s : Int))) := kg15.cell 0
  have q86 : W21.cell? ⟨g15, 1, none⟩ = some (.int .i64 (n : Int)) := kg15.cell 1
  have q87 : W21.cell? ⟨g15, 2, none⟩ = some (.int .i64 (sz : Int)) := kg15.cell 2
  have q88 : W21.cell? ⟨g15, 3, none⟩ = some (.int .i64 re) := kg15.cell 3
  have q89 : W21.cell? ⟨g15, 4, none⟩ = some (.int .i64 wk) := kg15.cell 4
  have q90 : W21.cell? ⟨g15, 5, none⟩ = some (.int .i64 ke) := kg15.cell 5
  have q91 : W21.cell? ⟨g15, 6, none⟩ = some (.int .i64 va) := kg15.cell 6
  have q92 : W21.cell? ⟨g15, 7, none⟩ = some (.int .i64 po) := kg15.cell 7
  clear kg15
  have kg11 : Blk W21 g11 26 #[.int .i64 (n : Int), .int .i64 (sz : Int), .int .i64 re, .int .i64 wk, .int .i64 ke, .int .i64 va, .int .i64 po] := H21b.out.get (.tail _ (.tail _ (.tail _ (.tail _ (.tail _ (.tail _ (.tail _ (.head _))))))))
  have q93 : W21.cell? ⟨g11, 0, none⟩ = some (.int .i64 (n : Int)) := kg11.cell 0
  clear kg11
  have CR := Lib.hid (lt_raw H21b.out (n + 1) ln ((n : Int) + 1) (by omega) HC4.out ((encOf (odB ⟨(n : Int), (sz : Int), re, wk, ke, va, po⟩ s)).take ln) HY4.out HZ4.out)
  go_wp2_with fail
  refine CR.out.mono ?_
  rintro e w24 ⟨A24, c24, rfl, hs⟩
  have H24 : Hid (Sep w.heap.size w w24 (devOb v L20 X4 :: rowOb 5 1 (.slice A24 ln c24) ln (u8s ((encOf (odB ⟨(n : Int), (sz : Int), re, wk, ke, va, po⟩ s)).take ln)) :: [blkOb g22 30 #[.int .i64 (1 + 2 * (s : Int)), .int .i64 (n : Int), .int .i64 (sz : Int), .int .i64 re, .int .i64 wk, .int .i64 ke, .int .i64 va, .int .i64 po], blkOb g21 5 cs2, blkOb g18 30 #[.int .i64 (1 + 2 * (s : Int)), .int .i64 (n : Int), .int .i64 (sz : Int), .int .i64 re, .int .i64 wk, .int .i64 ke, .int .i64 va, .int .i64 po], blkOb g16 30 #[.int .i64 (1 + 2 * (s : Int)), .int .i64 (n : Int), .int .i64 (sz : Int), .int .i64 re, .int .i64 wk, .int .i64 ke, .int .i64 va, .int .i64 po], blkOb g15 30 #[.int .i64 (1 + 2 * (s : Int)), .int .i64 (n : Int), .int .i64 (sz : Int), .int .i64 re, .int .i64 wk, .int .i64 ke, .int .i64 va, .int .i64 po], blkOb g14 30 #[.int .i64 (2 + 2 * (f : Int)), .int .i64 (n : Int), .int .i64 (sz : Int), .int .i64 re, .int .i64 wk, .int .i64 ke, .int .i64 va, .int .i64 po], blkOb g11 26 #[.int .i64 (n : Int), .int .i64 (sz : Int), .int .i64 re, .int .i64 wk, .int .i64 ke, .int .i64 va, .int .i64 po], blkOb g5 22 #[.int .u8 (n8 (b 0)), .int .u8 (n8 (b 1)), .int .u8 (n8 (b 2)), .int .u8 (n8 (b 3)), .int .u8 (n8 (b 4)), .int .u8 (n8 (b 5)), .int .u8 (n8 (b 6))]])) := hs.perm (.swap _ _ _)
  clear hs CR
  clear q77 q78 q79 q80 q81 q82 q83 q84 q85 q86 q87 q88 q89 q90 q91 q92 q93
  have kg11 : Blk w24 g11 26 #[.int .i64 (n : Int), .int .i64 (sz : Int), .int .i64 re, .int .i64 wk, .int .i64 ke, .int .i64 va, .int .i64 po] := H24.out.get (.tail _ (.tail _ (.tail _ (.tail _ (.tail _ (.tail _ (.tail _ (.tail _ (.head _)))))))))
  have q94 : w24.cell? ⟨g11, 0, none⟩ = some (.int .i64 (n : Int)) := kg11.cell 0
  clear kg11
  go_wp2_with fail
  refine (lt_erase H24.out (AllCells.cons (cellOb_row _ _ _ _ _) (AllCells.cons (cellOb_blk _ _ _) (AllCells.cons (cellOb_blk _ _ _) (AllCells.cons (cellOb_blk _ _ _) (AllCells.cons (cellOb_blk _ _ _) (AllCells.cons (cellOb_blk _ _ _) (AllCells.cons (cellOb_blk _ _ _) (AllCells.cons (cellOb_blk _ _ _) (AllCells.cons (cellOb_blk _ _ _) AllCells.nil))))))))) hx4.out ((n : Int) + 1) 0 HK.out.e4 rfl).mono ?_
  rintro e w25 ⟨rfl, L25, hs⟩
  have H25 := Lib.hid hs
  clear hs
  clear q94
  have kg11 : Blk w25 g11 26 #[.int .i64 (n : Int), .int .i64 (sz : Int), .int .i64 re, .int .i64 wk, .int .i64 ke, .int .i64 va, .int .i64 po] := H25.out.get (.tail _ (.tail _ (.tail _ (.tail _ (.tail _ (.tail _ (.tail _ (.tail _ (.head _)))))))))
  have q95 : w25.cell? ⟨g11, 0, none⟩ = some (.int .i64 (n : Int)) := kg11.cell 0
  clear kg11
  have CAP := Lib.hid (lt_app (vb := .slice A24 ln c24) (l := ((encOf (odB ⟨(n : Int), (sz : Int), re, wk, ke, va, po⟩ s)).take ln)) H25.out (AllCells.cons (cellOb_row _ _ _ _ _) (AllCells.cons (cellOb_blk _ _ _) (AllCells.cons (cellOb_blk _ _ _) (AllCells.cons (cellOb_blk _ _ _) (AllCells.cons (cellOb_blk _ _ _) (AllCells.cons (cellOb_blk _ _ _) (AllCells.cons (cellOb_blk _ _ _) (AllCells.cons (cellOb_blk _ _ _) (AllCells.cons (cellOb_blk _ _ _) AllCells.nil))))))))) hx7.out ((n : Int) + 1) 0 (fun W hW => Holds.of_own (hW.2 _ (.head _))) HK.out.a4 HK.out.x6)
  go_wp2_with fail
  refine CAP.out.mono ?_
  rintro e w26 ⟨rfl, L26, hs⟩
  have H26 := Lib.hid hs
  clear hs CAP
  clear q95
  go_wp2_with fail
  refine (lt_ops H26.out).mono ?_
  rintro e w27 ⟨rfl, hs⟩
  have H27 := Lib.hid hs
  clear hs
  go_wp2_with fail
  refine (lt_read H27.out 5 0 0 0 0 0 0 0 0 0 HR6.out).mono ?_
  rintro e w28 ⟨rfl, hs⟩
  have H28 := Lib.hid hs
  clear hs
  obtain ⟨g26, hg26⟩ : ∃ g26, g26 = w28.heap.size := ⟨_, rfl⟩
  obtain ⟨W28, hW28⟩ : ∃ W28 : World, W28 = w28.alloc (.cells #[.int .i64 0, .int .i64 0, .int .i64 0, .int .i64 0, .int .i64 0, .int .i64 0, .int .i64 0, .int .i64 0] 30) := ⟨_, rfl⟩
  have H28b : Hid (Sep w.heap.size w W28 (devOb v L26 X6 :: [blkOb g26 30 #[.int .i64 0, .int .i64 0, .int .i64 0, .int .i64 0, .int .i64 0, .int .i64 0, .int .i64 0, .int .i64 0], rowOb 5 1 (.slice A24 ln c24) ln (u8s ((encOf (odB ⟨(n : Int), (sz : Int), re, wk, ke, va, po⟩ s)).take ln)), blkOb g22 30 #[.int .i64 (1 + 2 * (s : Int)), .int .i64 (n : Int), .int .i64 (sz : Int), .int .i64 re, .int .i64 wk, .int .i64 ke, .int .i64 va, .int .i64 po], blkOb g21 5 cs2, blkOb g18 30 #[.int .i64 (1 + 2 * (s : Int)), .int .i64 (n : Int), .int .i64 (sz : Int), .int .i64 re, .int .i64 wk, .int .i64 ke, .int .i64 va, .int .i64 po], blkOb g16 30 #[.int .i64 (1 + 2 * (s : Int)), .int .i64 (n : Int), .int .i64 (sz : Int), .int .i64 re, .int .i64 wk, .int .i64 ke, .int .i64 va, .int .i64 po], blkOb g15 30 #[.int .i64 (1 + 2 * (s : Int)), .int .i64 (n : Int), .int .i64 (sz : Int), .int .i64 re, .int .i64 wk, .int .i64 ke, .int .i64 va, .int .i64 po], blkOb g14 30 #[.int .i64 (2 + 2 * (f : Int)), .int .i64 (n : Int), .int .i64 (sz : Int), .int .i64 re, .int .i64 wk, .int .i64 ke, .int .i64 va, .int .i64 po], blkOb g11 26 #[.int .i64 (n : Int), .int .i64 (sz : Int), .int .i64 re, .int .i64 wk, .int .i64 ke, .int .i64 va, .int .i64 po], blkOb g5 22 #[.int .u8 (n8 (b 0)), .int .u8 (n8 (b 1)), .int .u8 (n8 (b 2)), .int .u8 (n8 (b 3)), .int .u8 (n8 (b 4)), .int .u8 (n8 (b 5)), .int .u8 (n8 (b 6))]])) := by
    show Sep _ _ _ _
    rw [hW28]
    exact (H28.out.newBlk g26 30 #[.int .i64 0, .int .i64 0, .int .i64 0, .int .i64 0, .int .i64 0, .int .i64 0, .int .i64 0, .int .i64 0] hg26).perm (.swap _ _ _)
  go_upto_region 29 with fail
  rw [← hg26, ← hW28]
  clear hg26 hW28
  go_wp2_with fail
  refine (lt_adv H28b.out (AllCells.cons (cellOb_blk _ _ _) (AllCells.cons (cellOb_row _ _ _ _ _) (AllCells.cons (cellOb_blk _ _ _) (AllCells.cons (cellOb_blk _ _ _) (AllCells.cons (cellOb_blk _ _ _) (AllCells.cons (cellOb_blk _ _ _) (AllCells.cons (cellOb_blk _ _ _) (AllCells.cons (cellOb_blk _ _ _) (AllCells.cons (cellOb_blk _ _ _) (AllCells.cons (cellOb_blk _ _ _) AllCells.nil)))))))))) hx5.out 1 5 0 0 0 0 0 0 0 0 HK.out.v6).mono ?_
  rintro e w29 ⟨rfl, L29, hs⟩
  have H29 := Lib.hid hs
  clear hs
  obtain ⟨g28, hg28⟩ : ∃ g28, g28 = w29.heap.size := ⟨_, rfl⟩
  obtain ⟨W29, hW29⟩ : ∃ W29 : World, W29 = w29.alloc (.cells #[.int .i64 0, .int .i64 0, .int .i64 0, .int .i64 0, .int .i64 0, .int .i64 0, .int .i64 0, .int .i64 0] 30) := ⟨_, rfl⟩
  have H29b : Hid (Sep w.heap.size w W29 (devOb v L29 X6 :: [blkOb g28 30 #[.int .i64 0, .int .i64 0, .int .i64 0, .int .i64 0, .int .i64 0, .int .i64 0, .int .i64 0, .int .i64 0], blkOb g26 30 #[.int .i64 0, .int .i64 0, .int .i64 0, .int .i64 0, .int .i64 0, .int .i64 0, .int .i64 0, .int .i64 0], rowOb 5 1 (.slice A24 ln c24) ln (u8s ((encOf (odB ⟨(n : Int), (sz : Int), re, wk, ke, va, po⟩ s)).take ln)), blkOb g22 30 #[.int .i64 (1 + 2 * (s : Int)), .int .i64 (n : Int), .int .i64 (sz : Int), .int .i64 re, .int .i64 wk, .int .i64 ke, .int .i64 va, .int .i64 po], blkOb g21 5 cs2, blkOb g18 30 #[.int .i64 (1 + 2 * (s : Int)), .int .i64 (n : Int), .int .i64 (sz : Int), .int .i64 re, .int .i64 wk, .int .i64 ke, .int .i64 va, .int .i64 po], blkOb g16 30 #[.int .i64 (1 + 2 * (s : Int)), .int .i64 (n : Int), .int .i64 (sz : Int), .int .i64 re, .int .i64 wk, .int .i64 ke, .int .i64 va, .int .i64 po], blkOb g15 30 #[.int .i64 (1 + 2 * (s : Int)), .int .i64 (n : Int), .int .i64 (sz : Int), .int .i64 re, .int .i64 wk, .int .i64 ke, .int .i64 va, .int .i64 po], blkOb g14 30 #[.int .i64 (2 + 2 * (f : Int)), .int .i64 (n : Int), .int .i64 (sz : Int), .int .i64 re, .int .i64 wk, .int .i64 ke, .int .i64 va, .int .i64 po], blkOb g11 26 #[.int .i64 (n : Int), .int .i64 (sz : Int), .int .i64 re, .int .i64 wk, .int .i64 ke, .int .i64 va, .int .i64 po], blkOb g5 22 #[.int .u8 (n8 (b 0)), .int .u8 (n8 (b 1)), .int .u8 (n8 (b 2)), .int .u8 (n8 (b 3)), .int .u8 (n8 (b 4)), .int .u8 (n8 (b 5)), .int .u8 (n8 (b 6))]])) := by
    show Sep _ _ _ _
    rw [hW29]
    exact (H29.out.newBlk g28 30 #[.int .i64 0, .int .i64 0, .int .i64 0, .int .i64 0, .int .i64 0, .int .i64 0, .int .i64 0, .int .i64 0] hg28).perm (.swap _ _ _)
  go_upto_region 30 with fail
  rw [← hg28, ← hW29]
  clear hg28 hW29
  have kg26 : Blk W29 g26 30 #[.int .i64 0, .int .i64 0, .int .i64 0, .int .i64 0, .int .i64 0, .int .i64 0, .int .i64 0, .int .i64 0] := H29b.out.get (.tail _ (.tail _ (.head _)))
  have q96 : W29.cell? ⟨g26, 0, none⟩ = some (.int .i64 0) := kg26.cell 0
  have q97 : W29.cell? ⟨g26, 1, none⟩ = some (.int .i64 0) := kg26.cell 1
  have q98 : W29.cell? ⟨g26, 2, none⟩ = some (.int .i64 0) := kg26.cell 2
  have q99 : W29.cell? ⟨g26, 3, none⟩ = some (.int .i64 0) := kg26.cell 3
  have q100 : W29.cell? ⟨g26, 4, none⟩ = some (.int .i64 0) := kg26.cell 4
  have q101 : W29.cell? ⟨g26, 5, none⟩ = some (.int .i64 0) := kg26.cell 5
  have q102 : W29.cell? ⟨g26, 6, none⟩ = some (.int .i64 0) := kg26.cell 6
  have q103 : W29.cell? ⟨g26, 7, none⟩ = some (.int .i64 0) := kg26.cell 7
  clear kg26
  go_wp2_with fail
  refine (lt_ops H29b.out).mono ?_
  rintro e w30 ⟨rfl, hs⟩
  have H30 := Lib.hid hs
  clear hs
  clear q96 q97 q98 q99 q100 q101 q102 q103
  go_wp2_with fail
  refine (works_any _).mono ?_
  rintro e w37 ⟨rfl, hb⟩
  have H37 := Lib.hid (H30.out.below hb)
  clear hb
  go_wp2_with fail
  go_ret
  exact ⟨rfl, H37.out.bel⟩
set_option maxRecDepth 100000 in
set_option maxHeartbeats 16000000 in
theorem DualcopyReads_k2 (b : Fin 7 → BitVec 8) (n sz : Nat) (re wk ke va po : Int) (hc : smallC b = ⟨(n : Int), (sz : Int), re, wk, ke, va, po⟩) (hn4 : 4 ≤ n) (hn9 : n ≤ 9) (hs1 : 34 ≤ sz) (hs2 : sz ≤ 400) (f s : Nat) (hf : f < 4294967296) (hs : s < 4294967296) (hlt : ¬ (2 + 2 * (f : Int)) < (1 + 2 * (s : Int)))
    (cb lb : BitVec 8) (q k ln : Nat) (hq : n8 cb % 64 = (q : Int)) (hq64 : q < 64) (hk : n8 cb / 64 = (k : Int)) (hk4 : k < 4) (hl : n8 lb % 64 = (ln : Int)) (hl64 : ln < 64) (w : World) :
    Calls Try.prog 6 #[.agg #[.int .u8 (n8 (b 0)), .int .u8 (n8 (b 1)), .int .u8 (n8 (b 2)), .int .u8 (n8 (b 3)), .int .u8 (n8 (b 4)), .int .u8 (n8 (b 5)), .int .u8 (n8 (b 6))], .int .u32 (f : Int), .int .u32 (s : Int), .int .u8 (n8 cb), .int .u8 (n8 lb)] w fun e w' => e = .returned (.bool true) ∧ Below w.heap.size w w' := by
  have hok := smallC_ok b
  have hwf := smallC_wf b
  rw [hc] at hok hwf
  have HSM : Hid (∀ W, Calls Try.prog 18 #[.agg #[.int .u8 (n8 (b 0)), .int .u8 (n8 (b 1)), .int .u8 (n8 (b 2)), .int .u8 (n8 (b 3)), .int .u8 (n8 (b 4)), .int .u8 (n8 (b 5)), .int .u8 (n8 (b 6))]] W fun e w' => e = .returned (.agg #[.int .i64 (n : Int), .int .i64 (sz : Int), .int .i64 re, .int .i64 wk, .int .i64 ke, .int .i64 va, .int .i64 po]) ∧ Below W.heap.size W w') := fun W => by
    have := small_any b W
    rw [hc] at this
    exact this
  have hel := encOf_length (evB ⟨(n : Int), (sz : Int), re, wk, ke, va, po⟩ f)
  have hel2 := encOf_length (odB ⟨(n : Int), (sz : Int), re, wk, ke, va, po⟩ s)
  obtain ⟨X1, X2, X4, X6, K⟩ := reads_plain n sz ⟨(n : Int), (sz : Int), re, wk, ke, va, po⟩ hok f s hf hs ((encOf (evB ⟨(n : Int), (sz : Int), re, wk, ke, va, po⟩ f)).set q ((encOf (evB ⟨(n : Int), (sz : Int), re, wk, ke, va, po⟩ f)).getD q 0#8 ^^^ mask8 k)) ((encOf (odB ⟨(n : Int), (sz : Int), re, wk, ke, va, po⟩ s)).take ln) (by rw [List.length_set]; exact hel) (mask_dec (evB_ok hok f hf) q hq64 k hk4) (by rw [List.length_take]; omega)
  have HK := Lib.hid K
  have hx1 : Hid ((newVD n sz).ops ≤ 100000) := by have := K.ops; show _ ≤ _; omega
  have hx2 : Hid (X1.ops ≤ 100000) := by have := K.ops; show _ ≤ _; omega
  have hx3 : Hid (X2.ops ≤ 100000) := by have := K.ops; show _ ≤ _; omega
  have hx4 : Hid (X4.ops ≤ 100000) := by have := K.ops; show _ ≤ _; omega
  have hx5 : Hid (X6.ops ≤ 100000) := by have := K.ops; show _ ≤ _; omega
  have hx6 : Hid ((EraseVX X2 (n : Int)).ops ≤ 100000) := by have := K.ops; have := erase_ops X2 (n : Int); show _ ≤ _; omega
  have hx7 : Hid ((EraseVX X4 ((n : Int) + 1)).ops ≤ 100000) := by have := K.ops; have := erase_ops X4 ((n : Int) + 1); show _ ≤ _; omega
  have hR2 : readX X2 = (0, 0, evB ⟨(n : Int), (sz : Int), re, wk, ke, va, po⟩ f) := by
    have := K.r2
    rw [if_neg (show ¬ (evB ⟨(n : Int), (sz : Int), re, wk, ke, va, po⟩ f).epoch < (odB ⟨(n : Int), (sz : Int), re, wk, ke, va, po⟩ s).epoch from hlt)] at this
    exact this
  have HR2 : Hid (((readX X2).1 = 0 ∧ ((readX X2).2.1 : Int) = 0) ∧ (readX X2).2.2 = ⟨(2 + 2 * (f : Int)), ⟨(n : Int), (sz : Int), re, wk, ke, va, po⟩⟩) := by show _ ∧ _; rw [hR2]; exact ⟨⟨rfl, rfl⟩, rfl⟩
  have HR4 : Hid (((readX X4).1 = 0 ∧ ((readX X4).2.1 : Int) = 1) ∧ (readX X4).2.2 = ⟨(1 + 2 * (s : Int)), ⟨(n : Int), (sz : Int), re, wk, ke, va, po⟩⟩) := by show _ ∧ _; rw [K.r4]; exact ⟨⟨rfl, rfl⟩, rfl⟩
  have HR6 : Hid (((readX X6).1 = 5 ∧ ((readX X6).2.1 : Int) = 0) ∧ (readX X6).2.2 = ⟨0, ⟨0, 0, 0, 0, 0, 0, 0⟩⟩) := by show _ ∧ _; rw [K.r6]; exact ⟨⟨rfl, rfl⟩, rfl⟩
  have hchk : ∀ (X : DevD) (j : Nat), X.n = n → X.down = false → j < n + 2 → chkE X (j : Int) = 0 := fun X j h1 h2 h3 => by
    unfold chkE
    rw [h2, if_neg (by simp)]
    exact if_pos (show inRange (X.n + 2) (j : Int) from ⟨by omega, by omega⟩)
  have HC2 : Hid (chkE X2 (n : Int) = 0) := hchk X2 n K.n2.1 K.n2.2 (by omega)
  have HC4 : Hid (chkE X4 ((n + 1 : Nat) : Int) = 0) := hchk X4 (n + 1) K.n4.1 K.n4.2 (by omega)
  have HY2 : Hid ((X2.D n).bytes.take 64 = encOf (evB ⟨(n : Int), (sz : Int), re, wk, ke, va, po⟩ f)) := by show _ = _; rw [K.by0, ← hel, List.take_length]
  have HZ2 : Hid (64 ≤ (X2.D n).bytes.length) := by show _ ≤ _; rw [K.by0]; omega
  have HY4 : Hid ((X4.D (n + 1)).bytes.take ln = ((encOf (odB ⟨(n : Int), (sz : Int), re, wk, ke, va, po⟩ s)).take ln)) := by show _ = _; rw [K.by1]
  have HZ4 : Hid (ln ≤ (X4.D (n + 1)).bytes.length) := by show _ ≤ _; rw [K.by1]; omega
  have HWA : Hid (Bk.wf ⟨(2 + 2 * (f : Int)), ⟨(n : Int), (sz : Int), re, wk, ke, va, po⟩⟩) := bk_wf _ hwf (2 + 2 * (f : Int)) (by omega)
  have HWB : Hid (Bk.wf ⟨(1 + 2 * (s : Int)), ⟨(n : Int), (sz : Int), re, wk, ke, va, po⟩⟩) := bk_wf _ hwf (1 + 2 * (s : Int)) (by omega)
  have HEL := Lib.hid hel
  have HEL2 := Lib.hid hel2
  obtain ⟨i0, j0⟩ := n8_bd cb
  obtain ⟨i1, j1⟩ := n8_bd lb
  obtain ⟨g5, hg5⟩ : ∃ g5, g5 = w.heap.size := ⟨_, rfl⟩
  obtain ⟨W1, hW1⟩ : ∃ W1 : World, W1 = w.alloc (.cells #[.int .u8 (n8 (b 0)), .int .u8 (n8 (b 1)), .int .u8 (n8 (b 2)), .int .u8 (n8 (b 3)), .int .u8 (n8 (b 4)), .int .u8 (n8 (b 5)), .int .u8 (n8 (b 6))] 22) := ⟨_, rfl⟩
  have H1 : Hid (Sep w.heap.size w W1 [blkOb g5 22 #[.int .u8 (n8 (b 0)), .int .u8 (n8 (b 1)), .int .u8 (n8 (b 2)), .int .u8 (n8 (b 3)), .int .u8 (n8 (b 4)), .int .u8 (n8 (b 5)), .int .u8 (n8 (b 6))]]) := by
    show Sep _ _ _ _
    rw [hW1]
    exact (Sep.start w).newBlk g5 _ _ hg5
  have hnI : (4 : Int) ≤ (n : Int) ∧ (n : Int) ≤ 9 := by omega
  have hsI : (34 : Int) ≤ (sz : Int) ∧ (sz : Int) ≤ 400 := by omega
  have hfI : (0 : Int) ≤ (f : Int) ∧ (f : Int) < 4294967296 := by omega
  have hsI2 : (0 : Int) ≤ (s : Int) ∧ (s : Int) < 4294967296 := by omega
  have hqI : (0 : Int) ≤ (q : Int) ∧ (q : Int) < 64 := by omega
  have hkI : (0 : Int) ≤ (k : Int) ∧ (k : Int) < 4 := by omega
  have hlI : (0 : Int) ≤ (ln : Int) ∧ (ln : Int) < 64 := by omega
  obtain ⟨hnI1, hnI2⟩ := hnI
  obtain ⟨hsI1, hsI0⟩ := hsI
  obtain ⟨hfI1, hfI2⟩ := hfI
  obtain ⟨hsI3, hsI4⟩ := hsI2
  obtain ⟨hqI1, hqI2⟩ := hqI
  obtain ⟨hkI1, hkI2⟩ := hkI
  obtain ⟨hlI1, hlI2⟩ := hlI
  have HB4 := Lib.hid (And.intro hn4 (And.intro hn9 (And.intro hs1 (And.intro hs2 (And.intro hk4 (And.intro hq64 hl64))))))
  clear K hR2 hok hwf hc hel hel2 hchk hn4 hn9 hs1 hs2 hf hs hq64 hk4 hl64
  go_enter Try.func6, Try.ntmps6
  go_wp2_with fail
  rw [← hg5, ← hW1]
  clear hW1 hg5
  refine (HSM.out _).mono ?_
  rintro e w2 ⟨rfl, hb⟩
  have H2 := Lib.hid (H1.out.below hb)
  clear hb HSM
  obtain ⟨g11, hg11⟩ : ∃ g11, g11 = w2.heap.size := ⟨_, rfl⟩
  obtain ⟨W2, hW2⟩ : ∃ W2 : World, W2 = w2.alloc (.cells #[.int .i64 (n : Int), .int .i64 (sz : Int), .int .i64 re, .int .i64 wk, .int .i64 ke, .int .i64 va, .int .i64 po] 26) := ⟨_, rfl⟩
  have H2b : Hid (Sep w.heap.size w W2 [blkOb g11 26 #[.int .i64 (n : Int), .int .i64 (sz : Int), .int .i64 re, .int .i64 wk, .int .i64 ke, .int .i64 va, .int .i64 po], blkOb g5 22 #[.int .u8 (n8 (b 0)), .int .u8 (n8 (b 1)), .int .u8 (n8 (b 2)), .int .u8 (n8 (b 3)), .int .u8 (n8 (b 4)), .int .u8 (n8 (b 5)), .int .u8 (n8 (b 6))]]) := by
    show Sep _ _ _ _
    rw [hW2]
    exact H2.out.newBlk g11 _ _ hg11
  go_upto_region 2 with fail
  rw [← hg11, ← hW2]
  clear hg11 hW2
  have kg11 : Blk W2 g11 26 #[.int .i64 (n : Int), .int .i64 (sz : Int), .int .i64 re, .int .i64 wk, .int .i64 ke, .int .i64 va, .int .i64 po] := H2b.out.get (.head _)
  have q1 : W2.cell? ⟨g11, 0, none⟩ = some (.int .i64 (n : Int)) := kg11.cell 0
  have q2 : W2.cell? ⟨g11, 1, none⟩ = some (.int .i64 (sz : Int)) := kg11.cell 1
  clear kg11
  have CN := Lib.hid (sep_vnew H2b.out n sz (by have := HB4.out; omega) (by have := HB4.out; omega) (by have := HB4.out; omega) (by have := HB4.out; omega))
  go_wp2_with fail
  refine CN.out.mono ?_
  rintro e w3 ⟨v, L3, rfl, hs⟩
  have H3 := Lib.hid hs
  clear hs CN q1 q2
  have kg11 : Blk w3 g11 26 #[.int .i64 (n : Int), .int .i64 (sz : Int), .int .i64 re, .int .i64 wk, .int .i64 ke, .int .i64 va, .int .i64 po] := H3.out.get (.tail _ (.head _))
  have q11 : w3.cell? ⟨g11, 0, none⟩ = some (.int .i64 (n : Int)) := kg11.cell 0
  have q12 : w3.cell? ⟨g11, 1, none⟩ = some (.int .i64 (sz : Int)) := kg11.cell 1
  have q13 : w3.cell? ⟨g11, 2, none⟩ = some (.int .i64 re) := kg11.cell 2
  have q14 : w3.cell? ⟨g11, 3, none⟩ = some (.int .i64 wk) := kg11.cell 3
  have q15 : w3.cell? ⟨g11, 4, none⟩ = some (.int .i64 ke) := kg11.cell 4
  have q16 : w3.cell? ⟨g11, 5, none⟩ = some (.int .i64 va) := kg11.cell 5
  have q17 : w3.cell? ⟨g11, 6, none⟩ = some (.int .i64 po) := kg11.cell 6
  clear kg11
  go_upto_region 5 with fail
  obtain ⟨g14, hg14⟩ : ∃ g14, g14 = w3.heap.size := ⟨_, rfl⟩
  obtain ⟨W5, hW5⟩ : ∃ W5 : World, W5 = w3.alloc (.cells #[.int .i64 (2 + 2 * (f : Int)), .int .i64 (n : Int), .int .i64 (sz : Int), .int .i64 re, .int .i64 wk, .int .i64 ke, .int .i64 va, .int .i64 po] 30) := ⟨_, rfl⟩
  have H5 : Hid (Sep w.heap.size w W5 (devOb v L3 (newVD n sz) :: [blkOb g14 30 #[.int .i64 (2 + 2 * (f : Int)), .int .i64 (n : Int), .int .i64 (sz : Int), .int .i64 re, .int .i64 wk, .int .i64 ke, .int .i64 va, .int .i64 po], blkOb g11 26 #[.int .i64 (n : Int), .int .i64 (sz : Int), .int .i64 re, .int .i64 wk, .int .i64 ke, .int .i64 va, .int .i64 po], blkOb g5 22 #[.int .u8 (n8 (b 0)), .int .u8 (n8 (b 1)), .int .u8 (n8 (b 2)), .int .u8 (n8 (b 3)), .int .u8 (n8 (b 4)), .int .u8 (n8 (b 5)), .int .u8 (n8 (b 6))]])) := by
    show Sep _ _ _ _
    rw [hW5]
    exact (H3.out.newBlk g14 30 #[.int .i64 (2 + 2 * (f : Int)), .int .i64 (n : Int), .int .i64 (sz : Int), .int .i64 re, .int .i64 wk, .int .i64 ke, .int .i64 va, .int .i64 po] hg14).perm (.swap _ _ _)
  go_upto_region 6 with fail
  rw [← hg14, ← hW5]
  clear hg14 hW5
  clear q11 q12 q13 q14 q15 q16 q17
  have kg11 : Blk W5 g11 26 #[.int .i64 (n : Int), .int .i64 (sz : Int), .int .i64 re, .int .i64 wk, .int .i64 ke, .int .i64 va, .int .i64 po] := H5.out.get (.tail _ (.tail _ (.head _)))
  have q18 : W5.cell? ⟨g11, 0, none⟩ = some (.int .i64 (n : Int)) := kg11.cell 0
  have q19 : W5.cell? ⟨g11, 1, none⟩ = some (.int .i64 (sz : Int)) := kg11.cell 1
  have q20 : W5.cell? ⟨g11, 2, none⟩ = some (.int .i64 re) := kg11.cell 2
  have q21 : W5.cell? ⟨g11, 3, none⟩ = some (.int .i64 wk) := kg11.cell 3
  have q22 : W5.cell? ⟨g11, 4, none⟩ = some (.int .i64 ke) := kg11.cell 4
  have q23 : W5.cell? ⟨g11, 5, none⟩ = some (.int .i64 va) := kg11.cell 5
  have q24 : W5.cell? ⟨g11, 6, none⟩ = some (.int .i64 po) := kg11.cell 6
  clear kg11
  obtain ⟨g15, hg15⟩ : ∃ g15, g15 = W5.heap.size := ⟨_, rfl⟩
  obtain ⟨W6, hW6⟩ : ∃ W6 : World, W6 = W5.alloc (.cells #[.int .i64 (1 + 2 * (s : Int)), .int .i64 (n : Int), .int .i64 (sz : Int), .int .i64 re, .int .i64 wk, .int .i64 ke, .int .i64 va, .int .i64 po] 30) := ⟨_, rfl⟩
  have H6 : Hid (Sep w.heap.size w W6 (devOb v L3 (newVD n sz) :: [blkOb g15 30 #[.int .i64 (1 + 2 * (s : Int)), .int .i64 (n : Int), .int .i64 (sz : Int), .int .i64 re, .int .i64 wk, .int .i64 ke, .int .i64 va, .int .i64 po], blkOb g14 30 #[.int .i64 (2 + 2 * (f : Int)), .int .i64 (n : Int), .int .i64 (sz : Int), .int .i64 re, .int .i64 wk, .int .i64 ke, .int .i64 va, .int .i64 po], blkOb g11 26 #[.int .i64 (n : Int), .int .i64 (sz : Int), .int .i64 re, .int .i64 wk, .int .i64 ke, .int .i64 va, .int .i64 po], blkOb g5 22 #[.int .u8 (n8 (b 0)), .int .u8 (n8 (b 1)), .int .u8 (n8 (b 2)), .int .u8 (n8 (b 3)), .int .u8 (n8 (b 4)), .int .u8 (n8 (b 5)), .int .u8 (n8 (b 6))]])) := by
    show Sep _ _ _ _
    rw [hW6]
    exact (H5.out.newBlk g15 30 #[.int .i64 (1 + 2 * (s : Int)), .int .i64 (n : Int), .int .i64 (sz : Int), .int .i64 re, .int .i64 wk, .int .i64 ke, .int .i64 va, .int .i64 po] hg15).perm (.swap _ _ _)
  go_upto_region 7 with fail
  rw [← hg15, ← hW6]
  clear hg15 hW6
  clear q18 q19 q20 q21 q22 q23 q24
  have kg14 : Blk W6 g14 30 #[.int .i64 (2 + 2 * (f : Int)), .int .i64 (n : Int), .int .i64 (sz : Int), .int .i64 re, .int .i64 wk, .int .i64 ke, .int .i64 va, .int .i64 po] := H6.out.get (.tail _ (.tail _ (.head _)))
  have q25 : W6.cell? ⟨g14, 0, none⟩ = some (.int .i64 (2 + 2 * (f : Int))) := kg14.cell 0
  have q26 : W6.cell? ⟨g14, 1, none⟩ = some (.int .i64 (n : Int)) := kg14.cell 1
  have q27 : W6.cell? ⟨g14, 2, none⟩ = some (.int .i64 (sz : Int)) := kg14.cell 2
  have q28 : W6.cell? ⟨g14, 3, none⟩ = some (.int .i64 re) := kg14.cell 3
  have q29 : W6.cell? ⟨g14, 4, none⟩ = some (.int .i64 wk) := kg14.cell 4
  have q30 : W6.cell? ⟨g14, 5, none⟩ = some (.int .i64 ke) := kg14.cell 5
  have q31 : W6.cell? ⟨g14, 6, none⟩ = some (.int .i64 va) := kg14.cell 6
  have q32 : W6.cell? ⟨g14, 7, none⟩ = some (.int .i64 po) := kg14.cell 7
  clear kg14
  go_wp2_with fail
  refine (lt_write H6.out (AllCells.cons (cellOb_blk _ _ _) (AllCells.cons (cellOb_blk _ _ _) (AllCells.cons (cellOb_blk _ _ _) (AllCells.cons (cellOb_blk _ _ _) AllCells.nil)))) hx1.out (2 + 2 * (f : Int)) (n : Int) (sz : Int) re wk ke va po 0 HWA.out HK.out.w0).mono ?_
  rintro e w7 ⟨rfl, L7, hs⟩
  have H7 := Lib.hid hs
  clear hs
  clear q25 q26 q27 q28 q29 q30 q31 q32
  have kg15 : Blk w7 g15 30 #[.int .i64 (1 + 2 * (s : Int)), .int .i64 (n : Int), .int .i64 (sz : Int), .int .i64 re, .int .i64 wk, .int .i64 ke, .int .i64 va, .int .i64 po] := H7.out.get (.tail _ (.head _))
  have q33 : w7.cell? ⟨g15, 0, none⟩ = some (.int .i64 (1 + 2 * (s : Int))) := kg15.cell 0
  have q34 : w7.cell? ⟨g15, 1, none⟩ = some (.int .i64 (n : Int)) := kg15.cell 1
  have q35 : w7.cell? ⟨g15, 2, none⟩ = some (.int .i64 (sz : Int)) := kg15.cell 2
  have q36 : w7.cell? ⟨g15, 3, none⟩ = some (.int .i64 re) := kg15.cell 3
  have q37 : w7.cell? ⟨g15, 4, none⟩ = some (.int .i64 wk) := kg15.cell 4
  have q38 : w7.cell? ⟨g15, 5, none⟩ = some (.int .i64 ke) := kg15.cell 5
  have q39 : w7.cell? ⟨g15, 6, none⟩ = some (.int .i64 va) := kg15.cell 6
  have q40 : w7.cell? ⟨g15, 7, none⟩ = some (.int .i64 po) := kg15.cell 7
  clear kg15
  go_wp2_with fail
  refine (lt_write H7.out (AllCells.cons (cellOb_blk _ _ _) (AllCells.cons (cellOb_blk _ _ _) (AllCells.cons (cellOb_blk _ _ _) (AllCells.cons (cellOb_blk _ _ _) AllCells.nil)))) hx2.out (1 + 2 * (s : Int)) (n : Int) (sz : Int) re wk ke va po 0 HWB.out HK.out.w1).mono ?_
  rintro e w8 ⟨rfl, L8, hs⟩
  have H8 := Lib.hid hs
  clear hs
  clear q33 q34 q35 q36 q37 q38 q39 q40
  have kg14 : Blk w8 g14 30 #[.int .i64 (2 + 2 * (f : Int)), .int .i64 (n : Int), .int .i64 (sz : Int), .int .i64 re, .int .i64 wk, .int .i64 ke, .int .i64 va, .int .i64 po] := H8.out.get (.tail _ (.tail _ (.head _)))
  have q41 : w8.cell? ⟨g14, 0, none⟩ = some (.int .i64 (2 + 2 * (f : Int))) := kg14.cell 0
  have q42 : w8.cell? ⟨g14, 1, none⟩ = some (.int .i64 (n : Int)) := kg14.cell 1
  have q43 : w8.cell? ⟨g14, 2, none⟩ = some (.int .i64 (sz : Int)) := kg14.cell 2
  have q44 : w8.cell? ⟨g14, 3, none⟩ = some (.int .i64 re) := kg14.cell 3
  have q45 : w8.cell? ⟨g14, 4, none⟩ = some (.int .i64 wk) := kg14.cell 4
  have q46 : w8.cell? ⟨g14, 5, none⟩ = some (.int .i64 ke) := kg14.cell 5
  have q47 : w8.cell? ⟨g14, 6, none⟩ = some (.int .i64 va) := kg14.cell 6
  have q48 : w8.cell? ⟨g14, 7, none⟩ = some (.int .i64 po) := kg14.cell 7
  clear kg14
  go_upto_region 9 with fail
  obtain ⟨g16, hg16⟩ : ∃ g16, g16 = w8.heap.size := ⟨_, rfl⟩
  obtain ⟨W9, hW9⟩ : ∃ W9 : World, W9 = w8.alloc (.cells #[.int .i64 (2 + 2 * (f : Int)), .int .i64 (n : Int), .int .i64 (sz : Int), .int .i64 re, .int .i64 wk, .int .i64 ke, .int .i64 va, .int .i64 po] 30) := ⟨_, rfl⟩
  have H9 : Hid (Sep w.heap.size w W9 (devOb v L8 X2 :: [blkOb g16 30 #[.int .i64 (2 + 2 * (f : Int)), .int .i64 (n : Int), .int .i64 (sz : Int), .int .i64 re, .int .i64 wk, .int .i64 ke, .int .i64 va, .int .i64 po], blkOb g15 30 #[.int .i64 (1 + 2 * (s : Int)), .int .i64 (n : Int), .int .i64 (sz : Int), .int .i64 re, .int .i64 wk, .int .i64 ke, .int .i64 va, .int .i64 po], blkOb g14 30 #[.int .i64 (2 + 2 * (f : Int)), .int .i64 (n : Int), .int .i64 (sz : Int), .int .i64 re, .int .i64 wk, .int .i64 ke, .int .i64 va, .int .i64 po], blkOb g11 26 #[.int .i64 (n : Int), .int .i64 (sz : Int), .int .i64 re, .int .i64 wk, .int .i64 ke, .int .i64 va, .int .i64 po], blkOb g5 22 #[.int .u8 (n8 (b 0)), .int .u8 (n8 (b 1)), .int .u8 (n8 (b 2)), .int .u8 (n8 (b 3)), .int .u8 (n8 (b 4)), .int .u8 (n8 (b 5)), .int .u8 (n8 (b 6))]])) := by
    show Sep _ _ _ _
    rw [hW9]
    exact (H8.out.newBlk g16 30 #[.int .i64 (2 + 2 * (f : Int)), .int .i64 (n : Int), .int .i64 (sz : Int), .int .i64 re, .int .i64 wk, .int .i64 ke, .int .i64 va, .int .i64 po] hg16).perm (.swap _ _ _)
  go_upto_region 10 with fail
  rw [← hg16, ← hW9]
  clear hg16 hW9
  clear q41 q42 q43 q44 q45 q46 q47 q48
  have kg14 : Blk W9 g14 30 #[.int .i64 (2 + 2 * (f : Int)), .int .i64 (n : Int), .int .i64 (sz : Int), .int .i64 re, .int .i64 wk, .int .i64 ke, .int .i64 va, .int .i64 po] := H9.out.get (.tail _ (.tail _ (.tail _ (.head _))))
  have q49 : W9.cell? ⟨g14, 0, none⟩ = some (.int .i64 (2 + 2 * (f : Int))) := kg14.cell 0
  clear kg14
  have kg15 : Blk W9 g15 30 #[.int .i64 (1 + 2 * (s : Int)), .int .i64 (n : Int), .int .i64 (sz : Int), .int .i64 re, .int .i64 wk, .int .i64 ke, .int .i64 va, .int .i64 po] := H9.out.get (.tail _ (.tail _ (.head _)))
  have q50 : W9.cell? ⟨g15, 0, none⟩ = some (.int .i64 (1 + 2 * (s : Int))) := kg15.cell 0
  have q51 : W9.cell? ⟨g15, 1, none⟩ = some (.int .i64 (n : Int)) := kg15.cell 1
  have q52 : W9.cell? ⟨g15, 2, none⟩ = some (.int .i64 (sz : Int)) := kg15.cell 2
  have q53 : W9.cell? ⟨g15, 3, none⟩ = some (.int .i64 re) := kg15.cell 3
  have q54 : W9.cell? ⟨g15, 4, none⟩ = some (.int .i64 wk) := kg15.cell 4
  have q55 : W9.cell? ⟨g15, 5, none⟩ = some (.int .i64 ke) := kg15.cell 5
  have q56 : W9.cell? ⟨g15, 6, none⟩ = some (.int .i64 va) := kg15.cell 6
  have q57 : W9.cell? ⟨g15, 7, none⟩ = some (.int .i64 po) := kg15.cell 7
  clear kg15
  have hgt : decide ((2 + 2 * (f : Int)) < (1 + 2 * (s : Int))) = false := decide_eq_false (by omega)
  go_wp2_with fail
  refine (lt_read H9.out 0 0 (2 + 2 * (f : Int)) (n : Int) (sz : Int) re wk ke va po HR2.out).mono ?_
  rintro e w12 ⟨rfl, hs⟩
  have H12 := Lib.hid hs
  clear hs
  clear q49 q50 q51 q52 q53 q54 q55 q56 q57
  obtain ⟨g18, hg18⟩ : ∃ g18, g18 = w12.heap.size := ⟨_, rfl⟩
  obtain ⟨W12, hW12⟩ : ∃ W12 : World, W12 = w12.alloc (.cells #[.int .i64 (2 + 2 * (f : Int)), .int .i64 (n : Int), .int .i64 (sz : Int), .int .i64 re, .int .i64 wk, .int .i64 ke, .int .i64 va, .int .i64 po] 30) := ⟨_, rfl⟩
  have H12b : Hid (Sep w.heap.size w W12 (devOb v L8 X2 :: [blkOb g18 30 #[.int .i64 (2 + 2 * (f : Int)), .int .i64 (n : Int), .int .i64 (sz : Int), .int .i64 re, .int .i64 wk, .int .i64 ke, .int .i64 va, .int .i64 po], blkOb g16 30 #[.int .i64 (2 + 2 * (f : Int)), .int .i64 (n : Int), .int .i64 (sz : Int), .int .i64 re, .int .i64 wk, .int .i64 ke, .int .i64 va, .int .i64 po], blkOb g15 30 #[.int .i64 (1 + 2 * (s : Int)), .int .i64 (n : Int), .int .i64 (sz : Int), .int .i64 re, .int .i64 wk, .int .i64 ke, .int .i64 va, .int .i64 po], blkOb g14 30 #[.int .i64 (2 + 2 * (f : Int)), .int .i64 (n : Int), .int .i64 (sz : Int), .int .i64 re, .int .i64 wk, .int .i64 ke, .int .i64 va, .int .i64 po], blkOb g11 26 #[.int .i64 (n : Int), .int .i64 (sz : Int), .int .i64 re, .int .i64 wk, .int .i64 ke, .int .i64 va, .int .i64 po], blkOb g5 22 #[.int .u8 (n8 (b 0)), .int .u8 (n8 (b 1)), .int .u8 (n8 (b 2)), .int .u8 (n8 (b 3)), .int .u8 (n8 (b 4)), .int .u8 (n8 (b 5)), .int .u8 (n8 (b 6))]])) := by
    show Sep _ _ _ _
    rw [hW12]
    exact (H12.out.newBlk g18 30 #[.int .i64 (2 + 2 * (f : Int)), .int .i64 (n : Int), .int .i64 (sz : Int), .int .i64 re, .int .i64 wk, .int .i64 ke, .int .i64 va, .int .i64 po] hg18).perm (.swap _ _ _)
  go_upto_region 13 with fail
  rw [← hg18, ← hW12]
  clear hg18 hW12
  have kg18 : Blk W12 g18 30 #[.int .i64 (2 + 2 * (f : Int)), .int .i64 (n : Int), .int .i64 (sz : Int), .int .i64 re, .int .i64 wk, .int .i64 ke, .int .i64 va, .int .i64 po] := H12b.out.get (.tail _ (.head _))
  have q58 : W12.cell? ⟨g18, 0, none⟩ = some (.int .i64 (2 + 2 * (f : Int))) := kg18.cell 0
  have q59 : W12.cell? ⟨g18, 1, none⟩ = some (.int .i64 (n : Int)) := kg18.cell 1
  have q60 : W12.cell? ⟨g18, 2, none⟩ = some (.int .i64 (sz : Int)) := kg18.cell 2
  have q61 : W12.cell? ⟨g18, 3, none⟩ = some (.int .i64 re) := kg18.cell 3
  have q62 : W12.cell? ⟨g18, 4, none⟩ = some (.int .i64 wk) := kg18.cell 4
  have q63 : W12.cell? ⟨g18, 5, none⟩ = some (.int .i64 ke) := kg18.cell 5
  have q64 : W12.cell? ⟨g18, 6, none⟩ = some (.int .i64 va) := kg18.cell 6
  have q65 : W12.cell? ⟨g18, 7, none⟩ = some (.int .i64 po) := kg18.cell 7
  clear kg18
  have kg16 : Blk W12 g16 30 #[.int .i64 (2 + 2 * (f : Int)), .int .i64 (n : Int), .int .i64 (sz : Int), .int .i64 re, .int .i64 wk, .int .i64 ke, .int .i64 va, .int .i64 po] := H12b.out.get (.tail _ (.tail _ (.head _)))
  have q66 : W12.cell? ⟨g16, 0, none⟩ = some (.int .i64 (2 + 2 * (f : Int))) := kg16.cell 0
  have q67 : W12.cell? ⟨g16, 1, none⟩ = some (.int .i64 (n : Int)) := kg16.cell 1
  have q68 : W12.cell? ⟨g16, 2, none⟩ = some (.int .i64 (sz : Int)) := kg16.cell 2
  have q69 : W12.cell? ⟨g16, 3, none⟩ = some (.int .i64 re) := kg16.cell 3
  have q70 : W12.cell? ⟨g16, 4, none⟩ = some (.int .i64 wk) := kg16.cell 4
  have q71 : W12.cell? ⟨g16, 5, none⟩ = some (.int .i64 ke) := kg16.cell 5
  have q72 : W12.cell? ⟨g16, 6, none⟩ = some (.int .i64 va) := kg16.cell 6
  have q73 : W12.cell? ⟨g16, 7, none⟩ = some (.int .i64 po) := kg16.cell 7
  clear kg16
  have kg11 : Blk W12 g11 26 #[.int .i64 (n : Int), .int .i64 (sz : Int), .int .i64 re, .int .i64 wk, .int .i64 ke, .int .i64 va, .int .i64 po] := H12b.out.get (.tail _ (.tail _ (.tail _ (.tail _ (.tail _ (.head _))))))
  have q74 : W12.cell? ⟨g11, 0, none⟩ = some (.int .i64 (n : Int)) := kg11.cell 0
  clear kg11
  have CR := Lib.hid (lt_raw1 H12b.out n 64 (n : Int) rfl HC2.out (encOf (evB ⟨(n : Int), (sz : Int), re, wk, ke, va, po⟩ f)) HY2.out HZ2.out (by omega))
  go_wp2_with fail
  refine CR.out.mono ?_
  rintro e w15 ⟨g21, c21, cs, rfl, hc1, hc2, hcs, htk, hs⟩
  have H15 : Hid (Sep w.heap.size w w15 (devOb v L8 X2 :: blkOb g21 5 cs :: [blkOb g18 30 #[.int .i64 (2 + 2 * (f : Int)), .int .i64 (n : Int), .int .i64 (sz : Int), .int .i64 re, .int .i64 wk, .int .i64 ke, .int .i64 va, .int .i64 po], blkOb g16 30 #[.int .i64 (2 + 2 * (f : Int)), .int .i64 (n : Int), .int .i64 (sz : Int), .int .i64 re, .int .i64 wk, .int .i64 ke, .int .i64 va, .int .i64 po], blkOb g15 30 #[.int .i64 (1 + 2 * (s : Int)), .int .i64 (n : Int), .int .i64 (sz : Int), .int .i64 re, .int .i64 wk, .int .i64 ke, .int .i64 va, .int .i64 po], blkOb g14 30 #[.int .i64 (2 + 2 * (f : Int)), .int .i64 (n : Int), .int .i64 (sz : Int), .int .i64 re, .int .i64 wk, .int .i64 ke, .int .i64 va, .int .i64 po], blkOb g11 26 #[.int .i64 (n : Int), .int .i64 (sz : Int), .int .i64 re, .int .i64 wk, .int .i64 ke, .int .i64 va, .int .i64 po], blkOb g5 22 #[.int .u8 (n8 (b 0)), .int .u8 (n8 (b 1)), .int .u8 (n8 (b 2)), .int .u8 (n8 (b 3)), .int .u8 (n8 (b 4)), .int .u8 (n8 (b 5)), .int .u8 (n8 (b 6))]])) := hs.perm (.swap _ _ _)
  have HCS := Lib.hid (And.intro hcs htk)
  have HCC := Lib.hid (And.intro hc1 hc2)
  have hc3 : (64 : Int) ≤ (c21 : Int) := by omega
  clear hs CR hcs htk hc1
  clear q58 q59 q60 q61 q62 q63 q64 q65 q66 q67 q68 q69 q70 q71 q72 q73 q74
  have hgq : (encOf (evB ⟨(n : Int), (sz : Int), re, wk, ke, va, po⟩ f)).getD q 0#8 = (encOf (evB ⟨(n : Int), (sz : Int), re, wk, ke, va, po⟩ f))[q]'(by rw [HEL.out]; exact HB4.out.2.2.2.2.2.1) := by
    rw [List.getD_eq_getElem?_getD, List.getElem?_eq_getElem (by rw [HEL.out]; exact HB4.out.2.2.2.2.2.1)]; rfl
  have HGQ := Lib.hid hgq
  obtain ⟨u, hu⟩ : ∃ u, (encOf (evB ⟨(n : Int), (sz : Int), re, wk, ke, va, po⟩ f)).getD q 0#8 = u := ⟨_, rfl⟩
  have kg : Blk w15 g21 5 cs := H15.out.get (.tail _ (.head _))
  have hcell : w15.cell? ⟨g21, q, none⟩ = some (.int .u8 (n8 u)) := by
    rw [kg.cell]
    have h1 : cs.toList[q]? = (cs.toList.take 64)[q]? := by rw [List.getElem?_take, if_pos HB4.out.2.2.2.2.2.1]
    rw [HCS.out.2, u8s_get (by rw [HEL.out]; exact HB4.out.2.2.2.2.2.1), ← hgq, hu] at h1
    simpa using h1
  have hfr := kg.frozen q
  have hxo := mask_xor u k HB4.out.2.2.2.2.1
  have HT2 : Hid ((cs.setIfInBounds q (.int .u8 (n8 (u ^^^ mask8 k)))).toList.take 64 = u8s ((encOf (evB ⟨(n : Int), (sz : Int), re, wk, ke, va, po⟩ f)).set q ((encOf (evB ⟨(n : Int), (sz : Int), re, wk, ke, va, po⟩ f)).getD q 0#8 ^^^ mask8 k))) := by
    show _ = _
    rw [u8s_set, ← HCS.out.2, Array.toList_setIfInBounds, List.take_set, hu]
  have hqc : q < 64 := HB4.out.2.2.2.2.2.1
  clear kg hgq hu
  go_upto_region 19 with fail
  obtain ⟨W18, hW18⟩ : ∃ W18 : World, W18 = w15.setCell ⟨g21, q, none⟩ (.int .u8 (n8 (u ^^^ mask8 k))) := ⟨_, rfl⟩
  obtain ⟨cs2, hcs2⟩ : ∃ cs2, cs2 = cs.setIfInBounds q (.int .u8 (n8 (u ^^^ mask8 k))) := ⟨_, rfl⟩
  rw [← hcs2] at HT2
  have hcs3 : Sep w.heap.size w W18 (blkOb g21 5 cs2 :: devOb v L8 X2 :: [blkOb g18 30 #[.int .i64 (2 + 2 * (f : Int)), .int .i64 (n : Int), .int .i64 (sz : Int), .int .i64 re, .int .i64 wk, .int .i64 ke, .int .i64 va, .int .i64 po], blkOb g16 30 #[.int .i64 (2 + 2 * (f : Int)), .int .i64 (n : Int), .int .i64 (sz : Int), .int .i64 re, .int .i64 wk, .int .i64 ke, .int .i64 va, .int .i64 po], blkOb g15 30 #[.int .i64 (1 + 2 * (s : Int)), .int .i64 (n : Int), .int .i64 (sz : Int), .int .i64 re, .int .i64 wk, .int .i64 ke, .int .i64 va, .int .i64 po], blkOb g14 30 #[.int .i64 (2 + 2 * (f : Int)), .int .i64 (n : Int), .int .i64 (sz : Int), .int .i64 re, .int .i64 wk, .int .i64 ke, .int .i64 va, .int .i64 po], blkOb g11 26 #[.int .i64 (n : Int), .int .i64 (sz : Int), .int .i64 re, .int .i64 wk, .int .i64 ke, .int .i64 va, .int .i64 po], blkOb g5 22 #[.int .u8 (n8 (b 0)), .int .u8 (n8 (b 1)), .int .u8 (n8 (b 2)), .int .u8 (n8 (b 3)), .int .u8 (n8 (b 4)), .int .u8 (n8 (b 5)), .int .u8 (n8 (b 6))]]) := by
    rw [hW18, hcs2]
    exact (H15.out.perm (.swap _ _ _)).setBlk q _
  have H18 : Hid (Sep w.heap.size w W18 (devOb v L8 X2 :: [blkOb g21 5 cs2, blkOb g18 30 #[.int .i64 (2 + 2 * (f : Int)), .int .i64 (n : Int), .int .i64 (sz : Int), .int .i64 re, .int .i64 wk, .int .i64 ke, .int .i64 va, .int .i64 po], blkOb g16 30 #[.int .i64 (2 + 2 * (f : Int)), .int .i64 (n : Int), .int .i64 (sz : Int), .int .i64 re, .int .i64 wk, .int .i64 ke, .int .i64 va, .int .i64 po], blkOb g15 30 #[.int .i64 (1 + 2 * (s : Int)), .int .i64 (n : Int), .int .i64 (sz : Int), .int .i64 re, .int .i64 wk, .int .i64 ke, .int .i64 va, .int .i64 po], blkOb g14 30 #[.int .i64 (2 + 2 * (f : Int)), .int .i64 (n : Int), .int .i64 (sz : Int), .int .i64 re, .int .i64 wk, .int .i64 ke, .int .i64 va, .int .i64 po], blkOb g11 26 #[.int .i64 (n : Int), .int .i64 (sz : Int), .int .i64 re, .int .i64 wk, .int .i64 ke, .int .i64 va, .int .i64 po], blkOb g5 22 #[.int .u8 (n8 (b 0)), .int .u8 (n8 (b 1)), .int .u8 (n8 (b 2)), .int .u8 (n8 (b 3)), .int .u8 (n8 (b 4)), .int .u8 (n8 (b 5)), .int .u8 (n8 (b 6))]])) := hcs3.perm (.swap _ _ _)
  rw [← hW18]
  clear hW18 hcell hfr hxo hcs2 hcs3 hqc
  have kg11 : Blk W18 g11 26 #[.int .i64 (n : Int), .int .i64 (sz : Int), .int .i64 re, .int .i64 wk, .int .i64 ke, .int .i64 va, .int .i64 po] := H18.out.get (.tail _ (.tail _ (.tail _ (.tail _ (.tail _ (.tail _ (.head _)))))))
  have q75 : W18.cell? ⟨g11, 0, none⟩ = some (.int .i64 (n : Int)) := kg11.cell 0
  clear kg11
  go_wp2_with fail
  refine (lt_erase H18.out (AllCells.cons (cellOb_blk _ _ _) (AllCells.cons (cellOb_blk _ _ _) (AllCells.cons (cellOb_blk _ _ _) (AllCells.cons (cellOb_blk _ _ _) (AllCells.cons (cellOb_blk _ _ _) (AllCells.cons (cellOb_blk _ _ _) (AllCells.cons (cellOb_blk _ _ _) AllCells.nil))))))) hx3.out (n : Int) 0 HK.out.e2 rfl).mono ?_
  rintro e w19 ⟨rfl, L19, hs⟩
  have H19 := Lib.hid hs
  clear hs
  clear q75
  have kg11 : Blk w19 g11 26 #[.int .i64 (n : Int), .int .i64 (sz : Int), .int .i64 re, .int .i64 wk, .int .i64 ke, .int .i64 va, .int .i64 po] := H19.out.get (.tail _ (.tail _ (.tail _ (.tail _ (.tail _ (.tail _ (.head _)))))))
  have q76 : w19.cell? ⟨g11, 0, none⟩ = some (.int .i64 (n : Int)) := kg11.cell 0
  clear kg11
  have CAP := Lib.hid (lt_app (vb := .slice (some ⟨g21, 0, none⟩) 64 c21) (l := ((encOf (evB ⟨(n : Int), (sz : Int), re, wk, ke, va, po⟩ f)).set q ((encOf (evB ⟨(n : Int), (sz : Int), re, wk, ke, va, po⟩ f)).getD q 0#8 ^^^ mask8 k))) H19.out (AllCells.cons (cellOb_blk _ _ _) (AllCells.cons (cellOb_blk _ _ _) (AllCells.cons (cellOb_blk _ _ _) (AllCells.cons (cellOb_blk _ _ _) (AllCells.cons (cellOb_blk _ _ _) (AllCells.cons (cellOb_blk _ _ _) (AllCells.cons (cellOb_blk _ _ _) AllCells.nil))))))) hx6.out (n : Int) 0 (fun W hW => blk_holds (hW.2 _ (.head _)) (by rw [List.length_set]; exact HEL.out) HCC.out.1 HCC.out.2 HT2.out) HK.out.a2 HK.out.x4)
  go_wp2_with fail
  refine CAP.out.mono ?_
  rintro e w20 ⟨rfl, L20, hs⟩
  have H20 := Lib.hid hs
  clear hs CAP
  clear q76
  go_wp2_with fail
  refine (lt_read H20.out 0 1 (1 + 2 * (s : Int)) (n : Int) (sz : Int) re wk ke va po HR4.out).mono ?_
  rintro e w21 ⟨rfl, hs⟩
  have H21 := Lib.hid hs
  clear hs
  obtain ⟨g22, hg22⟩ : ∃ g22, g22 = w21.heap.size := ⟨_, rfl⟩
  obtain ⟨W21, hW21⟩ : ∃ W21 : World, W21 = w21.alloc (.cells #[.int .i64 (1 + 2 * (s : Int)), .int .i64 (n : Int), .int .i64 (sz : Int), .int .i64 re, .int .i64 wk, .int .i64 ke, .int .i64 va, .int .i64 po] 30) := ⟨_, rfl⟩
  have H21b : Hid (Sep w.heap.size w W21 (devOb v L20 X4 :: [blkOb g22 30 #[.int .i64 (1 + 2 * (s : Int)), .int .i64 (n : Int), .int .i64 (sz : Int), .int .i64 re, .int .i64 wk, .int .i64 ke, .int .i64 va, .int .i64 po], blkOb g21 5 cs2, blkOb g18 30 #[.int .i64 (2 + 2 * (f : Int)), .int .i64 (n : Int), .int .i64 (sz : Int), .int .i64 re, .int .i64 wk, .int .i64 ke, .int .i64 va, .int .i64 po], blkOb g16 30 #[.int .i64 (2 + 2 * (f : Int)), .int .i64 (n : Int), .int .i64 (sz : Int), .int .i64 re, .int .i64 wk, .int .i64 ke, .int .i64 va, .int .i64 po], blkOb g15 30 #[.int .i64 (1 + 2 * (s : Int)), .int .i64 (n : Int), .int .i64 (sz : Int), .int .i64 re, .int .i64 wk, .int .i64 ke, .int .i64 va, .int .i64 po], blkOb g14 30 #[.int .i64 (2 + 2 * (f : Int)), .int .i64 (n : Int), .int .i64 (sz : Int), .int .i64 re, .int .i64 wk, .int .i64 ke, .int .i64 va, .int .i64 po], blkOb g11 26 #[.int .i64 (n : Int), .int .i64 (sz : Int), .int .i64 re, .int .i64 wk, .int .i64 ke, .int .i64 va, .int .i64 po], blkOb g5 22 #[.int .u8 (n8 (b 0)), .int .u8 (n8 (b 1)), .int .u8 (n8 (b 2)), .int .u8 (n8 (b 3)), .int .u8 (n8 (b 4)), .int .u8 (n8 (b 5)), .int .u8 (n8 (b 6))]])) := by
    show Sep _ _ _ _
    rw [hW21]
    exact (H21.out.newBlk g22 30 #[.int .i64 (1 + 2 * (s : Int)), .int .i64 (n : Int), .int .i64 (sz : Int), .int .i64 re, .int .i64 wk, .int .i64 ke, .int .i64 va, .int .i64 po] hg22).perm (.swap _ _ _)
  go_upto_region 22 with fail
  rw [← hg22, ← hW21]
  clear hg22 hW21
  have kg22 : Blk W21 g22 30 #[.int .i64 (1 + 2 * (s : Int)), .int .i64 (n : Int), .int .i64 (sz : Int), .int .i64 re, .int .i64 wk, .int .i64 ke, .int .i64 va, .int .i64 po] := H21b.out.get (.tail _ (.head _))
  have q77 : W21.cell? ⟨g22, 0, none⟩ = some (.int .i64 (1 + 2 * (s : Int))) := kg22.cell 0
  have q78 : W21.cell? ⟨g22, 1, none⟩ = some (.int .i64 (n : Int)) := kg22.cell 1
  have q79 : W21.cell? ⟨g22, 2, none⟩ = some (.int .i64 (sz : Int)) := kg22.cell 2
  have q80 : W21.cell? ⟨g22, 3, none⟩ = some (.int .i64 re) := kg22.cell 3
  have q81 : W21.cell? ⟨g22, 4, none⟩ = some (.int .i64 wk) := kg22.cell 4
  have q82 : W21.cell? ⟨g22, 5, none⟩ = some (.int .i64 ke) := kg22.cell 5
  have q83 : W21.cell? ⟨g22, 6, none⟩ = some (.int .i64 va) := kg22.cell 6
  have q84 : W21.cell? ⟨g22, 7, none⟩ = some (.int .i64 po) := kg22.cell 7
  clear kg22
  have kg15 : Blk W21 g15 30 #[.int .i64 (1 + 2 * (s : Int)), .int .i64 (n : Int), .int .i64 (sz : Int), .int .i64 re, .int .i64 wk, .int .i64 ke, .int .i64 va, .int .i64 po] := H21b.out.get (.tail _ (.tail _ (.tail _ (.tail _ (.tail _ (.head _))))))
  have q85 : W21.cell? ⟨g15, 0, none⟩ = some (.int .i64 (1 + 2 * (s : Int))) := kg15.cell 0
  have q86 : W21.cell? ⟨g15, 1, none⟩ = some (.int .i64 (n : Int)) := kg15.cell 1
  have q87 : W21.cell? ⟨g15, 2, none⟩ = some (.int .i64 (sz : Int)) := kg15.cell 2
  have q88 : W21.cell? ⟨g15, 3, none⟩ = some (.int .i64 re) := kg15.cell 3
  have q89 : W21.cell? ⟨g15, 4, none⟩ = some (.int .i64 wk) := kg15.cell 4
  have q90 : W21.cell? ⟨g15, 5, none⟩ = some (.int .i64 ke) := kg15.cell 5
  have q91 : W21.cell? ⟨g15, 6, none⟩ = some (.int .i64 va) := kg15.cell 6
  have q92 : W21.cell? ⟨g15, 7, none⟩ = some (.int .i64 po) := kg15.cell 7
  clear kg15
  have kg11 : Blk W21 g11 26 #[.int .i64 (n : Int), .int .i64 (sz : Int), .int .i64 re, .int .i64 wk, .int .i64 ke, .int .i64 va, .int .i64 po] := H21b.out.get (.tail _ (.tail _ (.tail _ (.tail _ (.tail _ (.tail _ (.tail _ (.head _))))))))
  have q93 : W21.cell? ⟨g11, 0, none⟩ = some (.int .i64 (n : Int)) := kg11.cell 0
  clear kg11
  have CR := Lib.hid (lt_raw H21b.out (n + 1) ln ((n : Int) + 1) (by omega) HC4.out ((encOf (odB ⟨(n : Int), (sz : Int), re, wk, ke, va, po⟩ s)).take ln) HY4.out HZ4.out)
  go_wp2_with fail
  refine CR.out.mono ?_
  rintro e w24 ⟨A24, c24, rfl, hs⟩
  have H24 : Hid (Sep w.heap.size w w24 (devOb v L20 X4 :: rowOb 5 1 (.slice A24 ln c24) ln (u8s ((encOf (odB ⟨(n : Int), (sz : Int), re, wk, ke, va, po⟩ s)).take ln)) :: [blkOb g22 30 #[.int .i64 (1 + 2 * (s : Int)), .int .i64 (n : Int), .int .i64 (sz : Int), .int .i64 re, .int .i64 wk, .int .i64 ke, .int .i64 va, .int .i64 po], blkOb g21 5 cs2, blkOb g18 30 #[.int .i64 (2 + 2 * (f : Int)), .int .i64 (n : Int), .int .i64 (sz : Int), .int .i64 re, .int .i64 wk, .int .i64 ke, .int .i64 va, .int .i64 po], blkOb g16 30 #[.int .i64 (2 + 2 * (f : Int)), .int .i64 (n : Int), .int .i64 (sz : Int), .int .i64 re, .int .i64 wk, .int .i64 ke, .int .i64 va, .int .i64 po], blkOb g15 30 #[.int .i64 (1 + 2 * (s : Int)), .int .i64 (n : Int), .int .i64 (sz : Int), .int .i64 re, .int .i64 wk, .int .i64 ke, .int .i64 va, .int .i64 po], blkOb g14 30 #[.int .i64 (2 + 2 * (f : Int)), .int .i64 (n : Int), .int .i64 (sz : Int), .int .i64 re, .int .i64 wk, .int .i64 ke, .int .i64 va, .int .i64 po], blkOb g11 26 #[.int .i64 (n : Int), .int .i64 (sz : Int), .int .i64 re, .int .i64 wk, .int .i64 ke, .int .i64 va, .int .i64 po], blkOb g5 22 #[.int .u8 (n8 (b 0)), .int .u8 (n8 (b 1)), .int .u8 (n8 (b 2)), .int .u8 (n8 (b 3)), .int .u8 (n8 (b 4)), .int .u8 (n8 (b 5)), .int .u8 (n8 (b 6))]])) := hs.perm (.swap _ _ _)
  clear hs CR
  clear q77 q78 q79 q80 q81 q82 q83 q84 q85 q86 q87 q88 q89 q90 q91 q92 q93
  have kg11 : Blk w24 g11 26 #[.int .i64 (n : Int), .int .i64 (sz : Int), .int .i64 re, .int .i64 wk, .int .i64 ke, .int .i64 va, .int .i64 po] := H24.out.get (.tail _ (.tail _ (.tail _ (.tail _ (.tail _ (.tail _ (.tail _ (.tail _ (.head _)))))))))
  have q94 : w24.cell? ⟨g11, 0, none⟩ = some (.int .i64 (n : Int)) := kg11.cell 0
  clear kg11
  go_wp2_with fail
  refine (lt_erase H24.out (AllCells.cons (cellOb_row _ _ _ _ _) (AllCells.cons (cellOb_blk _ _ _) (AllCells.cons (cellOb_blk _ _ _) (AllCells.cons (cellOb_blk _ _ _) (AllCells.cons (cellOb_blk _ _ _) (AllCells.cons (cellOb_blk _ _ _) (AllCells.cons (cellOb_blk _ _ _) (AllCells.cons (cellOb_blk _ _ _) (AllCells.cons (cellOb_blk _ _ _) AllCells.nil))))))))) hx4.out ((n : Int) + 1) 0 HK.out.e4 rfl).mono ?_
  rintro e w25 ⟨rfl, L25, hs⟩
  have H25 := Lib.hid hs
  clear hs
  clear q94
  have kg11 : Blk w25 g11 26 #[.int .i64 (n : Int), .int .i64 (sz : Int), .int .i64 re, .int .i64 wk, .int .i64 ke, .int .i64 va, .int .i64 po] := H25.out.get (.tail _ (.tail _ (.tail _ (.tail _ (.tail _ (.tail _ (.tail _ (.tail _ (.head _)))))))))
  have q95 : w25.cell? ⟨g11, 0, none⟩ = some (.int .i64 (n : Int)) := kg11.cell 0
  clear kg11
  have CAP := Lib.hid (lt_app (vb := .slice A24 ln c24) (l := ((encOf (odB ⟨(n : Int), (sz : Int), re, wk, ke, va, po⟩ s)).take ln)) H25.out (AllCells.cons (cellOb_row _ _ _ _ _) (AllCells.cons (cellOb_blk _ _ _) (AllCells.cons (cellOb_blk _ _ _) (AllCells.cons (cellOb_blk _ _ _) (AllCells.cons (cellOb_blk _ _ _) (AllCells.cons (cellOb_blk _ _ _) (AllCells.cons (cellOb_blk _ _ _) (AllCells.cons (cellOb_blk _ _ _) (AllCells.cons (cellOb_blk _ _ _) AllCells.nil))))))))) hx7.out ((n : Int) + 1) 0 (fun W hW => Holds.of_own (hW.2 _ (.head _))) HK.out.a4 HK.out.x6)
  go_wp2_with fail
  refine CAP.out.mono ?_
  rintro e w26 ⟨rfl, L26, hs⟩
  have H26 := Lib.hid hs
  clear hs CAP
  clear q95
  go_wp2_with fail
  refine (lt_ops H26.out).mono ?_
  rintro e w27 ⟨rfl, hs⟩
  have H27 := Lib.hid hs
  clear hs
  go_wp2_with fail
  refine (lt_read H27.out 5 0 0 0 0 0 0 0 0 0 HR6.out).mono ?_
  rintro e w28 ⟨rfl, hs⟩
  have H28 := Lib.hid hs
  clear hs
  obtain ⟨g26, hg26⟩ : ∃ g26, g26 = w28.heap.size := ⟨_, rfl⟩
  obtain ⟨W28, hW28⟩ : ∃ W28 : World, W28 = w28.alloc (.cells #[.int .i64 0, .int .i64 0, .int .i64 0, .int .i64 0, .int .i64 0, .int .i64 0, .int .i64 0, .int .i64 0] 30) := ⟨_, rfl⟩
  have H28b : Hid (Sep w.heap.size w W28 (devOb v L26 X6 :: [blkOb g26 30 #[.int .i64 0, .int .i64 0, .int .i64 0, .int .i64 0, .int .i64 0, .int .i64 0, .int .i64 0, .int .i64 0], rowOb 5 1 (.slice A24 ln c24) ln (u8s ((encOf (odB ⟨(n : Int), (sz : Int), re, wk, ke, va, po⟩ s)).take ln)), blkOb g22 30 #[.int .i64 (1 + 2 * (s : Int)), .int .i64 (n : Int), .int .i64 (sz : Int), .int .i64 re, .int .i64 wk, .int .i64 ke, .int .i64 va, .int .i64 po], blkOb g21 5 cs2, blkOb g18 30 #[.int .i64 (2 + 2 * (f : Int)), .int .i64 (n : Int), .int .i64 (sz : Int), .int .i64 re, .int .i64 wk, .int .i64 ke, .int .i64 va, .int .i64 po], blkOb g16 30 #[.int .i64 (2 + 2 * (f : Int)), .int .i64 (n : Int), .int .i64 (sz : Int), .int .i64 re, .int .i64 wk, .int .i64 ke, .int .i64 va, .int .i64 po], blkOb g15 30 #[.int .i64 (1 + 2 * (s : Int)), .int .i64 (n : Int), .int .i64 (sz : Int), .int .i64 re, .int .i64 wk, .int .i64 ke, .int .i64 va, .int .i64 po], blkOb g14 30 #[.int .i64 (2 + 2 * (f : Int)), .int .i64 (n : Int), .int .i64 (sz : Int), .int .i64 re, .int .i64 wk, .int .i64 ke, .int .i64 va, .int .i64 po], blkOb g11 26 #[.int .i64 (n : Int), .int .i64 (sz : Int), .int .i64 re, .int .i64 wk, .int .i64 ke, .int .i64 va, .int .i64 po], blkOb g5 22 #[.int .u8 (n8 (b 0)), .int .u8 (n8 (b 1)), .int .u8 (n8 (b 2)), .int .u8 (n8 (b 3)), .int .u8 (n8 (b 4)), .int .u8 (n8 (b 5)), .int .u8 (n8 (b 6))]])) := by
    show Sep _ _ _ _
    rw [hW28]
    exact (H28.out.newBlk g26 30 #[.int .i64 0, .int .i64 0, .int .i64 0, .int .i64 0, .int .i64 0, .int .i64 0, .int .i64 0, .int .i64 0] hg26).perm (.swap _ _ _)
  go_upto_region 29 with fail
  rw [← hg26, ← hW28]
  clear hg26 hW28
  go_wp2_with fail
  refine (lt_adv H28b.out (AllCells.cons (cellOb_blk _ _ _) (AllCells.cons (cellOb_row _ _ _ _ _) (AllCells.cons (cellOb_blk _ _ _) (AllCells.cons (cellOb_blk _ _ _) (AllCells.cons (cellOb_blk _ _ _) (AllCells.cons (cellOb_blk _ _ _) (AllCells.cons (cellOb_blk _ _ _) (AllCells.cons (cellOb_blk _ _ _) (AllCells.cons (cellOb_blk _ _ _) (AllCells.cons (cellOb_blk _ _ _) AllCells.nil)))))))))) hx5.out 1 5 0 0 0 0 0 0 0 0 HK.out.v6).mono ?_
  rintro e w29 ⟨rfl, L29, hs⟩
  have H29 := Lib.hid hs
  clear hs
  obtain ⟨g28, hg28⟩ : ∃ g28, g28 = w29.heap.size := ⟨_, rfl⟩
  obtain ⟨W29, hW29⟩ : ∃ W29 : World, W29 = w29.alloc (.cells #[.int .i64 0, .int .i64 0, .int .i64 0, .int .i64 0, .int .i64 0, .int .i64 0, .int .i64 0, .int .i64 0] 30) := ⟨_, rfl⟩
  have H29b : Hid (Sep w.heap.size w W29 (devOb v L29 X6 :: [blkOb g28 30 #[.int .i64 0, .int .i64 0, .int .i64 0, .int .i64 0, .int .i64 0, .int .i64 0, .int .i64 0, .int .i64 0], blkOb g26 30 #[.int .i64 0, .int .i64 0, .int .i64 0, .int .i64 0, .int .i64 0, .int .i64 0, .int .i64 0, .int .i64 0], rowOb 5 1 (.slice A24 ln c24) ln (u8s ((encOf (odB ⟨(n : Int), (sz : Int), re, wk, ke, va, po⟩ s)).take ln)), blkOb g22 30 #[.int .i64 (1 + 2 * (s : Int)), .int .i64 (n : Int), .int .i64 (sz : Int), .int .i64 re, .int .i64 wk, .int .i64 ke, .int .i64 va, .int .i64 po], blkOb g21 5 cs2, blkOb g18 30 #[.int .i64 (2 + 2 * (f : Int)), .int .i64 (n : Int), .int .i64 (sz : Int), .int .i64 re, .int .i64 wk, .int .i64 ke, .int .i64 va, .int .i64 po], blkOb g16 30 #[.int .i64 (2 + 2 * (f : Int)), .int .i64 (n : Int), .int .i64 (sz : Int), .int .i64 re, .int .i64 wk, .int .i64 ke, .int .i64 va, .int .i64 po], blkOb g15 30 #[.int .i64 (1 + 2 * (s : Int)), .int .i64 (n : Int), .int .i64 (sz : Int), .int .i64 re, .int .i64 wk, .int .i64 ke, .int .i64 va, .int .i64 po], blkOb g14 30 #[.int .i64 (2 + 2 * (f : Int)), .int .i64 (n : Int), .int .i64 (sz : Int), .int .i64 re, .int .i64 wk, .int .i64 ke, .int .i64 va, .int .i64 po], blkOb g11 26 #[.int .i64 (n : Int), .int .i64 (sz : Int), .int .i64 re, .int .i64 wk, .int .i64 ke, .int .i64 va, .int .i64 po], blkOb g5 22 #[.int .u8 (n8 (b 0)), .int .u8 (n8 (b 1)), .int .u8 (n8 (b 2)), .int .u8 (n8 (b 3)), .int .u8 (n8 (b 4)), .int .u8 (n8 (b 5)), .int .u8 (n8 (b 6))]])) := by
    show Sep _ _ _ _
    rw [hW29]
    exact (H29.out.newBlk g28 30 #[.int .i64 0, .int .i64 0, .int .i64 0, .int .i64 0, .int .i64 0, .int .i64 0, .int .i64 0, .int .i64 0] hg28).perm (.swap _ _ _)
  go_upto_region 30 with fail
  rw [← hg28, ← hW29]
  clear hg28 hW29
  have kg26 : Blk W29 g26 30 #[.int .i64 0, .int .i64 0, .int .i64 0, .int .i64 0, .int .i64 0, .int .i64 0, .int .i64 0, .int .i64 0] := H29b.out.get (.tail _ (.tail _ (.head _)))
  have q96 : W29.cell? ⟨g26, 0, none⟩ = some (.int .i64 0) := kg26.cell 0
  have q97 : W29.cell? ⟨g26, 1, none⟩ = some (.int .i64 0) := kg26.cell 1
  have q98 : W29.cell? ⟨g26, 2, none⟩ = some (.int .i64 0) := kg26.cell 2
  have q99 : W29.cell? ⟨g26, 3, none⟩ = some (.int .i64 0) := kg26.cell 3
  have q100 : W29.cell? ⟨g26, 4, none⟩ = some (.int .i64 0) := kg26.cell 4
  have q101 : W29.cell? ⟨g26, 5, none⟩ = some (.int .i64 0) := kg26.cell 5
  have q102 : W29.cell? ⟨g26, 6, none⟩ = some (.int .i64 0) := kg26.cell 6
  have q103 : W29.cell? ⟨g26, 7, none⟩ = some (.int .i64 0) := kg26.cell 7
  clear kg26
  go_wp2_with fail
  refine (lt_ops H29b.out).mono ?_
  rintro e w30 ⟨rfl, hs⟩
  have H30 := Lib.hid hs
  clear hs
  clear q96 q97 q98 q99 q100 q101 q102 q103
  go_wp2_with fail
  refine (works_any _).mono ?_
  rintro e w37 ⟨rfl, hb⟩
  have H37 := Lib.hid (H30.out.below hb)
  clear hb
  go_wp2_with fail
  go_ret
  exact ⟨rfl, H37.out.bel⟩
theorem u32_nat_wf {n : Int} (h : (Lit.int .u32 n).wf = true) : ∃ f : Nat, n = (f : Int) ∧ f < 4294967296 := by
  simp [Lit.wf, IntKind.min, IntKind.max, IntKind.signed, IntKind.bits] at h
  exact ⟨n.toNat, by omega, by omega⟩
theorem DualcopyReads_walk (v0 v1 v2 v3 v4 : Value) (w : World) (h0 : ArgIn Try.prog w 22 v0) (h1 : ArgIn Try.prog w 57 v1) (h2 : ArgIn Try.prog w 57 v2) (h3 : ArgIn Try.prog w 5 v3) (h4 : ArgIn Try.prog w 5 v4) :
    Calls Try.prog 6 #[v0, v1, v2, v3, v4] w fun e w' => e = .returned (.bool true) ∧ Below w.heap.size w w' := by
  obtain ⟨b, rfl⟩ := seven_arg h0
  obtain ⟨y1, rfl, k1⟩ := h1.int (k := .u32) Try.underlying57
  obtain ⟨y2, rfl, k2⟩ := h2.int (k := .u32) Try.underlying57
  obtain ⟨y3, rfl, k3⟩ := h3.int (k := .u8) Try.underlying5
  obtain ⟨y4, rfl, k4⟩ := h4.int (k := .u8) Try.underlying5
  obtain ⟨f, rfl, hf⟩ := u32_nat_wf k1
  obtain ⟨s, rfl, hs⟩ := u32_nat_wf k2
  obtain ⟨cb, rfl⟩ := u8_of_wf k3
  obtain ⟨lb, rfl⟩ := u8_of_wf k4
  obtain ⟨n, hn, hn4, hn9⟩ := smallC_slots b
  obtain ⟨sz, hz, hs1, hs2⟩ := smallC_size b
  obtain ⟨c, hc⟩ : ∃ c, smallC b = c := ⟨_, rfl⟩
  rw [hc] at hn hz
  obtain ⟨e0, e1, re, wk, ke, va, po⟩ := c
  dsimp only at hn hz
  subst hn hz
  have i1 := cb.isLt
  have i2 := lb.isLt
  have q1 : n8 cb % 64 = ((cb.toNat % 64 : Nat) : Int) := by rw [n8_nat]; omega
  have q2 : n8 cb / 64 = ((cb.toNat / 64 : Nat) : Int) := by rw [n8_nat]; omega
  have q3 : n8 lb % 64 = ((lb.toNat % 64 : Nat) : Int) := by rw [n8_nat]; omega
  by_cases hlt : (2 + 2 * (f : Int)) < (1 + 2 * (s : Int))
  · exact DualcopyReads_k1 b n sz re wk ke va po hc hn4 hn9 hs1 hs2 f s hf hs hlt cb lb _ _ _ q1 (by omega) q2 (by omega) q3 (by omega) w
  · exact DualcopyReads_k2 b n sz re wk ke va po hc hn4 hn9 hs1 hs2 f s hf hs hlt cb lb _ _ _ q1 (by omega) q2 (by omega) q3 (by omega) w
end Go.Proofs.Ytnopljanpjmbgaa
