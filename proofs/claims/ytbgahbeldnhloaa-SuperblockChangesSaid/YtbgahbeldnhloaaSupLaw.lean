/-
  What the laws of the superblock are told of their arguments; the superblock of a draft. No condition.
-/
import Derived.Test.YtbgahbeldnhloaaSupWorks
import Derived.Test.YtbgahbeldnhloaaArgs
import Derived.BigRegion
namespace Go.Proofs.Ytbgahbeldnhloaa
open Go.RowKit Drum
set_option linter.unusedVariables false
theorem u64_of_wf {n : Int} (h : (Lit.int .u64 n).wf = true) : ∃ m : Nat, m < 18446744073709551616 ∧ n = (m : Int) := by
  simp [Lit.wf, IntKind.min, IntKind.max, IntKind.signed, IntKind.bits] at h
  exact ⟨n.toNat, by omega, by omega⟩
theorem u16n_of_wf {n : Int} (h : (Lit.int .u16 n).wf = true) : ∃ m : Nat, m < 65536 ∧ n = (m : Int) := by
  simp [Lit.wf, IntKind.min, IntKind.max, IntKind.signed, IntKind.bits] at h
  exact ⟨n.toNat, by omega, by omega⟩
theorem u32_of_wf {n : Int} (h : (Lit.int .u32 n).wf = true) : ∃ b : W32, n = n32 b := by
  simp [Lit.wf, IntKind.min, IntKind.max, IntKind.signed, IntKind.bits] at h
  exact ⟨BitVec.ofNat 32 n.toNat, by unfold n32; simp; omega⟩
theorem list8 {l : List Value} (h : l.length = 8) : ∃ a b c d e f g i, l = [a, b, c, d, e, f, g, i] := by
  match l, h with
  | [a, b, c, d, e, f, g, i], _ => exact ⟨a, b, c, d, e, f, g, i, rfl⟩
theorem blk_arg {w : World} {v : Value} (h : ArgIn Try.prog w 25 v) : ∃ b : Bk, v = .agg (bkv b) ∧ b.wf := by
  obtain ⟨cs, rfl, hl, hf⟩ := h.struct Try.underlying25
  have hC : Try.prog.cellsOf 25 = 8 := by kernel_rfl
  have hC1 : Try.prog.cellsOf 2 = 1 := by kernel_rfl
  have hC2 : Try.prog.cellsOf 23 = 7 := by kernel_rfl
  have hC3 : Try.prog.cellsOf 3 = 1 := by kernel_rfl
  rw [hC] at hl
  obtain ⟨a, b, c, d, e, f, g, i, hx⟩ := list8 hl
  rw [hx] at hf
  have g0 : Rd Try.prog w 2 [a] := by simpa [hC1] using hf 0 _ rfl
  have g1 : Rd Try.prog w 23 [b, c, d, e, f, g, i] := by simpa [hC2] using hf 1 _ rfl
  obtain ⟨_, hg⟩ := Rd.struct Try.underlying23 g1
  have k0 : Rd Try.prog w 3 [b] := by simpa [hC3] using hg 0 _ rfl
  have k1 : Rd Try.prog w 3 [c] := by simpa [hC3] using hg 1 _ rfl
  have k2 : Rd Try.prog w 3 [d] := by simpa [hC3] using hg 2 _ rfl
  have k3 : Rd Try.prog w 3 [e] := by simpa [hC3] using hg 3 _ rfl
  have k4 : Rd Try.prog w 3 [f] := by simpa [hC3] using hg 4 _ rfl
  have k5 : Rd Try.prog w 3 [g] := by simpa [hC3] using hg 5 _ rfl
  have k6 : Rd Try.prog w 3 [i] := by simpa [hC3] using hg 6 _ rfl
  obtain ⟨z, ez, wz⟩ := Rd.int (k := .i64) Try.underlying2 g0
  obtain ⟨y0, e0, w0⟩ := Rd.int (k := .i64) Try.underlying3 k0
  obtain ⟨y1, e1, w1⟩ := Rd.int (k := .i64) Try.underlying3 k1
  obtain ⟨y2, e2, w2⟩ := Rd.int (k := .i64) Try.underlying3 k2
  obtain ⟨y3, e3, w3⟩ := Rd.int (k := .i64) Try.underlying3 k3
  obtain ⟨y4, e4, w4⟩ := Rd.int (k := .i64) Try.underlying3 k4
  obtain ⟨y5, e5, w5⟩ := Rd.int (k := .i64) Try.underlying3 k5
  obtain ⟨y6, e6, w6⟩ := Rd.int (k := .i64) Try.underlying3 k6
  refine ⟨⟨z, ⟨y0, y1, y2, y3, y4, y5, y6⟩⟩, ?_, i64_of_wf wz, ?_⟩
  · congr 1
    apply Array.toList_inj.1
    rw [hx]
    simp only [List.cons.injEq, and_true] at ez e0 e1 e2 e3 e4 e5 e6
    rw [ez, e0, e1, e2, e3, e4, e5, e6]
    rfl
  · intro n hn
    simp only [Cf.nums, List.mem_cons, List.not_mem_nil, or_false] at hn
    rcases hn with rfl | rfl | rfl | rfl | rfl | rfl | rfl
    · exact i64_of_wf w0
    · exact i64_of_wf w1
    · exact i64_of_wf w2
    · exact i64_of_wf w3
    · exact i64_of_wf w4
    · exact i64_of_wf w5
    · exact i64_of_wf w6
/-- A draft's numbers. -/
structure Dr where
  e : Nat
  s : Nat
  z : Nat
  r : Nat
  w : Nat
  k : Nat
  v : Nat
  p : Nat
structure Dr.wf (d : Dr) : Prop where
  e : d.e < 18446744073709551616
  s : d.s < 65536
  z : d.z < 65536
  r : d.r < 65536
  w : d.w < 65536
  k : d.k < 65536
  v : d.v < 65536
  p : d.p < 65536
def drv (d : Dr) : Array Value := #[.int .u64 (d.e : Int), .int .u16 (d.s : Int), .int .u16 (d.z : Int), .int .u16 (d.r : Int), .int .u16 (d.w : Int), .int .u16 (d.k : Int), .int .u16 (d.v : Int), .int .u16 (d.p : Int)]
theorem draft_arg {w : World} {v : Value} (h : ArgIn Try.prog w 49 v) : ∃ d : Dr, v = .agg (drv d) ∧ d.wf := by
  obtain ⟨cs, rfl, hl, hf⟩ := h.struct Try.underlying49
  have hC : Try.prog.cellsOf 49 = 8 := by kernel_rfl
  have hC1 : Try.prog.cellsOf 46 = 1 := by kernel_rfl
  have hC2 : Try.prog.cellsOf 47 = 1 := by kernel_rfl
  rw [hC] at hl
  obtain ⟨a, b, c, d, e, f, g, i, hx⟩ := list8 hl
  rw [hx] at hf
  have k0 : Rd Try.prog w 46 [a] := by simpa [hC1] using hf 0 _ rfl
  have k1 : Rd Try.prog w 47 [b] := by simpa [hC2] using hf 1 _ rfl
  have k2 : Rd Try.prog w 47 [c] := by simpa [hC2] using hf 2 _ rfl
  have k3 : Rd Try.prog w 47 [d] := by simpa [hC2] using hf 3 _ rfl
  have k4 : Rd Try.prog w 47 [e] := by simpa [hC2] using hf 4 _ rfl
  have k5 : Rd Try.prog w 47 [f] := by simpa [hC2] using hf 5 _ rfl
  have k6 : Rd Try.prog w 47 [g] := by simpa [hC2] using hf 6 _ rfl
  have k7 : Rd Try.prog w 47 [i] := by simpa [hC2] using hf 7 _ rfl
  obtain ⟨y0, e0, w0⟩ := Rd.int (k := .u64) Try.underlying46 k0
  obtain ⟨y1, e1, w1⟩ := Rd.int (k := .u16) Try.underlying47 k1
  obtain ⟨y2, e2, w2⟩ := Rd.int (k := .u16) Try.underlying47 k2
  obtain ⟨y3, e3, w3⟩ := Rd.int (k := .u16) Try.underlying47 k3
  obtain ⟨y4, e4, w4⟩ := Rd.int (k := .u16) Try.underlying47 k4
  obtain ⟨y5, e5, w5⟩ := Rd.int (k := .u16) Try.underlying47 k5
  obtain ⟨y6, e6, w6⟩ := Rd.int (k := .u16) Try.underlying47 k6
  obtain ⟨y7, e7, w7⟩ := Rd.int (k := .u16) Try.underlying47 k7
  obtain ⟨m0, h0, rfl⟩ := u64_of_wf w0
  obtain ⟨m1, h1, rfl⟩ := u16n_of_wf w1
  obtain ⟨m2, h2, rfl⟩ := u16n_of_wf w2
  obtain ⟨m3, h3, rfl⟩ := u16n_of_wf w3
  obtain ⟨m4, h4, rfl⟩ := u16n_of_wf w4
  obtain ⟨m5, h5, rfl⟩ := u16n_of_wf w5
  obtain ⟨m6, h6, rfl⟩ := u16n_of_wf w6
  obtain ⟨m7, h7, rfl⟩ := u16n_of_wf w7
  refine ⟨⟨m0, m1, m2, m3, m4, m5, m6, m7⟩, ?_, h0, h1, h2, h3, h4, h5, h6, h7⟩
  congr 1
  apply Array.toList_inj.1
  rw [hx]
  simp only [List.cons.injEq, and_true] at e0 e1 e2 e3 e4 e5 e6 e7
  rw [e0, e1, e2, e3, e4, e5, e6, e7]
  rfl
/-- The superblock of a draft. -/
def Dr.least (d : Dr) : Nat := 32 + (1 + d.k % 32) + d.v % 513
def Dr.bk (d : Dr) : Bk := bkN (1 + d.e % 1099511627776) (2 + d.r % 7 + 2 + d.s % (32 - (2 + d.r % 7) - 1)) (d.least + d.z % (8192 - d.least + 1)) (2 + d.r % 7) (2 * d.least + d.w % (65536 - 2 * d.least + 1)) (1 + d.k % 32) (d.v % 513) (1 + d.p % 2)
theorem Dr.bk_ok (d : Dr) : d.bk.ok := by
  have hl : d.least ≤ 576 := by unfold Dr.least; omega
  have hz := Nat.mod_lt d.z (show 0 < 8192 - d.least + 1 by omega)
  have hw := Nat.mod_lt d.w (show 0 < 65536 - 2 * d.least + 1 by omega)
  have hr : d.r % 7 ≤ 6 := by omega
  have hs := Nat.mod_lt d.s (show 0 < 32 - (2 + d.r % 7) - 1 by omega)
  have he : d.least = 32 + (1 + d.k % 32) + d.v % 513 := rfl
  refine ⟨⟨by simp only [Dr.bk, bkN]; omega, by simp only [Dr.bk, bkN]; omega⟩, ?_⟩
  simp only [Cf.ok, Dr.bk, bkN]
  omega
theorem Dr.bk_wf (d : Dr) : d.bk.wf := by
  have h := d.bk_ok
  refine ⟨⟨by have := h.1; omega, by have := h.1; omega⟩, fun n hn => ?_⟩
  have := Cf.ok_nums h.2 n hn
  omega
set_option maxHeartbeats 4000000 in
theorem block_any (d : Dr) (hd : d.wf) (w : World) :
    Calls Try.prog 22 #[.agg (drv d)] w fun e w' => e = .returned (.agg (bkv d.bk)) ∧ Below w.heap.size w w' := by
  obtain ⟨e, s, z, r, ww, k, v, p⟩ := d
  obtain ⟨h0, h1, h2, h3, h4, h5, h6, h7⟩ := hd
  simp only at h0 h1 h2 h3 h4 h5 h6 h7
  unfold drv
  go_enter Try.func22, Try.ntmps22
  go_wp2_with fail
  obtain ⟨R, hR2, hR8, hR, HR⟩ : ∃ R : Nat, 2 ≤ R ∧ R ≤ 8 ∧ (2 + (r : Int) % 7) = (R : Int) ∧ Hid (R = 2 + r % 7) := ⟨2 + r % 7, by omega, by omega, by omega, rfl⟩
  obtain ⟨K, hK1, hK32, hK, HK⟩ : ∃ K : Nat, 1 ≤ K ∧ K ≤ 32 ∧ (1 + (k : Int) % 32) = (K : Int) ∧ Hid (K = 1 + k % 32) := ⟨1 + k % 32, by omega, by omega, by omega, rfl⟩
  obtain ⟨V, hV512, hV, HV⟩ : ∃ V : Nat, V ≤ 512 ∧ ((v : Int) % 513) = (V : Int) ∧ Hid (V = v % 513) := ⟨v % 513, by omega, by omega, rfl⟩
  obtain ⟨P, hP2, hP, HP⟩ : ∃ P : Nat, P ≤ 2 ∧ (1 + (p : Int) % 2) = (P : Int) ∧ Hid (P = 1 + p % 2) := ⟨1 + p % 2, by omega, by omega, rfl⟩
  simp only [hR, hK, hV, hP]
  clear hR hK hV hP
  obtain ⟨W0, hW0⟩ : ∃ W0 : World, W0 = ((w.alloc (.cells #[.int .u64 (e : Int), .int .u16 (s : Int), .int .u16 (z : Int), .int .u16 (r : Int), .int .u16 (ww : Int), .int .u16 (k : Int), .int .u16 (v : Int), .int .u16 (p : Int)] 49)).alloc (.cells #[.int .i64 0, .int .i64 0, .int .i64 0, .int .i64 0, .int .i64 0, .int .i64 0, .int .i64 0, .int .i64 0] 25)).alloc (.cells #[.int .i64 0, .int .i64 0, .int .i64 (R : Int), .int .i64 0, .int .i64 (K : Int), .int .i64 (V : Int), .int .i64 (P : Int)] 23) := ⟨_, rfl⟩
  rw [← hW0]
  have HB1 : Hid (Blk W0 w.heap.size 49 #[.int .u64 (e : Int), .int .u16 (s : Int), .int .u16 (z : Int), .int .u16 (r : Int), .int .u16 (ww : Int), .int .u16 (k : Int), .int .u16 (v : Int), .int .u16 (p : Int)]) := by rw [hW0]; exact ((Blk.new w _ _).alloc _).alloc _
  have HB2 : Hid (Blk W0 (w.heap.size + 1) 25 (bkv bk0)) := by rw [hW0]; exact (blk2 w _ _ _ _).alloc _
  have HB3 : Hid (Blk W0 (w.heap.size + 1 + 1) 23 #[.int .i64 0, .int .i64 0, .int .i64 (R : Int), .int .i64 0, .int .i64 (K : Int), .int .i64 (V : Int), .int .i64 (P : Int)]) := by
    rw [hW0]
    have := Blk.new ((w.alloc (.cells #[.int .u64 (e : Int), .int .u16 (s : Int), .int .u16 (z : Int), .int .u16 (r : Int), .int .u16 (ww : Int), .int .u16 (k : Int), .int .u16 (v : Int), .int .u16 (p : Int)] 49)).alloc (.cells #[.int .i64 0, .int .i64 0, .int .i64 0, .int .i64 0, .int .i64 0, .int .i64 0, .int .i64 0, .int .i64 0] 25)) 23 #[.int .i64 0, .int .i64 0, .int .i64 (R : Int), .int .i64 0, .int .i64 (K : Int), .int .i64 (V : Int), .int .i64 (P : Int)]
    rw [World.size_alloc, World.size_alloc] at this
    exact this
  have HBW : Hid (Below w.heap.size w W0) := by rw [hW0]; exact (((Below.refl w.heap.size w).alloc (Nat.le_refl _) _).alloc (by simp) _).alloc (by simp; omega) _
  clear hW0
  have q1 : W0.cell? ⟨w.heap.size, 1, none⟩ = some (.int .u16 (s : Int)) := HB1.out.cell 1
  have q2 : W0.cell? ⟨w.heap.size + 1 + 1, 2, none⟩ = some (.int .i64 (R : Int)) := HB3.out.cell 2
  have q0 : W0.cell? ⟨w.heap.size + 1 + 1, 0, none⟩ = some (.int .i64 0) := HB3.out.cell 0
  have f0 : W0.frozen? ⟨w.heap.size + 1 + 1, 0, none⟩ = false := HB3.out.frozen 0
  go_region
  obtain ⟨SL, hSL, HSL⟩ : ∃ SL : Nat, wrap64 ((R : Int) + 2 + (s : Int) % (32 - (R : Int) - 1)) = (SL : Int) ∧ Hid (SL = R + 2 + s % (32 - R - 1)) := by
    refine ⟨_, ?_, rfl⟩
    have hm := Nat.mod_lt s (show 0 < 32 - R - 1 by omega)
    have e : (s : Int) % (32 - (R : Int) - 1) = ((s % (32 - R - 1) : Nat) : Int) := by
      rw [Int.natCast_emod]; congr 1; omega
    rw [e, IntWalk.wrap64_in _ (by omega)]
    omega
  rw [hSL]
  clear hSL
  obtain ⟨W1, hW1⟩ : ∃ W1 : World, W1 = (W0.setCell ⟨w.heap.size + 1 + 1, 0, none⟩ (.int .i64 (SL : Int))).drew := ⟨_, rfl⟩
  rw [← hW1]
  have HC1 : Hid (Blk W1 w.heap.size 49 #[.int .u64 (e : Int), .int .u16 (s : Int), .int .u16 (z : Int), .int .u16 (r : Int), .int .u16 (ww : Int), .int .u16 (k : Int), .int .u16 (v : Int), .int .u16 (p : Int)]) := by rw [hW1]; exact (HB1.out.far (p := ⟨w.heap.size + 1 + 1, 0, none⟩) (by simp; omega) _).drew
  have HC2 : Hid (Blk W1 (w.heap.size + 1) 25 (bkv bk0)) := by rw [hW1]; exact (HB2.out.far (p := ⟨w.heap.size + 1 + 1, 0, none⟩) (by simp) _).drew
  have HC3 : Hid (Blk W1 (w.heap.size + 1 + 1) 23 #[.int .i64 (SL : Int), .int .i64 0, .int .i64 (R : Int), .int .i64 0, .int .i64 (K : Int), .int .i64 (V : Int), .int .i64 (P : Int)]) := by rw [hW1]; exact (HB3.out.set_ 0 _).drew
  have HCW : Hid (Below w.heap.size w W1) := by rw [hW1]; exact (HBW.out.setCell (p := ⟨w.heap.size + 1 + 1, 0, none⟩) (by simp; omega) _).drew
  clear hW1 q1 q2 q0 f0
  have q1 : W1.cell? ⟨w.heap.size, 2, none⟩ = some (.int .u16 (z : Int)) := HC1.out.cell 2
  have q2 : W1.cell? ⟨w.heap.size, 4, none⟩ = some (.int .u16 (ww : Int)) := HC1.out.cell 4
  have q3 : W1.cell? ⟨w.heap.size, 0, none⟩ = some (.int .u64 (e : Int)) := HC1.out.cell 0
  have r0 : W1.cell? ⟨w.heap.size + 1 + 1, 0, none⟩ = some (.int .i64 (SL : Int)) := HC3.out.cell 0
  have r1 : W1.cell? ⟨w.heap.size + 1 + 1, 1, none⟩ = some (.int .i64 0) := HC3.out.cell 1
  have r2 : W1.cell? ⟨w.heap.size + 1 + 1, 2, none⟩ = some (.int .i64 (R : Int)) := HC3.out.cell 2
  have r3 : W1.cell? ⟨w.heap.size + 1 + 1, 3, none⟩ = some (.int .i64 0) := HC3.out.cell 3
  have r4 : W1.cell? ⟨w.heap.size + 1 + 1, 4, none⟩ = some (.int .i64 (K : Int)) := HC3.out.cell 4
  have r5 : W1.cell? ⟨w.heap.size + 1 + 1, 5, none⟩ = some (.int .i64 (V : Int)) := HC3.out.cell 5
  have r6 : W1.cell? ⟨w.heap.size + 1 + 1, 6, none⟩ = some (.int .i64 (P : Int)) := HC3.out.cell 6
  have g1 : W1.frozen? ⟨w.heap.size + 1 + 1, 1, none⟩ = false := HC3.out.frozen 1
  have g3 : W1.frozen? ⟨w.heap.size + 1 + 1, 3, none⟩ = false := HC3.out.frozen 3
  obtain ⟨Z, hZ, HZ⟩ : ∃ Z : Nat, wrap64 (32 + (K : Int) + (V : Int) + (z : Int) % (8192 - (32 + (K : Int) + (V : Int)) + 1)) = (Z : Int) ∧ Hid (Z = 32 + K + V + z % (8192 - (32 + K + V) + 1)) := by
    refine ⟨_, ?_, rfl⟩
    have hm := Nat.mod_lt z (show 0 < 8192 - (32 + K + V) + 1 by omega)
    have e : (z : Int) % (8192 - (32 + (K : Int) + (V : Int)) + 1) = ((z % (8192 - (32 + K + V) + 1) : Nat) : Int) := by
      rw [Int.natCast_emod]; congr 1; omega
    rw [e, IntWalk.wrap64_in _ (by omega)]
    omega
  obtain ⟨Wk, hWk, HWk⟩ : ∃ Wk : Nat, wrap64 (2 * (32 + (K : Int) + (V : Int)) + (ww : Int) % (65536 - 2 * (32 + (K : Int) + (V : Int)) + 1)) = (Wk : Int) ∧ Hid (Wk = 2 * (32 + K + V) + ww % (65536 - 2 * (32 + K + V) + 1)) := by
    refine ⟨_, ?_, rfl⟩
    have hm := Nat.mod_lt ww (show 0 < 65536 - 2 * (32 + K + V) + 1 by omega)
    have e : (ww : Int) % (65536 - 2 * (32 + (K : Int) + (V : Int)) + 1) = ((ww % (65536 - 2 * (32 + K + V) + 1) : Nat) : Int) := by
      rw [Int.natCast_emod]; congr 1; omega
    rw [e, IntWalk.wrap64_in _ (by omega)]
    omega
  have HZ1 := Lib.hid hZ
  have HW1 := Lib.hid hWk
  clear hZ hWk
  have HC22 := fun (a b : Value) => (HC2.out.far (p := ⟨w.heap.size + 1 + 1, 1, none⟩) (by simp) a).far (p := ⟨w.heap.size + 1 + 1, 3, none⟩) (by simp) b
  have HCW2 := fun (a b : Value) => (HCW.out.setCell (p := ⟨w.heap.size + 1 + 1, 1, none⟩) (by simp; omega) a).setCell (p := ⟨w.heap.size + 1 + 1, 3, none⟩) (by simp; omega) b
  go_wp2_with (refine wpList_store_row rfl 25 _ _ rfl (w.heap.size + 1) _ rfl rfl 25 (bkv bk0) (HC22 _ _) (by kernel_rfl) rfl (by simp [Value.oneCell']) ?_)
  refine bodyPost_ret (results_blk rfl _ _ (w.heap.size + 1) 25 _ _ rfl (setRow_heap _ _ _ _ _ _ (HC22 _ _)) Try.underlying25 rfl (by kernel_rfl)) rfl ⟨?_, below_setRow (HCW2 _ _) (by omega) _⟩
  refine congrArg Ending.returned (congrArg Value.agg ?_)
  rw [HZ1.out, HW1.out, HSL.out, HZ.out, HWk.out, HR.out, HK.out, HV.out, HP.out]
  simp [bkv, Dr.bk, bkN, Dr.least]
end Go.Proofs.Ytbgahbeldnhloaa
