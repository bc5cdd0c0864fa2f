/-
  The walks of drumlinlaw17.Small and of the dualcopy law's policy; The walk of the dualcopy law's begun; The calls on a device, with the numbers of superblocks and configurations as letters; An argument of seven bytes; Reading a device's bytes, erasing and appending on it, with the answers as letters; The plain law of DualcopyAtomic: what the rounds of its loop keep, and what a round makes of it; More calls on a device among other objects: its operations' count, what is not synced, the encoding of a superblock, and equal bytes; The plain law of DualcopyTurns: what the rounds of its loop keep, and what a round makes of it.
-/
import Derived.Test.YtnopljanpjmbgaaGreatMP
import Derived.Deep.DeepCutAuto
import Derived.Test.YtnopljanpjmbgaaGreatMA
import Derived.Test.YtnopljanpjmbgaaGreatMB
import Derived.Test.YtnopljanpjmbgaaGreatML
import Derived.Test.YtnopljanpjmbgaaGreatME
namespace Go.Proofs.YtnopljanpjmbgaaGreat
open Go.RowKit Go.Shelf Drum
set_option linter.unusedVariables false
/-- The small configuration of numbers. -/
def smallK (r0 r1 r2 r3 r4 r5 r6 : Nat) : Cf := ⟨2 + (r0 : Int) + 2 + (r4 : Int), 16 + (16 + (2 + (r1 : Int)) + (r2 : Int)) + (r5 : Int), 2 + (r0 : Int), 2 * (16 + (2 + (r1 : Int)) + (r2 : Int) + 16) + (r6 : Int), 2 + (r1 : Int), (r2 : Int), 1 + (r3 : Int)⟩
/-- A small configuration of seven bytes. -/
def smallC (b : Fin 7 → BitVec 8) : Cf := smallK ((b 0).toNat % 2) ((b 1).toNat % 5) ((b 2).toNat % 24) ((b 3).toNat % 2) ((b 4).toNat % 5) (b 5).toNat (b 6).toNat
theorem smallC_ok (b : Fin 7 → BitVec 8) : (smallC b).ok := by
  unfold smallC smallK Cf.ok
  dsimp only
  have := (b 5).isLt
  have := (b 6).isLt
  omega
theorem smallC_wf (b : Fin 7 → BitVec 8) : (smallC b).wf := fun n hn => by
  have := Cf.ok_nums (smallC_ok b) n hn
  omega
/-- The slots of a small configuration. -/
theorem smallC_slots (b : Fin 7 → BitVec 8) : ∃ n : Nat, (smallC b).slots = (n : Int) ∧ 4 ≤ n ∧ n ≤ 9 := by
  refine ⟨2 + (b 0).toNat % 2 + 2 + (b 4).toNat % 5, ?_, by omega, by omega⟩
  show 2 + (((b 0).toNat % 2 : Nat) : Int) + 2 + (((b 4).toNat % 5 : Nat) : Int) = _
  omega
theorem smallC_size (b : Fin 7 → BitVec 8) : ∃ n : Nat, (smallC b).size = (n : Int) ∧ 34 ≤ n ∧ n ≤ 400 := by
  have := (b 5).isLt
  refine ⟨16 + (16 + (2 + (b 1).toNat % 5) + (b 2).toNat % 24) + (b 5).toNat, ?_, by omega, by omega⟩
  show 16 + (16 + (2 + (((b 1).toNat % 5 : Nat) : Int)) + (((b 2).toNat % 24 : Nat) : Int)) + (((b 5).toNat : Nat) : Int) = _
  omega
def sevenV (b : Fin 7 → BitVec 8) : Value := .agg #[.int .u8 (n8 (b 0)), .int .u8 (n8 (b 1)), .int .u8 (n8 (b 2)), .int .u8 (n8 (b 3)), .int .u8 (n8 (b 4)), .int .u8 (n8 (b 5)), .int .u8 (n8 (b 6))]
set_option maxRecDepth 100000 in
set_option maxHeartbeats 8000000 in
theorem small_k (b0 b1 b2 b3 b4 b5 b6 : BitVec 8) (r0 r1 r2 r3 r4 r5 r6 : Nat) (h0 : n8 b0 % 2 = (r0 : Int)) (h1 : n8 b1 % 5 = (r1 : Int)) (h2 : n8 b2 % 24 = (r2 : Int)) (h3 : n8 b3 % 2 = (r3 : Int)) (h4 : n8 b4 % 5 = (r4 : Int)) (h5 : n8 b5 = (r5 : Int)) (h6 : n8 b6 = (r6 : Int))
    (g0 : r0 < 2) (g1 : r1 < 5) (g2 : r2 < 24) (g3 : r3 < 2) (g4 : r4 < 5) (g5 : r5 < 256) (g6 : r6 < 256) (w : World) :
    Calls Tryz.prog 31 #[.agg #[.int .u8 (n8 b0), .int .u8 (n8 b1), .int .u8 (n8 b2), .int .u8 (n8 b3), .int .u8 (n8 b4), .int .u8 (n8 b5), .int .u8 (n8 b6)]] w fun e w' => e = .returned (.agg (cfv (smallK r0 r1 r2 r3 r4 r5 r6))) ∧ Below w.heap.size w w' := by
  obtain ⟨i0, j0⟩ := n8_bd b0
  obtain ⟨i1, j1⟩ := n8_bd b1
  obtain ⟨i2, j2⟩ := n8_bd b2
  obtain ⟨i3, j3⟩ := n8_bd b3
  obtain ⟨i4, j4⟩ := n8_bd b4
  rw [h5, h6]
  go_enter Tryz.func31, Tryz.ntmps31
  go_wp2_with fail
  exact bodyPost_ret (results_blk rfl _ _ (w.heap.size + 1) 26 (cfv (smallK r0 r1 r2 r3 r4 r5 r6)) _ rfl ((blk2 w _ _ _ _).alloc _) Tryz.underlying26 rfl (by kernel_rfl)) rfl ⟨rfl, by go_grown⟩
theorem small_any (b : Fin 7 → BitVec 8) (w : World) :
    Calls Tryz.prog 31 #[sevenV b] w fun e w' => e = .returned (.agg (cfv (smallC b))) ∧ Below w.heap.size w w' := by
  have hb : ∀ i, (b i).toNat < 256 := fun i => (b i).isLt
  exact small_k (b 0) (b 1) (b 2) (b 3) (b 4) (b 5) (b 6) _ _ _ _ _ _ _ (by rw [n8_nat]; omega) (by rw [n8_nat]; omega) (by rw [n8_nat]; omega) (by rw [n8_nat]; omega) (by rw [n8_nat]; omega) (n8_nat _) (n8_nat _)
    (Nat.mod_lt _ (by omega)) (Nat.mod_lt _ (by omega)) (Nat.mod_lt _ (by omega)) (Nat.mod_lt _ (by omega)) (Nat.mod_lt _ (by omega)) (hb 5) (hb 6) w
set_option maxHeartbeats 400000 in
theorem policy_any (b : BitVec 8) (w : World) :
    Calls Tryz.prog 11 #[.int .u8 (n8 b)] w fun e w' => e = .returned (.int .i64 (((1 + b.toNat % 2 : Nat)) : Int)) ∧ w = w' := by
  obtain ⟨r, hr⟩ : ∃ r, b.toNat % 2 = r := ⟨_, rfl⟩
  have hr2 : r < 2 := by omega
  have hb : n8 b % 2 = (r : Int) := by rw [n8_nat]; omega
  obtain ⟨i0, j0⟩ := n8_bd b
  rw [hr]
  clear hr
  go_enter Tryz.func11, Tryz.ntmps11
  go_wp2_with fail
  go_ret
  exact ⟨by congr 2, rfl⟩
end Go.Proofs.YtnopljanpjmbgaaGreat
namespace Go.Proofs.YtnopljanpjmbgaaGreat
open Go.RowKit Go.Shelf Drum
set_option linter.unusedVariables false
theorem results_tmp_blk {P : Program} {fn : Func} {p u : Tmp} {ty : TypeId} (h : fn.results = #[.tmp u, .cell p ty]) (tmps : Array Value) (w : World) (g : Nat) (t : TypeId) (cs : Array Value) (d : TypeDesc)
    (hp : tmps.getD p undef = .pointer (some ⟨g, 0, none⟩)) (hg : Blk w g t cs)
    (hu : P.underlying ty = some d) (hd : (match d with | .struct _ | .array _ _ => true | _ => false) = true) (hi : (P.info? ty).map (·.size) = some cs.size) :
    (results fn tmps).run P w = .ok (.tuple #[tmps.getD u undef, .agg cs]) w := by
  have e : (results fn tmps).run P w = ((asAddr (tmps.getD p undef)).run P w).andThen fun a w₁ => ((loadVar ty a).run P w₁).andThen fun v w₂ => .ok (.tuple #[tmps.getD u undef, v]) w₂ := by
    simp only [results, h]
    simp [Sem.run_bind, Result.andThen]
  rw [e, hp]
  simp only [asAddr, Sem.run_pure, Result.andThen_ok, run_loadVar_row w g t ty cs (0, 0) d hg hu hd hi]
/-- A device that has just begun. -/
structure Begun (X : DevD) (n : Nat) (c : Cf) : Prop where
  rd : Ready X n
  dur : Dur2 X n
  tm : X.T = none
  ops : X.ops = 6
  cur : Cur X n ⟨2, c⟩
  d0 : X.D n = ⟨64, encOf ⟨2, c⟩, 64⟩
  d1 : X.D (n + 1) = ⟨64, encOf ⟨1, c⟩, 64⟩
  ok : c.ok
  sl : c.slots = (n : Int)
  n4 : 4 ≤ n
  n9 : n ≤ 9
  rest : ∀ j, j < n → (X.D j).bytes = [] ∧ (X.D j).dur = 0 ∧ ((X.D j).size : Int) = c.size
section
variable {B : Nat} {w0 w w' : World} {os : List Ob}
set_option maxRecDepth 100000 in
set_option maxHeartbeats 8000000 in
theorem begun_k (h : Sep B w0 w os) (hC : AllCells os) (b : Fin 7 → BitVec 8) (n sz : Nat) (re wk ke va po : Int) (hc : smallC b = ⟨(n : Int), (sz : Int), re, wk, ke, va, po⟩) (hn4 : 4 ≤ n) (hn9 : n ≤ 9) (hs1 : 34 ≤ sz) (hs2 : sz ≤ 400) :
    Calls Tryz.prog 5 #[.agg #[.int .u8 (n8 (b 0)), .int .u8 (n8 (b 1)), .int .u8 (n8 (b 2)), .int .u8 (n8 (b 3)), .int .u8 (n8 (b 4)), .int .u8 (n8 (b 5)), .int .u8 (n8 (b 6))]] w fun e w' => ∃ v L X, e = .returned (.tuple #[.pointer (some ⟨v, 0, none⟩), .agg #[.int .i64 (n : Int), .int .i64 (sz : Int), .int .i64 re, .int .i64 wk, .int .i64 ke, .int .i64 va, .int .i64 po]]) ∧ Begun X n ⟨(n : Int), (sz : Int), re, wk, ke, va, po⟩ ∧ Sep B w0 w' (devOb v L X :: os) := by
  have hok := smallC_ok b
  have hwf := smallC_wf b
  rw [hc] at hok hwf
  have HSM : Hid (∀ W, Calls Tryz.prog 31 #[.agg #[.int .u8 (n8 (b 0)), .int .u8 (n8 (b 1)), .int .u8 (n8 (b 2)), .int .u8 (n8 (b 3)), .int .u8 (n8 (b 4)), .int .u8 (n8 (b 5)), .int .u8 (n8 (b 6))]] W fun e w' => e = .returned (.agg #[.int .i64 (n : Int), .int .i64 (sz : Int), .int .i64 re, .int .i64 wk, .int .i64 ke, .int .i64 va, .int .i64 po]) ∧ Below W.heap.size W w') := fun W => by
    have := small_any b W
    rw [hc] at this
    exact this
  obtain ⟨hr0, hd0, ht0, ho0, he0, he1⟩ := ready_new n sz
  obtain ⟨X, hb, hr, hd, ht, ho, hcur, hD0, hD1, hDr⟩ := begin_ok hr0 ht0 ⟨(n : Int), (sz : Int), re, wk, ke, va, po⟩ hok rfl he0 he1
  have HBG : Hid (Begun X n ⟨(n : Int), (sz : Int), re, wk, ke, va, po⟩) := ⟨hr, hd, ht, by rw [ho, ho0], hcur, hD0, hD1, hok, rfl, hn4, hn9, fun j hj => by
    rw [hDr j hj]
    refine ⟨rfl, rfl, ?_⟩
    show ((if j < n then sz else 64 : Nat) : Int) = (sz : Int)
    rw [if_pos hj]⟩
  have HB := Lib.hid hb
  have HW := Lib.hid hwf
  obtain ⟨b1, hb1⟩ : ∃ b1, b1 = w.heap.size := ⟨_, rfl⟩
  obtain ⟨b3, hb3⟩ : ∃ b3, b3 = w.heap.size + 1 := ⟨_, rfl⟩
  obtain ⟨W1, hW1⟩ : ∃ W1 : World, W1 = (w.alloc (.cells #[.int .u8 (n8 (b 0)), .int .u8 (n8 (b 1)), .int .u8 (n8 (b 2)), .int .u8 (n8 (b 3)), .int .u8 (n8 (b 4)), .int .u8 (n8 (b 5)), .int .u8 (n8 (b 6))] 22)).alloc (.cells #[.int .i64 0, .int .i64 0, .int .i64 0, .int .i64 0, .int .i64 0, .int .i64 0, .int .i64 0] 26) := ⟨_, rfl⟩
  have H1 : Hid (Sep B w0 W1 (blkOb b3 26 #[.int .i64 0, .int .i64 0, .int .i64 0, .int .i64 0, .int .i64 0, .int .i64 0, .int .i64 0] :: blkOb b1 22 #[.int .u8 (n8 (b 0)), .int .u8 (n8 (b 1)), .int .u8 (n8 (b 2)), .int .u8 (n8 (b 3)), .int .u8 (n8 (b 4)), .int .u8 (n8 (b 5)), .int .u8 (n8 (b 6))] :: os)) := by
    show Sep _ _ _ _
    rw [hW1]
    exact (h.newBlk b1 _ _ hb1).newBlk b3 _ _ (by rw [World.size_alloc]; exact hb3)
  have HCC := Lib.hid hC
  clear hr0 hd0 ht0 ho0 he0 he1 hr hd ht ho hcur hD0 hD1 hDr hok hwf hb hc h hC
  go_enter Tryz.func5, Tryz.ntmps5
  go_wp2_with fail
  rw [← hb3, ← hb1, ← hW1]
  clear hW1 hb1 hb3
  refine (HSM.out _).mono ?_
  rintro e w2 ⟨rfl, hbl⟩
  obtain ⟨b4, hb4⟩ : ∃ b4, b4 = w2.heap.size := ⟨_, rfl⟩
  obtain ⟨W3, hW3⟩ : ∃ W3 : World, W3 = w2.alloc (.cells #[.int .i64 (n : Int), .int .i64 (sz : Int), .int .i64 re, .int .i64 wk, .int .i64 ke, .int .i64 va, .int .i64 po] 26) := ⟨_, rfl⟩
  have H3 : Hid (Sep B w0 W3 (blkOb b4 26 #[.int .i64 (n : Int), .int .i64 (sz : Int), .int .i64 re, .int .i64 wk, .int .i64 ke, .int .i64 va, .int .i64 po] :: blkOb b3 26 #[.int .i64 0, .int .i64 0, .int .i64 0, .int .i64 0, .int .i64 0, .int .i64 0, .int .i64 0] :: os)) := by
    show Sep _ _ _ _
    rw [hW3]
    exact ((H1.out.below hbl).newBlk b4 _ _ hb4).sub (.cons_cons _ (.cons_cons _ (.cons _ (List.Sublist.refl _))))
  clear hbl HSM
  go_upto_region 2 with fail
  rw [← hb4, ← hW3]
  clear hb4 hW3
  have k4 : Blk W3 b4 26 #[.int .i64 (n : Int), .int .i64 (sz : Int), .int .i64 re, .int .i64 wk, .int .i64 ke, .int .i64 va, .int .i64 po] := H3.out.get (.head _)
  have q0 : W3.cell? ⟨b4, 0, none⟩ = some (.int .i64 (n : Int)) := k4.cell 0
  have q1 : W3.cell? ⟨b4, 1, none⟩ = some (.int .i64 (sz : Int)) := k4.cell 1
  have q2 : W3.cell? ⟨b4, 2, none⟩ = some (.int .i64 re) := k4.cell 2
  have q3 : W3.cell? ⟨b4, 3, none⟩ = some (.int .i64 wk) := k4.cell 3
  have q4 : W3.cell? ⟨b4, 4, none⟩ = some (.int .i64 ke) := k4.cell 4
  have q5 : W3.cell? ⟨b4, 5, none⟩ = some (.int .i64 va) := k4.cell 5
  have q6 : W3.cell? ⟨b4, 6, none⟩ = some (.int .i64 po) := k4.cell 6
  have CN := Lib.hid (sep_vnew H3.out n sz (by omega) (by omega) (by omega) (by omega))
  clear k4
  go_wp2_with fail
  refine CN.out.mono ?_
  rintro e w5 ⟨v, L, rfl, hs⟩
  have H5 := Lib.hid hs
  have k4 : Blk w5 b4 26 #[.int .i64 (n : Int), .int .i64 (sz : Int), .int .i64 re, .int .i64 wk, .int .i64 ke, .int .i64 va, .int .i64 po] := hs.get (.tail _ (.head _))
  clear hs CN q0 q1 q2 q3 q4 q5 q6
  have q0 : w5.cell? ⟨b4, 0, none⟩ = some (.int .i64 (n : Int)) := k4.cell 0
  have q1 : w5.cell? ⟨b4, 1, none⟩ = some (.int .i64 (sz : Int)) := k4.cell 1
  have q2 : w5.cell? ⟨b4, 2, none⟩ = some (.int .i64 re) := k4.cell 2
  have q3 : w5.cell? ⟨b4, 3, none⟩ = some (.int .i64 wk) := k4.cell 3
  have q4 : w5.cell? ⟨b4, 4, none⟩ = some (.int .i64 ke) := k4.cell 4
  have q5 : w5.cell? ⟨b4, 5, none⟩ = some (.int .i64 va) := k4.cell 5
  have q6 : w5.cell? ⟨b4, 6, none⟩ = some (.int .i64 po) := k4.cell 6
  have CB : Hid (Calls Tryz.prog 18 #[.pointer (some ⟨v, 0, none⟩), .agg #[.int .i64 (n : Int), .int .i64 (sz : Int), .int .i64 re, .int .i64 wk, .int .i64 ke, .int .i64 va, .int .i64 po]] w5 fun e w' => e = .returned (.int .i64 0) ∧ ∃ L', Sep B w0 w' (devOb v L' X :: blkOb b4 26 #[.int .i64 (n : Int), .int .i64 (sz : Int), .int .i64 re, .int .i64 wk, .int .i64 ke, .int .i64 va, .int .i64 po] :: blkOb b3 26 #[.int .i64 0, .int .i64 0, .int .i64 0, .int .i64 0, .int .i64 0, .int .i64 0, .int .i64 0] :: os)) := by
    have := sep_dbegin H5.out (AllCells.cons (cellOb_blk _ _ _) (AllCells.cons (cellOb_blk _ _ _) HCC.out)) (by show 0 < 4611686018427380000; omega) ⟨(n : Int), (sz : Int), re, wk, ke, va, po⟩ HW.out
    rw [HB.out] at this
    exact this
  clear k4
  go_wp2_with fail
  refine CB.out.mono ?_
  rintro e w6 ⟨rfl, L2, hs⟩
  have H6 : Hid (Sep B w0 w6 (blkOb b3 26 #[.int .i64 0, .int .i64 0, .int .i64 0, .int .i64 0, .int .i64 0, .int .i64 0, .int .i64 0] :: [devOb v L2 X, blkOb b4 26 #[.int .i64 (n : Int), .int .i64 (sz : Int), .int .i64 re, .int .i64 wk, .int .i64 ke, .int .i64 va, .int .i64 po]] ++ os)) := hs.perm (List.perm_middle (l₁ := [_, _]))
  have k4 : Blk w6 b4 26 #[.int .i64 (n : Int), .int .i64 (sz : Int), .int .i64 re, .int .i64 wk, .int .i64 ke, .int .i64 va, .int .i64 po] := hs.get (.tail _ (.head _))
  have k3 : Blk w6 b3 26 #[.int .i64 0, .int .i64 0, .int .i64 0, .int .i64 0, .int .i64 0, .int .i64 0, .int .i64 0] := hs.get (.tail _ (.tail _ (.head _)))
  clear hs CB q0 q1 q2 q3 q4 q5 q6
  have q0 : w6.cell? ⟨b4, 0, none⟩ = some (.int .i64 (n : Int)) := k4.cell 0
  have z0 : w6.cell? ⟨b3, 0, none⟩ = some (.int .i64 0) := k3.cell 0
  have f0 := k3.frozen 0
  have q1 : w6.cell? ⟨b4, 1, none⟩ = some (.int .i64 (sz : Int)) := k4.cell 1
  have z1 : w6.cell? ⟨b3, 1, none⟩ = some (.int .i64 0) := k3.cell 1
  have f1 := k3.frozen 1
  have q2 : w6.cell? ⟨b4, 2, none⟩ = some (.int .i64 re) := k4.cell 2
  have z2 : w6.cell? ⟨b3, 2, none⟩ = some (.int .i64 0) := k3.cell 2
  have f2 := k3.frozen 2
  have q3 : w6.cell? ⟨b4, 3, none⟩ = some (.int .i64 wk) := k4.cell 3
  have z3 : w6.cell? ⟨b3, 3, none⟩ = some (.int .i64 0) := k3.cell 3
  have f3 := k3.frozen 3
  have q4 : w6.cell? ⟨b4, 4, none⟩ = some (.int .i64 ke) := k4.cell 4
  have z4 : w6.cell? ⟨b3, 4, none⟩ = some (.int .i64 0) := k3.cell 4
  have f4 := k3.frozen 4
  have q5 : w6.cell? ⟨b4, 5, none⟩ = some (.int .i64 va) := k4.cell 5
  have z5 : w6.cell? ⟨b3, 5, none⟩ = some (.int .i64 0) := k3.cell 5
  have f5 := k3.frozen 5
  have q6 : w6.cell? ⟨b4, 6, none⟩ = some (.int .i64 po) := k4.cell 6
  have z6 : w6.cell? ⟨b3, 6, none⟩ = some (.int .i64 0) := k3.cell 6
  have f6 := k3.frozen 6
  clear k4 k3
  go_wp2_with fail
  go_region
  all_goals
    go_wp2_with fail
    have hz := (((((((H6.out.setBlk 0 (.int .i64 (n : Int))).setBlk 1 (.int .i64 (sz : Int))).setBlk 2 (.int .i64 re)).setBlk 3 (.int .i64 wk)).setBlk 4 (.int .i64 ke)).setBlk 5 (.int .i64 va)).setBlk 6 (.int .i64 po))
    have hz2 := hz.drew
    refine bodyPost_ret (results_tmp_blk rfl _ _ b3 26 #[.int .i64 (n : Int), .int .i64 (sz : Int), .int .i64 re, .int .i64 wk, .int .i64 ke, .int .i64 va, .int .i64 po] _ rfl (hz2.get (.head _)) Tryz.underlying26 rfl (by kernel_rfl)) rfl ?_
    exact ⟨v, L2, X, rfl, HBG.out, hz2.sub (.cons _ (.cons_cons _ (.cons _ (List.Sublist.refl _))))⟩
end
end Go.Proofs.YtnopljanpjmbgaaGreat
namespace Go.Proofs.YtnopljanpjmbgaaGreat
open Go.RowKit Drum
set_option linter.unusedVariables false
section
variable {B : Nat} {w0 w : World} {os : List Ob} {v : Nat} {L : DLay} {X Y : DevD}
theorem lt_ops (h : Sep B w0 w (devOb v L X :: os)) :
    Calls Tryz.prog 6 #[.pointer (some ⟨v, 0, none⟩)] w fun e w' => e = .returned (.int .i64 (X.ops : Int)) ∧ Sep B w0 w' (devOb v L X :: os) :=
  (dev_ops h.dev).mono fun e w' ⟨h1, h2⟩ => ⟨h1, h2 ▸ h⟩
theorem lt_down (h : Sep B w0 w (devOb v L X :: os)) (b : Bool) (hb : X.down = b) :
    Calls Tryz.prog 81 #[.pointer (some ⟨v, 0, none⟩)] w fun e w' => e = .returned (.bool b) ∧ Sep B w0 w' (devOb v L X :: os) :=
  (dev_down h.dev).mono fun e w' ⟨h1, h2⟩ => ⟨by rw [h1, hb], h2 ▸ h⟩
theorem lt_slots (h : Sep B w0 w (devOb v L X :: os)) (n : Nat) (hn : X.n = n) :
    Calls Tryz.prog 57 #[.pointer (some ⟨v, 0, none⟩)] w fun e w' => e = .returned (.int .i64 (n : Int)) ∧ Sep B w0 w' (devOb v L X :: os) :=
  (dev_slots h.dev).mono fun e w' ⟨h1, h2⟩ => ⟨by rw [h1, hn], h2 ▸ h⟩
theorem lt_read (h : Sep B w0 w (devOb v L X :: os)) (er ri x0 x1 x2 x3 x4 x5 x6 x7 : Int) (hr : ((readX X).1 = er ∧ ((readX X).2.1 : Int) = ri) ∧ (readX X).2.2 = ⟨x0, ⟨x1, x2, x3, x4, x5, x6, x7⟩⟩) :
    Calls Tryz.prog 8 #[.pointer (some ⟨v, 0, none⟩)] w fun e w' => e = .returned (.tuple #[.agg #[.int .i64 x0, .int .i64 x1, .int .i64 x2, .int .i64 x3, .int .i64 x4, .int .i64 x5, .int .i64 x6, .int .i64 x7], .int .i64 ri, .int .i64 er]) ∧ Sep B w0 w' (devOb v L X :: os) :=
  (dread_any h.dev).mono fun e w' ⟨h1, h2⟩ => ⟨by rw [h1, hr.1.1, hr.1.2, hr.2]; rfl, h.below h2⟩
theorem lt_begin (h : Sep B w0 w (devOb v L X :: os)) (hC : AllCells os) (hops : X.ops ≤ 100000) (x1 x2 x3 x4 x5 x6 x7 er : Int) (hc : Cf.wf ⟨x1, x2, x3, x4, x5, x6, x7⟩) (hr : beginX X ⟨x1, x2, x3, x4, x5, x6, x7⟩ = (er, Y)) :
    Calls Tryz.prog 18 #[.pointer (some ⟨v, 0, none⟩), .agg #[.int .i64 x1, .int .i64 x2, .int .i64 x3, .int .i64 x4, .int .i64 x5, .int .i64 x6, .int .i64 x7]] w fun e w' => e = .returned (.int .i64 er) ∧ ∃ L', Sep B w0 w' (devOb v L' Y :: os) := by
  have := sep_dbegin h hC (by omega) ⟨x1, x2, x3, x4, x5, x6, x7⟩ hc
  rw [hr] at this
  exact this
theorem lt_adv (h : Sep B w0 w (devOb v L X :: os)) (hC : AllCells os) (hops : X.ops ≤ 100000) (p er x0 x1 x2 x3 x4 x5 x6 x7 : Int) (hr : advX X p = (er, ⟨x0, ⟨x1, x2, x3, x4, x5, x6, x7⟩⟩, Y)) :
    Calls Tryz.prog 10 #[.pointer (some ⟨v, 0, none⟩), .int .i64 p] w fun e w' => e = .returned (.tuple #[.agg #[.int .i64 x0, .int .i64 x1, .int .i64 x2, .int .i64 x3, .int .i64 x4, .int .i64 x5, .int .i64 x6, .int .i64 x7], .int .i64 er]) ∧ ∃ L', Sep B w0 w' (devOb v L' Y :: os) := by
  have := sep_dadv h hC (by omega) p
  rw [hr] at this
  exact this
theorem lt_write (h : Sep B w0 w (devOb v L X :: os)) (hC : AllCells os) (hops : X.ops ≤ 100000) (x0 x1 x2 x3 x4 x5 x6 x7 er : Int) (hc : Bk.wf ⟨x0, ⟨x1, x2, x3, x4, x5, x6, x7⟩⟩) (hr : writeX X ⟨x0, ⟨x1, x2, x3, x4, x5, x6, x7⟩⟩ = (er, Y)) :
    Calls Tryz.prog 21 #[.pointer (some ⟨v, 0, none⟩), .agg #[.int .i64 x0, .int .i64 x1, .int .i64 x2, .int .i64 x3, .int .i64 x4, .int .i64 x5, .int .i64 x6, .int .i64 x7]] w fun e w' => e = .returned (.int .i64 er) ∧ ∃ L', Sep B w0 w' (devOb v L' Y :: os) := by
  have := sep_dwrite h hC (by omega) ⟨x0, ⟨x1, x2, x3, x4, x5, x6, x7⟩⟩ hc
  rw [hr] at this
  exact this
/-- Arm with a plan of one number. -/
theorem lt_arm {g : Nat} {k : Int} (h : Sep B w0 w (blkOb g 3 #[.int .i64 k] :: devOb v L X :: os)) (hC : AllCells os) (at_ : Int) (dn : Bool) (hat : -9223372036854775808 ≤ at_ ∧ at_ ≤ 9223372036854775807) (he : armE at_ [k] = 0) :
    Calls Tryz.prog 24 #[.pointer (some ⟨v, 0, none⟩), .agg #[.int .i64 at_, .bool dn, .slice (some ⟨g, 0, none⟩) 1 1]] w fun e w' => e = .returned (.int .i64 0) ∧ ∃ L', Sep B w0 w' (devOb v L' (armX X at_ dn [k]) :: os) := by
  have := sep_varm_blk h hC at_ dn [k] 1 rfl rfl (by unfold maxLen; omega) hat
  rw [he] at this
  exact this
end
end Go.Proofs.YtnopljanpjmbgaaGreat
namespace Go.Proofs.YtnopljanpjmbgaaGreat
open Go.RowKit Go.ChangeShapes Go.WideShapes
set_option linter.unusedVariables false
theorem Rd.array7 {P : Program} {w : World} {t e : TypeId} {c0 c1 c2 c3 c4 c5 c6 : Value} (ht : P.underlying t = some (.array 7 e)) (hce : P.cellsOf e = 1)
    (h : Rd P w t [c0, c1, c2, c3, c4, c5, c6]) : Rd P w e [c0] ∧ Rd P w e [c1] ∧ Rd P w e [c2] ∧ Rd P w e [c3] ∧ Rd P w e [c4] ∧ Rd P w e [c5] ∧ Rd P w e [c6] := by
  obtain ⟨H, enc, base, sp, hd, fuel, x, h⟩ := h
  cases fuel with
  | zero => simp [DataW.trod] at h
  | succ n =>
    unfold DataW.trod at h
    rw [ht] at h
    have r7 : List.range 7 = [0, 1, 2, 3, 4, 5, 6] := rfl
    simp [r7, hce] at h
    obtain ⟨_, h⟩ := h
    cases h0 : DataW.trod enc P w base sp hd n e [c0] with
    | none => simp [h0] at h
    | some y0 =>
      cases h1 : DataW.trod enc P w base sp hd n e [c1] with
      | none => simp [h0, h1] at h
      | some y1 =>
        cases h2 : DataW.trod enc P w base sp hd n e [c2] with
        | none => simp [h0, h1, h2] at h
        | some y2 =>
          cases h3 : DataW.trod enc P w base sp hd n e [c3] with
          | none => simp [h0, h1, h2, h3] at h
          | some y3 =>
            cases h4 : DataW.trod enc P w base sp hd n e [c4] with
            | none => simp [h0, h1, h2, h3, h4] at h
            | some y4 =>
              cases h5 : DataW.trod enc P w base sp hd n e [c5] with
              | none => simp [h0, h1, h2, h3, h4, h5] at h
              | some y5 =>
                cases h6 : DataW.trod enc P w base sp hd n e [c6] with
                | none => simp [h0, h1, h2, h3, h4, h5, h6] at h
                | some y6 =>
                  exact ⟨⟨H, enc, base, sp, hd, n, _, h0⟩, ⟨H, enc, base, sp, hd, n, _, h1⟩, ⟨H, enc, base, sp, hd, n, _, h2⟩, ⟨H, enc, base, sp, hd, n, _, h3⟩, ⟨H, enc, base, sp, hd, n, _, h4⟩, ⟨H, enc, base, sp, hd, n, _, h5⟩, ⟨H, enc, base, sp, hd, n, _, h6⟩⟩
theorem okWide_array {P : Program} {w : World} {r : Reach} {base : Nat} {t : TypeId} {v : Value} {n : Nat} {e : TypeId} (ht : P.underlying t = some (.array n e)) (h : Value.okWide P w r base t v) : ∃ cs, v = .agg cs ∧ cs.size = P.cellsOf t := by
  simp only [Value.okWide, ht] at h
  obtain ⟨cs, h1, h2, _⟩ := h
  exact ⟨cs, h1, h2⟩
theorem seven_list {l : List Value} (h : l.length = 7) : ∃ b c d e f g i, l = [b, c, d, e, f, g, i] := by
  match l, h with
  | [b, c, d, e, f, g, i], _ => exact ⟨b, c, d, e, f, g, i, rfl⟩
/-- Seven bytes, by their number. -/
def sevenF (b0 b1 b2 b3 b4 b5 b6 : BitVec 8) : Fin 7 → BitVec 8 := fun i => [b0, b1, b2, b3, b4, b5, b6].getD i.val 0#8
set_option maxRecDepth 20000 in
theorem seven_arg {w : World} {v : Value} (h : ArgIn Tryz.prog w 22 v) : ∃ b : Fin 7 → BitVec 8, v = .agg #[.int .u8 (n8 (b 0)), .int .u8 (n8 (b 1)), .int .u8 (n8 (b 2)), .int .u8 (n8 (b 3)), .int .u8 (n8 (b 4)), .int .u8 (n8 (b 5)), .int .u8 (n8 (b 6))] := by
  obtain ⟨h1, base, h2⟩ := h
  obtain ⟨cs, rfl, hl⟩ := okWide_array Tryz.underlying22 h2
  have hC : Tryz.prog.cellsOf 22 = 7 := by kernel_rfl
  have hC3 : Tryz.prog.cellsOf 5 = 1 := by kernel_rfl
  rw [hC] at hl
  obtain ⟨c0, c1, c2, c3, c4, c5, c6, hx⟩ := seven_list (l := cs.toList) (by simpa using hl)
  have h3 : Rd Tryz.prog w 22 cs.toList := h1
  rw [hx] at h3
  obtain ⟨k0, k1, k2, k3, k4, k5, k6⟩ := Rd.array7 Tryz.underlying22 hC3 h3
  obtain ⟨y0, e0, w0⟩ := Rd.int (k := .u8) Tryz.underlying5 k0
  obtain ⟨b0, rfl⟩ := u8_of_wf w0
  obtain ⟨y1, e1, w1⟩ := Rd.int (k := .u8) Tryz.underlying5 k1
  obtain ⟨b1, rfl⟩ := u8_of_wf w1
  obtain ⟨y2, e2, w2⟩ := Rd.int (k := .u8) Tryz.underlying5 k2
  obtain ⟨b2, rfl⟩ := u8_of_wf w2
  obtain ⟨y3, e3, w3⟩ := Rd.int (k := .u8) Tryz.underlying5 k3
  obtain ⟨b3, rfl⟩ := u8_of_wf w3
  obtain ⟨y4, e4, w4⟩ := Rd.int (k := .u8) Tryz.underlying5 k4
  obtain ⟨b4, rfl⟩ := u8_of_wf w4
  obtain ⟨y5, e5, w5⟩ := Rd.int (k := .u8) Tryz.underlying5 k5
  obtain ⟨b5, rfl⟩ := u8_of_wf w5
  obtain ⟨y6, e6, w6⟩ := Rd.int (k := .u8) Tryz.underlying5 k6
  obtain ⟨b6, rfl⟩ := u8_of_wf w6
  refine ⟨sevenF b0 b1 b2 b3 b4 b5 b6, congrArg Value.agg ?_⟩
  apply Array.toList_inj.1
  rw [hx]
  simp only [List.cons.injEq, and_true] at e0 e1 e2 e3 e4 e5 e6
  rw [e0, e1, e2, e3, e4, e5, e6]
  rfl
end Go.Proofs.YtnopljanpjmbgaaGreat
namespace Go.Proofs.YtnopljanpjmbgaaGreat
open Go.RowKit Drum
set_option linter.unusedVariables false
/-- A block that holds bytes. -/
theorem blk_holds {w : World} {g n c : Nat} {cs : Array Value} {l : List (BitVec 8)} (h : Blk w g 5 cs) (hl : l.length = n) (hn : n ≤ c) (hc : c ≤ maxLen) (hs : cs.toList.take n = u8s l) : Holds w (.slice (some ⟨g, 0, none⟩) n c) l :=
  ⟨_, n, c, rfl, hl.symm, hn, hc, reads_blk h 0 n l hl (by simpa using hs)⟩
section
variable {B : Nat} {w0 w : World} {os : List Ob} {v : Nat} {L : DLay} {X Y : DevD}
theorem lt_raw (h : Sep B w0 w (devOb v L X :: os)) (s k : Nat) (z : Int) (hz : z = (s : Int)) (hc : chkE X (s : Int) = 0) (l : List (BitVec 8)) (hl : (X.D s).bytes.take k = l) (hk : k ≤ (X.D s).bytes.length) :
    Calls Tryz.prog 9 #[.pointer (some ⟨v, 0, none⟩), .int .i64 z, .int .i64 0, .int .i64 (k : Int)] w fun e w' => ∃ A c, e = .returned (.tuple #[.slice A k c, .int .i64 0]) ∧ Sep B w0 w' (rowOb 5 1 (.slice A k c) k (u8s l) :: devOb v L X :: os) := by
  subst hz
  refine (dev_read h.dev (s : Int) 0 (k : Int)).mono ?_
  rintro e w' ⟨u, r, rfl, hq, hb⟩
  obtain ⟨rfl, ho⟩ := read_ok (s := s) (a := 0) (b := k) hq hc (by omega)
  rw [List.drop_zero, hl] at ho
  obtain ⟨A, c, rfl, h1, h2, h3⟩ := own_slice ho
  refine ⟨A, c, rfl, h.add (a := rowOb 5 1 (.slice A k c) k (u8s l)) hb (own_base ho (fun _ _ => Nat.zero_le _)) (fun j hj => ?_)⟩
  rcases ho.2 with ⟨e1, _⟩ | ⟨g, cap, cur, e1, hg, _⟩
  · injection e1 with e2 _ _
    subst e2
    cases hj
  · injection e1 with e2 _ _
    subst e2
    have : g = j := by simpa [rowOb, Value.ownBlock] using hj
    omega
/-- Some bytes that are read lie in a block. -/
theorem lt_raw1 (h : Sep B w0 w (devOb v L X :: os)) (s k : Nat) (z : Int) (hz : z = (s : Int)) (hc : chkE X (s : Int) = 0) (l : List (BitVec 8)) (hl : (X.D s).bytes.take k = l) (hk : k ≤ (X.D s).bytes.length) (hk0 : 0 < k) :
    Calls Tryz.prog 9 #[.pointer (some ⟨v, 0, none⟩), .int .i64 z, .int .i64 0, .int .i64 (k : Int)] w fun e w' => ∃ g c cs, e = .returned (.tuple #[.slice (some ⟨g, 0, none⟩) k c, .int .i64 0]) ∧ k ≤ c ∧ c ≤ maxLen ∧ k ≤ cs.size ∧ cs.toList.take k = u8s l ∧ Sep B w0 w' (blkOb g 5 cs :: devOb v L X :: os) := by
  refine (lt_raw h s k z hz hc l hl hk).mono ?_
  rintro e w' ⟨A, c, rfl, hs⟩
  have ho : w'.ownsRow 0 5 1 (.slice A k c) k (u8s l) := hs.get (.head _)
  rcases ho.2 with ⟨e1, e2⟩ | ⟨g, cap, cur, e1, hg, h1, h2, h3, h4, h5⟩
  · omega
  · injection e1 with e2 _ e3
    subst e2 e3
    rw [Nat.mul_one] at h4 h5
    exact ⟨g, c, cur, rfl, h2, h3, by omega, h5, hs.step (a' := blkOb g 5 cur) (Chg.refl _ _) h1 (fun j hj => .inl (by
      have : j = g := hj
      subst this
      rfl))⟩
theorem lt_erase (h : Sep B w0 w (devOb v L X :: os)) (hC : AllCells os) (hops : X.ops ≤ 100000) (z er : Int) (he : oneVE X z = er) (hx : EraseVX X z = Y) :
    Calls Tryz.prog 28 #[.pointer (some ⟨v, 0, none⟩), .int .i64 z] w fun e w' => e = .returned (.int .i64 er) ∧ ∃ L', Sep B w0 w' (devOb v L' Y :: os) := by
  have := sep_verase h hC (by omega) z
  rw [he, hx] at this
  exact this
theorem lt_app (h : Sep B w0 w (devOb v L X :: os)) (hC : AllCells os) (hops : X.ops ≤ 100000) (z er : Int) {vb : Value} {l : List (BitVec 8)} (hv : ∀ W, Kept B w0 os W → Holds W vb l) (he : appVE X z l = er) (hx : appVX X z l = Y) :
    Calls Tryz.prog 7 #[.pointer (some ⟨v, 0, none⟩), .int .i64 z, vb] w fun e w' => e = .returned (.int .i64 er) ∧ ∃ L', Sep B w0 w' (devOb v L' Y :: os) := by
  have := sep_vappend h hC (by omega) z hv
  rw [he, hx] at this
  exact this
end
end Go.Proofs.YtnopljanpjmbgaaGreat
namespace Go.Proofs.YtnopljanpjmbgaaGreat
open Go.RowKit Drum
set_option linter.unusedVariables false
/-- The superblock of an epoch, with a policy. -/
def stB (n sz : Nat) (re wk ke va e p : Int) : Bk := ⟨e, ⟨(n : Int), (sz : Int), re, wk, ke, va, p⟩⟩
/-- No crash is near. -/
def Far (T : Option PlanD) (k : Int) : Prop := T = none ∨ ∃ P, T = some P ∧ k ≤ P.at_
theorem Far.tick {T : Option PlanD} {k : Int} (h : Far T k) (hk : 2 ≤ k) : tickB T = false ∧ Far (tickP T) (k - 1) := by
  rcases h with rfl | ⟨P, rfl, h⟩
  · exact ⟨rfl, .inl rfl⟩
  · obtain ⟨h1, h2⟩ := tick_more (P := P) (by omega)
    exact ⟨h1, .inr ⟨_, h2, by show k - 1 ≤ P.at_ - 1; omega⟩⟩
theorem Far.tick3 {T : Option PlanD} {k : Int} (h : Far T k) (hk : 4 ≤ k) : tickB T = false ∧ tickB (tickP T) = false ∧ tickB (tickP (tickP T)) = false ∧ Far (tickP (tickP (tickP T))) (k - 3) := by
  obtain ⟨a1, a2⟩ := h.tick (by omega)
  obtain ⟨b1, b2⟩ := a2.tick (by omega)
  obtain ⟨c1, c2⟩ := b2.tick (by omega)
  refine ⟨a1, b1, c1, ?_⟩
  have e : k - 1 - 1 - 1 = k - 3 := by omega
  rwa [e] at c2
/-- What a round keeps. -/
structure AtI (n sz : Nat) (re wk ke va : Int) (i : Nat) (X : DevD) (e p : Int) : Prop where
  rd : Ready X n
  dur : Dur2 X n
  cur : Cur X n (stB n sz re wk ke va e p)
  ep : 2 ≤ e ∧ e ≤ 2 + (i : Int)
  far : Far X.T (1000 - 3 * (i : Int))
  ops : X.ops ≤ 6 + 3 * i
theorem armX_T {X : DevD} {a k : Int} {dn : Bool} (ha : 1 ≤ a ∧ a ≤ 1000) (hk : 0 ≤ k ∧ k ≤ 100) : armE a [k] = 0 ∧ armX X a dn [k] = { X with T := some ⟨a, dn, [k]⟩ } := by
  have hok : okPlan a [k] := ⟨⟨by omega, by omega⟩, ⟨by simp, by simp⟩, fun z hz => by rw [List.mem_singleton] at hz; subst hz; omega⟩
  refine ⟨if_pos hok, ?_⟩
  unfold armX
  rw [if_pos hok, if_neg (by omega)]
  unfold armP
  rw [if_pos (by omega)]
section
variable {n sz i : Nat} {re wk ke va e p : Int} {X : DevD}
theorem AtI.armed (h : AtI n sz re wk ke va i X e p) (T : Option PlanD) : Ready { X with T := T } n ∧ Dur2 { X with T := T } n ∧ Cur { X with T := T } n (stB n sz re wk ke va e p) :=
  ⟨⟨h.rd.hn, h.rd.up, h.rd.s0, h.rd.s1⟩, h.dur, ⟨h.cur.ok, h.cur.here, h.cur.there⟩⟩
/-- The superblock from before, read; and without a crash, the next one. -/
theorem at_free (h : AtI n sz re wk ke va i X e p) (hi : i < 20) {q : Int} (hq : q = 1 ∨ q = 2) :
    ∃ X2, advX X q = (0, stB n sz re wk ke va (e + 1) q, X2) ∧ readX X2 = (0, par (stB n sz re wk ke va (e + 1) q), stB n sz re wk ke va (e + 1) q) ∧ AtI n sz re wk ke va (i + 1) X2 (e + 1) q := by
  obtain ⟨t0, t1, t2, t3⟩ := h.far.tick3 (by omega)
  have he := h.ep
  obtain ⟨X2, a1, a2, a3, a4, a5, a6, _⟩ := adv_ok h.rd h.dur h.cur hq (show e < 1099511627776 by omega) t0 t1 t2
  have a6' : Cur X2 n (stB n sz re wk ke va (e + 1) q) := a6
  refine ⟨X2, a1, cur_read a2 a6', a2, a3, a6', by omega, ?_, by have := h.ops; omega⟩
  rw [a4]
  have e3 : 1000 - 3 * (i : Int) - 3 = 1000 - 3 * ((i + 1 : Nat) : Int) := by omega
  rwa [e3] at t3
/-- With a plan for the fourth operation, which a farther one replaces. -/
theorem at_four (h : AtI n sz re wk ke va i X e p) (hi : i < 20) {q : Int} (hq : q = 1 ∨ q = 2) (dn : Bool) (k : Int) (hk : 0 ≤ k ∧ k < 70) :
    armE 4 [k] = 0 ∧ armE 1000 [0] = 0 ∧ (armX X 4 dn [k]).ops ≤ 100000 ∧ ∃ X2, advX (armX X 4 dn [k]) q = (0, stB n sz re wk ke va (e + 1) q, X2) ∧ readX X2 = (0, par (stB n sz re wk ke va (e + 1) q), stB n sz re wk ke va (e + 1) q) ∧ AtI n sz re wk ke va (i + 1) (armX X2 1000 false [0]) (e + 1) q := by
  obtain ⟨k1, k2⟩ := armX_T (X := X) (a := 4) (k := k) (dn := dn) (by omega) (by omega)
  obtain ⟨m1, m2⟩ := h.armed (some ⟨4, dn, [k]⟩)
  have he := h.ep
  have ho := h.ops
  have hf : Far (some (⟨4, dn, [k]⟩ : PlanD)) 4 := .inr ⟨_, rfl, by show (4 : Int) ≤ 4; omega⟩
  obtain ⟨t0, t1, t2, t3⟩ := hf.tick3 (by omega)
  obtain ⟨X2, a1, a2, a3, a4, a5, a6, _⟩ := adv_ok (X := { X with T := some ⟨4, dn, [k]⟩ }) m1 m2.1 m2.2 hq (show e < 1099511627776 by omega) t0 t1 t2
  obtain ⟨k3, k4⟩ := armX_T (X := X2) (a := 1000) (k := 0) (dn := false) (by omega) (by omega)
  rw [k2]
  refine ⟨k1, k3, by show X.ops ≤ _; omega, X2, a1, cur_read a2 a6, ?_⟩
  have a5' : X2.ops = X.ops + 3 := a5
  rw [k4]
  exact ⟨⟨a2.hn, a2.up, a2.s0, a2.s1⟩, a3, ⟨a6.ok, a6.here, a6.there⟩, by omega, .inr ⟨_, rfl, by show 1000 - 3 * ((i + 1 : Nat) : Int) ≤ 1000; omega⟩, by show X2.ops ≤ _; omega⟩
/-- With a crash in one of the three operations. -/
theorem at_crash (h : AtI n sz re wk ke va i X e p) (hi : i < 20) {q : Int} (hq : q = 1 ∨ q = 2) (a : Int) (ha : 1 ≤ a ∧ a ≤ 3) (dn : Bool) (k : Int) (hk : 0 ≤ k ∧ k < 70) :
    armE a [k] = 0 ∧ (armX X a dn [k]).ops ≤ 100000 ∧ ∃ X2 e2 p2, advX (armX X a dn [k]) q = (13, bk0, X2) ∧ X2.down = true ∧ readX (restartX X2) = (0, par (stB n sz re wk ke va e2 p2), stB n sz re wk ke va e2 p2) ∧ ((e2 = e ∧ p2 = p) ∨ (e2 = e + 1 ∧ p2 = q)) ∧ AtI n sz re wk ke va (i + 1) (restartX X2) e2 p2 := by
  obtain ⟨k1, k2⟩ := armX_T (X := X) (a := a) (k := k) (dn := dn) (by omega) (by omega)
  obtain ⟨m1, m2⟩ := h.armed (some ⟨a, dn, [k]⟩)
  have he := h.ep
  have ho := h.ops
  obtain ⟨X2, a1, a2, a3, a4, a5, a6, a7, a8⟩ := adv_crash (X := { X with T := some ⟨a, dn, [k]⟩ }) m1 m2.1 m2.2 hq (show e < 1099511627776 by omega) ⟨a, dn, [k]⟩ rfl ha.1 ha.2
  have a5' : X2.ops ≤ X.ops + 3 := a5
  have hT : (restartX X2).T = none := a4
  rw [k2]
  refine ⟨k1, by show X.ops ≤ _; omega, X2, ?_⟩
  rcases a8 with a8 | ⟨a8, _⟩
  · exact ⟨e, p, a1, a2, cur_read a6 a8, .inl ⟨rfl, rfl⟩, a6, a7, a8, by omega, .inl hT, by show X2.ops ≤ _; omega⟩
  · have a8' : Cur (restartX X2) n (stB n sz re wk ke va (e + 1) q) := a8
    exact ⟨e + 1, q, a1, a2, cur_read a6 a8', .inr ⟨rfl, rfl⟩, a6, a7, a8', by omega, .inl hT, by show X2.ops ≤ _; omega⟩
end
end Go.Proofs.YtnopljanpjmbgaaGreat
namespace Go.Proofs.YtnopljanpjmbgaaGreat
open Go.RowKit Drum
set_option linter.unusedVariables false
section
variable {B : Nat} {w0 w : World} {os : List Ob} {v : Nat} {L : DLay} {X Y : DevD}
theorem lt_ops_k (h : Sep B w0 w (devOb v L X :: os)) (k : Int) (hk : (X.ops : Int) = k) :
    Calls Tryz.prog 6 #[.pointer (some ⟨v, 0, none⟩)] w fun e w' => e = .returned (.int .i64 k) ∧ Sep B w0 w' (devOb v L X :: os) :=
  (dev_ops h.dev).mono fun e w' ⟨h1, h2⟩ => ⟨by rw [h1, hk], h2 ▸ h⟩
theorem lt_uns (h : Sep B w0 w (devOb v L X :: os)) (s : Nat) (z : Int) (hz : z = (s : Int)) (hc : chkE X (s : Int) = 0) (hu : unsV X (s : Int) = 0) :
    Calls Tryz.prog 12 #[.pointer (some ⟨v, 0, none⟩), .int .i64 z] w fun e w' => e = .returned (.tuple #[.int .i64 0, .int .i64 0]) ∧ Sep B w0 w' (devOb v L X :: os) := by
  subst hz
  refine (dev_unsynced h.dev (s : Int)).mono ?_
  rintro e w' ⟨h1, h2⟩
  exact ⟨by rw [h1, hc, hu], h.below h2⟩
theorem lt_enc (h : Sep B w0 w os) (x0 x1 x2 x3 x4 x5 x6 x7 : Int) (hw : Bk.wf ⟨x0, ⟨x1, x2, x3, x4, x5, x6, x7⟩⟩) (hok : Bk.ok ⟨x0, ⟨x1, x2, x3, x4, x5, x6, x7⟩⟩) :
    Calls Tryz.prog 14 #[.agg #[.int .i64 x0, .int .i64 x1, .int .i64 x2, .int .i64 x3, .int .i64 x4, .int .i64 x5, .int .i64 x6, .int .i64 x7]] w fun e w' => ∃ g cs, e = .returned (.tuple #[.slice (some ⟨g, 0, none⟩) 64 64, .int .i64 0]) ∧ cs.toList.take 64 = u8s (encOf ⟨x0, ⟨x1, x2, x3, x4, x5, x6, x7⟩⟩) ∧ Sep B w0 w' (blkOb g 5 cs :: os) := by
  refine (encode_any ⟨x0, ⟨x1, x2, x3, x4, x5, x6, x7⟩⟩ hw hok w).mono ?_
  rintro e w' ⟨g, cs, rfl, h1, h2, h3, h4⟩
  exact ⟨g, cs, rfl, h3, h.add (a := blkOb g 5 cs) h4 h2 (fun j hj => by have : j = g := hj; omega)⟩
theorem lt_equal (h : Sep B w0 w os) {A A' : Option Addr} {n c c' : Nat} {l : List (BitVec 8)} (hl : n = l.length) (hn : n ≤ maxLen) (hr : Reads w w.heap.size 1 A n (u8s l)) (hr' : Reads w w.heap.size 1 A' n (u8s l)) :
    Calls Tryz.prog 13 #[.slice A n c, .slice A' n c'] w fun e w' => e = .returned (.bool true) ∧ Sep B w0 w' os := by
  refine (equal_any A A' n c n c' w.heap.size w.heap.size l l w hl hl hn hn hr hr').mono ?_
  rintro e w' ⟨rfl, q, rfl⟩
  exact ⟨by rw [decide_eq_true (rfl : l = l)], h.drewN q⟩
/-- What a row or a block of the call's own holds can be read. -/
theorem own_rd {e : TypeId} {A : Option Addr} {n c : Nat} {xs : List Value} (h : (rowOb e 1 (.slice A n c) n xs).P w) : Reads w w.heap.size 1 A n xs := by
  have ho : w.ownsRow 0 e 1 (.slice A n c) n xs := h
  obtain ⟨A', c', e1, h1, h2, h3⟩ := own_slice ho
  injection e1 with e1 _ _
  rw [e1]
  exact h3
theorem blk_rd {g n : Nat} {cs : Array Value} {l : List (BitVec 8)} (h : (blkOb g 5 cs).P w) (hl : l.length = n) (hs : cs.toList.take n = u8s l) : Reads w w.heap.size 1 (some ⟨g, 0, none⟩) n (u8s l) :=
  reads_blk (show Blk w g 5 cs from h) 0 n l hl (by simpa using hs)
end
end Go.Proofs.YtnopljanpjmbgaaGreat
namespace Go.Proofs.YtnopljanpjmbgaaGreat
open Go.RowKit Drum
set_option linter.unusedVariables false
/-- What a round keeps. -/
structure TuI (n sz : Nat) (re wk ke va : Int) (data : List (BitVec 8)) (i : Nat) (X : DevD) (e p : Int) : Prop where
  rd : Ready X n
  dur : Dur2 X n
  cur : Cur X n (stB n sz re wk ke va e p)
  ep : e = 2 + (i : Int)
  tm : X.T = none
  ops : X.ops = 7 + 3 * i
  dat : (X.D 0).bytes = data
  n4 : 4 ≤ n
theorem tu_start {n sz : Nat} {re wk ke va po : Int} {X : DevD} (h : Begun X n ⟨(n : Int), (sz : Int), re, wk, ke, va, po⟩) (data : List (BitVec 8)) (hd : data.length ≤ 30) (hs : 34 ≤ sz) :
    appVE X 0 data = 0 ∧ TuI n sz re wk ke va data 0 (appVX X 0 data) 2 po := by
  have hn4 := h.n4
  obtain ⟨r1, r2, r3⟩ := h.rest 0 (by omega)
  have r3 : ((X.D 0).size : Int) = (sz : Int) := r3
  have hc : chkE X (0 : Int) = 0 := h.rd.chk 0 (by omega)
  have ht : tickB X.T = false := by rw [h.tm]; rfl
  have hfit : (X.D 0).bytes.length + data.length ≤ (X.D 0).size := by rw [r1]; show 0 + data.length ≤ _; omega
  have e1 : appVX X 0 data = ⟨X.n, appD X.D 0 data, tickP X.T, X.ops + 1, false⟩ := by
    unfold appVX
    rw [if_pos hc, Int.toNat_zero, if_pos hfit, op_no _ _ ht h.rd.up]
  have ho : ∀ j, j ≠ 0 → appD X.D 0 data j = X.D j := fun j hj => by
    unfold appD
    rw [if_pos hfit]
    unfold updF
    rw [if_neg hj]
  have h0 : (appD X.D 0 data 0).bytes = data := by
    unfold appD
    rw [if_pos hfit]
    unfold updF
    rw [if_pos rfl]
    show (X.D 0).bytes ++ data = data
    rw [r1, List.nil_append]
  refine ⟨?_, ?_⟩
  · unfold appVE
    rw [if_pos hc, Int.toNat_zero, if_pos hfit]
    exact opE_no ht
  · rw [e1]
    have hR : Ready ⟨X.n, appD X.D 0 data, tickP X.T, X.ops + 1, false⟩ n := ⟨h.rd.hn, rfl, by show (appD X.D 0 data n).size = 64; rw [ho n (by omega)]; exact h.rd.s0, by show (appD X.D 0 data (n + 1)).size = 64; rw [ho (n + 1) (by omega)]; exact h.rd.s1⟩
    refine ⟨hR, ⟨?_, ?_⟩, ⟨h.cur.ok, ?_, ?_⟩, by omega, ?_, ?_, h0, hn4⟩
    · show (appD X.D 0 data n).dur = (appD X.D 0 data n).bytes.length
      rw [ho n (by omega)]; exact h.dur.1
    · show (appD X.D 0 data (n + 1)).dur = (appD X.D 0 data (n + 1)).bytes.length
      rw [ho (n + 1) (by omega)]; exact h.dur.2
    · show (appD X.D 0 data (n + par _)).bytes = _
      rw [ho _ (by omega)]; exact h.cur.here
    · rw [cpD_congr (X := X) h.rd.hn hR.hn (by show (appD X.D 0 data _).bytes = _; rw [ho _ (by omega)])]
      exact h.cur.there
    · show tickP X.T = none
      rw [h.tm]; rfl
    · show X.ops + 1 = _
      rw [h.ops]
/-- A round. -/
theorem tu_round {n sz i : Nat} {re wk ke va e p : Int} {data : List (BitVec 8)} {X : DevD} (h : TuI n sz re wk ke va data i X e p) (hi : i < 20) {q : Int} (hq : q = 1 ∨ q = 2) (k : Nat) (hk : i % 2 = k) :
    ∃ X2, readX X = (0, k, stB n sz re wk ke va e p) ∧ chkE X ((n + k : Nat) : Int) = 0 ∧ (X.D (n + k)).bytes = encOf (stB n sz re wk ke va e p) ∧
      advX X q = (0, stB n sz re wk ke va (e + 1) q, X2) ∧ chkE X2 ((n + k : Nat) : Int) = 0 ∧ (X2.D (n + k)).bytes = encOf (stB n sz re wk ke va e p) ∧
      readX X2 = (0, 1 - k, stB n sz re wk ke va (e + 1) q) ∧ chkE X2 ((n + (1 - k) : Nat) : Int) = 0 ∧ unsV X2 ((n + (1 - k) : Nat) : Int) = 0 ∧ (X2.D (n + (1 - k))).bytes = encOf (stB n sz re wk ke va (e + 1) q) ∧
      (stB n sz re wk ke va (e + 1) q).ok ∧ X2.ops = X.ops + 3 ∧ TuI n sz re wk ke va data (i + 1) X2 (e + 1) q := by
  have hep := h.ep
  have hn4 := h.n4
  have t0 : tickB X.T = false := by rw [h.tm]; rfl
  have t1 : tickB (tickP X.T) = false := by rw [h.tm]; rfl
  have t2 : tickB (tickP (tickP X.T)) = false := by rw [h.tm]; rfl
  obtain ⟨X2, a1, a2, a3, a4, a5, a6, a7, a8⟩ := adv_ok h.rd h.dur h.cur hq (show e < 1099511627776 by omega) t0 t1 t2
  have a6' : Cur X2 n (stB n sz re wk ke va (e + 1) q) := a6
  have a7' : X2.D (n + par (stB n sz re wk ke va (e + 1) q)) = ⟨64, encOf (stB n sz re wk ke va (e + 1) q), 64⟩ := a7
  have a8' : ∀ j, j ≠ n + par (stB n sz re wk ke va (e + 1) q) → X2.D j = X.D j := a8
  have p0 : par (stB n sz re wk ke va e p) = k := by show (e % 2).toNat = k; omega
  have p1 : par (stB n sz re wk ke va (e + 1) q) = 1 - k := by show ((e + 1) % 2).toNat = 1 - k; omega
  have hr0 := cur_read h.rd h.cur
  have hr1 := cur_read a2 a6'
  have hh := h.cur.here
  rw [p0] at hr0 hh
  rw [p1] at hr1 a7' a8'
  have hkl : k < 2 := by omega
  have hel : (encOf (stB n sz re wk ke va (e + 1) q)).length = 64 := encOf_length _
  have hc2 := a2.chk (n + (1 - k)) (by omega)
  refine ⟨X2, hr0, h.rd.chk (n + k) (by omega), hh, a1, a2.chk (n + k) (by omega), by rw [a8' _ (by omega)]; exact hh, hr1, hc2, ?_, by rw [a7'], a6'.ok, a5, ⟨a2, a3, a6', by omega, by rw [a4, h.tm]; rfl, by have := h.ops; omega, by rw [a8' _ (by omega)]; exact h.dat, hn4⟩⟩
  unfold unsV
  rw [if_pos hc2, Int.toNat_natCast, a7']
  show ((encOf (stB n sz re wk ke va (e + 1) q)).length : Int) - ((64 : Nat) : Int) = 0
  rw [hel]
  omega
end Go.Proofs.YtnopljanpjmbgaaGreat
