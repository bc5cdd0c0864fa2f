/-
  The walks of drumlinlaw17.Small and of the dualcopy law's policy; The walk of the dualcopy law's begun; The plain law of what the two copies refuse: on a device that has begun, on one that is down, and at the last epoch; The plain law of DualcopyRefuses: the devices of its calls, one after another; The calls on a device, with the numbers of superblocks and configurations as letters; An argument of seven bytes.
-/
import Derived.Test.YtnopljanpjmbgaaMP
import Derived.Deep.DeepCutAuto
import Derived.Test.YtnopljanpjmbgaaMA
import Derived.Test.YtnopljanpjmbgaaMB
namespace Go.Proofs.Ytnopljanpjmbgaa
open Go.RowKit Go.Shelf Drum
set_option linter.unusedVariables false
/-- The small configuration of numbers. -/
def smallK (r0 r1 r2 r3 r4 r5 r6 : Nat) : Cf := ⟨2 + (r0 : Int) + 2 + (r4 : Int), 16 + (16 + (2 + (r1 : Int)) + (r2 : Int)) + (r5 : Int), 2 + (r0 : Int), 2 * (16 + (2 + (r1 : Int)) + (r2 : Int) + 16) + (r6 : Int), 2 + (r1 : Int), (r2 : Int), 1 + (r3 : Int)⟩
/-- A small configuration of seven bytes. -/
def smallC (b : Fin 7 → BitVec 8) : Cf := smallK ((b 0).toNat % 2) ((b 1).toNat % 5) ((b 2).toNat % 24) ((b 3).toNat % 2) ((b 4).toNat % 5) (b 5).toNat (b 6).toNat
theorem smallC_ok (b : Fin 7 → BitVec 8) : (smallC b).ok := by
  unfold smallC smallK Cf.ok
  dsimp only
  have := (b 5).isLt
  have := (b 6).isLt
  omega
theorem smallC_wf (b : Fin 7 → BitVec 8) : (smallC b).wf := fun n hn => by
  have := Cf.ok_nums (smallC_ok b) n hn
  omega
/-- The slots of a small configuration. -/
theorem smallC_slots (b : Fin 7 → BitVec 8) : ∃ n : Nat, (smallC b).slots = (n : Int) ∧ 4 ≤ n ∧ n ≤ 9 := by
  refine ⟨2 + (b 0).toNat % 2 + 2 + (b 4).toNat % 5, ?_, by omega, by omega⟩
  show 2 + (((b 0).toNat % 2 : Nat) : Int) + 2 + (((b 4).toNat % 5 : Nat) : Int) = _
  omega
theorem smallC_size (b : Fin 7 → BitVec 8) : ∃ n : Nat, (smallC b).size = (n : Int) ∧ 34 ≤ n ∧ n ≤ 400 := by
  have := (b 5).isLt
  refine ⟨16 + (16 + (2 + (b 1).toNat % 5) + (b 2).toNat % 24) + (b 5).toNat, ?_, by omega, by omega⟩
  show 16 + (16 + (2 + (((b 1).toNat % 5 : Nat) : Int)) + (((b 2).toNat % 24 : Nat) : Int)) + (((b 5).toNat : Nat) : Int) = _
  omega
def sevenV (b : Fin 7 → BitVec 8) : Value := .agg #[.int .u8 (n8 (b 0)), .int .u8 (n8 (b 1)), .int .u8 (n8 (b 2)), .int .u8 (n8 (b 3)), .int .u8 (n8 (b 4)), .int .u8 (n8 (b 5)), .int .u8 (n8 (b 6))]
set_option maxRecDepth 100000 in
set_option maxHeartbeats 8000000 in
theorem small_k (b0 b1 b2 b3 b4 b5 b6 : BitVec 8) (r0 r1 r2 r3 r4 r5 r6 : Nat) (h0 : n8 b0 % 2 = (r0 : Int)) (h1 : n8 b1 % 5 = (r1 : Int)) (h2 : n8 b2 % 24 = (r2 : Int)) (h3 : n8 b3 % 2 = (r3 : Int)) (h4 : n8 b4 % 5 = (r4 : Int)) (h5 : n8 b5 = (r5 : Int)) (h6 : n8 b6 = (r6 : Int))
    (g0 : r0 < 2) (g1 : r1 < 5) (g2 : r2 < 24) (g3 : r3 < 2) (g4 : r4 < 5) (g5 : r5 < 256) (g6 : r6 < 256) (w : World) :
    Calls Try.prog 18 #[.agg #[.int .u8 (n8 b0), .int .u8 (n8 b1), .int .u8 (n8 b2), .int .u8 (n8 b3), .int .u8 (n8 b4), .int .u8 (n8 b5), .int .u8 (n8 b6)]] w fun e w' => e = .returned (.agg (cfv (smallK r0 r1 r2 r3 r4 r5 r6))) ∧ Below w.heap.size w w' := by
  obtain ⟨i0, j0⟩ := n8_bd b0
  obtain ⟨i1, j1⟩ := n8_bd b1
  obtain ⟨i2, j2⟩ := n8_bd b2
  obtain ⟨i3, j3⟩ := n8_bd b3
  obtain ⟨i4, j4⟩ := n8_bd b4
  rw [h5, h6]
  go_enter Try.func18, Try.ntmps18
  go_wp2_with fail
  exact bodyPost_ret (results_blk rfl _ _ (w.heap.size + 1) 26 (cfv (smallK r0 r1 r2 r3 r4 r5 r6)) _ rfl ((blk2 w _ _ _ _).alloc _) Try.underlying26 rfl (by kernel_rfl)) rfl ⟨rfl, by go_grown⟩
theorem small_any (b : Fin 7 → BitVec 8) (w : World) :
    Calls Try.prog 18 #[sevenV b] w fun e w' => e = .returned (.agg (cfv (smallC b))) ∧ Below w.heap.size w w' := by
  have hb : ∀ i, (b i).toNat < 256 := fun i => (b i).isLt
  exact small_k (b 0) (b 1) (b 2) (b 3) (b 4) (b 5) (b 6) _ _ _ _ _ _ _ (by rw [n8_nat]; omega) (by rw [n8_nat]; omega) (by rw [n8_nat]; omega) (by rw [n8_nat]; omega) (by rw [n8_nat]; omega) (n8_nat _) (n8_nat _)
    (Nat.mod_lt _ (by omega)) (Nat.mod_lt _ (by omega)) (Nat.mod_lt _ (by omega)) (Nat.mod_lt _ (by omega)) (Nat.mod_lt _ (by omega)) (hb 5) (hb 6) w
set_option maxHeartbeats 400000 in
theorem policy_any (b : BitVec 8) (w : World) :
    Calls Try.prog 17 #[.int .u8 (n8 b)] w fun e w' => e = .returned (.int .i64 (((1 + b.toNat % 2 : Nat)) : Int)) ∧ w = w' := by
  obtain ⟨r, hr⟩ : ∃ r, b.toNat % 2 = r := ⟨_, rfl⟩
  have hr2 : r < 2 := by omega
  have hb : n8 b % 2 = (r : Int) := by rw [n8_nat]; omega
  obtain ⟨i0, j0⟩ := n8_bd b
  rw [hr]
  clear hr
  go_enter Try.func17, Try.ntmps17
  go_wp2_with fail
  go_ret
  exact ⟨by congr 2, rfl⟩
end Go.Proofs.Ytnopljanpjmbgaa
namespace Go.Proofs.Ytnopljanpjmbgaa
open Go.RowKit Go.Shelf Drum
set_option linter.unusedVariables false
theorem results_tmp_blk {P : Program} {fn : Func} {p u : Tmp} {ty : TypeId} (h : fn.results = #[.tmp u, .cell p ty]) (tmps : Array Value) (w : World) (g : Nat) (t : TypeId) (cs : Array Value) (d : TypeDesc)
    (hp : tmps.getD p undef = .pointer (some ⟨g, 0, none⟩)) (hg : Blk w g t cs)
    (hu : P.underlying ty = some d) (hd : (match d with | .struct _ | .array _ _ => true | _ => false) = true) (hi : (P.info? ty).map (·.size) = some cs.size) :
    (results fn tmps).run P w = .ok (.tuple #[tmps.getD u undef, .agg cs]) w := by
  have e : (results fn tmps).run P w = ((asAddr (tmps.getD p undef)).run P w).andThen fun a w₁ => ((loadVar ty a).run P w₁).andThen fun v w₂ => .ok (.tuple #[tmps.getD u undef, v]) w₂ := by
    simp only [results, h]
    simp [Sem.run_bind, Result.andThen]
  rw [e, hp]
  simp only [asAddr, Sem.run_pure, Result.andThen_ok, run_loadVar_row w g t ty cs (0, 0) d hg hu hd hi]
/-- A device that has just begun. -/
structure Begun (X : DevD) (n : Nat) (c : Cf) : Prop where
  rd : Ready X n
  dur : Dur2 X n
  tm : X.T = none
  ops : X.ops = 6
  cur : Cur X n ⟨2, c⟩
  d0 : X.D n = ⟨64, encOf ⟨2, c⟩, 64⟩
  d1 : X.D (n + 1) = ⟨64, encOf ⟨1, c⟩, 64⟩
  ok : c.ok
  sl : c.slots = (n : Int)
  n4 : 4 ≤ n
  n9 : n ≤ 9
  rest : ∀ j, j < n → (X.D j).bytes = [] ∧ (X.D j).dur = 0 ∧ ((X.D j).size : Int) = c.size
section
variable {B : Nat} {w0 w w' : World} {os : List Ob}
set_option maxRecDepth 100000 in
set_option maxHeartbeats 8000000 in
theorem begun_k (h : Sep B w0 w os) (hC : AllCells os) (b : Fin 7 → BitVec 8) (n sz : Nat) (re wk ke va po : Int) (hc : smallC b = ⟨(n : Int), (sz : Int), re, wk, ke, va, po⟩) (hn4 : 4 ≤ n) (hn9 : n ≤ 9) (hs1 : 34 ≤ sz) (hs2 : sz ≤ 400) :
    Calls Try.prog 7 #[.agg #[.int .u8 (n8 (b 0)), .int .u8 (n8 (b 1)), .int .u8 (n8 (b 2)), .int .u8 (n8 (b 3)), .int .u8 (n8 (b 4)), .int .u8 (n8 (b 5)), .int .u8 (n8 (b 6))]] w fun e w' => ∃ v L X, e = .returned (.tuple #[.pointer (some ⟨v, 0, none⟩), .agg #[.int .i64 (n : Int), .int .i64 (sz : Int), .int .i64 re, .int .i64 wk, .int .i64 ke, .int .i64 va, .int .i64 po]]) ∧ Begun X n ⟨(n : Int), (sz : Int), re, wk, ke, va, po⟩ ∧ Sep B w0 w' (devOb v L X :: os) := by
  have hok := smallC_ok b
  have hwf := smallC_wf b
  rw [hc] at hok hwf
  have HSM : Hid (∀ W, Calls Try.prog 18 #[.agg #[.int .u8 (n8 (b 0)), .int .u8 (n8 (b 1)), .int .u8 (n8 (b 2)), .int .u8 (n8 (b 3)), .int .u8 (n8 (b 4)), .int .u8 (n8 (b 5)), .int .u8 (n8 (b 6))]] W fun e w' => e = .returned (.agg #[.int .i64 (n : Int), .int .i64 (sz : Int), .int .i64 re, .int .i64 wk, .int .i64 ke, .int .i64 va, .int .i64 po]) ∧ Below W.heap.size W w') := fun W => by
    have := small_any b W
    rw [hc] at this
    exact this
  obtain ⟨hr0, hd0, ht0, ho0, he0, he1⟩ := ready_new n sz
  obtain ⟨X, hb, hr, hd, ht, ho, hcur, hD0, hD1, hDr⟩ := begin_ok hr0 ht0 ⟨(n : Int), (sz : Int), re, wk, ke, va, po⟩ hok rfl he0 he1
  have HBG : Hid (Begun X n ⟨(n : Int), (sz : Int), re, wk, ke, va, po⟩) := ⟨hr, hd, ht, by rw [ho, ho0], hcur, hD0, hD1, hok, rfl, hn4, hn9, fun j hj => by
    rw [hDr j hj]
    refine ⟨rfl, rfl, ?_⟩
    show ((if j < n then sz else 64 : Nat) : Int) = (sz : Int)
    rw [if_pos hj]⟩
  have HB := Lib.hid hb
  have HW := Lib.hid hwf
  obtain ⟨b1, hb1⟩ : ∃ b1, b1 = w.heap.size := ⟨_, rfl⟩
  obtain ⟨b3, hb3⟩ : ∃ b3, b3 = w.heap.size + 1 := ⟨_, rfl⟩
  obtain ⟨W1, hW1⟩ : ∃ W1 : World, W1 = (w.alloc (.cells #[.int .u8 (n8 (b 0)), .int .u8 (n8 (b 1)), .int .u8 (n8 (b 2)), .int .u8 (n8 (b 3)), .int .u8 (n8 (b 4)), .int .u8 (n8 (b 5)), .int .u8 (n8 (b 6))] 22)).alloc (.cells #[.int .i64 0, .int .i64 0, .int .i64 0, .int .i64 0, .int .i64 0, .int .i64 0, .int .i64 0] 26) := ⟨_, rfl⟩
  have H1 : Hid (Sep B w0 W1 (blkOb b3 26 #[.int .i64 0, .int .i64 0, .int .i64 0, .int .i64 0, .int .i64 0, .int .i64 0, .int .i64 0] :: blkOb b1 22 #[.int .u8 (n8 (b 0)), .int .u8 (n8 (b 1)), .int .u8 (n8 (b 2)), .int .u8 (n8 (b 3)), .int .u8 (n8 (b 4)), .int .u8 (n8 (b 5)), .int .u8 (n8 (b 6))] :: os)) := by
    show Sep _ _ _ _
    rw [hW1]
    exact (h.newBlk b1 _ _ hb1).newBlk b3 _ _ (by rw [World.size_alloc]; exact hb3)
  have HCC := Lib.hid hC
  clear hr0 hd0 ht0 ho0 he0 he1 hr hd ht ho hcur hD0 hD1 hDr hok hwf hb hc h hC
  go_enter Try.func7, Try.ntmps7
  go_wp2_with fail
  rw [← hb3, ← hb1, ← hW1]
  clear hW1 hb1 hb3
  refine (HSM.out _).mono ?_
  rintro e w2 ⟨rfl, hbl⟩
  obtain ⟨b4, hb4⟩ : ∃ b4, b4 = w2.heap.size := ⟨_, rfl⟩
  obtain ⟨W3, hW3⟩ : ∃ W3 : World, W3 = w2.alloc (.cells #[.int .i64 (n : Int), .int .i64 (sz : Int), .int .i64 re, .int .i64 wk, .int .i64 ke, .int .i64 va, .int .i64 po] 26) := ⟨_, rfl⟩
  have H3 : Hid (Sep B w0 W3 (blkOb b4 26 #[.int .i64 (n : Int), .int .i64 (sz : Int), .int .i64 re, .int .i64 wk, .int .i64 ke, .int .i64 va, .int .i64 po] :: blkOb b3 26 #[.int .i64 0, .int .i64 0, .int .i64 0, .int .i64 0, .int .i64 0, .int .i64 0, .int .i64 0] :: os)) := by
    show Sep _ _ _ _
    rw [hW3]
    exact ((H1.out.below hbl).newBlk b4 _ _ hb4).sub (.cons_cons _ (.cons_cons _ (.cons _ (List.Sublist.refl _))))
  clear hbl HSM
  go_upto_region 2 with fail
  rw [← hb4, ← hW3]
  clear hb4 hW3
  have k4 : Blk W3 b4 26 #[.int .i64 (n : Int), .int .i64 (sz : Int), .int .i64 re, .int .i64 wk, .int .i64 ke, .int .i64 va, .int .i64 po] := H3.out.get (.head _)
  have q0 : W3.cell? ⟨b4, 0, none⟩ = some (.int .i64 (n : Int)) := k4.cell 0
  have q1 : W3.cell? ⟨b4, 1, none⟩ = some (.int .i64 (sz : Int)) := k4.cell 1
  have q2 : W3.cell? ⟨b4, 2, none⟩ = some (.int .i64 re) := k4.cell 2
  have q3 : W3.cell? ⟨b4, 3, none⟩ = some (.int .i64 wk) := k4.cell 3
  have q4 : W3.cell? ⟨b4, 4, none⟩ = some (.int .i64 ke) := k4.cell 4
  have q5 : W3.cell? ⟨b4, 5, none⟩ = some (.int .i64 va) := k4.cell 5
  have q6 : W3.cell? ⟨b4, 6, none⟩ = some (.int .i64 po) := k4.cell 6
  have CN := Lib.hid (sep_vnew H3.out n sz (by omega) (by omega) (by omega) (by omega))
  clear k4
  go_wp2_with fail
  refine CN.out.mono ?_
  rintro e w5 ⟨v, L, rfl, hs⟩
  have H5 := Lib.hid hs
  have k4 : Blk w5 b4 26 #[.int .i64 (n : Int), .int .i64 (sz : Int), .int .i64 re, .int .i64 wk, .int .i64 ke, .int .i64 va, .int .i64 po] := hs.get (.tail _ (.head _))
  clear hs CN q0 q1 q2 q3 q4 q5 q6
  have q0 : w5.cell? ⟨b4, 0, none⟩ = some (.int .i64 (n : Int)) := k4.cell 0
  have q1 : w5.cell? ⟨b4, 1, none⟩ = some (.int .i64 (sz : Int)) := k4.cell 1
  have q2 : w5.cell? ⟨b4, 2, none⟩ = some (.int .i64 re) := k4.cell 2
  have q3 : w5.cell? ⟨b4, 3, none⟩ = some (.int .i64 wk) := k4.cell 3
  have q4 : w5.cell? ⟨b4, 4, none⟩ = some (.int .i64 ke) := k4.cell 4
  have q5 : w5.cell? ⟨b4, 5, none⟩ = some (.int .i64 va) := k4.cell 5
  have q6 : w5.cell? ⟨b4, 6, none⟩ = some (.int .i64 po) := k4.cell 6
  have CB : Hid (Calls Try.prog 10 #[.pointer (some ⟨v, 0, none⟩), .agg #[.int .i64 (n : Int), .int .i64 (sz : Int), .int .i64 re, .int .i64 wk, .int .i64 ke, .int .i64 va, .int .i64 po]] w5 fun e w' => e = .returned (.int .i64 0) ∧ ∃ L', Sep B w0 w' (devOb v L' X :: blkOb b4 26 #[.int .i64 (n : Int), .int .i64 (sz : Int), .int .i64 re, .int .i64 wk, .int .i64 ke, .int .i64 va, .int .i64 po] :: blkOb b3 26 #[.int .i64 0, .int .i64 0, .int .i64 0, .int .i64 0, .int .i64 0, .int .i64 0, .int .i64 0] :: os)) := by
    have := sep_dbegin H5.out (AllCells.cons (cellOb_blk _ _ _) (AllCells.cons (cellOb_blk _ _ _) HCC.out)) (by show 0 < 4611686018427380000; omega) ⟨(n : Int), (sz : Int), re, wk, ke, va, po⟩ HW.out
    rw [HB.out] at this
    exact this
  clear k4
  go_wp2_with fail
  refine CB.out.mono ?_
  rintro e w6 ⟨rfl, L2, hs⟩
  have H6 : Hid (Sep B w0 w6 (blkOb b3 26 #[.int .i64 0, .int .i64 0, .int .i64 0, .int .i64 0, .int .i64 0, .int .i64 0, .int .i64 0] :: [devOb v L2 X, blkOb b4 26 #[.int .i64 (n : Int), .int .i64 (sz : Int), .int .i64 re, .int .i64 wk, .int .i64 ke, .int .i64 va, .int .i64 po]] ++ os)) := hs.perm (List.perm_middle (l₁ := [_, _]))
  have k4 : Blk w6 b4 26 #[.int .i64 (n : Int), .int .i64 (sz : Int), .int .i64 re, .int .i64 wk, .int .i64 ke, .int .i64 va, .int .i64 po] := hs.get (.tail _ (.head _))
  have k3 : Blk w6 b3 26 #[.int .i64 0, .int .i64 0, .int .i64 0, .int .i64 0, .int .i64 0, .int .i64 0, .int .i64 0] := hs.get (.tail _ (.tail _ (.head _)))
  clear hs CB q0 q1 q2 q3 q4 q5 q6
  have q0 : w6.cell? ⟨b4, 0, none⟩ = some (.int .i64 (n : Int)) := k4.cell 0
  have z0 : w6.cell? ⟨b3, 0, none⟩ = some (.int .i64 0) := k3.cell 0
  have f0 := k3.frozen 0
  have q1 : w6.cell? ⟨b4, 1, none⟩ = some (.int .i64 (sz : Int)) := k4.cell 1
  have z1 : w6.cell? ⟨b3, 1, none⟩ = some (.int .i64 0) := k3.cell 1
  have f1 := k3.frozen 1
  have q2 : w6.cell? ⟨b4, 2, none⟩ = some (.int .i64 re) := k4.cell 2
  have z2 : w6.cell? ⟨b3, 2, none⟩ = some (.int .i64 0) := k3.cell 2
  have f2 := k3.frozen 2
  have q3 : w6.cell? ⟨b4, 3, none⟩ = some (.int .i64 wk) := k4.cell 3
  have z3 : w6.cell? ⟨b3, 3, none⟩ = some (.int .i64 0) := k3.cell 3
  have f3 := k3.frozen 3
  have q4 : w6.cell? ⟨b4, 4, none⟩ = some (.int .i64 ke) := k4.cell 4
  have z4 : w6.cell? ⟨b3, 4, none⟩ = some (.int .i64 0) := k3.cell 4
  have f4 := k3.frozen 4
  have q5 : w6.cell? ⟨b4, 5, none⟩ = some (.int .i64 va) := k4.cell 5
  have z5 : w6.cell? ⟨b3, 5, none⟩ = some (.int .i64 0) := k3.cell 5
  have f5 := k3.frozen 5
  have q6 : w6.cell? ⟨b4, 6, none⟩ = some (.int .i64 po) := k4.cell 6
  have z6 : w6.cell? ⟨b3, 6, none⟩ = some (.int .i64 0) := k3.cell 6
  have f6 := k3.frozen 6
  clear k4 k3
  go_wp2_with fail
  go_region
  all_goals
    go_wp2_with fail
    have hz := (((((((H6.out.setBlk 0 (.int .i64 (n : Int))).setBlk 1 (.int .i64 (sz : Int))).setBlk 2 (.int .i64 re)).setBlk 3 (.int .i64 wk)).setBlk 4 (.int .i64 ke)).setBlk 5 (.int .i64 va)).setBlk 6 (.int .i64 po))
    have hz2 := hz.drew
    refine bodyPost_ret (results_tmp_blk rfl _ _ b3 26 #[.int .i64 (n : Int), .int .i64 (sz : Int), .int .i64 re, .int .i64 wk, .int .i64 ke, .int .i64 va, .int .i64 po] _ rfl (hz2.get (.head _)) Try.underlying26 rfl (by kernel_rfl)) rfl ?_
    exact ⟨v, L2, X, rfl, HBG.out, hz2.sub (.cons _ (.cons_cons _ (.cons _ (List.Sublist.refl _))))⟩
end
end Go.Proofs.Ytnopljanpjmbgaa
namespace Go.Proofs.Ytnopljanpjmbgaa
open Go.RowKit Drum
set_option linter.unusedVariables false
theorem begin_bad (X : DevD) {c : Cf} (h : ¬ (c.ok ∧ c.slots = (X.n : Int))) : beginX X c = (2, X) := by unfold beginX; rw [if_pos h]
theorem write_bad (X : DevD) {b : Bk} (h : ¬ b.ok) : writeX X b = (2, X) := by unfold writeX; rw [if_pos h]
theorem adv_bad (X : DevD) {p : Int} (h : ¬ (p = 1 ∨ p = 2)) : advX X p = (2, bk0, X) := by unfold advX; rw [if_pos h]
theorem begin_down {X : DevD} (hd : X.down = true) {c : Cf} (h : c.ok) (hs : c.slots = (X.n : Int)) : beginX X c = (13, X) := by
  unfold beginX; rw [if_neg (fun e => e ⟨h, hs⟩), if_pos hd]
theorem write_down {X : DevD} (hd : X.down = true) {b : Bk} (h : b.ok) : writeX X b = (13, X) := by
  unfold writeX; rw [if_neg (fun e => e h), if_pos hd]
theorem adv_down {X : DevD} (hd : X.down = true) {p : Int} (h : p = 1 ∨ p = 2) : advX X p = (13, bk0, X) := by
  unfold advX; rw [if_neg (fun e => e h), if_pos hd]
theorem read_down {X : DevD} (hd : X.down = true) : readX X = (13, 0, bk0) := by unfold readX; rw [if_pos hd]
/-- A crash at once, where the copies are durable: they stay. -/
theorem arm_now {X : DevD} {n : Nat} (h : Ready X n) (hd : Dur2 X n) (k : Int) (hk : 0 ≤ k ∧ k ≤ 8192) :
    armE 0 [k] = 0 ∧ (armX X 0 false [k]).down = true ∧ (armX X 0 false [k]).n = n ∧ Ready (restartX (armX X 0 false [k])) n ∧ (restartX (armX X 0 false [k])).T = none ∧
      ((armX X 0 false [k]).D n).bytes = (X.D n).bytes ∧ ((armX X 0 false [k]).D (n + 1)).bytes = (X.D (n + 1)).bytes := by
  have hok : okPlan 0 [k] := ⟨⟨by omega, by omega⟩, ⟨by simp, by simp⟩, fun z hz => by rw [List.mem_singleton] at hz; subst hz; exact hk⟩
  have e : armX X 0 false [k] = { X with D := crashD [k] X.D, T := armP 0 false [k], down := true } := by
    unfold armX
    rw [if_pos hok, if_pos ⟨rfl, h.up⟩]
  have key : ∀ j, (X.D j).dur = (X.D j).bytes.length → (crashD [k] X.D j).bytes = (X.D j).bytes := fun j hj => by
    show (X.D j).bytes.take (crashN (keepAt [k] j) (X.D j)) = _
    have e2 : crashN (keepAt [k] j) (X.D j) = (X.D j).bytes.length := by unfold crashN; omega
    rw [e2, List.take_length]
  rw [e]
  exact ⟨if_pos hok, rfl, h.hn, ⟨h.hn, rfl, h.s0, h.s1⟩, rfl, key n hd.1, key (n + 1) hd.2⟩
/-- The last epoch. -/
def lastB (c : Cf) : Bk := ⟨1099511627776, c⟩
theorem lastB_ok {c : Cf} (h : c.ok) : (lastB c).ok := ⟨⟨by show (1 : Int) ≤ 1099511627776; omega, by show (1099511627776 : Int) ≤ 1099511627776; omega⟩, h⟩
theorem write_last {X : DevD} {n : Nat} (h : Ready X n) (hT : X.T = none) {c : Cf} (hc : c.ok) (h1 : (X.D (n + 1)).bytes = encOf ⟨1, c⟩) :
    ∃ X', writeX X (lastB c) = (0, X') ∧ advX X' 1 = (16, bk0, X') ∧ readX X' = (0, 0, lastB c) := by
  obtain ⟨X', a1, a2, a3, a4, a5, a6⟩ := write_ok h (lastB c) (lastB_ok hc) (by rw [hT]; rfl) (by rw [hT]; rfl) (by rw [hT]; rfl)
  rw [wslot_par h] at a5 a6
  have p1 : par (lastB c) = 0 := rfl
  rw [p1] at a5 a6
  have ok1 : Bk.ok ⟨1, c⟩ := ⟨⟨by show (1 : Int) ≤ 1; omega, by show (1 : Int) ≤ 1099511627776; omega⟩, hc⟩
  have hcur : Cur X' n (lastB c) := by
    refine ⟨lastB_ok hc, by rw [p1, a5], .inr ?_⟩
    rw [p1]
    have : cpD X' 1 = (0, ⟨1, c⟩) := cp_valid a2 ok1 (by rw [a6 _ (by omega)]; exact h1)
    show (cpD X' 1).2.epoch < 1099511627776
    rw [this]
    show (1 : Int) < 1099511627776
    omega
  have hr := cur_read a2 hcur
  rw [p1] at hr
  refine ⟨X', a1, ?_, hr⟩
  have hn : nextOf (lastB c) 1 = (16, bk0) := nextOf_last (lastB_ok hc) (.inl rfl) rfl
  unfold advX
  rw [if_neg (by omega), a2.up, if_neg (by simp), hr, if_neg (by simp), hn, if_pos (by simp)]
end Go.Proofs.Ytnopljanpjmbgaa
namespace Go.Proofs.Ytnopljanpjmbgaa
open Go.RowKit Drum
set_option linter.unusedVariables false
structure RefF (X X2 X4 : DevD) (n : Nat) (c : Cf) (k : Int) : Prop where
  arm : armX X 0 false [k] = X2
  armE : armE 0 [k] = 0
  ops : X.ops ≤ 10 ∧ X2.ops ≤ 10 ∧ X4.ops ≤ 13
  n2 : X2.n = n
  down : X2.down = true
  last : writeX (restartX X2) (lastB c) = (0, X4)
  adv : advX X4 1 = (16, bk0, X4)
  read : readX X4 = (0, 0, lastB c)
theorem armX_ops1 (X : DevD) (at_ : Int) (dn : Bool) (keep : List Int) : (armX X at_ dn keep).ops = X.ops := by
  unfold armX
  split
  · split <;> rfl
  · rfl
theorem ref_plain {X : DevD} {n : Nat} {c : Cf} (h : Begun X n c) (k : Int) (hk : 0 ≤ k ∧ k < 100) : ∃ X2 X4, RefF X X2 X4 n c k := by
  obtain ⟨a1, a2, a3, a4, a5, a6, a7⟩ := arm_now h.rd h.dur k (by omega)
  obtain ⟨X4, b1, b2, b3⟩ := write_last a4 a5 h.ok (show ((armX X 0 false [k]).D (n + 1)).bytes = _ by rw [a7, h.d1])
  have o1 := h.ops
  have o2 := armX_ops1 X 0 false [k]
  have o3 := wE_ops (restartX (armX X 0 false [k])) (lastB c)
  rw [b1] at o3
  have o4 : (restartX (armX X 0 false [k])).ops = (armX X 0 false [k]).ops := rfl
  have o5 : X4.ops ≤ (restartX (armX X 0 false [k])).ops + 3 := o3
  exact ⟨_, X4, rfl, a1, ⟨by omega, by omega, by omega⟩, a3, a2, b1, b2, b3⟩
end Go.Proofs.Ytnopljanpjmbgaa
namespace Go.Proofs.Ytnopljanpjmbgaa
open Go.RowKit Drum
set_option linter.unusedVariables false
section
variable {B : Nat} {w0 w : World} {os : List Ob} {v : Nat} {L : DLay} {X Y : DevD}
theorem lt_ops (h : Sep B w0 w (devOb v L X :: os)) :
    Calls Try.prog 8 #[.pointer (some ⟨v, 0, none⟩)] w fun e w' => e = .returned (.int .i64 (X.ops : Int)) ∧ Sep B w0 w' (devOb v L X :: os) :=
  (dev_ops h.dev).mono fun e w' ⟨h1, h2⟩ => ⟨h1, h2 ▸ h⟩
theorem lt_down (h : Sep B w0 w (devOb v L X :: os)) (b : Bool) (hb : X.down = b) :
    Calls Try.prog 13 #[.pointer (some ⟨v, 0, none⟩)] w fun e w' => e = .returned (.bool b) ∧ Sep B w0 w' (devOb v L X :: os) :=
  (dev_down h.dev).mono fun e w' ⟨h1, h2⟩ => ⟨by rw [h1, hb], h2 ▸ h⟩
theorem lt_slots (h : Sep B w0 w (devOb v L X :: os)) (n : Nat) (hn : X.n = n) :
    Calls Try.prog 27 #[.pointer (some ⟨v, 0, none⟩)] w fun e w' => e = .returned (.int .i64 (n : Int)) ∧ Sep B w0 w' (devOb v L X :: os) :=
  (dev_slots h.dev).mono fun e w' ⟨h1, h2⟩ => ⟨by rw [h1, hn], h2 ▸ h⟩
theorem lt_read (h : Sep B w0 w (devOb v L X :: os)) (er ri x0 x1 x2 x3 x4 x5 x6 x7 : Int) (hr : ((readX X).1 = er ∧ ((readX X).2.1 : Int) = ri) ∧ (readX X).2.2 = ⟨x0, ⟨x1, x2, x3, x4, x5, x6, x7⟩⟩) :
    Calls Try.prog 14 #[.pointer (some ⟨v, 0, none⟩)] w fun e w' => e = .returned (.tuple #[.agg #[.int .i64 x0, .int .i64 x1, .int .i64 x2, .int .i64 x3, .int .i64 x4, .int .i64 x5, .int .i64 x6, .int .i64 x7], .int .i64 ri, .int .i64 er]) ∧ Sep B w0 w' (devOb v L X :: os) :=
  (dread_any h.dev).mono fun e w' ⟨h1, h2⟩ => ⟨by rw [h1, hr.1.1, hr.1.2, hr.2]; rfl, h.below h2⟩
theorem lt_begin (h : Sep B w0 w (devOb v L X :: os)) (hC : AllCells os) (hops : X.ops ≤ 100000) (x1 x2 x3 x4 x5 x6 x7 er : Int) (hc : Cf.wf ⟨x1, x2, x3, x4, x5, x6, x7⟩) (hr : beginX X ⟨x1, x2, x3, x4, x5, x6, x7⟩ = (er, Y)) :
    Calls Try.prog 10 #[.pointer (some ⟨v, 0, none⟩), .agg #[.int .i64 x1, .int .i64 x2, .int .i64 x3, .int .i64 x4, .int .i64 x5, .int .i64 x6, .int .i64 x7]] w fun e w' => e = .returned (.int .i64 er) ∧ ∃ L', Sep B w0 w' (devOb v L' Y :: os) := by
  have := sep_dbegin h hC (by omega) ⟨x1, x2, x3, x4, x5, x6, x7⟩ hc
  rw [hr] at this
  exact this
theorem lt_adv (h : Sep B w0 w (devOb v L X :: os)) (hC : AllCells os) (hops : X.ops ≤ 100000) (p er x0 x1 x2 x3 x4 x5 x6 x7 : Int) (hr : advX X p = (er, ⟨x0, ⟨x1, x2, x3, x4, x5, x6, x7⟩⟩, Y)) :
    Calls Try.prog 9 #[.pointer (some ⟨v, 0, none⟩), .int .i64 p] w fun e w' => e = .returned (.tuple #[.agg #[.int .i64 x0, .int .i64 x1, .int .i64 x2, .int .i64 x3, .int .i64 x4, .int .i64 x5, .int .i64 x6, .int .i64 x7], .int .i64 er]) ∧ ∃ L', Sep B w0 w' (devOb v L' Y :: os) := by
  have := sep_dadv h hC (by omega) p
  rw [hr] at this
  exact this
theorem lt_write (h : Sep B w0 w (devOb v L X :: os)) (hC : AllCells os) (hops : X.ops ≤ 100000) (x0 x1 x2 x3 x4 x5 x6 x7 er : Int) (hc : Bk.wf ⟨x0, ⟨x1, x2, x3, x4, x5, x6, x7⟩⟩) (hr : writeX X ⟨x0, ⟨x1, x2, x3, x4, x5, x6, x7⟩⟩ = (er, Y)) :
    Calls Try.prog 11 #[.pointer (some ⟨v, 0, none⟩), .agg #[.int .i64 x0, .int .i64 x1, .int .i64 x2, .int .i64 x3, .int .i64 x4, .int .i64 x5, .int .i64 x6, .int .i64 x7]] w fun e w' => e = .returned (.int .i64 er) ∧ ∃ L', Sep B w0 w' (devOb v L' Y :: os) := by
  have := sep_dwrite h hC (by omega) ⟨x0, ⟨x1, x2, x3, x4, x5, x6, x7⟩⟩ hc
  rw [hr] at this
  exact this
/-- Arm with a plan of one number. -/
theorem lt_arm {g : Nat} {k : Int} (h : Sep B w0 w (blkOb g 3 #[.int .i64 k] :: devOb v L X :: os)) (hC : AllCells os) (at_ : Int) (dn : Bool) (hat : -9223372036854775808 ≤ at_ ∧ at_ ≤ 9223372036854775807) (he : armE at_ [k] = 0) :
    Calls Try.prog 12 #[.pointer (some ⟨v, 0, none⟩), .agg #[.int .i64 at_, .bool dn, .slice (some ⟨g, 0, none⟩) 1 1]] w fun e w' => e = .returned (.int .i64 0) ∧ ∃ L', Sep B w0 w' (devOb v L' (armX X at_ dn [k]) :: os) := by
  have := sep_varm_blk h hC at_ dn [k] 1 rfl rfl (by unfold maxLen; omega) hat
  rw [he] at this
  exact this
end
end Go.Proofs.Ytnopljanpjmbgaa
namespace Go.Proofs.Ytnopljanpjmbgaa
open Go.RowKit Go.ChangeShapes Go.WideShapes
set_option linter.unusedVariables false
theorem Rd.array7 {P : Program} {w : World} {t e : TypeId} {c0 c1 c2 c3 c4 c5 c6 : Value} (ht : P.underlying t = some (.array 7 e)) (hce : P.cellsOf e = 1)
    (h : Rd P w t [c0, c1, c2, c3, c4, c5, c6]) : Rd P w e [c0] ∧ Rd P w e [c1] ∧ Rd P w e [c2] ∧ Rd P w e [c3] ∧ Rd P w e [c4] ∧ Rd P w e [c5] ∧ Rd P w e [c6] := by
  obtain ⟨H, enc, base, sp, hd, fuel, x, h⟩ := h
  cases fuel with
  | zero => simp [DataW.trod] at h
  | succ n =>
    unfold DataW.trod at h
    rw [ht] at h
    have r7 : List.range 7 = [0, 1, 2, 3, 4, 5, 6] := rfl
    simp [r7, hce] at h
    obtain ⟨_, h⟩ := h
    cases h0 : DataW.trod enc P w base sp hd n e [c0] with
    | none => simp [h0] at h
    | some y0 =>
      cases h1 : DataW.trod enc P w base sp hd n e [c1] with
      | none => simp [h0, h1] at h
      | some y1 =>
        cases h2 : DataW.trod enc P w base sp hd n e [c2] with
        | none => simp [h0, h1, h2] at h
        | some y2 =>
          cases h3 : DataW.trod enc P w base sp hd n e [c3] with
          | none => simp [h0, h1, h2, h3] at h
          | some y3 =>
            cases h4 : DataW.trod enc P w base sp hd n e [c4] with
            | none => simp [h0, h1, h2, h3, h4] at h
            | some y4 =>
              cases h5 : DataW.trod enc P w base sp hd n e [c5] with
              | none => simp [h0, h1, h2, h3, h4, h5] at h
              | some y5 =>
                cases h6 : DataW.trod enc P w base sp hd n e [c6] with
                | none => simp [h0, h1, h2, h3, h4, h5, h6] at h
                | some y6 =>
                  exact ⟨⟨H, enc, base, sp, hd, n, _, h0⟩, ⟨H, enc, base, sp, hd, n, _, h1⟩, ⟨H, enc, base, sp, hd, n, _, h2⟩, ⟨H, enc, base, sp, hd, n, _, h3⟩, ⟨H, enc, base, sp, hd, n, _, h4⟩, ⟨H, enc, base, sp, hd, n, _, h5⟩, ⟨H, enc, base, sp, hd, n, _, h6⟩⟩
theorem okWide_array {P : Program} {w : World} {r : Reach} {base : Nat} {t : TypeId} {v : Value} {n : Nat} {e : TypeId} (ht : P.underlying t = some (.array n e)) (h : Value.okWide P w r base t v) : ∃ cs, v = .agg cs ∧ cs.size = P.cellsOf t := by
  simp only [Value.okWide, ht] at h
  obtain ⟨cs, h1, h2, _⟩ := h
  exact ⟨cs, h1, h2⟩
theorem seven_list {l : List Value} (h : l.length = 7) : ∃ b c d e f g i, l = [b, c, d, e, f, g, i] := by
  match l, h with
  | [b, c, d, e, f, g, i], _ => exact ⟨b, c, d, e, f, g, i, rfl⟩
/-- Seven bytes, by their number. -/
def sevenF (b0 b1 b2 b3 b4 b5 b6 : BitVec 8) : Fin 7 → BitVec 8 := fun i => [b0, b1, b2, b3, b4, b5, b6].getD i.val 0#8
set_option maxRecDepth 20000 in
theorem seven_arg {w : World} {v : Value} (h : ArgIn Try.prog w 22 v) : ∃ b : Fin 7 → BitVec 8, v = .agg #[.int .u8 (n8 (b 0)), .int .u8 (n8 (b 1)), .int .u8 (n8 (b 2)), .int .u8 (n8 (b 3)), .int .u8 (n8 (b 4)), .int .u8 (n8 (b 5)), .int .u8 (n8 (b 6))] := by
  obtain ⟨h1, base, h2⟩ := h
  obtain ⟨cs, rfl, hl⟩ := okWide_array Try.underlying22 h2
  have hC : Try.prog.cellsOf 22 = 7 := by kernel_rfl
  have hC3 : Try.prog.cellsOf 5 = 1 := by kernel_rfl
  rw [hC] at hl
  obtain ⟨c0, c1, c2, c3, c4, c5, c6, hx⟩ := seven_list (l := cs.toList) (by simpa using hl)
  have h3 : Rd Try.prog w 22 cs.toList := h1
  rw [hx] at h3
  obtain ⟨k0, k1, k2, k3, k4, k5, k6⟩ := Rd.array7 Try.underlying22 hC3 h3
  obtain ⟨y0, e0, w0⟩ := Rd.int (k := .u8) Try.underlying5 k0
  obtain ⟨b0, rfl⟩ := u8_of_wf w0
  obtain ⟨y1, e1, w1⟩ := Rd.int (k := .u8) Try.underlying5 k1
  obtain ⟨b1, rfl⟩ := u8_of_wf w1
  obtain ⟨y2, e2, w2⟩ := Rd.int (k := .u8) Try.underlying5 k2
  obtain ⟨b2, rfl⟩ := u8_of_wf w2
  obtain ⟨y3, e3, w3⟩ := Rd.int (k := .u8) Try.underlying5 k3
  obtain ⟨b3, rfl⟩ := u8_of_wf w3
  obtain ⟨y4, e4, w4⟩ := Rd.int (k := .u8) Try.underlying5 k4
  obtain ⟨b4, rfl⟩ := u8_of_wf w4
  obtain ⟨y5, e5, w5⟩ := Rd.int (k := .u8) Try.underlying5 k5
  obtain ⟨b5, rfl⟩ := u8_of_wf w5
  obtain ⟨y6, e6, w6⟩ := Rd.int (k := .u8) Try.underlying5 k6
  obtain ⟨b6, rfl⟩ := u8_of_wf w6
  refine ⟨sevenF b0 b1 b2 b3 b4 b5 b6, congrArg Value.agg ?_⟩
  apply Array.toList_inj.1
  rw [hx]
  simp only [List.cons.injEq, and_true] at e0 e1 e2 e3 e4 e5 e6
  rw [e0, e1, e2, e3, e4, e5, e6]
  rfl
end Go.Proofs.Ytnopljanpjmbgaa
