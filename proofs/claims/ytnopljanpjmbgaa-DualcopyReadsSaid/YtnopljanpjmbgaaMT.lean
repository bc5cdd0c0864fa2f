/-
  Plain mathematics of bits that are changed in the encoding of a superblock: all in its sum, or all behind it; Plain mathematics of one byte that is changed in the encoding of a superblock: it is not decoded; The plain law of the copies that are read: two writings, a changed byte in the first copy, missing bytes in the second one; Reading a device's bytes, erasing and appending on it, with the answers as letters.
-/
import Derived.Test.YtnopljanpjmbgaaMK
import Derived.Test.YtnopljanpjmbgaaMJ
import Derived.Test.YtnopljanpjmbgaaMP
namespace Go.Proofs.Ytnopljanpjmbgaa
open Go.RowKit Drum
set_option linter.unusedVariables false
/-- A byte of a word. -/
def byteAt (x : W32) (q : Nat) : BitVec 8 := (x >>> (8 * q)).setWidth 8
theorem byteAt_one : ∀ k, k < 32 → ∀ q, q < 4 → byteAt (1#32 <<< k) q = if q = k / 8 then 1#8 <<< (k % 8) else 0#8 := by decide +kernel
theorem byteAt_xor (x y : W32) (q : Nat) : byteAt (x ^^^ y) q = byteAt x q ^^^ byteAt y q := by
  unfold byteAt
  rw [BitVec.ushiftRight_xor_distrib, BitVec.setWidth_xor]
theorem byteAt_all {x : W32} (h : ∀ q, q < 4 → byteAt x q = 0#8) : x = 0#32 := by
  apply BitVec.eq_of_getLsbD_eq
  intro i hi
  have h1 := h (i / 8) (by omega)
  have h2 := congrArg (fun b : BitVec 8 => b.getLsbD (i % 8)) h1
  simp only [byteAt, BitVec.getLsbD_setWidth, BitVec.getLsbD_ushiftRight, BitVec.getLsbD_zero] at h2
  have e : 8 * (i / 8) + i % 8 = i := by omega
  rw [e] at h2
  simpa [show i % 8 < 8 by omega] using h2
/-- How many bits can be changed from a place on. -/
def burstN (a : Nat) : Nat := if a < 32 then 32 - a else 512 - a
/-- What the bytes are when the first j bits have been looked at. -/
structure Bst (l m : List (BitVec 8)) (x : W32) (a j : Nat) : Prop where
  len : m.length = 64
  same : cbits x (burstN a) j = 0#32 → m = l
  sum : a < 32 → m.drop 4 = l.drop 4 ∧ ∀ q, q < 4 → m.getD q 0#8 = l.getD q 0#8 ^^^ byteAt (cbits x (burstN a) j <<< a) q
  rest : 32 ≤ a → m.take 4 = l.take 4 ∧ ∀ y, craw y (m.drop 4) = craw y (l.drop 4) ^^^ it cstep (burstN a) (cbits x (burstN a) j)
theorem Bst.start {l : List (BitVec 8)} (h : l.length = 64) (x : W32) (a : Nat) : Bst l l x a 0 := by
  refine ⟨h, fun _ => rfl, fun _ => ⟨rfl, fun q hq => ?_⟩, fun _ => ⟨rfl, fun y => ?_⟩⟩
  · show _ = _ ^^^ byteAt (0#32 <<< a) q
    have : byteAt (0#32 <<< a) q = 0#8 := by simp [byteAt]
    rw [this, BitVec.xor_zero]
  · show _ = _ ^^^ it cstep _ 0#32
    rw [(it_lin cstep_lin _).zero, BitVec.xor_zero]
theorem Bst.skip {l m : List (BitVec 8)} {x : W32} {a j : Nat} (h : Bst l m x a j) (hs : (x.getLsbD j && decide (j < burstN a)) = false) : Bst l m x a (j + 1) := by
  have e := cbits_same x (burstN a) j hs
  exact ⟨h.len, by rw [e]; exact h.same, by rw [e]; exact h.sum, by rw [e]; exact h.rest⟩
theorem Bst.flip {l m : List (BitVec 8)} {x : W32} {a j : Nat} (h : Bst l m x a j) (ha : a < 512) (hj : j < 32) (hb : x.getLsbD j = true) (hn : j < burstN a) (hq : (a + j) / 8 < m.length) :
    Bst l (m.set ((a + j) / 8) (m[(a + j) / 8] ^^^ 1#8 <<< ((a + j) % 8))) x a (j + 1) := by
  have e := cbits_step x (burstN a) j hb hn
  have hne := cbits_ne x (burstN a) j hj hb hn
  refine ⟨by rw [List.length_set]; exact h.len, fun h0 => absurd h0 hne, fun hlt => ?_, fun hge => ?_⟩
  · have hN : burstN a = 32 - a := if_pos hlt
    obtain ⟨h1, h2⟩ := h.sum hlt
    have hk : a + j < 32 := by omega
    refine ⟨by rw [List.drop_set_of_lt (by omega)]; exact h1, fun q hq4 => ?_⟩
    have es : (cbits x (burstN a) (j + 1)) <<< a = (cbits x (burstN a) j <<< a) ^^^ (1#32 <<< (a + j)) := by
      rw [e, BitVec.shiftLeft_xor_distrib, ← BitVec.shiftLeft_add, Nat.add_comm j a]
    rw [es, byteAt_xor, byteAt_one _ hk q hq4, ← BitVec.xor_assoc, ← h2 q hq4]
    have hqm : q < m.length := by rw [h.len]; omega
    simp only [List.getD_eq_getElem?_getD, List.getElem?_set]
    by_cases hqe : q = (a + j) / 8
    · subst hqe
      simp [hqm]
    · rw [if_neg (fun e => hqe e.symm), if_neg hqe, BitVec.xor_zero]
  · have hN : burstN a = 512 - a := if_neg (by omega)
    obtain ⟨h1, h2⟩ := h.rest hge
    refine ⟨by rw [List.take_set_of_le (by omega)]; exact h1, fun y => ?_⟩
    have hl : (m.drop 4).length = 60 := by rw [List.length_drop, h.len]
    have hq' : (a + j) / 8 - 4 < (m.drop 4).length := by rw [hl]; omega
    have hf := craw_flip (m.drop 4) ((a + j) / 8 - 4) ((a + j) % 8) hq' (by omega) y
    have eg : (m.drop 4)[(a + j) / 8 - 4] = m[(a + j) / 8] := by
      rw [List.getElem_drop]; congr 1; omega
    have ed : (m.set ((a + j) / 8) (m[(a + j) / 8] ^^^ 1#8 <<< ((a + j) % 8))).drop 4 = (m.drop 4).set ((a + j) / 8 - 4) (m[(a + j) / 8] ^^^ 1#8 <<< ((a + j) % 8)) := by
      rw [List.drop_set, if_neg (by omega)]
    rw [eg] at hf
    rw [ed, hf, h2 y, hl]
    have en : 8 * (60 - ((a + j) / 8 - 4)) - (a + j) % 8 = burstN a - j := by rw [hN]; omega
    rw [en, it_one (burstN a) j hj (by omega), e, it_lin cstep_lin (burstN a), BitVec.xor_assoc]
theorem Bst.dec {b : Bk} {m : List (BitVec 8)} {x : W32} {a : Nat} (h : Bst (encOf b) m x a 32) (hok : b.ok) (ha : a < 512) :
    decOf m = if cbits x (burstN a) 32 = 0#32 then (0, b) else (15, bk0) := by
  by_cases h0 : cbits x (burstN a) 32 = 0#32
  · rw [if_pos h0, h.same h0]
    have := decOf_enc b hok []
    rwa [List.append_nil] at this
  · rw [if_neg h0]
    have ht : (m.take 64).drop 4 = m.drop 4 := by rw [List.take_of_length_le (by rw [h.len]; omega)]
    refine decOf_sum m (by rw [h.len]; omega) ?_
    rw [ht]
    have hs := encOf_sum b
    have hl := encOf_length b
    by_cases hlt : a < 32
    · obtain ⟨h1, h2⟩ := h.sum hlt
      rw [h1, hs]
      intro e
      have hnum : numTo (encOf b) 0 4 = numTo m 0 4 := by
        have e1 := congrArg BitVec.toNat e
        rw [BitVec.toNat_ofNat, BitVec.toNat_ofNat, Nat.mod_eq_of_lt (numTo_lt _ 0 4), Nat.mod_eq_of_lt (numTo_lt _ 0 4)] at e1
        exact e1
      apply h0
      have hz : cbits x (burstN a) 32 <<< a = 0#32 := by
        refine byteAt_all fun q hq => ?_
        have e2 : m.getD q 0#8 = (encOf b).getD q 0#8 := by
          have d1 := numTo_div m 0 4 q hq
          have d2 := numTo_div (encOf b) 0 4 q hq
          rw [Nat.zero_add] at d1 d2
          rw [← d1, ← d2, hnum]
        have e3 := h2 q hq
        rw [e2] at e3
        have e4 := congrArg ((encOf b).getD q 0#8 ^^^ ·) e3
        simp only [← BitVec.xor_assoc, BitVec.xor_self, BitVec.zero_xor] at e4
        exact e4.symm
      apply BitVec.eq_of_getLsbD_eq
      intro i hi
      have hN : burstN a = 32 - a := if_pos hlt
      by_cases hia : i < 32 - a
      · have := congrArg (fun y : W32 => y.getLsbD (i + a)) hz
        simp only [BitVec.getLsbD_shiftLeft, BitVec.getLsbD_zero] at this
        simpa [show i + a < 32 by omega] using this
      · rw [cbits_bit x (burstN a) 32 i hi, hN]
        simp [hia]
    · obtain ⟨h1, h2⟩ := h.rest (by omega)
      have hnum : numTo m 0 4 = numTo (encOf b) 0 4 := numTo_congr 4 (fun i hi => by
        have := congrArg (fun l : List (BitVec 8) => l[i]?) h1
        simp only [List.getElem?_take, if_pos hi] at this
        simp only [List.getD_eq_getElem?_getD, Nat.zero_add, this])
      rw [hnum, ← hs]
      intro e
      exact h0 ((csum_diff ((encOf b).drop 4) (m.drop 4) (burstN a) _ h2).1 e.symm)
end Go.Proofs.Ytnopljanpjmbgaa
namespace Go.Proofs.Ytnopljanpjmbgaa
open Go.RowKit Drum
set_option linter.unusedVariables false
theorem Bst.skips {l m : List (BitVec 8)} {x : W32} {a : Nat} : ∀ k j, j + k = 32 → (∀ i, j ≤ i → x.getLsbD i = false) → Bst l m x a j → Bst l m x a 32
  | 0, j, hj, hx, h => by
    have e : j = 32 := by omega
    rw [← e]; exact h
  | k + 1, j, hj, hx, h => by
    refine Bst.skips k (j + 1) (by omega) (fun i hi => hx i (by omega)) (h.skip ?_)
    rw [hx j (Nat.le_refl _)]; rfl
theorem burstN_byte (q : Nat) (hq : q < 64) : 8 ≤ burstN (8 * q) := by unfold burstN; split <;> omega
theorem no_bit {x : W32} (n : Nat) (h : x.toNat < 2 ^ n) : ∀ i, n ≤ i → x.getLsbD i = false := fun i hi => by
  rw [BitVec.getLsbD, Nat.testBit_lt_two_pow (Nat.lt_of_lt_of_le h (Nat.pow_le_pow_right (by omega) hi))]
/-- The mask by which the byte is changed. -/
def mask8 (k : Nat) : BitVec 8 := BitVec.ofNat 8 (k + 1)
def mask32 (k : Nat) : W32 := BitVec.ofNat 32 (k + 1)
theorem mask_bst {l : List (BitVec 8)} (h : l.length = 64) (q : Nat) (hq : q < 64) (k : Nat) (hk : k < 4) : Bst l (l.set q (l.getD q 0#8 ^^^ mask8 k)) (mask32 k) (8 * q) 32 := by
  have hb := burstN_byte q hq
  have hg : l.getD q 0#8 = l[q] := by rw [List.getD_eq_getElem?_getD, List.getElem?_eq_getElem (by omega)]; rfl
  have d0 : (8 * q + 0) / 8 = q := by omega
  have d1 : (8 * q + 1) / 8 = q := by omega
  have d2 : (8 * q + 2) / 8 = q := by omega
  have r0 : (8 * q + 0) % 8 = 0 := by omega
  have r1 : (8 * q + 1) % 8 = 1 := by omega
  have r2 : (8 * q + 2) % 8 = 2 := by omega
  rw [hg]
  have f : ∀ {x : W32} {m : List (BitVec 8)} (j : Nat) (hj : j < 3) (hd : (8 * q + j) / 8 = q) (hr : (8 * q + j) % 8 = j), Bst l m x (8 * q) j → x.getLsbD j = true → ∀ hm : q < m.length, Bst l (m.set q (m[q] ^^^ 1#8 <<< j)) x (8 * q) (j + 1) := by
    intro x m j hj hd hr hB hx hm
    have := hB.flip (by omega) (by omega) hx (by omega) (by rw [hd]; exact hm)
    simpa only [hd, hr] using this
  have hql : q < l.length := by omega
  have s0 : ∀ x, Bst l l x (8 * q) 0 := fun x => Bst.start h x (8 * q)
  have hk4 : k = 0 ∨ k = 1 ∨ k = 2 ∨ k = 3 := by omega
  rcases hk4 with rfl | rfl | rfl | rfl
  · exact Bst.skips 31 1 rfl (no_bit 1 (by decide)) (f 0 (by omega) d0 r0 (s0 _) (by decide) hql)
  · refine Bst.skips 30 2 rfl (no_bit 2 (by decide)) (f 1 (by omega) d1 r1 ((s0 _).skip ?_) (by decide) hql)
    rfl
  · have h1 := f 0 (by omega) d0 r0 (s0 (mask32 2)) (by decide) hql
    have h2 := f 1 (by omega) d1 r1 h1 (by decide) (by simpa using hql)
    have e : (l.set q (l[q] ^^^ 1#8 <<< 0)).set q ((l.set q (l[q] ^^^ 1#8 <<< 0))[q]'(by simpa using hql) ^^^ 1#8 <<< 1) = l.set q (l[q] ^^^ mask8 2) := by
      rw [List.set_set, List.getElem_set_self, BitVec.xor_assoc]
      rfl
    rw [e] at h2
    exact Bst.skips 30 2 rfl (no_bit 2 (by decide)) h2
  · refine Bst.skips 29 3 rfl (no_bit 3 (by decide)) (f 2 (by omega) d2 r2 (((s0 _).skip ?_).skip ?_) (by decide) hql)
    · rfl
    · rfl
theorem mask_dec {b : Bk} (hok : b.ok) (q : Nat) (hq : q < 64) (k : Nat) (hk : k < 4) : decOf ((encOf b).set q ((encOf b).getD q 0#8 ^^^ mask8 k)) = (15, bk0) := by
  rw [(mask_bst (encOf_length b) q hq k hk).dec hok (by omega), if_neg]
  have hb := burstN_byte q hq
  intro e
  have key : ∀ i, i < 3 → (mask32 k).getLsbD i = true → False := fun i hi hx => by
    have := cbits_bit (mask32 k) (burstN (8 * q)) 32 i (by omega)
    rw [e, hx] at this
    simp at this
    omega
  have hk4 : k = 0 ∨ k = 1 ∨ k = 2 ∨ k = 3 := by omega
  rcases hk4 with rfl | rfl | rfl | rfl
  · exact key 0 (by omega) (by decide)
  · exact key 1 (by omega) (by decide)
  · exact key 0 (by omega) (by decide)
  · exact key 2 (by omega) (by decide)
end Go.Proofs.Ytnopljanpjmbgaa
namespace Go.Proofs.Ytnopljanpjmbgaa
open Go.RowKit Drum
set_option linter.unusedVariables false
/-- What is put over a copy. -/
structure Put (X X' : DevD) (n s : Nat) (l : List (BitVec 8)) : Prop where
  rd : Ready X' n
  tm : X'.T = none
  ops : X'.ops = X.ops + 2
  own : (X'.D s).bytes = l
  oth : ∀ j, j ≠ s → X'.D j = X.D j
theorem put_ok {X : DevD} {n : Nat} (h : Ready X n) (hT : X.T = none) (s : Nat) (hs : s = n ∨ s = n + 1) (l : List (BitVec 8)) (hl : l.length ≤ 64) :
    oneVE X (s : Int) = 0 ∧ appVE (EraseVX X (s : Int)) (s : Int) l = 0 ∧ Put X (appVX (EraseVX X (s : Int)) (s : Int) l) n s l := by
  have hsl : s < n + 2 := by omega
  have hsz := h.size s hs
  obtain ⟨e1, e2⟩ := h.erase s hsl (by rw [hT]; rfl)
  have d1 : eraseD X.D s s = ⟨64, [], 0⟩ := by unfold eraseD updF; rw [if_pos rfl, hsz]
  have r1 : Ready ⟨X.n, eraseD X.D s, tickP X.T, X.ops + 1, false⟩ n := h.upd s ⟨64, [], 0⟩ rfl _ _ _ (fun j => by
    by_cases e : j = s
    · subst e; rw [d1, if_pos rfl]
    · rw [if_neg e]; unfold eraseD updF; rw [if_neg e])
  have t1 : tickP X.T = none := by rw [hT]; rfl
  have a1 : appVE ⟨X.n, eraseD X.D s, tickP X.T, X.ops + 1, false⟩ (s : Int) l = 0 := by
    unfold appVE
    rw [if_pos (r1.chk s hsl)]
    dsimp only
    rw [Int.toNat_natCast, if_pos (by rw [d1]; show 0 + l.length ≤ 64; omega)]
    exact opE_no (by show tickB (tickP X.T) = false; rw [t1]; rfl)
  have a2 : appVX ⟨X.n, eraseD X.D s, tickP X.T, X.ops + 1, false⟩ (s : Int) l = ⟨X.n, updF (eraseD X.D s) s ⟨64, l, 0⟩, tickP (tickP X.T), X.ops + 1 + 1, false⟩ := by
    unfold appVX
    rw [if_pos (r1.chk s hsl)]
    dsimp only
    rw [Int.toNat_natCast, if_pos (by rw [d1]; show 0 + l.length ≤ 64; omega), op_no _ _ (by show tickB (tickP X.T) = false; rw [t1]; rfl) rfl]
    dsimp only
    unfold appD
    rw [if_pos (by rw [d1]; show 0 + l.length ≤ 64; omega), d1]
    rfl
  rw [e1, a2]
  have hD : ∀ j, updF (eraseD X.D s) s ⟨64, l, 0⟩ j = if j = s then ⟨64, l, 0⟩ else X.D j := fun j => by
    by_cases e : j = s
    · unfold updF; rw [if_pos e, if_pos e]
    · unfold updF; rw [if_neg e, if_neg e]; unfold eraseD updF; rw [if_neg e]
  refine ⟨e2, a1, h.upd s ⟨64, l, 0⟩ rfl _ _ _ hD, by show tickP (tickP X.T) = none; rw [t1]; rfl, rfl, ?_, ?_⟩
  · show (updF (eraseD X.D s) s ⟨64, l, 0⟩ s).bytes = l
    rw [hD, if_pos rfl]
  · intro j hj
    show updF (eraseD X.D s) s ⟨64, l, 0⟩ j = _
    rw [hD, if_neg hj]
def evB (c : Cf) (f : Nat) : Bk := ⟨2 + 2 * (f : Int), c⟩
def odB (c : Cf) (f : Nat) : Bk := ⟨1 + 2 * (f : Int), c⟩
theorem evB_ok {c : Cf} (h : c.ok) (f : Nat) (hf : f < 4294967296) : (evB c f).ok := ⟨⟨by show 1 ≤ 2 + 2 * (f : Int); omega, by show 2 + 2 * (f : Int) ≤ _; omega⟩, h⟩
theorem odB_ok {c : Cf} (h : c.ok) (f : Nat) (hf : f < 4294967296) : (odB c f).ok := ⟨⟨by show 1 ≤ 1 + 2 * (f : Int); omega, by show 1 + 2 * (f : Int) ≤ _; omega⟩, h⟩
/-- The devices of the law, one after another. -/
structure ReadF (n : Nat) (a b : Bk) (ch sh : List (BitVec 8)) (X0 X1 X2 X4 X6 : DevD) : Prop where
  w0 : writeX X0 a = (0, X1)
  w1 : writeX X1 b = (0, X2)
  r2 : readX X2 = if a.epoch < b.epoch then (0, 1, b) else (0, 0, a)
  n2 : X2.n = n ∧ X2.down = false
  n4 : X4.n = n ∧ X4.down = false
  ops : X0.ops ≤ 20 ∧ X1.ops ≤ 20 ∧ X2.ops ≤ 20 ∧ X4.ops ≤ 20 ∧ X6.ops ≤ 20
  by0 : (X2.D n).bytes = encOf a
  e2 : oneVE X2 (n : Int) = 0
  a2 : appVE (EraseVX X2 (n : Int)) (n : Int) ch = 0
  x4 : appVX (EraseVX X2 (n : Int)) (n : Int) ch = X4
  r4 : readX X4 = (0, 1, b)
  by1 : (X4.D (n + 1)).bytes = encOf b
  e4 : oneVE X4 (n + 1 : Int) = 0
  a4 : appVE (EraseVX X4 (n + 1 : Int)) (n + 1 : Int) sh = 0
  x6 : appVX (EraseVX X4 (n + 1 : Int)) (n + 1 : Int) sh = X6
  r6 : readX X6 = (5, 0, bk0)
  v6 : advX X6 1 = (5, bk0, X6)
theorem reads_plain (n sz : Nat) (c : Cf) (hc : c.ok) (f s : Nat) (hf : f < 4294967296) (hs : s < 4294967296) (ch sh : List (BitVec 8)) (hch : ch.length = 64) (hcd : decOf ch = (15, bk0)) (hsh : sh.length < 64) :
    ∃ X1 X2 X4 X6, ReadF n (evB c f) (odB c s) ch sh (newVD n sz) X1 X2 X4 X6 := by
  obtain ⟨h0, d0, t0, o0, g0, g1⟩ := ready_new n sz
  have oka := evB_ok hc f hf
  have okb := odB_ok hc s hs
  obtain ⟨X1, w1, h1, t1, o1, k1, l1⟩ := write_ok h0 (evB c f) oka (by rw [t0]; rfl) (by rw [t0]; rfl) (by rw [t0]; rfl)
  have t1' : X1.T = none := by rw [t1, t0]; rfl
  obtain ⟨X2, w2, h2, t2, o2, k2, l2⟩ := write_ok h1 (odB c s) okb (by rw [t1']; rfl) (by rw [t1']; rfl) (by rw [t1']; rfl)
  have t2' : X2.T = none := by rw [t2, t1']; rfl
  rw [wslot_par h0] at k1 l1
  rw [wslot_par h1] at k2 l2
  have pa : par (evB c f) = 0 := by unfold par evB; dsimp only; omega
  have pb : par (odB c s) = 1 := by unfold par odB; dsimp only; omega
  rw [pa, Nat.add_zero] at k1 l1
  rw [pb] at k2 l2
  have b0 : (X2.D n).bytes = encOf (evB c f) := by rw [l2 _ (by omega), k1]
  have b1 : (X2.D (n + 1)).bytes = encOf (odB c s) := by rw [k2]
  have ca : cpD X2 0 = (0, evB c f) := cp_valid h2 oka (by rw [Nat.add_zero]; exact b0)
  have cb : cpD X2 1 = (0, odB c s) := cp_valid h2 okb b1
  obtain ⟨p1, p2, p3⟩ := put_ok h2 t2' n (.inl rfl) ch (by omega)
  obtain ⟨X4, hX4⟩ : ∃ X4, appVX (EraseVX X2 (n : Int)) (n : Int) ch = X4 := ⟨_, rfl⟩
  rw [hX4] at p3
  have b41 : (X4.D (n + 1)).bytes = encOf (odB c s) := by rw [p3.oth _ (by omega), b1]
  have c40 : (cpD X4 0).1 ≠ 0 := by
    have : cpD X4 0 = (15, bk0) := by unfold cpD cpL; rw [p3.rd.hn, Nat.add_zero, p3.own, hcd]
    rw [this]; simp
  have c41 : cpD X4 1 = (0, odB c s) := cp_valid p3.rd okb b41
  obtain ⟨q1, q2, q3⟩ := put_ok p3.rd p3.tm (n + 1) (.inr rfl) sh (by omega)
  have en : ((n + 1 : Nat) : Int) = (n : Int) + 1 := by omega
  rw [en] at q1 q2 q3
  obtain ⟨X6, hX6⟩ : ∃ X6, appVX (EraseVX X4 ((n : Int) + 1)) ((n : Int) + 1) sh = X6 := ⟨_, rfl⟩
  rw [hX6] at q3
  have c60 : (cpD X6 0).1 ≠ 0 := by
    have : cpD X6 0 = cpD X4 0 := cpD_congr (n := n) p3.rd.hn q3.rd.hn (by rw [q3.oth _ (by omega)])
    rw [this]; exact c40
  have c61 : (cpD X6 1).1 ≠ 0 := by
    rw [cp_short q3.rd (by rw [q3.own]; exact hsh)]; simp
  have r6 := read_none q3.rd c60 c61
  refine ⟨X1, X2, X4, X6, w1, w2, read_two h2 ca cb oka, ⟨h2.hn, h2.up⟩, ⟨p3.rd.hn, p3.rd.up⟩, ?_, b0, p1, p2, hX4, read_second p3.rd c40 c41 okb, b41, q1, q2, hX6, r6, ?_⟩
  · have := p3.ops
    have := q3.ops
    omega
  · unfold advX
    rw [if_neg (by omega), q3.rd.up, if_neg (by simp), r6, if_pos (by simp)]
end Go.Proofs.Ytnopljanpjmbgaa
namespace Go.Proofs.Ytnopljanpjmbgaa
open Go.RowKit Drum
set_option linter.unusedVariables false
/-- A block that holds bytes. -/
theorem blk_holds {w : World} {g n c : Nat} {cs : Array Value} {l : List (BitVec 8)} (h : Blk w g 5 cs) (hl : l.length = n) (hn : n ≤ c) (hc : c ≤ maxLen) (hs : cs.toList.take n = u8s l) : Holds w (.slice (some ⟨g, 0, none⟩) n c) l :=
  ⟨_, n, c, rfl, hl.symm, hn, hc, reads_blk h 0 n l hl (by simpa using hs)⟩
section
variable {B : Nat} {w0 w : World} {os : List Ob} {v : Nat} {L : DLay} {X Y : DevD}
theorem lt_raw (h : Sep B w0 w (devOb v L X :: os)) (s k : Nat) (z : Int) (hz : z = (s : Int)) (hc : chkE X (s : Int) = 0) (l : List (BitVec 8)) (hl : (X.D s).bytes.take k = l) (hk : k ≤ (X.D s).bytes.length) :
    Calls Try.prog 20 #[.pointer (some ⟨v, 0, none⟩), .int .i64 z, .int .i64 0, .int .i64 (k : Int)] w fun e w' => ∃ A c, e = .returned (.tuple #[.slice A k c, .int .i64 0]) ∧ Sep B w0 w' (rowOb 5 1 (.slice A k c) k (u8s l) :: devOb v L X :: os) := by
  subst hz
  refine (dev_read h.dev (s : Int) 0 (k : Int)).mono ?_
  rintro e w' ⟨u, r, rfl, hq, hb⟩
  obtain ⟨rfl, ho⟩ := read_ok (s := s) (a := 0) (b := k) hq hc (by omega)
  rw [List.drop_zero, hl] at ho
  obtain ⟨A, c, rfl, h1, h2, h3⟩ := own_slice ho
  refine ⟨A, c, rfl, h.add (a := rowOb 5 1 (.slice A k c) k (u8s l)) hb (own_base ho (fun _ _ => Nat.zero_le _)) (fun j hj => ?_)⟩
  rcases ho.2 with ⟨e1, _⟩ | ⟨g, cap, cur, e1, hg, _⟩
  · injection e1 with e2 _ _
    subst e2
    cases hj
  · injection e1 with e2 _ _
    subst e2
    have : g = j := by simpa [rowOb, Value.ownBlock] using hj
    omega
/-- Some bytes that are read lie in a block. -/
theorem lt_raw1 (h : Sep B w0 w (devOb v L X :: os)) (s k : Nat) (z : Int) (hz : z = (s : Int)) (hc : chkE X (s : Int) = 0) (l : List (BitVec 8)) (hl : (X.D s).bytes.take k = l) (hk : k ≤ (X.D s).bytes.length) (hk0 : 0 < k) :
    Calls Try.prog 20 #[.pointer (some ⟨v, 0, none⟩), .int .i64 z, .int .i64 0, .int .i64 (k : Int)] w fun e w' => ∃ g c cs, e = .returned (.tuple #[.slice (some ⟨g, 0, none⟩) k c, .int .i64 0]) ∧ k ≤ c ∧ c ≤ maxLen ∧ k ≤ cs.size ∧ cs.toList.take k = u8s l ∧ Sep B w0 w' (blkOb g 5 cs :: devOb v L X :: os) := by
  refine (lt_raw h s k z hz hc l hl hk).mono ?_
  rintro e w' ⟨A, c, rfl, hs⟩
  have ho : w'.ownsRow 0 5 1 (.slice A k c) k (u8s l) := hs.get (.head _)
  rcases ho.2 with ⟨e1, e2⟩ | ⟨g, cap, cur, e1, hg, h1, h2, h3, h4, h5⟩
  · omega
  · injection e1 with e2 _ e3
    subst e2 e3
    rw [Nat.mul_one] at h4 h5
    exact ⟨g, c, cur, rfl, h2, h3, by omega, h5, hs.step (a' := blkOb g 5 cur) (Chg.refl _ _) h1 (fun j hj => .inl (by
      have : j = g := hj
      subst this
      rfl))⟩
theorem lt_erase (h : Sep B w0 w (devOb v L X :: os)) (hC : AllCells os) (hops : X.ops ≤ 100000) (z er : Int) (he : oneVE X z = er) (hx : EraseVX X z = Y) :
    Calls Try.prog 21 #[.pointer (some ⟨v, 0, none⟩), .int .i64 z] w fun e w' => e = .returned (.int .i64 er) ∧ ∃ L', Sep B w0 w' (devOb v L' Y :: os) := by
  have := sep_verase h hC (by omega) z
  rw [he, hx] at this
  exact this
theorem lt_app (h : Sep B w0 w (devOb v L X :: os)) (hC : AllCells os) (hops : X.ops ≤ 100000) (z er : Int) {vb : Value} {l : List (BitVec 8)} (hv : ∀ W, Kept B w0 os W → Holds W vb l) (he : appVE X z l = er) (hx : appVX X z l = Y) :
    Calls Try.prog 22 #[.pointer (some ⟨v, 0, none⟩), .int .i64 z, vb] w fun e w' => e = .returned (.int .i64 er) ∧ ∃ L', Sep B w0 w' (devOb v L' Y :: os) := by
  have := sep_vappend h hC (by omega) z hv
  rw [he, hx] at this
  exact this
end
end Go.Proofs.Ytnopljanpjmbgaa
