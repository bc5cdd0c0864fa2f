/-
  Plain mathematics of bits that are changed in the encoding of a superblock: all in its sum, or all behind it. No condition.
-/
import Derived.Test.YtbgahbeldnhloaaSupMath
import Derived.Test.YtbgahbeldnhloaaCrcBurst
namespace Go.Proofs.Ytbgahbeldnhloaa
open Go.RowKit Drum
set_option linter.unusedVariables false
/-- A byte of a word. -/
def byteAt (x : W32) (q : Nat) : BitVec 8 := (x >>> (8 * q)).setWidth 8
theorem byteAt_one : ∀ k, k < 32 → ∀ q, q < 4 → byteAt (1#32 <<< k) q = if q = k / 8 then 1#8 <<< (k % 8) else 0#8 := by decide +kernel
theorem byteAt_xor (x y : W32) (q : Nat) : byteAt (x ^^^ y) q = byteAt x q ^^^ byteAt y q := by
  unfold byteAt
  rw [BitVec.ushiftRight_xor_distrib, BitVec.setWidth_xor]
theorem byteAt_all {x : W32} (h : ∀ q, q < 4 → byteAt x q = 0#8) : x = 0#32 := by
  apply BitVec.eq_of_getLsbD_eq
  intro i hi
  have h1 := h (i / 8) (by omega)
  have h2 := congrArg (fun b : BitVec 8 => b.getLsbD (i % 8)) h1
  simp only [byteAt, BitVec.getLsbD_setWidth, BitVec.getLsbD_ushiftRight, BitVec.getLsbD_zero] at h2
  have e : 8 * (i / 8) + i % 8 = i := by omega
  rw [e] at h2
  simpa [show i % 8 < 8 by omega] using h2
/-- How many bits can be changed from a place on. -/
def burstN (a : Nat) : Nat := if a < 32 then 32 - a else 512 - a
/-- What the bytes are when the first j bits have been looked at. -/
structure Bst (l m : List (BitVec 8)) (x : W32) (a j : Nat) : Prop where
  len : m.length = 64
  same : cbits x (burstN a) j = 0#32 → m = l
  sum : a < 32 → m.drop 4 = l.drop 4 ∧ ∀ q, q < 4 → m.getD q 0#8 = l.getD q 0#8 ^^^ byteAt (cbits x (burstN a) j <<< a) q
  rest : 32 ≤ a → m.take 4 = l.take 4 ∧ ∀ y, craw y (m.drop 4) = craw y (l.drop 4) ^^^ it cstep (burstN a) (cbits x (burstN a) j)
theorem Bst.start {l : List (BitVec 8)} (h : l.length = 64) (x : W32) (a : Nat) : Bst l l x a 0 := by
  refine ⟨h, fun _ => rfl, fun _ => ⟨rfl, fun q hq => ?_⟩, fun _ => ⟨rfl, fun y => ?_⟩⟩
  · show _ = _ ^^^ byteAt (0#32 <<< a) q
    have : byteAt (0#32 <<< a) q = 0#8 := by simp [byteAt]
    rw [this, BitVec.xor_zero]
  · show _ = _ ^^^ it cstep _ 0#32
    rw [(it_lin cstep_lin _).zero, BitVec.xor_zero]
theorem Bst.skip {l m : List (BitVec 8)} {x : W32} {a j : Nat} (h : Bst l m x a j) (hs : (x.getLsbD j && decide (j < burstN a)) = false) : Bst l m x a (j + 1) := by
  have e := cbits_same x (burstN a) j hs
  exact ⟨h.len, by rw [e]; exact h.same, by rw [e]; exact h.sum, by rw [e]; exact h.rest⟩
theorem Bst.flip {l m : List (BitVec 8)} {x : W32} {a j : Nat} (h : Bst l m x a j) (ha : a < 512) (hj : j < 32) (hb : x.getLsbD j = true) (hn : j < burstN a) (hq : (a + j) / 8 < m.length) :
    Bst l (m.set ((a + j) / 8) (m[(a + j) / 8] ^^^ 1#8 <<< ((a + j) % 8))) x a (j + 1) := by
  have e := cbits_step x (burstN a) j hb hn
  have hne := cbits_ne x (burstN a) j hj hb hn
  refine ⟨by rw [List.length_set]; exact h.len, fun h0 => absurd h0 hne, fun hlt => ?_, fun hge => ?_⟩
  · have hN : burstN a = 32 - a := if_pos hlt
    obtain ⟨h1, h2⟩ := h.sum hlt
    have hk : a + j < 32 := by omega
    refine ⟨by rw [List.drop_set_of_lt (by omega)]; exact h1, fun q hq4 => ?_⟩
    have es : (cbits x (burstN a) (j + 1)) <<< a = (cbits x (burstN a) j <<< a) ^^^ (1#32 <<< (a + j)) := by
      rw [e, BitVec.shiftLeft_xor_distrib, ← BitVec.shiftLeft_add, Nat.add_comm j a]
    rw [es, byteAt_xor, byteAt_one _ hk q hq4, ← BitVec.xor_assoc, ← h2 q hq4]
    have hqm : q < m.length := by rw [h.len]; omega
    simp only [List.getD_eq_getElem?_getD, List.getElem?_set]
    by_cases hqe : q = (a + j) / 8
    · subst hqe
      simp [hqm]
    · rw [if_neg (fun e => hqe e.symm), if_neg hqe, BitVec.xor_zero]
  · have hN : burstN a = 512 - a := if_neg (by omega)
    obtain ⟨h1, h2⟩ := h.rest hge
    refine ⟨by rw [List.take_set_of_le (by omega)]; exact h1, fun y => ?_⟩
    have hl : (m.drop 4).length = 60 := by rw [List.length_drop, h.len]
    have hq' : (a + j) / 8 - 4 < (m.drop 4).length := by rw [hl]; omega
    have hf := craw_flip (m.drop 4) ((a + j) / 8 - 4) ((a + j) % 8) hq' (by omega) y
    have eg : (m.drop 4)[(a + j) / 8 - 4] = m[(a + j) / 8] := by
      rw [List.getElem_drop]; congr 1; omega
    have ed : (m.set ((a + j) / 8) (m[(a + j) / 8] ^^^ 1#8 <<< ((a + j) % 8))).drop 4 = (m.drop 4).set ((a + j) / 8 - 4) (m[(a + j) / 8] ^^^ 1#8 <<< ((a + j) % 8)) := by
      rw [List.drop_set, if_neg (by omega)]
    rw [eg] at hf
    rw [ed, hf, h2 y, hl]
    have en : 8 * (60 - ((a + j) / 8 - 4)) - (a + j) % 8 = burstN a - j := by rw [hN]; omega
    rw [en, it_one (burstN a) j hj (by omega), e, it_lin cstep_lin (burstN a), BitVec.xor_assoc]
theorem Bst.dec {b : Bk} {m : List (BitVec 8)} {x : W32} {a : Nat} (h : Bst (encOf b) m x a 32) (hok : b.ok) (ha : a < 512) :
    decOf m = if cbits x (burstN a) 32 = 0#32 then (0, b) else (15, bk0) := by
  by_cases h0 : cbits x (burstN a) 32 = 0#32
  · rw [if_pos h0, h.same h0]
    have := decOf_enc b hok []
    rwa [List.append_nil] at this
  · rw [if_neg h0]
    have ht : (m.take 64).drop 4 = m.drop 4 := by rw [List.take_of_length_le (by rw [h.len]; omega)]
    refine decOf_sum m (by rw [h.len]; omega) ?_
    rw [ht]
    have hs := encOf_sum b
    have hl := encOf_length b
    by_cases hlt : a < 32
    · obtain ⟨h1, h2⟩ := h.sum hlt
      rw [h1, hs]
      intro e
      have hnum : numTo (encOf b) 0 4 = numTo m 0 4 := by
        have e1 := congrArg BitVec.toNat e
        rw [BitVec.toNat_ofNat, BitVec.toNat_ofNat, Nat.mod_eq_of_lt (numTo_lt _ 0 4), Nat.mod_eq_of_lt (numTo_lt _ 0 4)] at e1
        exact e1
      apply h0
      have hz : cbits x (burstN a) 32 <<< a = 0#32 := by
        refine byteAt_all fun q hq => ?_
        have e2 : m.getD q 0#8 = (encOf b).getD q 0#8 := by
          have d1 := numTo_div m 0 4 q hq
          have d2 := numTo_div (encOf b) 0 4 q hq
          rw [Nat.zero_add] at d1 d2
          rw [← d1, ← d2, hnum]
        have e3 := h2 q hq
        rw [e2] at e3
        have e4 := congrArg ((encOf b).getD q 0#8 ^^^ ·) e3
        simp only [← BitVec.xor_assoc, BitVec.xor_self, BitVec.zero_xor] at e4
        exact e4.symm
      apply BitVec.eq_of_getLsbD_eq
      intro i hi
      have hN : burstN a = 32 - a := if_pos hlt
      by_cases hia : i < 32 - a
      · have := congrArg (fun y : W32 => y.getLsbD (i + a)) hz
        simp only [BitVec.getLsbD_shiftLeft, BitVec.getLsbD_zero] at this
        simpa [show i + a < 32 by omega] using this
      · rw [cbits_bit x (burstN a) 32 i hi, hN]
        simp [hia]
    · obtain ⟨h1, h2⟩ := h.rest (by omega)
      have hnum : numTo m 0 4 = numTo (encOf b) 0 4 := numTo_congr 4 (fun i hi => by
        have := congrArg (fun l : List (BitVec 8) => l[i]?) h1
        simp only [List.getElem?_take, if_pos hi] at this
        simp only [List.getD_eq_getElem?_getD, Nat.zero_add, this])
      rw [hnum, ← hs]
      intro e
      exact h0 ((csum_diff ((encOf b).drop 4) (m.drop 4) (burstN a) _ h2).1 e.symm)
end Go.Proofs.Ytbgahbeldnhloaa
