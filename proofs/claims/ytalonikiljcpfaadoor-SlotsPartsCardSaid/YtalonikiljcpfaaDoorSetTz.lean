/-
  The lowest bit of a 64-bit word, as the code's TrailingZeros64 finds it. Conditions: the word is not zero, and the library's table holds what its text lists.
-/
import Derived.Test.YtalonikiljcpfaaDoorSetBits
import Derived.Test.YtalonikiljcpfaaDoorProg
import Derived.WalkKit
namespace Go.Proofs.YtalonikiljcpfaaDoor
open Go.RowKit
set_option linter.unusedVariables false
def bruijn : List Nat := [0, 1, 56, 2, 57, 49, 28, 3, 61, 58, 42, 50, 38, 29, 17, 4, 62, 47, 59, 36, 45, 43, 51, 22, 53, 39, 33, 30, 24, 18, 12, 5, 63, 55, 48, 27, 60, 41, 37, 16, 46, 35, 44, 21, 52, 32, 23, 11, 54, 26, 40, 15, 34, 20, 31, 10, 25, 14, 19, 9, 13, 8, 7, 6]
/-- The library's table lies where it should. -/
def TabIn (w : World) : Prop := ∀ i : Nat, i < 64 → w.cell? ⟨4, i, none⟩ = some (.int .u8 ((bruijn.getD i 0 : Nat) : Int)) ∧ 4 < w.heap.size
theorem TabIn.below {w w' : World} {B : Nat} (h : TabIn w) (hb : Below B w w') (hB : 4 < B) : TabIn w' := fun i hi =>
  ⟨(hb.cell (p := ⟨4, i, none⟩) hB).trans (h i hi).1, Nat.lt_of_lt_of_le (h i hi).2 hb.size⟩
theorem TabIn.pos {w : World} (h : TabIn w) : 4 < w.heap.size := (h 0 (by decide)).2
theorem lowest_and (x : W64) (k : Nat) (hk : x.getLsbD k = true) (hl : ∀ i, i < k → x.getLsbD i = false) : x &&& -x = 1#64 <<< k := by
  apply BitVec.eq_of_getLsbD_eq
  intro i hi
  have hk64 : k < 64 := by
    by_cases h : k < 64
    · exact h
    · rw [BitVec.getLsbD_of_ge _ _ (by omega)] at hk; cases hk
  rw [BitVec.getLsbD_and, BitVec.getLsbD_neg, BitVec.getLsbD_shiftLeft, BitVec.getLsbD_one]
  rcases Nat.lt_trichotomy i k with h | h | h
  · rw [hl i h]; simp [h]
  · subst h
    have hno : ¬ ∃ j, j < i ∧ x.getLsbD j = true := fun ⟨j, hj, e⟩ => by rw [hl j hj] at e; cases e
    rw [hk, decide_eq_false hno]
    simp [hi]
  · have hyes : ∃ j, j < i ∧ x.getLsbD j = true := ⟨k, h, hk⟩
    rw [decide_eq_true hyes]
    have e : i - k ≠ 0 := by omega
    cases x.getLsbD i <;> simp [hi, e]
theorem tab_at (k : Nat) (hk : k < 64) : ((2 ^ k * 285870213051353865) % 18446744073709551616) / 288230376151711744 < 64 ∧ bruijn.getD (((2 ^ k * 285870213051353865) % 18446744073709551616) / 288230376151711744) 0 = k := by
  have : ∀ i : Fin 64, ((2 ^ i.val * 285870213051353865) % 18446744073709551616) / 288230376151711744 < 64 ∧ bruijn.getD (((2 ^ i.val * 285870213051353865) % 18446744073709551616) / 288230376151711744) 0 = i.val := by decide +kernel
  exact this ⟨k, hk⟩
theorem one_shl (k : Nat) (hk : k < 64) : n64 (1#64 <<< k) = ((2 ^ k : Nat) : Int) := by
  have : ∀ i : Fin 64, (1#64 <<< i.val).toNat = 2 ^ i.val := by decide +kernel
  unfold n64
  rw [this ⟨k, hk⟩]
theorem neg_u64 (x : W64) : IntKind.u64.wrap (-(n64 x)) = n64 (-x) := by
  unfold n64
  rw [BitVec.toNat_neg, IntKind.wrap_u64]
  have := x.isLt
  omega
set_option maxRecDepth 100000 in
set_option maxHeartbeats 4000000 in
theorem trailing (x : W64) (k : Nat) (hk : x.getLsbD k = true) (hl : ∀ i, i < k → x.getLsbD i = false) (w : World) (ht : TabIn w) :
    Calls Tryd.prog 66 #[.int .u64 (n64 x)] w fun e w' => e = .returned (.int .i64 (k : Int)) ∧ w = w' := by
  have hk64 : k < 64 := by
    by_cases h : k < 64
    · exact h
    · rw [BitVec.getLsbD_of_ge _ _ (by omega)] at hk; cases hk
  obtain ⟨t1, t2⟩ := tab_at k hk64
  obtain ⟨q, hq⟩ : ∃ q, q = ((2 ^ k * 285870213051353865) % 18446744073709551616) / 288230376151711744 := ⟨_, rfl⟩
  rw [← hq] at t1 t2
  have c := (ht q t1).1
  rw [t2] at c
  obtain ⟨m, hm⟩ : ∃ m, m = (2 ^ k * 285870213051353865) % 18446744073709551616 := ⟨_, rfl⟩
  rw [← hm] at hq
  have hx0 : (n64 x == 0) = false := by
    rw [beq_eq_false_iff_ne]
    intro e
    have : x = 0#64 := n64_eq.1 (e.trans (by unfold n64; rfl))
    rw [this] at hk
    simp at hk
  have a1 : IntKind.u64.wrap (-(n64 x)) = n64 (-x) := neg_u64 x
  have a2 : bits .and .u64 (n64 x) (n64 (-x)) = ((2 ^ k : Nat) : Int) := by rw [and_u64, lowest_and x k hk hl, one_shl k hk64]
  obtain ⟨p, hp⟩ : ∃ p, p = 2 ^ k := ⟨_, rfl⟩
  rw [← hp] at a2 hm
  have a3 : IntKind.u64.wrap ((p : Int) * 285870213051353865) = (m : Int) := by
    rw [IntKind.wrap_u64, hm]; omega
  have a4 : (m : Int) / 288230376151711744 = (q : Int) := by omega
  have q1 : (0 : Int) ≤ (q : Int) := by omega
  have q2 : (q : Int) < 64 := by omega
  have k1 : wrap64 (k : Int) = (k : Int) := by unfold wrap64; omega
  clear hq hm hp t2 hl hk ht
  go_enter Tryd.func66, Tryd.ntmps66
  go_wp2_with fail
  go_ret
  exact ⟨rfl, rfl⟩
end Go.Proofs.YtalonikiljcpfaaDoor
