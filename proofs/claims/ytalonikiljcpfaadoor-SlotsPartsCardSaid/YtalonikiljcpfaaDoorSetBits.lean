/-
  64-bit words as the program's numbers; the bits of a word. No condition.
-/
import Derived.Test.YtalonikiljcpfaaDoorBytes
namespace Go.Proofs.YtalonikiljcpfaaDoor
open Go.RowKit
set_option linter.unusedVariables false
abbrev W64 := BitVec 64
def n64 (x : W64) : Int := x.toNat
theorem n64_bd (x : W64) : 0 ≤ n64 x ∧ n64 x < 18446744073709551616 := by unfold n64; have := x.isLt; omega
theorem n64_eq {x y : W64} : n64 x = n64 y ↔ x = y := by
  unfold n64
  exact ⟨fun h => BitVec.eq_of_toNat_eq (by omega), fun h => by rw [h]⟩
theorem or_u64 (x y : W64) : bits .or .u64 (n64 x) (n64 y) = n64 (x ||| y) := by
  unfold n64; rw [u64_or_nat _ _ x.isLt y.isLt]; rfl
theorem and_u64 (x y : W64) : bits .and .u64 (n64 x) (n64 y) = n64 (x &&& y) := by
  unfold n64; rw [u64_and_nat _ _ x.isLt y.isLt]; rfl
theorem shrj_u64 (x : W64) (j : Nat) : n64 x / (2 : Int) ^ j = n64 (x >>> j) := by
  unfold n64; rw [BitVec.toNat_ushiftRight, Nat.shiftRight_eq_div_pow]; simp
theorem odd_u64 (x : W64) : (bits .and .u64 (n64 x) 1 == 1) = x.getLsbD 0 := by
  have e := and_u64 x 1#64
  have h1 : n64 1#64 = 1 := by unfold n64; rfl
  rw [h1] at e
  rw [e]
  have h2 : (n64 (x &&& 1#64) == 1) = decide (x &&& 1#64 = 1#64) := by
    rw [Bool.eq_iff_iff]; simp only [beq_iff_eq, decide_eq_true_eq]
    rw [← h1]; exact n64_eq
  rw [h2, Bool.eq_iff_iff, decide_eq_true_eq]
  constructor
  · intro h
    have := congrArg (fun y : W64 => y.getLsbD 0) h
    simpa using this
  · intro h
    apply BitVec.eq_of_getLsbD_eq
    intro i hi
    rcases Nat.eq_zero_or_pos i with rfl | h0
    · simp [h]
    · have : i ≠ 0 := by omega
      simp [BitVec.getLsbD_one, this]
/-- A bit of a word, as the code asks for it. -/
theorem bit_u64 (x : W64) (j : Nat) : (bits .and .u64 (n64 x / (2 : Int) ^ j) 1 == 1) = x.getLsbD j := by
  rw [shrj_u64, odd_u64]; simp
/-- The slots of a set. -/
def elems (x : W64) (k : Nat) : List Nat := (List.range k).filter fun i => x.getLsbD i
theorem elems_succ (x : W64) (k : Nat) : elems x (k + 1) = if x.getLsbD k then elems x k ++ [k] else elems x k := by
  unfold elems
  rw [List.range_succ, List.filter_append]
  by_cases h : x.getLsbD k = true
  · simp [h]
  · simp [h]
theorem elems_prefix (x : W64) {k m : Nat} (h : k ≤ m) : elems x k <+: elems x m := by
  induction m with
  | zero =>
    have e : k = 0 := Nat.le_zero.1 h
    rw [e]
    exact List.prefix_refl _
  | succ m ih =>
    by_cases e : k = m + 1
    · subst e; exact List.prefix_refl _
    · have := ih (by omega)
      rw [elems_succ]
      split
      · exact this.trans (List.prefix_append _ _)
      · exact this
theorem elems_len_lt (x : W64) {k m : Nat} (h : k < m) (hb : x.getLsbD k = true) : (elems x k).length < (elems x m).length := by
  have h1 := (elems_prefix x (show k + 1 ≤ m by omega)).length_le
  rw [elems_succ, if_pos hb, List.length_append] at h1
  simp at h1; omega
attribute [irreducible] n64
end Go.Proofs.YtalonikiljcpfaaDoor
