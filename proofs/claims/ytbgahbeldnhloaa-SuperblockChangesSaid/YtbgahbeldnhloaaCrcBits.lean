/-
  The operations of the checksum's code on 32-bit words and bytes, as rules of the walk. No condition.
-/
import Derived.Test.YtbgahbeldnhloaaCrcMath
import Derived.Test.YtbgahbeldnhloaaBytes
namespace Go.Proofs.Ytbgahbeldnhloaa
open Go.RowKit Drum
set_option linter.unusedVariables false
/-- A word as a number. -/
def n32 (x : W32) : Int := x.toNat
theorem n32_bd (x : W32) : 0 ≤ n32 x ∧ n32 x < 4294967296 := by unfold n32; have := x.isLt; omega
/-- A word as the program's value. -/
def u32v (x : W32) : Value := .int .u32 (n32 x)
@[go_sem] theorem xor_u32 (x y : W32) : bits .xor .u32 (n32 x) (n32 y) = n32 (x ^^^ y) := by
  unfold n32; rw [u32_xor_nat _ _ x.isLt y.isLt]; rfl
@[go_sem] theorem xor_u32_poly (x : W32) : bits .xor .u32 (n32 x) 3988292384 = n32 (x ^^^ cpoly) := xor_u32 x cpoly
@[go_sem] theorem xor_u32_ones (x : W32) : bits .xor .u32 (n32 x) 4294967295 = n32 (x ^^^ 0xFFFFFFFF#32) := xor_u32 x 0xFFFFFFFF#32
@[go_sem] theorem xor_u32_zero (x : W32) : bits .xor .u32 0 (n32 x) = n32 x := by
  have := xor_u32 0#32 x
  rw [BitVec.zero_xor] at this; exact this
theorem shr1_u32 (x : W32) : n32 x / (2 : Int) = n32 (x >>> 1) := by
  unfold n32; rw [BitVec.toNat_ushiftRight, Nat.shiftRight_eq_div_pow]; omega
theorem shr8_u32 (x : W32) : n32 x / (256 : Int) = n32 (x >>> 8) := by
  unfold n32; rw [BitVec.toNat_ushiftRight, Nat.shiftRight_eq_div_pow]; omega
@[go_sem] theorem xor_u8 (x y : BitVec 8) : bits .xor .u8 (n8 x) (n8 y) = n8 (x ^^^ y) := by
  unfold n8; rw [u8_xor_nat _ _ x.isLt y.isLt]; rfl
theorem low_u8 (x : W32) : n32 x % (256 : Int) = n8 (low8 x) := by
  unfold n8 n32 low8; rw [BitVec.toNat_setWidth]; omega
@[go_sem] theorem xor_u32_half (x : W32) : bits .xor .u32 (n32 x / (2 : Int)) 3988292384 = n32 ((x >>> 1) ^^^ cpoly) := by rw [shr1_u32]; exact xor_u32_poly _
@[go_sem] theorem xor_u32_shr8 (x y : W32) : bits .xor .u32 (n32 x) (n32 y / (256 : Int)) = n32 (x ^^^ (y >>> 8)) := by rw [shr8_u32]; exact xor_u32 _ _
@[go_sem] theorem xor_u8_low (x : W32) (y : BitVec 8) : bits .xor .u8 (n32 x % (256 : Int)) (n8 y) = n8 (low8 x ^^^ y) := by rw [low_u8]; exact xor_u8 _ _
theorem wide_u32 (b : BitVec 8) : n8 b = n32 (wide b) := by
  unfold wide n8 n32; rw [BitVec.toNat_setWidth]; have := b.isLt; omega
@[go_sem] theorem xor_u32_byte (x : W32) (b : BitVec 8) : bits .xor .u32 (n32 x) (n8 b) = n32 (x ^^^ wide b) := by rw [wide_u32]; exact xor_u32 _ _
theorem n32_eq {x y : W32} : n32 x = n32 y ↔ x = y := by
  unfold n32
  exact ⟨fun h => BitVec.eq_of_toNat_eq (by omega), fun h => by rw [h]⟩
theorem odd_u32 (x : W32) : (bits .and .u32 (n32 x) 1 == 1) = decide (x &&& 1#32 = 1#32) := by
  have e : bits .and .u32 (n32 x) 1 = n32 (x &&& 1#32) := by
    unfold n32; exact (u32_and_nat _ 1 x.isLt (by omega)).trans rfl
  rw [e, Bool.eq_iff_iff]; simp only [beq_iff_eq, decide_eq_true_eq]
  exact n32_eq (y := 1#32)
@[go_sem] theorem beq_u32 (x y : W32) : (n32 x == n32 y) = decide (x = y) := by
  rw [Bool.eq_iff_iff]; simp only [beq_iff_eq, decide_eq_true_eq]; exact n32_eq
@[go_sem] theorem bneq_u32_zero (x : W32) : (n32 x != 0) = !decide (x = 0#32) := by
  have := beq_u32 x 0#32
  simp only [bne]
  rw [← this]; rfl
theorem ret_u32 {a b : W32} (h : a = b) : Ending.returned (.int .u32 (n32 a)) = .returned (.int .u32 (n32 b)) := by rw [h]
theorem u32_eq {a b : W32} (h : a = b) : Value.int .u32 (n32 a) = .int .u32 (n32 b) := by rw [h]
attribute [irreducible] n32
end Go.Proofs.Ytbgahbeldnhloaa
