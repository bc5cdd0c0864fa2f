/-
  Plain mathematics of bits that are changed, all among 32 neighbours; and shifts of a byte in the walk. No condition.
-/
import Derived.Test.YtbgahbeldnhloaaCrcBits
namespace Go.Proofs.Ytbgahbeldnhloaa
open Go.RowKit Drum
set_option linter.unusedVariables false
theorem it_cstep_shl : ∀ r, r < 32 → it cstep r (1#32 <<< r) = 1#32 := by decide +kernel
theorem cshift_steps (n : Nat) (x : W32) : cshift n x = it cstep (8 * n) x := it_it cstep 8 n x
theorem craw_flip (l : List (BitVec 8)) (q r : Nat) (hq : q < l.length) (hr : r < 8) (x : W32) :
    craw x (l.set q (l[q] ^^^ (1#8 <<< r))) = craw x l ^^^ it cstep (8 * (l.length - q) - r) 1#32 := by
  have hl : l = l.take q ++ l[q] :: l.drop (q + 1) := by rw [List.getElem_cons_drop, List.take_append_drop]
  have hs : l.set q (l[q] ^^^ (1#8 <<< r)) = l.take q ++ (l[q] ^^^ (1#8 <<< r)) :: l.drop (q + 1) := by
    rw [List.set_eq_take_append_cons_drop, if_pos hq]
  have e1 : craw x l = craw (cfeed (craw x (l.take q)) l[q]) (l.drop (q + 1)) := by
    conv => lhs; rw [hl]
    rw [craw_append]; rfl
  rw [hs, craw_append, e1]
  show craw (cfeed _ _) _ = _
  generalize craw x (l.take q) = y
  have e2 : cfeed y (l[q] ^^^ (1#8 <<< r)) = it cstep 8 (1#32 <<< r) ^^^ cfeed y l[q] := by
    unfold cfeed
    rw [← it_lin cstep_lin 8]
    congr 1
    have hw : wide (l[q] ^^^ (1#8 <<< r)) = wide l[q] ^^^ (1#32 <<< r) := by
      apply BitVec.eq_of_getLsbD_eq
      intro i hi
      simp only [wide, BitVec.getLsbD_setWidth, BitVec.getLsbD_xor, BitVec.getLsbD_shiftLeft, BitVec.getLsbD_one]
      by_cases h8 : i < 8
      · simp [h8, hi]
      · have : ¬ i - r = 0 := by omega
        simp [h8, hi, this]
    rw [hw]; ac_rfl
  rw [e2, craw_lin, BitVec.xor_comm]
  congr 1
  rw [List.length_drop, cshift_steps, ← it_add]
  have e3 : it cstep (8 + 8 * (l.length - (q + 1))) (1#32 <<< r) = it cstep (8 * (l.length - q) - r) (it cstep r (1#32 <<< r)) := by
    rw [← it_add]; congr 1; omega
  rw [e3, it_cstep_shl r (by omega)]
/-- The bits that are changed, of the first j, below N. -/
def cbits (x : W32) (N : Nat) : Nat → W32
  | 0 => 0#32
  | j + 1 => cbits x N j ^^^ (if x.getLsbD j && decide (j < N) then 1#32 <<< j else 0#32)
theorem cbits_bit (x : W32) (N : Nat) : ∀ j i, i < 32 → (cbits x N j).getLsbD i = (decide (i < j) && x.getLsbD i && decide (i < N)) := by
  intro j
  induction j with
  | zero => intro i hi; simp [cbits]
  | succ j ih =>
    intro i hi
    show (cbits x N j ^^^ _).getLsbD i = _
    rw [BitVec.getLsbD_xor, ih i hi]
    by_cases he : i = j
    · subst he
      by_cases hb : (x.getLsbD i && decide (i < N)) = true
      · rw [if_pos hb]
        simp only [Bool.and_eq_true, decide_eq_true_eq] at hb
        simp [hi, hb.1, hb.2]
      · rw [if_neg hb]
        simp only [Bool.not_eq_true] at hb
        simp only [Nat.lt_irrefl, decide_false, Bool.false_and, BitVec.getLsbD_zero, Bool.xor_false, Nat.lt_succ_self, decide_true, Bool.true_and, hb]
    · have h0 : (if (x.getLsbD j && decide (j < N)) = true then 1#32 <<< j else 0#32).getLsbD i = false := by
        split
        · simp only [BitVec.getLsbD_shiftLeft, BitVec.getLsbD_one]
          by_cases hlt : i < j
          · simp [hlt]
          · have : ¬ i - j = 0 := by omega
            simp [this]
        · simp
      have h1 : decide (i < j + 1) = decide (i < j) := by
        by_cases h : i < j
        · simp [h, show i < j + 1 by omega]
        · simp [h, show ¬ i < j + 1 by omega]
      rw [h0, h1]; simp
theorem cbits_step (x : W32) (N j : Nat) (hb : x.getLsbD j = true) (hN : j < N) : cbits x N (j + 1) = cbits x N j ^^^ 1#32 <<< j := by
  show _ ^^^ _ = _; rw [hb]; simp [hN]
theorem cbits_same (x : W32) (N j : Nat) (h : (x.getLsbD j && decide (j < N)) = false) : cbits x N (j + 1) = cbits x N j := by
  show _ ^^^ _ = _; rw [h]; simp
/-- Whether a bit was changed. -/
def chB (x : W32) (N j : Nat) : Bool := decide (cbits x N j ≠ 0#32)
theorem cbits_ne (x : W32) (N j : Nat) (hj : j < 32) (hb : x.getLsbD j = true) (hN : j < N) : cbits x N (j + 1) ≠ 0#32 := by
  intro h
  have := cbits_bit x N (j + 1) j hj
  rw [h] at this
  simp [hb, hN] at this
theorem it_one (N j : Nat) (hj : j < 32) (hN : j ≤ N) : it cstep (N - j) 1#32 = it cstep N (1#32 <<< j) := by
  have e : it cstep N (1#32 <<< j) = it cstep (N - j) (it cstep j (1#32 <<< j)) := by rw [← it_add]; congr 1; omega
  rw [e, it_cstep_shl j hj]
theorem csum_diff (l m : List (BitVec 8)) (N : Nat) (D : W32) (h : ∀ x, craw x m = craw x l ^^^ it cstep N D) : (csum l = csum m) ↔ D = 0#32 := by
  unfold csum cupd
  rw [h]
  constructor
  · intro e
    have e2 := congrArg (· ^^^ 0xFFFFFFFF#32) e
    simp only [BitVec.xor_assoc, BitVec.xor_self, BitVec.xor_zero] at e2
    generalize craw (0#32 ^^^ 0xFFFFFFFF#32) l = p at e2
    have e3 := congrArg (p ^^^ ·) e2
    simp only [← BitVec.xor_assoc, BitVec.xor_self, BitVec.zero_xor] at e3
    have hz : it cstep N 0#32 = 0#32 := (it_lin cstep_lin N).zero
    exact it_inj cstep_inj N _ _ (e3.symm.trans hz.symm)
  · intro e
    rw [e, (it_lin cstep_lin N).zero, BitVec.xor_zero]
theorem shl_one8 (j : Nat) (h : j < 8) : (2 : Int) ^ j % (256 : Int) = n8 (1#8 <<< j) := by
  have h2 : 2 ^ j < 2 ^ 8 := Nat.pow_lt_pow_right (by omega) h
  have h3 : ((2 : Int) ^ j) = ((2 ^ j : Nat) : Int) := by simp
  unfold n8
  rw [BitVec.toNat_shiftLeft, Nat.shiftLeft_eq, h3]
  show ((2 ^ j : Nat) : Int) % 256 = (((1 * 2 ^ j) % 2 ^ 8 : Nat) : Int)
  omega
theorem wpList_shl_one8 {P : Program} {ops : Array Oper} {rest : List Oper} {o : Oper} {a : Act} {w : World} {Q : Exit → Act → World → Prop} (hg : o.guard = none)
    (t t2 : TypeId) (y : Operand) (j : Nat) (hj : j < 8) (ky : IntKind) (z : Int) (hz : z = (j : Int))
    (ho : o.op = .binOp .shl t (.const (.int .u8 1)) y t2) (hy : a.eval y = .int ky z)
    (h : wpList P ops Q rest (a.put o.dst (.int .u8 (n8 (1#8 <<< j)))) w) : wpList P ops Q (o :: rest) a w := by
  refine wpList_plain hg fun K hK => ?_
  have hK' := hK _ _ h
  have hx : a.eval (.const (.int .u8 1)) = .int .u8 1 := rfl
  subst hz
  unfold Oper.wp execOp
  rw [← shl_one8 j hj] at hK'
  have hj0 : ¬ ((j : Int) < 0) := by omega
  simp only [ho, hy, hx]
  simp [go_sem]
  exact hK'
@[go_sem] theorem bneq_u32 (x y : W32) : (n32 x != n32 y) = !decide (x = y) := by
  have := beq_u32 x y
  simp only [bne]
  rw [← this]
end Go.Proofs.Ytbgahbeldnhloaa
