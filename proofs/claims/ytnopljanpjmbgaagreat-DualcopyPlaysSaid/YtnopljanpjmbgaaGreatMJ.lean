/-
  Plain mathematics of the CRC-32 checksum on 32-bit words: the step is linear and injective, a table entry and a byte feed agree, matrices of linear maps, shifts by zero bytes, bursts of at most 32 bits; The operations of the checksum's code on 32-bit words and bytes, as rules of the walk; The walks of the checksum's leaf functions, of the reference and of the program: step, Feed, Update; The walk of the checksum's table: the array of 256 words that crc.Table returns; The walks of the program's Update, Sum, Valid and of the reference's Sum.
-/
import Derived.Test.YtnopljanpjmbgaaGreatMA
import Derived.Test.YtnopljanpjmbgaaGreatProg
import Derived.Laws.CopyOwn
import Derived.Deep.WholeRow
namespace Drum
/-- `it f n x`: f applied n times. -/
def it {α : Type} (f : α → α) : Nat → α → α
  | 0, x => x
  | n + 1, x => it f n (f x)
theorem it_succ' {α : Type} (f : α → α) (n : Nat) : ∀ x, it f (n + 1) x = f (it f n x) := by
  induction n with
  | zero => intro x; rfl
  | succ n ih => intro x; rw [it, ih]; rfl
theorem it_add {α : Type} (f : α → α) (m n : Nat) : ∀ x, it f (m + n) x = it f n (it f m x) := by
  induction m with
  | zero => intro x; rw [Nat.zero_add]; rfl
  | succ m ih => intro x; rw [show m + 1 + n = (m + n) + 1 by omega, it, ih]; rfl
theorem it_it {α : Type} (f : α → α) (m n : Nat) : ∀ x, it (it f m) n x = it f (m * n) x := by
  induction n with
  | zero => intro x; rfl
  | succ n ih => intro x; rw [it, ih, Nat.mul_succ, Nat.add_comm, it_add]
theorem it_inj {α : Type} {f : α → α} (h : ∀ a b, f a = f b → a = b) (n : Nat) : ∀ a b, it f n a = it f n b → a = b := by
  induction n with
  | zero => intro a b e; exact e
  | succ n ih => intro a b e; exact h _ _ (ih _ _ e)

abbrev W32 := BitVec 32
def cpoly : W32 := 0xEDB88320#32
/-- One bit's step. -/
def cstep (x : W32) : W32 := if x &&& 1#32 = 1#32 then (x >>> 1) ^^^ cpoly else x >>> 1
theorem and_one (x : W32) : (x &&& 1#32 = 1#32) ↔ x.getLsbD 0 = true := by
  constructor
  · intro h
    have := congrArg (fun y : W32 => y.getLsbD 0) h
    simpa using this
  · intro h
    apply BitVec.eq_of_getLsbD_eq
    intro i hi
    rcases Nat.eq_zero_or_pos i with rfl | h0
    · simp [h]
    · have : i ≠ 0 := by omega
      simp [BitVec.getLsbD_one, this]
theorem cstep_eq (x : W32) : cstep x = (x >>> 1) ^^^ (if x.getLsbD 0 then cpoly else 0#32) := by
  unfold cstep
  by_cases h : x.getLsbD 0 = true
  · rw [if_pos ((and_one x).2 h), if_pos h]
  · rw [if_neg (fun e => h ((and_one x).1 e)), if_neg h, BitVec.xor_zero]
def Lin (f : W32 → W32) : Prop := ∀ x y, f (x ^^^ y) = f x ^^^ f y
theorem Lin.zero {f : W32 → W32} (h : Lin f) : f 0#32 = 0#32 := by
  have := h 0#32 0#32
  rw [BitVec.xor_self] at this
  rw [this, BitVec.xor_self]
theorem cstep_lin : Lin cstep := by
  intro x y
  simp only [cstep_eq, BitVec.ushiftRight_xor_distrib, BitVec.getLsbD_xor]
  cases x.getLsbD 0 <;> cases y.getLsbD 0
  · simp
  · simp; ac_rfl
  · simp; ac_rfl
  · have h : x >>> 1 ^^^ cpoly ^^^ (y >>> 1 ^^^ cpoly) = x >>> 1 ^^^ y >>> 1 ^^^ (cpoly ^^^ cpoly) := by ac_rfl
    simp only [if_true, Bool.xor_true, Bool.not_true, Bool.false_eq_true, if_false, h, BitVec.xor_self]
theorem it_lin {f : W32 → W32} (h : Lin f) (n : Nat) : Lin (it f n) := by
  induction n with
  | zero => intro x y; rfl
  | succ n ih => intro x y; simp only [it]; rw [h, ih]
theorem cstep_zero {d : W32} (h : cstep d = 0#32) : d = 0#32 := by
  rw [cstep_eq] at h
  have h31 := congrArg (fun y : W32 => y.getLsbD 31) h
  cases h0 : d.getLsbD 0 with
  | true =>
    rw [h0] at h31
    simp [cpoly] at h31
  | false =>
    rw [h0] at h
    simp only [Bool.false_eq_true, if_false, BitVec.xor_zero] at h
    apply BitVec.eq_of_getLsbD_eq
    intro i hi
    rcases Nat.eq_zero_or_pos i with rfl | hp
    · simpa using h0
    · have := congrArg (fun y : W32 => y.getLsbD (i - 1)) h
      simp only [BitVec.getLsbD_ushiftRight] at this
      rw [show 1 + (i - 1) = i by omega] at this
      simpa using this
theorem lin_inj {f : W32 → W32} (hl : Lin f) (h : ∀ d, f d = 0#32 → d = 0#32) (a b : W32) (e : f a = f b) : a = b := by
  have : f (a ^^^ b) = 0#32 := by rw [hl, e, BitVec.xor_self]
  have := h _ this
  have h2 := congrArg (· ^^^ b) this
  simpa [BitVec.xor_assoc] using h2
theorem cstep_inj (a b : W32) (h : cstep a = cstep b) : a = b := lin_inj cstep_lin (fun _ => cstep_zero) a b h

/-- A byte as a word. -/
def wide (b : BitVec 8) : W32 := b.setWidth 32
/-- What a byte does. -/
def cfeed (x : W32) (b : BitVec 8) : W32 := it cstep 8 (x ^^^ wide b)
/-- What a zero byte does. -/
def cz (x : W32) : W32 := it cstep 8 x
theorem cz_lin : Lin cz := it_lin cstep_lin 8
theorem cz_inj (a b : W32) (h : cz a = cz b) : a = b := it_inj cstep_inj 8 a b h
/-- The table's element. -/
def ctab (b : BitVec 8) : W32 := it cstep 8 (wide b)
theorem cfeed_zero (x : W32) : cfeed x 0#8 = cz x := by
  unfold cfeed cz wide; simp
theorem cfeed_tab0 (b : BitVec 8) : cfeed 0#32 b = ctab b := by unfold cfeed ctab; simp
theorem cstep_shl (y : W32) (k : Nat) (hk : k < 8) (hy : ∀ i, 24 ≤ i → y.getLsbD i = false) : cstep (y <<< (k + 1)) = y <<< k := by
  rw [cstep_eq]
  have h0 : (y <<< (k + 1)).getLsbD 0 = false := by simp
  rw [h0]
  simp only [Bool.false_eq_true, if_false, BitVec.xor_zero]
  apply BitVec.eq_of_getLsbD_eq
  intro i hi
  simp only [BitVec.getLsbD_ushiftRight, BitVec.getLsbD_shiftLeft]
  by_cases h31 : 1 + i < 32
  · by_cases hik : i < k
    · have : 1 + i < k + 1 := by omega
      simp [hik, this]
    · have h1 : ¬ (1 + i < k + 1) := by omega
      have h2 : 1 + i - (k + 1) = i - k := by omega
      simp [hik, h1, h2, h31, hi]
  · have hi31 : i = 31 := by omega
    subst hi31
    have := hy (31 - k) (by omega)
    simp [this]
theorem it_shl (y : W32) (hy : ∀ i, 24 ≤ i → y.getLsbD i = false) : ∀ k, k ≤ 8 → it cstep k (y <<< k) = y := by
  intro k
  induction k with
  | zero => intro _; simp [it]
  | succ k ih => intro hk; rw [it, cstep_shl y k (by omega) hy]; exact ih (by omega)
/-- The lowest byte. -/
def low8 (x : W32) : BitVec 8 := x.setWidth 8
theorem split_word (x : W32) : x = wide (low8 x) ^^^ ((x >>> 8) <<< 8) := by
  apply BitVec.eq_of_getLsbD_eq
  intro i hi
  simp only [wide, low8, BitVec.getLsbD_xor, BitVec.getLsbD_setWidth, BitVec.getLsbD_shiftLeft, BitVec.getLsbD_ushiftRight]
  by_cases h : i < 8
  · simp [h, hi]
  · have : 8 + (i - 8) = i := by omega
    simp [h, hi, this]
theorem cz_tab (x : W32) : cz x = ctab (low8 x) ^^^ (x >>> 8) := by
  have h := congrArg cz (split_word x)
  rw [cz_lin] at h
  rw [h]
  congr 1
  exact it_shl (x >>> 8) (fun i hi => by
    rw [BitVec.getLsbD_ushiftRight]
    exact BitVec.getLsbD_of_ge _ _ (by omega)) 8 (by omega)
theorem cfeed_tab (x : W32) (b : BitVec 8) : cfeed x b = ctab (low8 x ^^^ b) ^^^ (x >>> 8) := by
  have h1 : cfeed x b = cz (x ^^^ wide b) := rfl
  rw [h1, cz_tab]
  congr 1
  · congr 1
    apply BitVec.eq_of_getLsbD_eq
    intro i hi
    simp [wide, low8, hi, show i < 32 by omega]
  · apply BitVec.eq_of_getLsbD_eq
    intro i hi
    simp [wide, BitVec.getLsbD_of_ge]
theorem ctab_zero_word (x : W32) : ctab (low8 x) ^^^ (x >>> 8) = cz x := (cz_tab x).symm

/-- Bytes fed one after the other. -/
def craw (x : W32) (l : List (BitVec 8)) : W32 := l.foldl cfeed x
/-- The checksum of the bytes of a sum followed by l. -/
def cupd (s : W32) (l : List (BitVec 8)) : W32 := craw (s ^^^ 0xFFFFFFFF#32) l ^^^ 0xFFFFFFFF#32
def csum (l : List (BitVec 8)) : W32 := cupd 0#32 l
/-- A number shifted by n zero bytes. -/
def cshift (n : Nat) (x : W32) : W32 := it cz n x
theorem cshift_lin (n : Nat) : Lin (cshift n) := it_lin cz_lin n
theorem cshift_inj (n : Nat) (a b : W32) (h : cshift n a = cshift n b) : a = b := it_inj cz_inj n a b h
theorem cshift_add (m n : Nat) (x : W32) : cshift (m + n) x = cshift n (cshift m x) := it_add cz m n x
theorem craw_append (x : W32) (l m : List (BitVec 8)) : craw x (l ++ m) = craw (craw x l) m := by simp [craw]
theorem craw_lin (l : List (BitVec 8)) : ∀ x y, craw (x ^^^ y) l = cshift l.length x ^^^ craw y l := by
  induction l with
  | nil => intro x y; rfl
  | cons b l ih =>
    intro x y
    have h : cfeed (x ^^^ y) b = cz x ^^^ cfeed y b := by
      unfold cfeed; rw [BitVec.xor_assoc]; exact it_lin cstep_lin 8 _ _
    show craw (cfeed (x ^^^ y) b) l = cshift l.length (cz x) ^^^ craw (cfeed y b) l
    rw [h, ih]
theorem cupd_append (s : W32) (l m : List (BitVec 8)) : cupd s (l ++ m) = cupd (cupd s l) m := by
  unfold cupd
  rw [craw_append, BitVec.xor_assoc, BitVec.xor_self, BitVec.xor_zero]
theorem cupd_combine (s : W32) (l : List (BitVec 8)) : cupd s l = cshift l.length s ^^^ csum l := by
  unfold csum cupd
  rw [craw_lin, BitVec.zero_xor, BitVec.xor_assoc]
theorem csum_append (l m : List (BitVec 8)) : csum (l ++ m) = cshift m.length (csum l) ^^^ csum m := by
  unfold csum
  rw [cupd_append, cupd_combine (cupd 0#32 l) m]; rfl
theorem cupd_cons (s : W32) (b : BitVec 8) (l : List (BitVec 8)) : cupd s (b :: l) = cupd (cupd s [b]) l := cupd_append s [b] l
theorem csum_nil : csum [] = 0#32 := by decide

/-! ### matrices: for each bit what becomes of it -/
/-- The xor of m i over the bits of x below k. -/
def cpart (m : Nat → W32) (x : W32) : Nat → W32
  | 0 => 0#32
  | k + 1 => cpart m x k ^^^ (if x.getLsbD k then m k else 0#32)
def capply (m : Nat → W32) (x : W32) : W32 := cpart m x 32
def clow (x : W32) (k : Nat) : W32 := cpart (fun i => 1#32 <<< i) x k
theorem clow_bit (x : W32) (k : Nat) : ∀ i, i < 32 → (clow x k).getLsbD i = (decide (i < k) && x.getLsbD i) := by
  induction k with
  | zero => intro i hi; simp [clow, cpart]
  | succ k ih =>
    intro i hi
    have h1 : clow x (k + 1) = clow x k ^^^ (if x.getLsbD k then 1#32 <<< k else 0#32) := rfl
    rw [h1, BitVec.getLsbD_xor, ih i hi]
    have h2 : (if x.getLsbD k then 1#32 <<< k else 0#32).getLsbD i = (x.getLsbD k && decide (i = k)) := by
      cases x.getLsbD k
      · simp
      · simp only [if_true, Bool.true_and, BitVec.getLsbD_shiftLeft, BitVec.getLsbD_one]
        by_cases he : i = k
        · subst he; simp [hi]
        · by_cases hlt : i < k
          · simp [hlt, he]
          · simp [he]; omega
    rw [h2]
    by_cases hlt : i < k
    · have : i ≠ k := by omega
      simp [hlt, this, show i < k + 1 by omega]
    · by_cases he : i = k
      · subst he; simp
      · simp [hlt, he, show ¬ i < k + 1 by omega]
theorem clow_all (x : W32) : clow x 32 = x := by
  apply BitVec.eq_of_getLsbD_eq
  intro i hi
  rw [clow_bit x 32 i hi]; simp [hi]
theorem cpart_lin {M : W32 → W32} (hM : Lin M) {m : Nat → W32} (hm : ∀ i, i < 32 → m i = M (1#32 <<< i)) (x : W32) : ∀ k, k ≤ 32 → cpart m x k = M (clow x k) := by
  intro k
  induction k with
  | zero => intro _; exact hM.zero.symm
  | succ k ih =>
    intro hk
    have h1 : clow x (k + 1) = clow x k ^^^ (if x.getLsbD k then 1#32 <<< k else 0#32) := rfl
    rw [h1, hM, ← ih (by omega)]
    show cpart m x k ^^^ _ = _
    congr 1
    cases x.getLsbD k with
    | true => exact hm k (by omega)
    | false => exact hM.zero.symm
theorem capply_lin {M : W32 → W32} (hM : Lin M) {m : Nat → W32} (hm : ∀ i, i < 32 → m i = M (1#32 <<< i)) (x : W32) : capply m x = M x := by
  unfold capply; rw [cpart_lin hM hm x 32 (by omega), clow_all]
theorem cpart_stop (m : Nat → W32) (x : W32) (k : Nat) (h : x >>> k = 0#32) : ∀ j, k ≤ j → cpart m x j = cpart m x k := by
  intro j
  induction j with
  | zero => intro hj; rw [show k = 0 by omega]
  | succ j ih =>
    intro hj
    rcases Nat.lt_or_ge j k with hlt | hge
    · rw [show k = j + 1 by omega]
    · have hb : x.getLsbD j = false := by
        have := congrArg (fun y : W32 => y.getLsbD (j - k)) h
        simp only [BitVec.getLsbD_ushiftRight] at this
        rw [show k + (j - k) = j by omega] at this
        simpa using this
      show cpart m x j ^^^ _ = _
      rw [hb]; simp [ih hge]
/-- Shift by halving: what the loop of Combine and Shift does. -/
theorem it_half (n : Nat) (x : W32) : cshift n x = it (it cz 2) (n / 2) (if n % 2 = 1 then cz x else x) := by
  rw [it_it]
  unfold cshift
  by_cases h : n % 2 = 1
  · rw [if_pos h]
    have h2 : n = 2 * (n / 2) + 1 := by omega
    conv => lhs; rw [h2]
    rfl
  · rw [if_neg h]
    have h2 : n = 2 * (n / 2) := by omega
    conv => lhs; rw [h2]
theorem it_two_pow (k : Nat) (x : W32) : it cz (2 ^ k) (it cz (2 ^ k) x) = it cz (2 ^ (k + 1)) x := by
  rw [← it_add, Nat.pow_succ, Nat.mul_two]
theorem it_even (p n : Nat) (x : W32) : it cz (p * n) x = it cz (2 * p * (n / 2)) (if n % 2 = 1 then it cz p x else x) := by
  by_cases h : n % 2 = 1
  · rw [if_pos h, ← it_add]
    congr 1
    have h2 : n = 2 * (n / 2) + 1 := by omega
    conv => lhs; rw [h2]
    rw [Nat.mul_add, ← Nat.mul_assoc, Nat.mul_one, Nat.mul_comm p 2, Nat.add_comm]
  · rw [if_neg h]
    congr 1
    have h2 : n = 2 * (n / 2) := by omega
    conv => lhs; rw [h2]
    rw [← Nat.mul_assoc, Nat.mul_comm p 2]
end Drum
namespace Go.Proofs.YtnopljanpjmbgaaGreat
open Go.RowKit Drum
set_option linter.unusedVariables false
/-- A word as a number. -/
def n32 (x : W32) : Int := x.toNat
theorem n32_bd (x : W32) : 0 ≤ n32 x ∧ n32 x < 4294967296 := by unfold n32; have := x.isLt; omega
/-- A word as the program's value. -/
def u32v (x : W32) : Value := .int .u32 (n32 x)
@[go_sem] theorem xor_u32 (x y : W32) : bits .xor .u32 (n32 x) (n32 y) = n32 (x ^^^ y) := by
  unfold n32; rw [u32_xor_nat _ _ x.isLt y.isLt]; rfl
@[go_sem] theorem xor_u32_poly (x : W32) : bits .xor .u32 (n32 x) 3988292384 = n32 (x ^^^ cpoly) := xor_u32 x cpoly
@[go_sem] theorem xor_u32_ones (x : W32) : bits .xor .u32 (n32 x) 4294967295 = n32 (x ^^^ 0xFFFFFFFF#32) := xor_u32 x 0xFFFFFFFF#32
@[go_sem] theorem xor_u32_zero (x : W32) : bits .xor .u32 0 (n32 x) = n32 x := by
  have := xor_u32 0#32 x
  rw [BitVec.zero_xor] at this; exact this
theorem shr1_u32 (x : W32) : n32 x / (2 : Int) = n32 (x >>> 1) := by
  unfold n32; rw [BitVec.toNat_ushiftRight, Nat.shiftRight_eq_div_pow]; omega
theorem shr8_u32 (x : W32) : n32 x / (256 : Int) = n32 (x >>> 8) := by
  unfold n32; rw [BitVec.toNat_ushiftRight, Nat.shiftRight_eq_div_pow]; omega
@[go_sem] theorem xor_u8 (x y : BitVec 8) : bits .xor .u8 (n8 x) (n8 y) = n8 (x ^^^ y) := by
  unfold n8; rw [u8_xor_nat _ _ x.isLt y.isLt]; rfl
theorem low_u8 (x : W32) : n32 x % (256 : Int) = n8 (low8 x) := by
  unfold n8 n32 low8; rw [BitVec.toNat_setWidth]; omega
@[go_sem] theorem xor_u32_half (x : W32) : bits .xor .u32 (n32 x / (2 : Int)) 3988292384 = n32 ((x >>> 1) ^^^ cpoly) := by rw [shr1_u32]; exact xor_u32_poly _
@[go_sem] theorem xor_u32_shr8 (x y : W32) : bits .xor .u32 (n32 x) (n32 y / (256 : Int)) = n32 (x ^^^ (y >>> 8)) := by rw [shr8_u32]; exact xor_u32 _ _
@[go_sem] theorem xor_u8_low (x : W32) (y : BitVec 8) : bits .xor .u8 (n32 x % (256 : Int)) (n8 y) = n8 (low8 x ^^^ y) := by rw [low_u8]; exact xor_u8 _ _
theorem wide_u32 (b : BitVec 8) : n8 b = n32 (wide b) := by
  unfold wide n8 n32; rw [BitVec.toNat_setWidth]; have := b.isLt; omega
@[go_sem] theorem xor_u32_byte (x : W32) (b : BitVec 8) : bits .xor .u32 (n32 x) (n8 b) = n32 (x ^^^ wide b) := by rw [wide_u32]; exact xor_u32 _ _
theorem n32_eq {x y : W32} : n32 x = n32 y ↔ x = y := by
  unfold n32
  exact ⟨fun h => BitVec.eq_of_toNat_eq (by omega), fun h => by rw [h]⟩
theorem odd_u32 (x : W32) : (bits .and .u32 (n32 x) 1 == 1) = decide (x &&& 1#32 = 1#32) := by
  have e : bits .and .u32 (n32 x) 1 = n32 (x &&& 1#32) := by
    unfold n32; exact (u32_and_nat _ 1 x.isLt (by omega)).trans rfl
  rw [e, Bool.eq_iff_iff]; simp only [beq_iff_eq, decide_eq_true_eq]
  exact n32_eq (y := 1#32)
@[go_sem] theorem beq_u32 (x y : W32) : (n32 x == n32 y) = decide (x = y) := by
  rw [Bool.eq_iff_iff]; simp only [beq_iff_eq, decide_eq_true_eq]; exact n32_eq
@[go_sem] theorem bneq_u32_zero (x : W32) : (n32 x != 0) = !decide (x = 0#32) := by
  have := beq_u32 x 0#32
  simp only [bne]
  rw [← this]; rfl
theorem ret_u32 {a b : W32} (h : a = b) : Ending.returned (.int .u32 (n32 a)) = .returned (.int .u32 (n32 b)) := by rw [h]
theorem u32_eq {a b : W32} (h : a = b) : Value.int .u32 (n32 a) = .int .u32 (n32 b) := by rw [h]
attribute [irreducible] n32
end Go.Proofs.YtnopljanpjmbgaaGreat
namespace Go.Proofs.YtnopljanpjmbgaaGreat
open Go.RowKit Drum
set_option linter.unusedVariables false

theorem step_hi {x : W32} (h : x &&& 1#32 = 1#32) : (bits .and .u32 (n32 x) 1 == 1) = true ∧ Hid (cstep x = (x >>> 1) ^^^ cpoly) :=
  ⟨by rw [odd_u32, h]; rfl, by unfold Hid cstep; rw [if_pos h]⟩
theorem step_lo {x : W32} (h : ¬ x &&& 1#32 = 1#32) : (bits .and .u32 (n32 x) 1 == 1) = false ∧ Hid (n32 (cstep x) = n32 x / (2 : Int)) :=
  ⟨by rw [odd_u32]; simpa using h, by unfold Hid cstep; rw [if_neg h, shr1_u32]⟩
set_option maxHeartbeats 400000 in
theorem step_any (x : W32) (w : World) :
    Calls Tryz.prog 155 #[.int .u32 (n32 x)] w fun e w' => e = .returned (.int .u32 (n32 (cstep x))) ∧ w = w' := by
  by_cases h : x &&& 1#32 = 1#32
  · obtain ⟨hb, H⟩ := step_hi h
    clear h
    go_enter Tryz.func155, Tryz.ntmps155
    go_wp2
    go_ret
    exact ⟨by rw [H.out]; rfl, rfl⟩
  · obtain ⟨hb, H⟩ := step_lo h
    clear h
    go_enter Tryz.func155, Tryz.ntmps155
    go_wp2
    go_ret
    exact ⟨by rw [H.out]; rfl, rfl⟩

set_option maxHeartbeats 400000 in
theorem feed_any (x : W32) (b : BitVec 8) (w : World) :
    Calls Tryz.prog 151 #[.int .u32 (n32 x), .int .u8 (n8 b)] w fun e w' => e = .returned (.int .u32 (n32 (cfeed x b))) ∧ w = w' := by
  obtain ⟨hb1, hb2⟩ := n8_bd b
  go_enter Tryz.func151, Tryz.ntmps151
  go_wp2
  go_loopg [0, 5] 8 (fun k v0 v5 wr => ∃ j : Nat, j + k = 8 ∧ v5 = .int .i64 j ∧ v0 = .int .u32 (n32 (it cstep j (x ^^^ wide b))) ∧ w = wr)
  case atStart => exact ⟨0, rfl, rfl, rfl, rfl⟩
  case round =>
    obtain ⟨j, hj, rfl, rfl, rfl⟩ := hrel
    have hj' : j ≤ 8 := by omega
    by_cases hlt : j < 8
    · have HJ := Lib.hid hj
      clear hj
      go_wp2_with (go_at_call 155; refine (step_any _ _).mono ?_; rintro e w' ⟨rfl, rfl⟩)
      go_roundg (gk - 1)
      case measure => have := HJ.out; omega
      case rel => exact ⟨j + 1, by have := HJ.out; omega, by go_num, u32_eq (by rw [it_succ']), rfl⟩
    · have e8 : j = 8 := by omega
      subst e8
      go_wp2
      go_ret
      exact ⟨rfl, rfl⟩

set_option maxHeartbeats 400000 in
theorem refUpdate_any (s : W32) (A : Option Addr) (n c B : Nat) (l : List (BitVec 8)) (w : World) (hr : Reads w B 1 A n (u8s l)) (hn : n = l.length) (hm : n ≤ maxLen) :
    Calls Tryz.prog 141 #[.int .u32 (n32 s), .slice A n c] w fun e w' => e = .returned (.int .u32 (n32 (cupd s l))) ∧ w = w' := by
  unfold maxLen at hm
  have HN := Lib.hid hn
  have HR := Lib.hid hr
  have hnl : n ≤ l.length := by omega
  clear hn hr
  go_enter Tryz.func141, Tryz.ntmps141
  go_wp2
  go_loopg [5, 6] n (fun k v5 v6 wr => ∃ j : Nat, j + k = n ∧ v6 = .int .i64 j ∧ v5 = .int .u32 (n32 (craw (s ^^^ 0xFFFFFFFF#32) (l.take j))) ∧ w = wr)
  case atStart => exact ⟨0, by omega, rfl, rfl, rfl⟩
  case round =>
    obtain ⟨j, hj, rfl, rfl, rfl⟩ := hrel
    have hj' : j ≤ n := by omega
    have HJ := Lib.hid hj
    clear hj
    by_cases hlt : j < n
    · have hjl : j < l.length := by omega
      obtain ⟨ad, u, rfl, _, hx, hc⟩ := HR.out.at_ hlt
      obtain ⟨_, rfl⟩ := u8s_at hx
      have HT := Lib.hid (take_snoc l j hjl)
      clear hx
      go_wp2_with (go_at_call 151; refine (feed_any _ _ _).mono ?_; rintro e w' ⟨rfl, rfl⟩)
      go_roundg (gk - 1)
      case measure => have := HJ.out; omega
      case rel => exact ⟨j + 1, by have := HJ.out; omega, by go_num, u32_eq (by rw [HT.out, craw_append]; rfl), rfl⟩
    · have hjn : j = n := by omega
      subst hjn
      go_wp2
      go_ret
      exact ⟨by rw [HN.out, List.take_length]; rfl, rfl⟩
end Go.Proofs.YtnopljanpjmbgaaGreat
namespace Go.Proofs.YtnopljanpjmbgaaGreat
open Go.RowKit Drum
set_option linter.unusedVariables false
/-- The table, filled up to j. -/
def tblTo (j : Nat) : Array Value := Array.ofFn (n := 256) fun i => if i.val < j then .int .u32 (n32 (ctab (BitVec.ofNat 8 i.val))) else .int .u32 0
theorem tblTo_size (j : Nat) : (tblTo j).size = 256 := by simp [tblTo]
theorem tblTo_at (j i : Nat) (hi : i < j) (h : i < 256) : (tblTo j)[i]? = some (.int .u32 (n32 (ctab (BitVec.ofNat 8 i)))) := by
  unfold tblTo; rw [Array.getElem?_ofFn]; simp [hi, h]
theorem tblTo_set (j : Nat) : (tblTo j).setIfInBounds j (.int .u32 (n32 (ctab (BitVec.ofNat 8 j)))) = tblTo (j + 1) := by
  apply Array.ext
  · simp [tblTo]
  · intro i h1 h2
    rw [Array.getElem_setIfInBounds]
    · by_cases e : j = i
      · subst e; simp [tblTo, BitVec.ofNat, Fin.ofNat]
      · simp only [e, if_false]
        simp only [tblTo, Array.getElem_ofFn]
        have : i < j ↔ i < j + 1 := by omega
        simp [this]
    · simpa [tblTo] using h1
theorem tblTo_next (j : Nat) (h : j < 256) : (tblTo j)[j]? = some (.int .u32 0) := by
  unfold tblTo; rw [Array.getElem?_ofFn]; simp [h]
theorem tblTo_one (j : Nat) : (tblTo j).all (·.oneCell') = true := by
  rw [Array.all_eq_true]
  intro i h
  simp only [tblTo, Array.getElem_ofFn]
  split <;> rfl
theorem zero_tbl (w : World) : (zeroValue 167).run Tryz.prog w = .ok (.agg (tblTo 0)) w := by kernel_rfl
theorem zwide (j : Nat) (h : j < 256) : (j : Int) = n32 (wide (BitVec.ofNat 8 j)) := by
  unfold n32 wide; simp; omega
set_option maxHeartbeats 400000 in
set_option maxRecDepth 100000 in
theorem table_any (w : World) :
    Calls Tryz.prog 135 #[] w fun e w' => e = .returned (.agg (tblTo 256)) ∧ Below w.heap.size w w' := by
  have hz := zero_tbl
  go_enter Tryz.func135, Tryz.ntmps135
  go_wp2_with fail
  clear hz
  go_loopg [4] 256 (fun k v4 wr => ∃ j : Nat, j + k = 256 ∧ v4 = .int .i64 j ∧ Blk wr (w.heap.size + 1) 167 (tblTo j) ∧ Blk wr w.heap.size 167 (tblTo 0) ∧ Below w.heap.size w wr)
  case atStart =>
    refine ⟨0, rfl, rfl, ?_, (Blk.new w _ _).alloc _, by go_grown⟩
    have := Blk.new (w.alloc (Obj.cells (tblTo 0) 167)) 167 (tblTo 0)
    simpa using this
  case round =>
    obtain ⟨j, hj, rfl, hb1, hb0, hbel⟩ := hrel
    have HJ := Lib.hid hj
    have HB1 := Lib.hid hb1
    have HB0 := Lib.hid hb0
    have HBE := Lib.hid hbel
    by_cases hlt : j < 256
    · clear hj hb1 hb0 hbel
      obtain ⟨wo, rfl⟩ : ∃ wo : World, wo = wr := ⟨_, rfl⟩
      obtain ⟨go, rfl⟩ : ∃ go : Nat, go = gk := ⟨_, rfl⟩
      go_wp2_with fail
      go_loopg [3, 9] 8 (fun k v3 v9 wr => ∃ i : Nat, i + k = 8 ∧ v9 = .int .i64 i ∧ v3 = .int .u32 (n32 (it cstep i (wide (BitVec.ofNat 8 j)))) ∧ wr = wo)
      case atStart => exact ⟨0, rfl, rfl, congrArg _ (zwide j hlt), rfl⟩
      case round =>
        obtain ⟨i, hi, rfl, rfl, rfl⟩ := hrel
        have HI := Lib.hid hi
        by_cases hlt8 : i < 8
        · clear hi
          by_cases hod : (it cstep i (wide (BitVec.ofNat 8 j))) &&& 1#32 = 1#32
          · obtain ⟨hb, H⟩ := step_hi hod
            clear hod
            go_wp2
            go_roundg (gk - 1)
            case measure => have := HI.out; omega
            case rel => exact ⟨i + 1, by have := HI.out; omega, by go_num, u32_eq (by rw [it_succ', H.out]), rfl⟩
          · obtain ⟨hb, H⟩ := step_lo hod
            clear hod
            go_wp2
            go_roundg (gk - 1)
            case measure => have := HI.out; omega
            case rel => exact ⟨i + 1, by have := HI.out; omega, by go_num, by rw [it_succ', H.out], rfl⟩
        · have e8 : i = 8 := by omega
          subst e8
          clear hi
          have hcell := HB1.out.cell j
          rw [show (tblTo j)[j]? = some (Value.int .u32 0) from tblTo_next j hlt] at hcell
          have hfr := HB1.out.frozen j
          go_wp2
          go_roundg (go - 1)
          case measure => have := HJ.out; omega
          case rel =>
            refine ⟨j + 1, by have := HJ.out; omega, by go_num, ?_, ?_, ?_⟩
            · rw [← tblTo_set j]; exact HB1.out.set_ j _
            · exact HB0.out.far (by simp) _
            · exact HBE.out.setCell (by simp) _
    · have e8 : j = 256 := by omega
      subst e8
      clear hj hb1 hb0 hbel
      go_wp2_with (first
        | (refine wpList_load_row rfl 167 _ rfl (w.heap.size + 1) rfl 167 (tblTo 256) (0, 0) _ HB1.out Tryz.underlying167 rfl (by rw [tblTo_size]; kernel_rfl) ?_)
        | (refine wpList_store_row rfl 167 _ _ rfl w.heap.size (tblTo 256) rfl rfl 167 (tblTo 0) HB0.out (by rw [tblTo_size]; kernel_rfl) (by rw [tblTo_size, tblTo_size]) (tblTo_one _) ?_))
      have hb2 : (wr.setRow w.heap.size (tblTo 256)).heap[w.heap.size]? = some (.cells (tblTo 256) 167 (0, 0)) := setRow_heap _ _ _ _ _ _ HB0.out
      exact bodyPost_ret (results_cell_row rfl _ _ w.heap.size 167 (tblTo 256) (0, 0) _ rfl hb2 Tryz.underlying167 rfl (by rw [tblTo_size]; kernel_rfl)) rfl ⟨rfl, below_setRow HBE.out (Nat.le_refl _) _⟩
end Go.Proofs.YtnopljanpjmbgaaGreat
namespace Go.Proofs.YtnopljanpjmbgaaGreat
open Go.RowKit Drum
set_option linter.unusedVariables false
theorem tbl_at (x : W32) (b : BitVec 8) : (tblTo 256)[(n8 (low8 x ^^^ b)).toNat]? = some (.int .u32 (n32 (ctab (low8 x ^^^ b)))) := by
  have h : (n8 (low8 x ^^^ b)).toNat = (low8 x ^^^ b).toNat := by unfold n8; rfl
  have hl := (low8 x ^^^ b).isLt
  rw [h, tblTo_at 256 _ hl hl, BitVec.ofNat_toNat, BitVec.setWidth_eq]
theorem store_tbl (w : World) : (storeCells ⟨w.heap.size, 0, none⟩ (tblTo 256).toList 0).run Tryz.prog (w.alloc (.cells (tblTo 0) 167)) = .ok () (w.alloc (.cells (tblTo 256) 167)) :=
  run_storeCells_new w 167 (tblTo 0) (tblTo 256) (by rw [tblTo_size]; kernel_rfl) (by rw [tblTo_size, tblTo_size]) (tblTo_one _)
set_option maxHeartbeats 1000000 in
set_option maxRecDepth 100000 in
theorem update_any (s : W32) (A : Option Addr) (n c B : Nat) (l : List (BitVec 8)) (w : World) (hr : Reads w B 1 A n (u8s l)) (hB : B ≤ w.heap.size) (hn : n = l.length) (hm : n ≤ maxLen) :
    Calls Tryz.prog 100 #[.int .u32 (n32 s), .slice A n c] w fun e w' => e = .returned (.int .u32 (n32 (cupd s l))) ∧ Below w.heap.size w w' := by
  unfold maxLen at hm
  have HN := Lib.hid hn
  have HR := Lib.hid hr
  have hnl : n ≤ l.length := by omega
  clear hn hr
  have hz := zero_tbl
  have hst := store_tbl
  have hsz := tblTo_size 256
  go_enter Tryz.func100, Tryz.ntmps100
  go_wp2_with (go_at_call 135; refine (table_any _).mono ?_; rintro e w1 ⟨rfl, hb1⟩)
  have HB := Lib.hid hb1
  clear hz hst hsz hb1
  go_loopg [6, 14] n (fun k v6 v14 wr => ∃ j : Nat, j + k = n ∧ v14 = .int .i64 j ∧ v6 = .int .u32 (n32 (craw (s ^^^ 0xFFFFFFFF#32) (l.take j))) ∧ wr = w1.alloc (.cells (tblTo 256) 167))
  case atStart => exact ⟨0, by omega, rfl, rfl, rfl⟩
  case round =>
    obtain ⟨j, hj, rfl, rfl, hwr⟩ := hrel
    have hj' : j ≤ n := by omega
    have HJ := Lib.hid hj
    clear hj
    by_cases hlt : j < n
    · have hjl : j < l.length := by omega
      obtain ⟨ad, u, rfl, _, hx, hc0⟩ := HR.out.at_ hlt
      obtain ⟨_, rfl⟩ := u8s_at hx
      have hc : wr.cell? (ad.add j) = some (.int .u8 (n8 l[j])) := by
        rw [hwr, World.cell?_alloc_lt _ _ _ (by rw [block_of_add]; have := HB.out.size; omega), HB.out.cell (by rw [block_of_add]; omega)]; exact hc0
      have hbl : Blk wr w1.heap.size 167 (tblTo 256) := by rw [hwr]; exact Blk.new w1 _ _
      have ht := hbl.cell (n8 (low8 (craw (s ^^^ 0xFFFFFFFF#32) (l.take j)) ^^^ l[j])).toNat
      rw [tbl_at] at ht
      have HT := Lib.hid (take_snoc l j hjl)
      have HW := Lib.hid hwr
      obtain ⟨hn1, hn2⟩ := n8_bd (low8 (craw (s ^^^ 0xFFFFFFFF#32) (l.take j)) ^^^ l[j])
      clear hx hwr hc0 hbl
      generalize hxx : craw (s ^^^ 0xFFFFFFFF#32) (l.take j) = x at *
      have HX := Lib.hid hxx
      clear hxx
      go_wp2
      go_roundg (gk - 1)
      case measure => have := HJ.out; omega
      case rel => exact ⟨j + 1, by have := HJ.out; omega, by go_num, u32_eq (by rw [HT.out, craw_append, HX.out]; exact (cfeed_tab x _).symm), HW.out⟩
    · have hjn : j = n := by omega
      subst hjn
      have HW := Lib.hid hwr
      clear hwr
      go_wp2
      go_ret
      exact ⟨by rw [HN.out, List.take_length]; rfl, by rw [HW.out]; exact HB.out.alloc (HB.out.size) _⟩

set_option maxHeartbeats 400000 in
theorem sum_any (A : Option Addr) (n c B : Nat) (l : List (BitVec 8)) (w : World) (hr : Reads w B 1 A n (u8s l)) (hB : B ≤ w.heap.size) (hn : n = l.length) (hm : n ≤ maxLen) :
    Calls Tryz.prog 49 #[.slice A n c] w fun e w' => e = .returned (.int .u32 (n32 (csum l))) ∧ Below w.heap.size w w' := by
  have H := Lib.hid (update_any 0#32 A n c B l w hr hB hn hm)
  have h0 : (0 : Int) = n32 0#32 := by unfold n32; rfl
  have H0 := Lib.hid h0
  clear hr hn h0
  go_enter Tryz.func49, Tryz.ntmps49
  go_wp2_with fail
  rw [H0.out]
  refine (H.out).mono ?_
  rintro e w1 ⟨rfl, hb1⟩
  go_wp2
  go_ret
  exact ⟨rfl, hb1⟩
set_option maxHeartbeats 400000 in
theorem valid_any (A : Option Addr) (n c B : Nat) (l : List (BitVec 8)) (x : W32) (w : World) (hr : Reads w B 1 A n (u8s l)) (hB : B ≤ w.heap.size) (hn : n = l.length) (hm : n ≤ maxLen) :
    Calls Tryz.prog 132 #[.slice A n c, .int .u32 (n32 x)] w fun e w' => e = .returned (.bool (decide (csum l = x))) ∧ Below w.heap.size w w' := by
  have H := Lib.hid (sum_any A n c B l w hr hB hn hm)
  clear hr hn
  go_enter Tryz.func132, Tryz.ntmps132
  go_wp2_with fail
  refine (H.out).mono ?_
  rintro e w1 ⟨rfl, hb1⟩
  go_wp2
  go_ret
  exact ⟨rfl, hb1⟩
set_option maxHeartbeats 400000 in
theorem refSum_any (A : Option Addr) (n c B : Nat) (l : List (BitVec 8)) (w : World) (hr : Reads w B 1 A n (u8s l)) (hn : n = l.length) (hm : n ≤ maxLen) :
    Calls Tryz.prog 112 #[.slice A n c] w fun e w' => e = .returned (.int .u32 (n32 (csum l))) ∧ w = w' := by
  have H := Lib.hid (refUpdate_any 0#32 A n c B l w hr hn hm)
  have h0 : (0 : Int) = n32 0#32 := by unfold n32; rfl
  have H0 := Lib.hid h0
  clear hr hn h0
  go_enter Tryz.func112, Tryz.ntmps112
  go_wp2_with fail
  rw [H0.out]
  refine (H.out).mono ?_
  rintro e w1 ⟨rfl, rfl⟩
  go_wp2
  go_ret
  exact ⟨rfl, rfl⟩
theorem sum_own {base n : Nat} {e : TypeId} {v : Value} {l : List (BitVec 8)} {w : World} (h : w.ownsRow base e 1 v n (u8s l)) :
    Calls Tryz.prog 49 #[v] w fun e w' => e = .returned (.int .u32 (n32 (csum l))) ∧ Below w.heap.size w w' := by
  obtain ⟨A, c, rfl, h1, h2, h3⟩ := own_slice h
  have h4 := h.1
  rw [u8s_length, Nat.mul_one] at h4
  exact sum_any A n c _ l w h3 (Nat.le_refl _) h4.symm (Nat.le_trans h1 h2)
theorem valid_own {base n : Nat} {e : TypeId} {v : Value} {l : List (BitVec 8)} {w : World} (x : W32) (h : w.ownsRow base e 1 v n (u8s l)) :
    Calls Tryz.prog 132 #[v, .int .u32 (n32 x)] w fun e w' => e = .returned (.bool (decide (csum l = x))) ∧ Below w.heap.size w w' := by
  obtain ⟨A, c, rfl, h1, h2, h3⟩ := own_slice h
  have h4 := h.1
  rw [u8s_length, Nat.mul_one] at h4
  exact valid_any A n c _ l x w h3 (Nat.le_refl _) h4.symm (Nat.le_trans h1 h2)
end Go.Proofs.YtnopljanpjmbgaaGreat
