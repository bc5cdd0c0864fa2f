/-
  Plain mathematics of the CRC-32 checksum on 32-bit words: the step is linear and injective, a table entry and a byte feed agree, matrices of linear maps, shifts by zero bytes, bursts of at most 32 bits. No condition.
-/
namespace Drum
/-- `it f n x`: f applied n times. -/
def it {α : Type} (f : α → α) : Nat → α → α
  | 0, x => x
  | n + 1, x => it f n (f x)
theorem it_succ' {α : Type} (f : α → α) (n : Nat) : ∀ x, it f (n + 1) x = f (it f n x) := by
  induction n with
  | zero => intro x; rfl
  | succ n ih => intro x; rw [it, ih]; rfl
theorem it_add {α : Type} (f : α → α) (m n : Nat) : ∀ x, it f (m + n) x = it f n (it f m x) := by
  induction m with
  | zero => intro x; rw [Nat.zero_add]; rfl
  | succ m ih => intro x; rw [show m + 1 + n = (m + n) + 1 by omega, it, ih]; rfl
theorem it_it {α : Type} (f : α → α) (m n : Nat) : ∀ x, it (it f m) n x = it f (m * n) x := by
  induction n with
  | zero => intro x; rfl
  | succ n ih => intro x; rw [it, ih, Nat.mul_succ, Nat.add_comm, it_add]
theorem it_inj {α : Type} {f : α → α} (h : ∀ a b, f a = f b → a = b) (n : Nat) : ∀ a b, it f n a = it f n b → a = b := by
  induction n with
  | zero => intro a b e; exact e
  | succ n ih => intro a b e; exact h _ _ (ih _ _ e)

abbrev W32 := BitVec 32
def cpoly : W32 := 0xEDB88320#32
/-- One bit's step. -/
def cstep (x : W32) : W32 := if x &&& 1#32 = 1#32 then (x >>> 1) ^^^ cpoly else x >>> 1
theorem and_one (x : W32) : (x &&& 1#32 = 1#32) ↔ x.getLsbD 0 = true := by
  constructor
  · intro h
    have := congrArg (fun y : W32 => y.getLsbD 0) h
    simpa using this
  · intro h
    apply BitVec.eq_of_getLsbD_eq
    intro i hi
    rcases Nat.eq_zero_or_pos i with rfl | h0
    · simp [h]
    · have : i ≠ 0 := by omega
      simp [BitVec.getLsbD_one, this]
theorem cstep_eq (x : W32) : cstep x = (x >>> 1) ^^^ (if x.getLsbD 0 then cpoly else 0#32) := by
  unfold cstep
  by_cases h : x.getLsbD 0 = true
  · rw [if_pos ((and_one x).2 h), if_pos h]
  · rw [if_neg (fun e => h ((and_one x).1 e)), if_neg h, BitVec.xor_zero]
def Lin (f : W32 → W32) : Prop := ∀ x y, f (x ^^^ y) = f x ^^^ f y
theorem Lin.zero {f : W32 → W32} (h : Lin f) : f 0#32 = 0#32 := by
  have := h 0#32 0#32
  rw [BitVec.xor_self] at this
  rw [this, BitVec.xor_self]
theorem cstep_lin : Lin cstep := by
  intro x y
  simp only [cstep_eq, BitVec.ushiftRight_xor_distrib, BitVec.getLsbD_xor]
  cases x.getLsbD 0 <;> cases y.getLsbD 0
  · simp
  · simp; ac_rfl
  · simp; ac_rfl
  · have h : x >>> 1 ^^^ cpoly ^^^ (y >>> 1 ^^^ cpoly) = x >>> 1 ^^^ y >>> 1 ^^^ (cpoly ^^^ cpoly) := by ac_rfl
    simp only [if_true, Bool.xor_true, Bool.not_true, Bool.false_eq_true, if_false, h, BitVec.xor_self]
theorem it_lin {f : W32 → W32} (h : Lin f) (n : Nat) : Lin (it f n) := by
  induction n with
  | zero => intro x y; rfl
  | succ n ih => intro x y; simp only [it]; rw [h, ih]
theorem cstep_zero {d : W32} (h : cstep d = 0#32) : d = 0#32 := by
  rw [cstep_eq] at h
  have h31 := congrArg (fun y : W32 => y.getLsbD 31) h
  cases h0 : d.getLsbD 0 with
  | true =>
    rw [h0] at h31
    simp [cpoly] at h31
  | false =>
    rw [h0] at h
    simp only [Bool.false_eq_true, if_false, BitVec.xor_zero] at h
    apply BitVec.eq_of_getLsbD_eq
    intro i hi
    rcases Nat.eq_zero_or_pos i with rfl | hp
    · simpa using h0
    · have := congrArg (fun y : W32 => y.getLsbD (i - 1)) h
      simp only [BitVec.getLsbD_ushiftRight] at this
      rw [show 1 + (i - 1) = i by omega] at this
      simpa using this
theorem lin_inj {f : W32 → W32} (hl : Lin f) (h : ∀ d, f d = 0#32 → d = 0#32) (a b : W32) (e : f a = f b) : a = b := by
  have : f (a ^^^ b) = 0#32 := by rw [hl, e, BitVec.xor_self]
  have := h _ this
  have h2 := congrArg (· ^^^ b) this
  simpa [BitVec.xor_assoc] using h2
theorem cstep_inj (a b : W32) (h : cstep a = cstep b) : a = b := lin_inj cstep_lin (fun _ => cstep_zero) a b h

/-- A byte as a word. -/
def wide (b : BitVec 8) : W32 := b.setWidth 32
/-- What a byte does. -/
def cfeed (x : W32) (b : BitVec 8) : W32 := it cstep 8 (x ^^^ wide b)
/-- What a zero byte does. -/
def cz (x : W32) : W32 := it cstep 8 x
theorem cz_lin : Lin cz := it_lin cstep_lin 8
theorem cz_inj (a b : W32) (h : cz a = cz b) : a = b := it_inj cstep_inj 8 a b h
/-- The table's element. -/
def ctab (b : BitVec 8) : W32 := it cstep 8 (wide b)
theorem cfeed_zero (x : W32) : cfeed x 0#8 = cz x := by
  unfold cfeed cz wide; simp
theorem cfeed_tab0 (b : BitVec 8) : cfeed 0#32 b = ctab b := by unfold cfeed ctab; simp
theorem cstep_shl (y : W32) (k : Nat) (hk : k < 8) (hy : ∀ i, 24 ≤ i → y.getLsbD i = false) : cstep (y <<< (k + 1)) = y <<< k := by
  rw [cstep_eq]
  have h0 : (y <<< (k + 1)).getLsbD 0 = false := by simp
  rw [h0]
  simp only [Bool.false_eq_true, if_false, BitVec.xor_zero]
  apply BitVec.eq_of_getLsbD_eq
  intro i hi
  simp only [BitVec.getLsbD_ushiftRight, BitVec.getLsbD_shiftLeft]
  by_cases h31 : 1 + i < 32
  · by_cases hik : i < k
    · have : 1 + i < k + 1 := by omega
      simp [hik, this]
    · have h1 : ¬ (1 + i < k + 1) := by omega
      have h2 : 1 + i - (k + 1) = i - k := by omega
      simp [hik, h1, h2, h31, hi]
  · have hi31 : i = 31 := by omega
    subst hi31
    have := hy (31 - k) (by omega)
    simp [this]
theorem it_shl (y : W32) (hy : ∀ i, 24 ≤ i → y.getLsbD i = false) : ∀ k, k ≤ 8 → it cstep k (y <<< k) = y := by
  intro k
  induction k with
  | zero => intro _; simp [it]
  | succ k ih => intro hk; rw [it, cstep_shl y k (by omega) hy]; exact ih (by omega)
/-- The lowest byte. -/
def low8 (x : W32) : BitVec 8 := x.setWidth 8
theorem split_word (x : W32) : x = wide (low8 x) ^^^ ((x >>> 8) <<< 8) := by
  apply BitVec.eq_of_getLsbD_eq
  intro i hi
  simp only [wide, low8, BitVec.getLsbD_xor, BitVec.getLsbD_setWidth, BitVec.getLsbD_shiftLeft, BitVec.getLsbD_ushiftRight]
  by_cases h : i < 8
  · simp [h, hi]
  · have : 8 + (i - 8) = i := by omega
    simp [h, hi, this]
theorem cz_tab (x : W32) : cz x = ctab (low8 x) ^^^ (x >>> 8) := by
  have h := congrArg cz (split_word x)
  rw [cz_lin] at h
  rw [h]
  congr 1
  exact it_shl (x >>> 8) (fun i hi => by
    rw [BitVec.getLsbD_ushiftRight]
    exact BitVec.getLsbD_of_ge _ _ (by omega)) 8 (by omega)
theorem cfeed_tab (x : W32) (b : BitVec 8) : cfeed x b = ctab (low8 x ^^^ b) ^^^ (x >>> 8) := by
  have h1 : cfeed x b = cz (x ^^^ wide b) := rfl
  rw [h1, cz_tab]
  congr 1
  · congr 1
    apply BitVec.eq_of_getLsbD_eq
    intro i hi
    simp [wide, low8, hi, show i < 32 by omega]
  · apply BitVec.eq_of_getLsbD_eq
    intro i hi
    simp [wide, BitVec.getLsbD_of_ge]
theorem ctab_zero_word (x : W32) : ctab (low8 x) ^^^ (x >>> 8) = cz x := (cz_tab x).symm

/-- Bytes fed one after the other. -/
def craw (x : W32) (l : List (BitVec 8)) : W32 := l.foldl cfeed x
/-- The checksum of the bytes of a sum followed by l. -/
def cupd (s : W32) (l : List (BitVec 8)) : W32 := craw (s ^^^ 0xFFFFFFFF#32) l ^^^ 0xFFFFFFFF#32
def csum (l : List (BitVec 8)) : W32 := cupd 0#32 l
/-- A number shifted by n zero bytes. -/
def cshift (n : Nat) (x : W32) : W32 := it cz n x
theorem cshift_lin (n : Nat) : Lin (cshift n) := it_lin cz_lin n
theorem cshift_inj (n : Nat) (a b : W32) (h : cshift n a = cshift n b) : a = b := it_inj cz_inj n a b h
theorem cshift_add (m n : Nat) (x : W32) : cshift (m + n) x = cshift n (cshift m x) := it_add cz m n x
theorem craw_append (x : W32) (l m : List (BitVec 8)) : craw x (l ++ m) = craw (craw x l) m := by simp [craw]
theorem craw_lin (l : List (BitVec 8)) : ∀ x y, craw (x ^^^ y) l = cshift l.length x ^^^ craw y l := by
  induction l with
  | nil => intro x y; rfl
  | cons b l ih =>
    intro x y
    have h : cfeed (x ^^^ y) b = cz x ^^^ cfeed y b := by
      unfold cfeed; rw [BitVec.xor_assoc]; exact it_lin cstep_lin 8 _ _
    show craw (cfeed (x ^^^ y) b) l = cshift l.length (cz x) ^^^ craw (cfeed y b) l
    rw [h, ih]
theorem cupd_append (s : W32) (l m : List (BitVec 8)) : cupd s (l ++ m) = cupd (cupd s l) m := by
  unfold cupd
  rw [craw_append, BitVec.xor_assoc, BitVec.xor_self, BitVec.xor_zero]
theorem cupd_combine (s : W32) (l : List (BitVec 8)) : cupd s l = cshift l.length s ^^^ csum l := by
  unfold csum cupd
  rw [craw_lin, BitVec.zero_xor, BitVec.xor_assoc]
theorem csum_append (l m : List (BitVec 8)) : csum (l ++ m) = cshift m.length (csum l) ^^^ csum m := by
  unfold csum
  rw [cupd_append, cupd_combine (cupd 0#32 l) m]; rfl
theorem cupd_cons (s : W32) (b : BitVec 8) (l : List (BitVec 8)) : cupd s (b :: l) = cupd (cupd s [b]) l := cupd_append s [b] l
theorem csum_nil : csum [] = 0#32 := by decide

/-! ### matrices: for each bit what becomes of it -/
/-- The xor of m i over the bits of x below k. -/
def cpart (m : Nat → W32) (x : W32) : Nat → W32
  | 0 => 0#32
  | k + 1 => cpart m x k ^^^ (if x.getLsbD k then m k else 0#32)
def capply (m : Nat → W32) (x : W32) : W32 := cpart m x 32
def clow (x : W32) (k : Nat) : W32 := cpart (fun i => 1#32 <<< i) x k
theorem clow_bit (x : W32) (k : Nat) : ∀ i, i < 32 → (clow x k).getLsbD i = (decide (i < k) && x.getLsbD i) := by
  induction k with
  | zero => intro i hi; simp [clow, cpart]
  | succ k ih =>
    intro i hi
    have h1 : clow x (k + 1) = clow x k ^^^ (if x.getLsbD k then 1#32 <<< k else 0#32) := rfl
    rw [h1, BitVec.getLsbD_xor, ih i hi]
    have h2 : (if x.getLsbD k then 1#32 <<< k else 0#32).getLsbD i = (x.getLsbD k && decide (i = k)) := by
      cases x.getLsbD k
      · simp
      · simp only [if_true, Bool.true_and, BitVec.getLsbD_shiftLeft, BitVec.getLsbD_one]
        by_cases he : i = k
        · subst he; simp [hi]
        · by_cases hlt : i < k
          · simp [hlt, he]
          · simp [he]; omega
    rw [h2]
    by_cases hlt : i < k
    · have : i ≠ k := by omega
      simp [hlt, this, show i < k + 1 by omega]
    · by_cases he : i = k
      · subst he; simp
      · simp [hlt, he, show ¬ i < k + 1 by omega]
theorem clow_all (x : W32) : clow x 32 = x := by
  apply BitVec.eq_of_getLsbD_eq
  intro i hi
  rw [clow_bit x 32 i hi]; simp [hi]
theorem cpart_lin {M : W32 → W32} (hM : Lin M) {m : Nat → W32} (hm : ∀ i, i < 32 → m i = M (1#32 <<< i)) (x : W32) : ∀ k, k ≤ 32 → cpart m x k = M (clow x k) := by
  intro k
  induction k with
  | zero => intro _; exact hM.zero.symm
  | succ k ih =>
    intro hk
    have h1 : clow x (k + 1) = clow x k ^^^ (if x.getLsbD k then 1#32 <<< k else 0#32) := rfl
    rw [h1, hM, ← ih (by omega)]
    show cpart m x k ^^^ _ = _
    congr 1
    cases x.getLsbD k with
    | true => exact hm k (by omega)
    | false => exact hM.zero.symm
theorem capply_lin {M : W32 → W32} (hM : Lin M) {m : Nat → W32} (hm : ∀ i, i < 32 → m i = M (1#32 <<< i)) (x : W32) : capply m x = M x := by
  unfold capply; rw [cpart_lin hM hm x 32 (by omega), clow_all]
theorem cpart_stop (m : Nat → W32) (x : W32) (k : Nat) (h : x >>> k = 0#32) : ∀ j, k ≤ j → cpart m x j = cpart m x k := by
  intro j
  induction j with
  | zero => intro hj; rw [show k = 0 by omega]
  | succ j ih =>
    intro hj
    rcases Nat.lt_or_ge j k with hlt | hge
    · rw [show k = j + 1 by omega]
    · have hb : x.getLsbD j = false := by
        have := congrArg (fun y : W32 => y.getLsbD (j - k)) h
        simp only [BitVec.getLsbD_ushiftRight] at this
        rw [show k + (j - k) = j by omega] at this
        simpa using this
      show cpart m x j ^^^ _ = _
      rw [hb]; simp [ih hge]
/-- Shift by halving: what the loop of Combine and Shift does. -/
theorem it_half (n : Nat) (x : W32) : cshift n x = it (it cz 2) (n / 2) (if n % 2 = 1 then cz x else x) := by
  rw [it_it]
  unfold cshift
  by_cases h : n % 2 = 1
  · rw [if_pos h]
    have h2 : n = 2 * (n / 2) + 1 := by omega
    conv => lhs; rw [h2]
    rfl
  · rw [if_neg h]
    have h2 : n = 2 * (n / 2) := by omega
    conv => lhs; rw [h2]
theorem it_two_pow (k : Nat) (x : W32) : it cz (2 ^ k) (it cz (2 ^ k) x) = it cz (2 ^ (k + 1)) x := by
  rw [← it_add, Nat.pow_succ, Nat.mul_two]
theorem it_even (p n : Nat) (x : W32) : it cz (p * n) x = it cz (2 * p * (n / 2)) (if n % 2 = 1 then it cz p x else x) := by
  by_cases h : n % 2 = 1
  · rw [if_pos h, ← it_add]
    congr 1
    have h2 : n = 2 * (n / 2) + 1 := by omega
    conv => lhs; rw [h2]
    rw [Nat.mul_add, ← Nat.mul_assoc, Nat.mul_one, Nat.mul_comm p 2, Nat.add_comm]
  · rw [if_neg h]
    congr 1
    have h2 : n = 2 * (n / 2) := by omega
    conv => lhs; rw [h2]
    rw [← Nat.mul_assoc, Nat.mul_comm p 2]
end Drum
