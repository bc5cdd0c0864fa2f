/-
  Plain mathematics of the superblock: little-endian numbers, which superblocks are valid, their encodings, and what is decoded. No condition.
-/
import Derived.Test.YtbgahbeldnhloaaCrcMath
namespace Drum
set_option linter.unusedVariables false
/-- The bytes of a number, the lowest first. -/
def le (w n : Nat) : List (BitVec 8) := (List.range w).map fun i => BitVec.ofNat 8 (n / 256 ^ i)
theorem le_length (w n : Nat) : (le w n).length = w := by simp [le]
theorem le_snoc (w n : Nat) : le (w + 1) n = le w n ++ [BitVec.ofNat 8 (n / 256 ^ w)] := by simp [le, List.range_succ]
theorem le_zero (n : Nat) : le 0 n = [] := by simp [le]
/-- The number of some bytes from a place on. -/
def numTo (l : List (BitVec 8)) (a : Nat) : Nat → Nat
  | 0 => 0
  | i + 1 => numTo l a i + (l.getD (a + i) 0#8).toNat * 256 ^ i
theorem numTo_lt (l : List (BitVec 8)) (a : Nat) : ∀ w, numTo l a w < 256 ^ w := by
  intro w
  induction w with
  | zero => simp [numTo]
  | succ w ih =>
    have h1 := (l.getD (a + w) 0#8).isLt
    have h2 : (l.getD (a + w) 0#8).toNat * 256 ^ w ≤ 255 * 256 ^ w := Nat.mul_le_mul_right _ (by omega)
    show numTo l a w + (l.getD (a + w) 0#8).toNat * 256 ^ w < _
    rw [Nat.pow_succ]; omega
theorem numTo_congr {l m : List (BitVec 8)} {a b : Nat} : ∀ w, (∀ i, i < w → l.getD (a + i) 0#8 = m.getD (b + i) 0#8) → numTo l a w = numTo m b w := by
  intro w
  induction w with
  | zero => intro _; rfl
  | succ w ih =>
    intro h
    show numTo l a w + (l.getD (a + w) 0#8).toNat * 256 ^ w = numTo m b w + (m.getD (b + w) 0#8).toNat * 256 ^ w
    rw [ih (fun i hi => h i (by omega)), h w (by omega)]
theorem numTo_le (n : Nat) : ∀ w v, w ≤ v → numTo (le v n) 0 w = n % 256 ^ w := by
  intro w
  induction w with
  | zero => intro v _; simp [numTo, Nat.mod_one]
  | succ w ih =>
    intro v hv
    show numTo (le v n) 0 w + ((le v n).getD (0 + w) 0#8).toNat * 256 ^ w = _
    have e : (le v n).getD (0 + w) 0#8 = BitVec.ofNat 8 (n / 256 ^ w) := by
      have hw : w < v := by omega
      simp [le, List.getD_eq_getElem?_getD, hw]
    rw [ih v (by omega), e, BitVec.toNat_ofNat, Nat.mul_comm]
    exact (Nat.mod_pow_succ (b := 256)).symm
theorem numTo_part (p s : List (BitVec 8)) (w n : Nat) (a : Nat) (ha : a = p.length) (hn : n < 256 ^ w) : numTo (p ++ (le w n ++ s)) a w = n := by
  subst ha
  have h := numTo_congr (l := p ++ (le w n ++ s)) (m := le w n) (a := p.length) (b := 0) w (by
    intro i hi
    simp only [List.getD_eq_getElem?_getD]
    rw [List.getElem?_append_right (by omega), List.getElem?_append_left (by rw [le_length]; omega)]
    simp)
  rw [h, numTo_le n w w (Nat.le_refl _), Nat.mod_eq_of_lt hn]
theorem numTo_div (l : List (BitVec 8)) (a : Nat) (w i : Nat) (hi : i < w) : BitVec.ofNat 8 (numTo l a w / 256 ^ i) = l.getD (a + i) 0#8 := by
  induction w with
  | zero => omega
  | succ w ih =>
    show BitVec.ofNat 8 ((numTo l a w + (l.getD (a + w) 0#8).toNat * 256 ^ w) / 256 ^ i) = _
    by_cases he : i = w
    · subst he
      rw [Nat.add_mul_div_right _ _ (Nat.pow_pos (by omega)), Nat.div_eq_of_lt (numTo_lt l a i), Nat.zero_add]
      simp
    · have hlt : i < w := by omega
      rw [← ih hlt]
      have e : 256 ^ w = 256 ^ (w - i - 1) * 256 * 256 ^ i := by
        rw [← Nat.pow_succ, ← Nat.pow_add]; congr 1; omega
      rw [e, ← Nat.mul_assoc, ← Nat.mul_assoc, Nat.add_mul_div_right _ _ (Nat.pow_pos (by omega))]
      apply BitVec.eq_of_toNat_eq
      simp only [BitVec.toNat_ofNat]
      omega
theorem le_numTo (l : List (BitVec 8)) (a w : Nat) (h : a + w ≤ l.length) : le w (numTo l a w) = (l.drop a).take w := by
  apply List.ext_getElem
  · simp [le]; omega
  · intro i h1 h2
    rw [le_length] at h1
    have := numTo_div l a w i h1
    simp only [le, List.getElem_map, List.getElem_range, this, List.getElem_take, List.getElem_drop]
    rw [List.getD_eq_getElem?_getD, List.getElem?_eq_getElem (by omega)]; rfl
/-- A configuration, a superblock. -/
structure Cf where
  slots : Int
  size : Int
  reserve : Int
  work : Int
  key : Int
  value : Int
  policy : Int
def Cf.nums (c : Cf) : List Int := [c.slots, c.size, c.reserve, c.work, c.key, c.value, c.policy]
/-- The numbers are ints of 64 bits. -/
def Cf.wf (c : Cf) : Prop := ∀ n ∈ c.nums, -9223372036854775808 ≤ n ∧ n ≤ 9223372036854775807
def Cf.ok (c : Cf) : Prop := (2 ≤ c.reserve ∧ c.reserve ≤ 8) ∧ (c.reserve + 2 ≤ c.slots ∧ c.slots ≤ 32) ∧ (1 ≤ c.key ∧ c.key ≤ 32) ∧ (0 ≤ c.value ∧ c.value ≤ 512) ∧
  (32 + c.key + c.value ≤ c.size ∧ c.size ≤ 8192) ∧ (2 * (32 + c.key + c.value) ≤ c.work ∧ c.work ≤ 65536) ∧ (1 ≤ c.policy ∧ c.policy ≤ 2)
instance (c : Cf) : Decidable c.ok := by unfold Cf.ok; infer_instance
theorem Cf.ok_nums {c : Cf} (h : c.ok) : ∀ n ∈ c.nums, 0 ≤ n ∧ n ≤ 65536 := by
  obtain ⟨h1, h2, h3, h4, h5, h6, h7⟩ := h
  intro n hn
  simp only [Cf.nums, List.mem_cons, List.not_mem_nil, or_false] at hn
  rcases hn with rfl | rfl | rfl | rfl | rfl | rfl | rfl <;> omega
structure Bk where
  epoch : Int
  conf : Cf
def Bk.ok (b : Bk) : Prop := (1 ≤ b.epoch ∧ b.epoch ≤ 1099511627776) ∧ b.conf.ok
instance (b : Bk) : Decidable b.ok := by unfold Bk.ok; infer_instance
def Bk.wf (b : Bk) : Prop := (-9223372036854775808 ≤ b.epoch ∧ b.epoch ≤ 9223372036854775807) ∧ b.conf.wf
def bk0 : Bk := ⟨0, ⟨0, 0, 0, 0, 0, 0, 0⟩⟩
def drum : List (BitVec 8) := [68#8, 82#8, 85#8, 77#8]
/-- The bytes of the first numbers. -/
def numBytes (l : List Int) : List (BitVec 8) := l.flatMap fun n => le 4 n.toNat
theorem numBytes_length (l : List Int) : (numBytes l).length = 4 * l.length := by
  induction l with
  | nil => rfl
  | cons n l ih =>
    show (le 4 n.toNat ++ numBytes l).length = _
    rw [List.length_append, le_length, ih, List.length_cons]; omega
theorem numBytes_append (l m : List Int) : numBytes (l ++ m) = numBytes l ++ numBytes m := by simp [numBytes]
theorem numBytes_one (n : Int) : numBytes [n] = le 4 n.toNat := by simp [numBytes]
def restOf (b : Bk) : List (BitVec 8) := drum ++ (le 8 b.epoch.toNat ++ (numBytes b.conf.nums ++ List.replicate 20 0#8))
def encOf (b : Bk) : List (BitVec 8) := le 4 (csum (restOf b)).toNat ++ restOf b
theorem restOf_length (b : Bk) : (restOf b).length = 60 := by
  simp only [restOf, List.length_append, le_length, numBytes_length, List.length_replicate]; rfl
theorem encOf_length (b : Bk) : (encOf b).length = 64 := by
  simp only [encOf, List.length_append, le_length, restOf_length]
/-- The superblock that bytes say. -/
def readOf (l : List (BitVec 8)) : Bk := ⟨numTo l 8 8, ⟨numTo l 16 4, numTo l 20 4, numTo l 24 4, numTo l 28 4, numTo l 32 4, numTo l 36 4, numTo l 40 4⟩⟩
/-- What is decoded: the error's number, and the superblock. -/
noncomputable def decOf (l : List (BitVec 8)) : Int × Bk :=
  open Classical in
  if l.length < 64 then (14, bk0) else
  if csum ((l.take 64).drop 4) ≠ BitVec.ofNat 32 (numTo l 0 4) then (15, bk0) else
  if 1099511627776 < numTo l 8 8 then (8, bk0) else
  if (readOf l).ok ∧ encOf (readOf l) = l.take 64 then (0, readOf l) else (8, bk0)
theorem numTo_append (l m : List (BitVec 8)) (a w : Nat) (h : a + w ≤ l.length) : numTo (l ++ m) a w = numTo l a w := by
  refine numTo_congr w fun i hi => ?_
  simp only [List.getD_eq_getElem?_getD]
  rw [List.getElem?_append_left (by omega)]
theorem readOf_append (l m : List (BitVec 8)) (h : 44 ≤ l.length) : readOf (l ++ m) = readOf l := by
  simp only [readOf]
  rw [numTo_append l m 8 8 (by omega), numTo_append l m 16 4 (by omega), numTo_append l m 20 4 (by omega), numTo_append l m 24 4 (by omega), numTo_append l m 28 4 (by omega),
    numTo_append l m 32 4 (by omega), numTo_append l m 36 4 (by omega), numTo_append l m 40 4 (by omega)]
theorem decOf_append (l m : List (BitVec 8)) (h : 64 ≤ l.length) : decOf (l ++ m) = decOf l := by
  unfold decOf
  have e1 : (l ++ m).take 64 = l.take 64 := by rw [List.take_append_of_le_length h]
  have e2 : ¬ (l ++ m).length < 64 := by rw [List.length_append]; omega
  rw [e1, if_neg e2, if_neg (show ¬ l.length < 64 by omega), numTo_append l m 0 4 (by omega), numTo_append l m 8 8 (by omega), readOf_append l m (by omega)]
theorem numTo_eq {l : List (BitVec 8)} {p s : List (BitVec 8)} {w n : Nat} (a : Nat) (h : l = p ++ (le w n ++ s)) (ha : a = p.length) (hn : n < 256 ^ w) : numTo l a w = n := by
  rw [h]; exact numTo_part p s w n a ha hn
theorem readOf_enc (b : Bk) (h : b.ok) : readOf (encOf b) = b := by
  obtain ⟨he, hc⟩ := h
  have hn := Cf.ok_nums hc
  obtain ⟨e, ⟨n1, n2, n3, n4, n5, n6, n7⟩⟩ := b
  simp only [Cf.nums, List.mem_cons, List.not_mem_nil, or_false, forall_eq_or_imp, forall_eq] at hn
  obtain ⟨h1, h2, h3, h4, h5, h6, h7⟩ := hn
  simp only at he
  obtain ⟨s, hs, hl⟩ : ∃ s : List (BitVec 8), s.length = 4 ∧ encOf ⟨e, ⟨n1, n2, n3, n4, n5, n6, n7⟩⟩ = s ++ (drum ++ (le 8 e.toNat ++ (le 4 n1.toNat ++ (le 4 n2.toNat ++ (le 4 n3.toNat ++ (le 4 n4.toNat ++ (le 4 n5.toNat ++ (le 4 n6.toNat ++ (le 4 n7.toNat ++ List.replicate 20 0#8))))))))) :=
    ⟨le 4 (csum (restOf ⟨e, ⟨n1, n2, n3, n4, n5, n6, n7⟩⟩)).toNat, le_length _ _, by
      unfold encOf
      conv => lhs; arg 2; unfold restOf
      simp [numBytes, Cf.nums]⟩
  have hd : drum.length = 4 := rfl
  unfold readOf
  rw [numTo_eq 8 (p := s ++ drum) (w := 8) (n := e.toNat) (by rw [hl]; simp only [List.append_assoc]; rfl) (by simp [hs, hd]) (by omega)]
  rw [numTo_eq 16 (p := s ++ (drum ++ le 8 e.toNat)) (w := 4) (n := n1.toNat) (by rw [hl]; simp only [List.append_assoc]; rfl) (by simp [hs, hd, le_length]) (by omega)]
  rw [numTo_eq 20 (p := s ++ (drum ++ (le 8 e.toNat ++ le 4 n1.toNat))) (w := 4) (n := n2.toNat) (by rw [hl]; simp only [List.append_assoc]; rfl) (by simp [hs, hd, le_length]) (by omega)]
  rw [numTo_eq 24 (p := s ++ (drum ++ (le 8 e.toNat ++ (le 4 n1.toNat ++ le 4 n2.toNat)))) (w := 4) (n := n3.toNat) (by rw [hl]; simp only [List.append_assoc]; rfl) (by simp [hs, hd, le_length]) (by omega)]
  rw [numTo_eq 28 (p := s ++ (drum ++ (le 8 e.toNat ++ (le 4 n1.toNat ++ (le 4 n2.toNat ++ le 4 n3.toNat))))) (w := 4) (n := n4.toNat) (by rw [hl]; simp only [List.append_assoc]; rfl) (by simp [hs, hd, le_length]) (by omega)]
  rw [numTo_eq 32 (p := s ++ (drum ++ (le 8 e.toNat ++ (le 4 n1.toNat ++ (le 4 n2.toNat ++ (le 4 n3.toNat ++ le 4 n4.toNat)))))) (w := 4) (n := n5.toNat) (by rw [hl]; simp only [List.append_assoc]; rfl) (by simp [hs, hd, le_length]) (by omega)]
  rw [numTo_eq 36 (p := s ++ (drum ++ (le 8 e.toNat ++ (le 4 n1.toNat ++ (le 4 n2.toNat ++ (le 4 n3.toNat ++ (le 4 n4.toNat ++ le 4 n5.toNat))))))) (w := 4) (n := n6.toNat) (by rw [hl]; simp only [List.append_assoc]; rfl) (by simp [hs, hd, le_length]) (by omega)]
  rw [numTo_eq 40 (p := s ++ (drum ++ (le 8 e.toNat ++ (le 4 n1.toNat ++ (le 4 n2.toNat ++ (le 4 n3.toNat ++ (le 4 n4.toNat ++ (le 4 n5.toNat ++ le 4 n6.toNat)))))))) (w := 4) (n := n7.toNat) (by rw [hl]; simp only [List.append_assoc]; rfl) (by simp [hs, hd, le_length]) (by omega)]
  simp only [Int.toNat_of_nonneg, h1.1, h2.1, h3.1, h4.1, h5.1, h6.1, h7.1, show 0 ≤ e by omega]
theorem encOf_sum (b : Bk) : csum ((encOf b).drop 4) = BitVec.ofNat 32 (numTo (encOf b) 0 4) := by
  have h1 : (encOf b).drop 4 = restOf b := by
    unfold encOf
    rw [List.drop_append_of_le_length (by rw [le_length]; omega), List.drop_of_length_le (by rw [le_length]; omega), List.nil_append]
  have h2 : numTo (encOf b) 0 4 = (csum (restOf b)).toNat := numTo_part [] (restOf b) 4 _ 0 rfl (by have := (csum (restOf b)).isLt; omega)
  rw [h1, h2, BitVec.ofNat_toNat, BitVec.setWidth_eq]
theorem decOf_enc (b : Bk) (h : b.ok) (more : List (BitVec 8)) : decOf (encOf b ++ more) = (0, b) := by
  rw [decOf_append _ _ (by rw [encOf_length]; omega)]
  have ht : (encOf b).take 64 = encOf b := List.take_of_length_le (by rw [encOf_length]; omega)
  have he := congrArg Bk.epoch (readOf_enc b h)
  have hr := readOf_enc b h
  unfold decOf
  rw [if_neg (by rw [encOf_length]; omega), ht, if_neg (fun h => h (encOf_sum b)), if_neg, hr, if_pos ⟨h, rfl⟩]
  simp only [readOf] at he
  have := h.1
  omega
theorem decOf_short (l : List (BitVec 8)) (h : l.length < 64) : decOf l = (14, bk0) := by
  unfold decOf; rw [if_pos h]
theorem decOf_sum (l : List (BitVec 8)) (h : 64 ≤ l.length) (hs : csum ((l.take 64).drop 4) ≠ BitVec.ofNat 32 (numTo l 0 4)) : decOf l = (15, bk0) := by
  unfold decOf; rw [if_neg (by omega), if_pos hs]
theorem decOf_cases (l : List (BitVec 8)) : (decOf l = (14, bk0) ∧ l.length < 64) ∨ (decOf l = (15, bk0) ∧ 64 ≤ l.length) ∨ (decOf l = (8, bk0) ∧ 64 ≤ l.length) ∨
    (decOf l = (0, readOf l) ∧ 64 ≤ l.length ∧ (readOf l).ok ∧ encOf (readOf l) = l.take 64) := by
  by_cases h1 : l.length < 64
  · exact .inl ⟨decOf_short l h1, h1⟩
  · by_cases h2 : csum ((l.take 64).drop 4) ≠ BitVec.ofNat 32 (numTo l 0 4)
    · exact .inr (.inl ⟨decOf_sum l (by omega) h2, by omega⟩)
    · unfold decOf
      rw [if_neg h1, if_neg h2]
      by_cases h3 : 1099511627776 < numTo l 8 8
      · rw [if_pos h3]; exact .inr (.inr (.inl ⟨rfl, by omega⟩))
      · rw [if_neg h3]
        by_cases h4 : (readOf l).ok ∧ encOf (readOf l) = l.take 64
        · rw [if_pos h4]; exact .inr (.inr (.inr ⟨rfl, by omega, h4.1, h4.2⟩))
        · rw [if_neg h4]; exact .inr (.inr (.inl ⟨rfl, by omega⟩))
end Drum
