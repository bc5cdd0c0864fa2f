/-
  How many bits a 64-bit word has, as the code's OnesCount64 reckons it. No condition.
-/
import Derived.Test.YtalonikiljcpfaaDoorSetBits
namespace Go.Proofs.YtalonikiljcpfaaDoor
open Go.RowKit
set_option linter.unusedVariables false
/-- A number of k bytes, the same byte in each. -/
def rep (c : Nat) : Nat → Nat
  | 0 => 0
  | k + 1 => c + 256 * rep c k
/-- A change of each byte. -/
def eachB (f : Nat → Nat) : Nat → Nat → Nat
  | 0, _ => 0
  | k + 1, x => f (x % 256) + 256 * eachB f k (x / 256)
theorem and_split (a A c C : Nat) (ha : a < 256) (hc : c < 256) : (a + 256 * A) &&& (c + 256 * C) = (a &&& c) + 256 * (A &&& C) := by
  have e1 := Nat.and_mod_two_pow (a := a + 256 * A) (b := c + 256 * C) (n := 8)
  have e2 := Nat.and_div_two_pow (a := a + 256 * A) (b := c + 256 * C) (n := 8)
  simp only [show (2 : Nat) ^ 8 = 256 by rfl] at e1 e2
  rw [show (a + 256 * A) % 256 = a by omega, show (c + 256 * C) % 256 = c by omega] at e1
  rw [show (a + 256 * A) / 256 = A by omega, show (c + 256 * C) / 256 = C by omega] at e2
  have hlt : a &&& c < 256 := Nat.lt_of_le_of_lt Nat.and_le_left ha
  generalize (a + 256 * A) &&& (c + 256 * C) = Z at *
  omega
theorem dec256 {p : Nat → Prop} [DecidablePred p] (h : ∀ i : Fin 256, p i.val) (a : Nat) (ha : a < 256) : p a := h ⟨a, ha⟩
def g1 (a : Nat) : Nat := ((a / 2) &&& 85) + (a &&& 85)
def g2 (a : Nat) : Nat := ((a / 4) &&& 51) + (a &&& 51)
def g3 (a : Nat) : Nat := (a / 16 + a) &&& 15
theorem half_and (a b : Nat) (ha : a < 256) (hb : b < 2) : (a / 2 + 128 * b) &&& 85 = (a / 2) &&& 85 := by
  revert b
  revert ha
  revert a
  have : ∀ i : Fin 256, ∀ j : Fin 2, (i.val / 2 + 128 * j.val) &&& 85 = (i.val / 2) &&& 85 := by decide +kernel
  exact fun a ha b hb => this ⟨a, ha⟩ ⟨b, hb⟩
theorem quart_and (a b : Nat) (ha : a < 256) (hb : b < 4) : (a / 4 + 64 * b) &&& 51 = (a / 4) &&& 51 := by
  have : ∀ i : Fin 256, ∀ j : Fin 4, (i.val / 4 + 64 * j.val) &&& 51 = (i.val / 4) &&& 51 := by decide +kernel
  exact this ⟨a, ha⟩ ⟨b, hb⟩
theorem step1 : ∀ (k x : Nat), x < 256 ^ k → ((x / 2) &&& rep 85 k) + (x &&& rep 85 k) = eachB g1 k x
  | 0, x, hx => by
    have : x = 0 := by simpa using hx
    subst this; rfl
  | k + 1, x, hx => by
    have ih := step1 k (x / 256) (by rw [Nat.pow_succ] at hx; omega)
    have e1 : x / 2 = ((x % 256) / 2 + 128 * (x / 256 % 2)) + 256 * (x / 256 / 2) := by omega
    have e2 : x = x % 256 + 256 * (x / 256) := by omega
    rw [rep, eachB, e1, and_split _ _ _ _ (by omega) (by omega), half_and _ _ (by omega) (by omega)]
    rw [show x &&& (85 + 256 * rep 85 k) = (x % 256 &&& 85) + 256 * (x / 256 &&& rep 85 k) by
      conv => lhs; rw [e2]
      exact and_split _ _ _ _ (by omega) (by omega)]
    rw [← ih]
    unfold g1
    omega
theorem step2 : ∀ (k x : Nat), x < 256 ^ k → ((x / 4) &&& rep 51 k) + (x &&& rep 51 k) = eachB g2 k x
  | 0, x, hx => by
    have : x = 0 := by simpa using hx
    subst this; rfl
  | k + 1, x, hx => by
    have ih := step2 k (x / 256) (by rw [Nat.pow_succ] at hx; omega)
    have e1 : x / 4 = ((x % 256) / 4 + 64 * (x / 256 % 4)) + 256 * (x / 256 / 4) := by omega
    have e2 : x = x % 256 + 256 * (x / 256) := by omega
    rw [rep, eachB, e1, and_split _ _ _ _ (by omega) (by omega), quart_and _ _ (by omega) (by omega)]
    rw [show x &&& (51 + 256 * rep 51 k) = (x % 256 &&& 51) + 256 * (x / 256 &&& rep 51 k) by
      conv => lhs; rw [e2]
      exact and_split _ _ _ _ (by omega) (by omega)]
    rw [← ih]
    unfold g2
    omega
/-- Each half byte is at most 4. -/
def small (a : Nat) : Prop := a % 16 ≤ 4 ∧ a / 16 ≤ 4
theorem six_and (a b : Nat) (ha : a < 256) (hs : a % 16 ≤ 4 ∧ a / 16 ≤ 4) (hb : b < 16) (hb4 : b ≤ 4) : (a / 16 + 16 * b + a) &&& 15 = (a / 16 + a) &&& 15 ∧ a / 16 + 16 * b + a < 256 := by
  have : ∀ i : Fin 256, ∀ j : Fin 5, (i.val % 16 ≤ 4 ∧ i.val / 16 ≤ 4) → (i.val / 16 + 16 * j.val + i.val) &&& 15 = (i.val / 16 + i.val) &&& 15 ∧ i.val / 16 + 16 * j.val + i.val < 256 := by decide +kernel
  exact this ⟨a, ha⟩ ⟨b, by omega⟩ hs
/-- Each byte of k has small halves. -/
def smalls : Nat → Nat → Prop
  | 0, x => x = 0
  | k + 1, x => small (x % 256) ∧ smalls k (x / 256)
theorem smalls_low : ∀ {k x : Nat}, smalls k x → x % 16 ≤ 4
  | 0, x, h => by have : x = 0 := h; subst this; decide
  | k + 1, x, h => by have := h.1.1; omega
theorem step3 : ∀ (k x : Nat), smalls k x → (x / 16 + x) &&& rep 15 k = eachB g3 k x
  | 0, x, h => by have : x = 0 := h; subst this; rfl
  | k + 1, x, h => by
    have ih := step3 k (x / 256) h.2
    have hlow := smalls_low h.2
    have hs := six_and (x % 256) (x / 256 % 16) (by omega) h.1 (by omega) hlow
    have e1 : x / 16 + x = ((x % 256) / 16 + 16 * (x / 256 % 16) + x % 256) + 256 * (x / 256 / 16 + x / 256) := by omega
    rw [rep, eachB, e1, and_split _ _ _ _ hs.2 (by omega), hs.1, ih]
    unfold g3
    omega
theorem eachB_byte (f : Nat → Nat) (hf : ∀ a, a < 256 → f a < 256) : ∀ (k x : Nat), eachB f k x < 256 ^ k
  | 0, x => by simp [eachB]
  | k + 1, x => by
    have h1 := eachB_byte f hf k (x / 256)
    have h2 := hf (x % 256) (by omega)
    rw [eachB, Nat.pow_succ]; omega
theorem eachB_eachB (f g : Nat → Nat) (hf : ∀ a, a < 256 → f a < 256) : ∀ (k x : Nat), eachB g k (eachB f k x) = eachB (fun a => g (f a)) k x
  | 0, x => rfl
  | k + 1, x => by
    have h2 := hf (x % 256) (by omega)
    rw [eachB, eachB, show (f (x % 256) + 256 * eachB f k (x / 256)) % 256 = f (x % 256) by omega, show (f (x % 256) + 256 * eachB f k (x / 256)) / 256 = eachB f k (x / 256) by omega, eachB_eachB f g hf k]
    rfl
theorem smalls_of (f : Nat → Nat) (hf : ∀ a, a < 256 → f a < 256 ∧ small (f a)) : ∀ (k x : Nat), smalls k (eachB f k x)
  | 0, x => rfl
  | k + 1, x => by
    have h2 := hf (x % 256) (by omega)
    refine ⟨?_, ?_⟩
    · rw [eachB, show (f (x % 256) + 256 * eachB f k (x / 256)) % 256 = f (x % 256) by omega]; exact h2.2
    · rw [eachB, show (f (x % 256) + 256 * eachB f k (x / 256)) / 256 = eachB f k (x / 256) by omega]; exact smalls_of f hf k _
instance (a : Nat) : Decidable (small a) := inferInstanceAs (Decidable (_ ∧ _))
theorem g1_lt : ∀ a, a < 256 → g1 a < 256 := fun a ha => dec256 (p := fun a => g1 a < 256) (by decide +kernel) a ha
theorem g2_lt : ∀ a, a < 256 → g2 a < 256 := fun a ha => dec256 (p := fun a => g2 a < 256) (by decide +kernel) a ha
theorem g21_ok : ∀ a, a < 256 → g2 (g1 a) < 256 ∧ small (g2 (g1 a)) := fun a ha => dec256 (p := fun a => g2 (g1 a) < 256 ∧ small (g2 (g1 a))) (by decide +kernel) a ha
/-- How many bits a byte has. -/
def pc (a : Nat) : Nat := ((List.range 8).filter fun i => a.testBit i).length
theorem g321 : ∀ a, a < 256 → g3 (g2 (g1 a)) = pc a ∧ pc a ≤ 8 := fun a ha => dec256 (p := fun a => g3 (g2 (g1 a)) = pc a ∧ pc a ≤ 8) (by decide +kernel) a ha
theorem eachB_congr (f g : Nat → Nat) (h : ∀ a, a < 256 → f a = g a) : ∀ (k x : Nat), eachB f k x = eachB g k x
  | 0, x => rfl
  | k + 1, x => by rw [eachB, eachB, h _ (by omega), eachB_congr f g h k]
/-- The bits of k bytes. -/
def sumB : Nat → Nat → Nat
  | 0, _ => 0
  | k + 1, x => pc (x % 256) + sumB k (x / 256)
theorem testBit_up (x i : Nat) : (x / 256).testBit i = x.testBit (8 + i) := by
  have h := Nat.testBit_div_two_pow (x := x) (i := i) (n := 8)
  rw [Nat.add_comm] at h
  exact h
theorem testBit_low (x i : Nat) (hi : i < 8) : (x % 256).testBit i = x.testBit i := by
  have h := Nat.testBit_mod_two_pow (x := x) (j := 8) (i := i)
  rw [decide_eq_true hi, Bool.true_and] at h
  exact h
theorem bits_split (x k : Nat) : ((List.range (8 + 8 * k)).filter fun i => x.testBit i).length = pc (x % 256) + ((List.range (8 * k)).filter fun i => (x / 256).testBit i).length := by
  have h1 : ((List.range 8).filter fun i => x.testBit i) = (List.range 8).filter fun i => (x % 256).testBit i :=
    List.filter_congr fun i hi => (testBit_low x i (List.mem_range.1 hi)).symm
  have h2 : ((List.range (8 * k)).filter ((fun i => x.testBit i) ∘ fun i => 8 + i)) = (List.range (8 * k)).filter fun i => (x / 256).testBit i :=
    List.filter_congr fun i hi => (testBit_up x i).symm
  rw [List.range_add, List.filter_append, List.length_append, List.filter_map, List.length_map, h1, h2]
  rfl
theorem sumB_eq : ∀ (k x : Nat), sumB k x = ((List.range (8 * k)).filter fun i => x.testBit i).length
  | 0, x => rfl
  | k + 1, x => by
    have h := bits_split x k
    rw [show 8 + 8 * k = 8 * (k + 1) by omega] at h
    rw [sumB, sumB_eq k, h]
theorem fA (p A y : Nat) (h : p < 256) (hy : y = p + 256 * A) : y / 256 = A := by omega
theorem fB (p A y : Nat) (h : p < 65536) (hy : y = p + 65536 * A) : y / 65536 = A := by omega
theorem fC (p A y : Nat) (h : p < 4294967296) (hy : y = p + 4294967296 * A) : y / 4294967296 = A := by omega
theorem fold8 (p0 p1 p2 p3 p4 p5 p6 p7 : Nat) (b0 : p0 ≤ 8) (b1 : p1 ≤ 8) (b2 : p2 ≤ 8) (b3 : p3 ≤ 8) (b4 : p4 ≤ 8) (b5 : p5 ≤ 8) (b6 : p6 ≤ 8) (b7 : p7 ≤ 8)
    (y : Nat) (hy : y = p0 + 256 * (p1 + 256 * (p2 + 256 * (p3 + 256 * (p4 + 256 * (p5 + 256 * (p6 + 256 * p7))))))) :
    ∃ z, z = y + y / 256 ∧ z < 18446744073709551616 ∧ ∃ u, u = z + z / 65536 ∧ u < 18446744073709551616 ∧ (u + u / 4294967296) < 18446744073709551616 ∧ (u + u / 4294967296) % 128 = p0 + p1 + p2 + p3 + p4 + p5 + p6 + p7 := by
  obtain ⟨A6, h6⟩ : ∃ A, A = p6 + 256 * p7 := ⟨_, rfl⟩
  obtain ⟨A5, h5⟩ : ∃ A, A = p5 + 256 * A6 := ⟨_, rfl⟩
  obtain ⟨A4, h4⟩ : ∃ A, A = p4 + 256 * A5 := ⟨_, rfl⟩
  obtain ⟨A3, h3⟩ : ∃ A, A = p3 + 256 * A4 := ⟨_, rfl⟩
  obtain ⟨A2, h2⟩ : ∃ A, A = p2 + 256 * A3 := ⟨_, rfl⟩
  obtain ⟨A1, h1⟩ : ∃ A, A = p1 + 256 * A2 := ⟨_, rfl⟩
  rw [← h6, ← h5, ← h4, ← h3, ← h2, ← h1] at hy
  have c6 : A6 ≤ 2056 := by clear hy h5 h4 h3 h2 h1; omega
  have c5 : A5 ≤ 526344 := by clear hy h6 h4 h3 h2 h1; omega
  have c4 : A4 ≤ 134744072 := by clear hy h6 h5 h3 h2 h1; omega
  have c3 : A3 ≤ 34494482440 := by clear hy h6 h5 h4 h2 h1; omega
  have c2 : A2 ≤ 8830587504648 := by clear hy h6 h5 h4 h3 h1; omega
  have c1 : A1 ≤ 2260630401189896 := by clear hy h6 h5 h4 h3 h2; omega
  have e1 : y / 256 = A1 := fA p0 A1 y (by omega) hy
  refine ⟨_, rfl, ?_, _, rfl, ?_⟩
  · rw [e1]; clear h6 h5 h4 h3 h2 h1 e1; omega
  have e2 : y + y / 256 = (p0 + p1 + 256 * (p1 + p2)) + 65536 * (A2 + A3) := by rw [e1]; clear c6 c5 c4 c3 c2 c1 e1; omega
  have e3 : (y + y / 256) / 65536 = A2 + A3 := fB _ _ _ (by clear hy h6 h5 h4 h3 h2 h1 c6 c5 c4 c3 c2 c1 e1 e2; omega) e2
  have e4 : (y + y / 256) + (y + y / 256) / 65536 = ((p0 + p1 + p2 + p3) + 256 * ((p1 + p2 + p3 + p4) + 256 * ((p2 + p3 + p4 + p5) + 256 * (p3 + p4 + p5 + p6)))) + 4294967296 * (A4 + A5 + A6 + p7) := by
    rw [e3, e2]; clear c6 c5 c4 c3 c2 c1 e1 e2 e3 hy b0 b1 b2 b3 b4 b5 b6 b7; omega
  have e5 : ((y + y / 256) + (y + y / 256) / 65536) / 4294967296 = A4 + A5 + A6 + p7 := fC _ _ _ (by clear hy h6 h5 h4 h3 h2 h1 c6 c5 c4 c3 c2 c1 e1 e2 e3 e4; omega) e4
  rw [e5, e4]
  refine ⟨?_, ?_, ?_⟩
  · clear hy h6 h5 h4 h3 h2 h1 e1 e2 e3 e4 e5; omega
  · clear hy h6 h5 h4 h3 h2 h1 e1 e2 e3 e4 e5; omega
  have e6 : ((p0 + p1 + p2 + p3) + 256 * ((p1 + p2 + p3 + p4) + 256 * ((p2 + p3 + p4 + p5) + 256 * (p3 + p4 + p5 + p6)))) + 4294967296 * (A4 + A5 + A6 + p7) + (A4 + A5 + A6 + p7) = (p0 + p1 + p2 + p3 + p4 + p5 + p6 + p7) + 128 * (2 * ((p1 + p2 + p3 + p4) + 256 * ((p2 + p3 + p4 + p5) + 256 * (p3 + p4 + p5 + p6))) + 33554432 * (A4 + A5 + A6 + p7) + 2 * (A5 + A6 + p7)) := by
    clear c6 c5 c4 c3 c2 c1 e1 e2 e3 e4 e5 hy b0 b1 b2 b3 b4 b5 b6 b7; omega
  rw [e6, Nat.add_mul_mod_self_left, Nat.mod_eq_of_lt (by clear hy h6 h5 h4 h3 h2 h1 c6 c5 c4 c3 c2 c1 e1 e2 e3 e4 e5 e6; omega)]
theorem smalls_sum (y : Nat) (hy : smalls 8 y) (hl : y < 18446744073709551616) : y / 16 + y < 18446744073709551616 := by
  have hy8 : y / 256 / 256 / 256 / 256 / 256 / 256 / 256 % 256 / 16 ≤ 4 := hy.2.2.2.2.2.2.2.1.2
  clear hy
  have e : y / 256 / 256 / 256 / 256 / 256 / 256 / 256 = y / 72057594037927936 := by simp only [Nat.div_div_eq_div_mul]
  rw [e] at hy8
  omega
theorem rep85 : rep 85 8 = 6148914691236517205 := by decide +kernel
theorem rep51 : rep 51 8 = 3689348814741910323 := by decide +kernel
theorem rep15 : rep 15 8 = 1085102592571150095 := by decide +kernel
/-- What OnesCount64 reckons, step by step, from a number below 2^64. -/
theorem pop_steps (x : Nat) (hx : x < 18446744073709551616) : ∃ y1 y2 y3 z u : Nat, y1 = ((x / 2) &&& 6148914691236517205) + (x &&& 6148914691236517205) ∧ y1 < 18446744073709551616 ∧
    y2 = ((y1 / 4) &&& 3689348814741910323) + (y1 &&& 3689348814741910323) ∧ y2 < 18446744073709551616 ∧
    y2 / 16 + y2 < 18446744073709551616 ∧ y3 = (y2 / 16 + y2) &&& 1085102592571150095 ∧ y3 < 18446744073709551616 ∧
    z = y3 + y3 / 256 ∧ z < 18446744073709551616 ∧ u = z + z / 65536 ∧ u < 18446744073709551616 ∧ u + u / 4294967296 < 18446744073709551616 ∧
    (u + u / 4294967296) % 128 = ((List.range 64).filter fun i => x.testBit i).length := by
  have k : (256 : Nat) ^ 8 = 18446744073709551616 := by decide +kernel
  have e1 := step1 8 x (by rw [k]; exact hx)
  have l1 := eachB_byte g1 g1_lt 8 x
  rw [rep85] at e1
  have e2 := step2 8 (eachB g1 8 x) l1
  rw [rep51, eachB_eachB g1 g2 g1_lt] at e2
  have sm := smalls_of (fun a => g2 (g1 a)) g21_ok 8 x
  have l2 := eachB_byte (fun a => g2 (g1 a)) (fun a ha => (g21_ok a ha).1) 8 x
  have e3 := step3 8 _ sm
  rw [rep15, eachB_eachB _ g3 (fun a ha => (g21_ok a ha).1), eachB_congr _ pc (fun a ha => (g321 a ha).1)] at e3
  have l3 := eachB_byte pc (fun a ha => Nat.lt_of_le_of_lt (g321 a ha).2 (by decide)) 8 x
  rw [k] at l1 l2 l3
  have b : ∀ a, pc (a % 256) ≤ 8 := fun a => (g321 (a % 256) (by omega)).2
  obtain ⟨z, hz, hz1, u, hu, hu1, hu2, hu3⟩ := fold8 (pc (x % 256)) (pc (x / 256 % 256)) (pc (x / 256 / 256 % 256)) (pc (x / 256 / 256 / 256 % 256)) (pc (x / 256 / 256 / 256 / 256 % 256)) (pc (x / 256 / 256 / 256 / 256 / 256 % 256)) (pc (x / 256 / 256 / 256 / 256 / 256 / 256 % 256)) (pc (x / 256 / 256 / 256 / 256 / 256 / 256 / 256 % 256))
    (b _) (b _) (b _) (b _) (b _) (b _) (b _) (b _) (eachB pc 8 x) (by simp only [eachB, Nat.mul_zero, Nat.add_zero])
  have hs : sumB 8 x = ((List.range 64).filter fun i => x.testBit i).length := sumB_eq 8 x
  rw [← hs]
  have hsum : sumB 8 x = pc (x % 256) + pc (x / 256 % 256) + pc (x / 256 / 256 % 256) + pc (x / 256 / 256 / 256 % 256) + pc (x / 256 / 256 / 256 / 256 % 256) + pc (x / 256 / 256 / 256 / 256 / 256 % 256) + pc (x / 256 / 256 / 256 / 256 / 256 / 256 % 256) + pc (x / 256 / 256 / 256 / 256 / 256 / 256 / 256 % 256) := by
    simp only [sumB, Nat.add_zero, ← Nat.add_assoc]
  rw [hsum]
  exact ⟨eachB g1 8 x, eachB (fun a => g2 (g1 a)) 8 x, eachB pc 8 x, z, u, e1.symm, l1, e2.symm, l2, smalls_sum _ sm l2, e3.symm, l3, hz, hz1, hu, hu1, hu2, hu3⟩
end Go.Proofs.YtalonikiljcpfaaDoor
