/-
  A set's methods: Next, Lowest, fits, Union, Minus, Copy. Conditions: the set is as New makes it; for Next, the library's table holds what its text lists.
-/
import Derived.Test.YtalonikiljcpfaaDoorSetOps
namespace Go.Proofs.YtalonikiljcpfaaDoor
open Go.RowKit Go.Shelf
set_option linter.unusedVariables false
/-- What Next answers. -/
def NextIs (L : List Bool) (from_ : Int) (v : Nat) (is_ : Bool) : Prop :=
  (is_ = true ∧ inL L v = true ∧ from_ ≤ (v : Int) ∧ ∀ i, i < v → from_ ≤ (i : Int) → inL L i = false) ∨ (is_ = false ∧ v = 0 ∧ ∀ i : Nat, from_ ≤ (i : Int) → inL L i = false)
theorem next_first (L : List Bool) (from_ : Int) : ∀ n, (∃ v, v < n ∧ inL L v = true ∧ from_ ≤ (v : Int) ∧ ∀ i, i < v → from_ ≤ (i : Int) → inL L i = false) ∨ (∀ i, i < n → from_ ≤ (i : Int) → inL L i = false)
  | 0 => .inr (fun i hi => by omega)
  | n + 1 => by
    rcases next_first L from_ n with ⟨v, h1, h2⟩ | h
    · exact .inl ⟨v, by omega, h2⟩
    · by_cases hn : from_ ≤ (n : Int) ∧ inL L n = true
      · exact .inl ⟨n, by omega, hn.2, hn.1, h⟩
      · refine .inr fun i hi hf => ?_
        by_cases e : i = n
        · subst e
          cases hb : inL L i with
          | true => exact absurd ⟨hf, hb⟩ hn
          | false => rfl
        · exact h i (by omega) hf
theorem next_ex (L : List Bool) (from_ : Int) : ∃ v is_, NextIs L from_ v is_ := by
  rcases next_first L from_ L.length with ⟨v, _, h2, h3, h4⟩ | h
  · exact ⟨v, true, .inl ⟨rfl, h2, h3, h4⟩⟩
  · refine ⟨0, false, .inr ⟨rfl, rfl, fun i hf => ?_⟩⟩
    by_cases e : i < L.length
    · exact h i e hf
    · exact inL_ge (by omega)
theorem NextIs.uniq {L : List Bool} {from_ : Int} {v v' : Nat} {is_ is_' : Bool} (h : NextIs L from_ v is_) (h' : NextIs L from_ v' is_') : v = v' ∧ is_ = is_' := by
  rcases h with ⟨rfl, a1, a2, a3⟩ | ⟨rfl, rfl, a3⟩ <;> rcases h' with ⟨rfl, b1, b2, b3⟩ | ⟨rfl, rfl, b3⟩
  · refine ⟨?_, rfl⟩
    rcases Nat.lt_trichotomy v v' with h | h | h
    · rw [b3 v h a2] at a1; cases a1
    · exact h
    · rw [a3 v' h b2] at b1; cases b1
  · rw [b3 v a2] at a1; cases a1
  · rw [a3 v' b2] at b1; cases b1
  · exact ⟨rfl, rfl⟩
section
variable {w : World} {g t : Nat} {L M : List Bool}
theorem rest_bits (b : W64) (j i : Nat) : ((b >>> j) <<< j).getLsbD i = (!decide (i < j) && b.getLsbD i) := by
  rw [BitVec.getLsbD_shiftLeft, BitVec.getLsbD_ushiftRight]
  by_cases h : i < j
  · simp [h]
  · have e : j + (i - j) = i := by omega
    rw [e]
    by_cases hi : i < 64
    · simp [h, hi]
    · rw [BitVec.getLsbD_of_ge b i (by omega)]; simp
theorem shl_u64 (x : W64) (j : Nat) : IntKind.u64.wrap (n64 x * (2 : Int) ^ j) = n64 (x <<< j) := by
  unfold n64
  rw [BitVec.toNat_shiftLeft, IntKind.wrap_u64, Nat.shiftLeft_eq]
  simp
set_option maxRecDepth 100000 in
set_option maxHeartbeats 1000000 in
theorem next_of (h : HasSet w g L) (ht : TabIn w) (from_ : Int) (hf : -9223372036854775808 ≤ from_ ∧ from_ ≤ 9223372036854775807) (v : Nat) (is_ : Bool) (hN : NextIs L from_ v is_) :
    Calls Tryd.prog 63 #[.pointer (some ⟨g, 0, none⟩), .int .i64 from_] w fun e w' => e = .returned (.tuple #[.int .i64 (v : Int), .bool is_]) ∧ w = w' := by
  have HV := Lib.hid (valid_of h)
  obtain ⟨b, h⟩ := h
  have q0 : w.cell? ⟨g, 0, none⟩ = some (.int .i64 (L.length : Int)) := h.blk.cell 0
  have q1 : w.cell? ⟨g, 1, none⟩ = some (.int .u64 (n64 b)) := h.blk.cell 1
  have hbits := h.bits
  have hle := h.le
  clear h
  by_cases hfl : (L.length : Int) ≤ from_
  · have hv : is_ = false ∧ v = 0 := by
      rcases hN with ⟨_, a1, a2, _⟩ | ⟨rfl, rfl, _⟩
      · have := inL_lt a1; omega
      · exact ⟨rfl, rfl⟩
    obtain ⟨rfl, rfl⟩ := hv
    clear hbits hN
    go_enter Tryd.func63, Tryd.ntmps63
    go_wp2_with fail
    refine HV.out.mono ?_
    rintro e w' ⟨rfl, rfl⟩
    go_wp2_with fail
    go_ret2
    exact ⟨rfl, rfl⟩
  · obtain ⟨j, hj⟩ : ∃ j : Nat, (j : Int) = if from_ < 0 then 0 else from_ := ⟨(if from_ < 0 then 0 else from_).toNat, by split <;> omega⟩
    have hj64 : j < 64 := by split at hj <;> omega
    have hmax : (if from_ < 0 then (0 : Int) else from_) = (j : Int) := hj.symm
    have hfj : ∀ i : Nat, from_ ≤ (i : Int) ↔ ¬ i < j := fun i => by split at hj <;> omega
    have s1 : n64 b / (2 : Int) ^ j = n64 (b >>> j) := shrj_u64 b j
    have s2 : IntKind.u64.wrap (n64 (b >>> j) * (2 : Int) ^ j) = n64 ((b >>> j) <<< j) := shl_u64 _ j
    have hr : ∀ i, ((b >>> j) <<< j).getLsbD i = (!decide (i < j) && inL L i) := fun i => by rw [rest_bits, hbits]
    obtain ⟨x, hx⟩ : ∃ x, (b >>> j) <<< j = x := ⟨_, rfl⟩
    rw [hx] at s2 hr
    rcases hN with ⟨rfl, a1, a2, a3⟩ | ⟨rfl, rfl, a3⟩
    · have hk : x.getLsbD v = true := by
        rw [hr, a1]
        have := (hfj v).1 a2
        simp [this]
      have hl : ∀ i, i < v → x.getLsbD i = false := fun i hi => by
        rw [hr]
        by_cases e : i < j
        · simp [e]
        · rw [a3 i hi ((hfj i).2 e)]; simp
      have hx0 : (n64 x == 0) = false := by
        rw [beq_eq_false_iff_ne]
        intro e
        have : x = 0#64 := n64_eq.1 (e.trans (by unfold n64; rfl))
        rw [this] at hk
        simp at hk
      have HT := Lib.hid (trailing x v hk hl w ht)
      have hlt : decide (from_ < (L.length : Int)) = true := by simp; omega
      have HM := Lib.hid hmax
      clear hbits hr hl hk a3 hfj hx hj hmax
      go_enter Tryd.func63, Tryd.ntmps63
      go_wp2_with fail
      refine HV.out.mono ?_
      rintro e w' ⟨rfl, rfl⟩
      go_wp2_with (first
        | (refine wpList_max rfl _ _ _ .i64 from_ 0 (j : Int) (by rfl) (by rfl) (by rfl) HM.out ?_)
        | (go_at_call 66; refine HT.out.mono ?_; rintro e w' ⟨rfl, rfl⟩))
      go_ret2
      exact ⟨rfl, rfl⟩
    · have hx0 : (n64 x == 0) = true := by
        have : x = 0#64 := BitVec.eq_of_getLsbD_eq fun i hi => by
          rw [hr]
          by_cases e : i < j
          · simp [e]
          · rw [a3 i ((hfj i).2 e)]; simp
        rw [this]
        unfold n64; rfl
      have HM := Lib.hid hmax
      clear hbits hr a3 hfj hx hj hmax
      go_enter Tryd.func63, Tryd.ntmps63
      go_wp2_with fail
      refine HV.out.mono ?_
      rintro e w' ⟨rfl, rfl⟩
      go_wp2_with (first
        | (refine wpList_max rfl _ _ _ .i64 from_ 0 (j : Int) (by rfl) (by rfl) (by rfl) HM.out ?_))
      go_ret2
      exact ⟨rfl, rfl⟩
set_option maxHeartbeats 400000 in
theorem lowest_of (h : HasSet w g L) (ht : TabIn w) (v : Nat) (is_ : Bool) (hN : NextIs L 0 v is_) :
    Calls Tryd.prog 48 #[.pointer (some ⟨g, 0, none⟩)] w fun e w' => e = .returned (.tuple #[.int .i64 (v : Int), .bool is_]) ∧ w = w' := by
  have H := Lib.hid (next_of h ht 0 (by decide) v is_ hN)
  clear h ht hN
  go_enter Tryd.func48, Tryd.ntmps48
  go_wp2_with fail
  refine H.out.mono ?_
  rintro e w' ⟨rfl, rfl⟩
  go_wp2_with fail
  go_ret2
  exact ⟨rfl, rfl⟩
/-- One list's slots, and another's. -/
def orL (L M : List Bool) : List Bool := List.zipWith (fun a b => a || b) L M
def notL (L M : List Bool) : List Bool := List.zipWith (fun a b => a && !b) L M
theorem inL_or {L M : List Bool} (h : L.length = M.length) (i : Nat) : inL (orL L M) i = (inL L i || inL M i) := by
  unfold inL orL
  simp only [List.getD_eq_getElem?_getD, List.getElem?_zipWith]
  by_cases hi : i < L.length
  · rw [List.getElem?_eq_getElem hi, List.getElem?_eq_getElem (by omega)]; rfl
  · rw [List.getElem?_eq_none (by omega), List.getElem?_eq_none (by omega)]; rfl
theorem inL_not {L M : List Bool} (h : L.length = M.length) (i : Nat) : inL (notL L M) i = (inL L i && !inL M i) := by
  unfold inL notL
  simp only [List.getD_eq_getElem?_getD, List.getElem?_zipWith]
  by_cases hi : i < L.length
  · rw [List.getElem?_eq_getElem hi, List.getElem?_eq_getElem (by omega)]; rfl
  · rw [List.getElem?_eq_none (by omega), List.getElem?_eq_none (by omega)]; rfl
theorem orL_length {L M : List Bool} (h : L.length = M.length) : (orL L M).length = L.length := by unfold orL; rw [List.length_zipWith]; omega
theorem notL_length {L M : List Bool} (h : L.length = M.length) : (notL L M).length = L.length := by unfold notL; rw [List.length_zipWith]; omega
end
end Go.Proofs.YtalonikiljcpfaaDoor
