/-
  The plain law of a crash in a turn, as the law's strings show it.
-/
import Derived.Test.YteglaedkhopbgaaMK
namespace Go.Proofs.Yteglaedkhopbgaa
open Go.RowKit Go.Shelf
set_option linter.unusedVariables false
theorem strOf_size (l : List (BitVec 8)) : (strOf l).size = l.length := by
  have := congrArg List.length (strOf_list l)
  rw [List.length_map] at this
  rw [← this]
  rfl
theorem strOf_take (l : List (BitVec 8)) (k : Nat) : (strOf l).extract 0 k = strOf (l.take k) := by
  have e : strOf l = ⟨(l.map fun b => UInt8.ofNat b.toNat).toArray⟩ := strOf_lit (by simp)
  rw [e, ByteArray.extract_mk, List.drop_zero, Nat.sub_zero, ← List.map_take]
  exact (strOf_lit (by simp)).symm
theorem strOf_drop (l : List (BitVec 8)) (k : Nat) : (strOf l).extract k (strOf l).size = strOf (l.drop k) := by
  have e : strOf l = ⟨(l.map fun b => UInt8.ofNat b.toNat).toArray⟩ := strOf_lit (by simp)
  have es := strOf_size l
  rw [es, e, ByteArray.extract_mk]
  have h2 : ((l.map fun b => UInt8.ofNat b.toNat).drop k).take (l.length - k) = (l.drop k).map fun b => UInt8.ofNat b.toNat := by
    rw [List.take_of_length_le (by simp), List.map_drop]
  rw [h2]
  exact (strOf_lit (by simp)).symm
theorem turnCr_num {n sz : Nat} {X : DevD} (h : Peace X n sz) (a s b : BitVec 8) (k : Nat) (dn : Bool) (hok : turnOk n X.D a s b k) : ∀ i, i < n + 2 → (turnCr n X.D a s b k dn i).dur ≤ (turnCr n X.D a s b k dn i).bytes.length ∧ (turnCr n X.D a s b k dn i).bytes.length ≤ (turnCr n X.D a s b k dn i).size ∧ (turnCr n X.D a s b k dn i).size = szAt n sz i := by
  intro i hi
  have h1 := turnF_num h.size h.num a s b k hok i hi
  have h2 := h.num i hi
  have h3 := h.size i hi
  unfold turnF at h1
  unfold turnCr
  by_cases ha : a.toNat % 8 < 5
  · rw [if_pos ha] at h1 ⊢
    exact ⟨h1.2.1, h1.2.2, h1.1⟩
  · rw [if_neg ha] at h1 ⊢
    by_cases h7 : a.toNat % 8 = 7
    · rw [if_pos h7] at h1 ⊢
      cases dn with
      | true => rw [if_pos rfl]; exact ⟨h1.2.1, h1.2.2, h1.1⟩
      | false => rw [if_neg (by simp)]; exact ⟨h2.1, h2.2, h3⟩
    · rw [if_neg h7] at h1 ⊢
      exact ⟨h2.1, h2.2, h3⟩
theorem turnCr_other (n : Nat) (D : Nat → SlotD) (a s b : BitVec 8) (k : Nat) (dn : Bool) (i : Nat) (hi : i ≠ s.toNat % (n + 2)) : turnCr n D a s b k dn i = D i := by
  unfold turnCr appD eraseD
  have ho : ∀ x, updF D (s.toNat % (n + 2)) x i = D i := fun x => updF_other D x hi
  split
  · split
    · exact ho _
    · rfl
  · split
    · split
      · exact ho _
      · rfl
    · rfl
/-- What the law takes for the slot's bytes and how many are durable. -/
theorem turnCr_app {n sz : Nat} {X : DevD} (h : Peace X n sz) (a s b : BitVec 8) (k : Nat) (dn : Bool) (hok : turnOk n X.D a s b k) (ha : a.toNat % 8 < 5) (i : Nat) :
    (turnCr n X.D a s b k dn i).bytes = ((vdoX X a s b k).D i).bytes ∧ (turnCr n X.D a s b k dn i).dur = (X.D i).dur := by
  have e : vdoX X a s b k = { X with D := turnF n X.D a s b k, ops := X.ops + 1 } := by
    rcases calm_do h a s b k with ⟨_, _, e⟩ | ⟨e, _⟩
    · exact e
    · exact absurd hok e
  have hD : (vdoX X a s b k).D = turnF n X.D a s b k := by rw [e]
  have hT : turnCr n X.D a s b k dn = turnF n X.D a s b k := by unfold turnCr turnF; rw [if_pos ha, if_pos ha]
  rw [hD, hT]
  refine ⟨rfl, ?_⟩
  unfold turnF
  rw [if_pos ha]
  unfold appD
  rw [if_pos (hok ha)]
  rcases updF_or X.D (s.toNat % (n + 2)) i ⟨(X.D (s.toNat % (n + 2))).size, (X.D (s.toNat % (n + 2))).bytes ++ mvD b k, (X.D (s.toNat % (n + 2))).dur⟩ with ⟨e1, rfl⟩ | ⟨e1, _⟩
  · rw [e1]
  · rw [e1]
theorem turnCr_erase (n : Nat) (D : Nat → SlotD) (a s b : BitVec 8) (k : Nat) (ha : a.toNat % 8 = 7) : (turnCr n D a s b k true (s.toNat % (n + 2))).bytes = [] ∧ (turnCr n D a s b k true (s.toNat % (n + 2))).dur = 0 := by
  unfold turnCr
  rw [if_neg (by omega), if_pos ha, if_pos rfl]
  unfold eraseD
  rw [updF_same]
  exact ⟨rfl, rfl⟩
theorem turnCr_same (n : Nat) (D : Nat → SlotD) (a s b : BitVec 8) (k : Nat) (dn : Bool) (ha : ¬ a.toNat % 8 < 5) (h7 : a.toNat % 8 = 7 → dn = false) (i : Nat) : turnCr n D a s b k dn i = D i := by
  unfold turnCr
  rw [if_neg ha]
  by_cases e : a.toNat % 8 = 7
  · rw [if_pos e, h7 e, if_neg (by simp)]
  · rw [if_neg e]
theorem crashN_min {keep : Int} {x : SlotD} (hk : 0 ≤ keep) (hx : x.dur ≤ x.bytes.length) : (if (x.dur : Int) + keep < (x.bytes.length : Int) then (x.dur : Int) + keep else (x.bytes.length : Int)) = ((crashN keep x : Nat) : Int) := by
  unfold crashN
  split <;> omega
theorem crashN_le {keep : Int} {x : SlotD} (hx : x.dur ≤ x.bytes.length) : crashN keep x ≤ x.bytes.length := by
  unfold crashN
  omega
/-- The numbers of the plan. -/
def keepL (l : List (BitVec 8)) : List Int := l.map fun b => ((b.toNat % 16 : Nat) : Int)
theorem keepL_length (l : List (BitVec 8)) : (keepL l).length = l.length := by simp [keepL]
theorem keepL_at (l : List (BitVec 8)) (i : Nat) (h : i < l.length) : (keepL l)[i]'(by rw [keepL_length]; exact h) = ((l[i].toNat % 16 : Nat) : Int) := by simp [keepL]
theorem keepL_take (l : List (BitVec 8)) (i : Nat) (h : i < l.length) : (keepL l).take (i + 1) = (keepL l).take i ++ [((l[i].toNat % 16 : Nat) : Int)] := by
  rw [List.take_add_one, List.getElem?_eq_getElem (by rw [keepL_length]; exact h), keepL_at l i h]
  rfl
theorem keepL_bd (l : List (BitVec 8)) : ∀ z ∈ keepL l, 0 ≤ z ∧ z < 16 := by
  intro z hz
  simp only [keepL, List.mem_map] at hz
  obtain ⟨b, _, rfl⟩ := hz
  omega
theorem keepL_ok (l : List (BitVec 8)) (h1 : 1 ≤ l.length) (h2 : l.length ≤ 34) (at_ : Int) (ha : 0 ≤ at_ ∧ at_ ≤ 1000000) : okPlan at_ (keepL l) := by
  refine ⟨ha, by rw [keepL_length]; exact ⟨h1, h2⟩, fun z hz => ?_⟩
  have := keepL_bd l z hz
  omega
end Go.Proofs.Yteglaedkhopbgaa
