/-
  Rows of strings and numbers that a law writes itself.
-/
import Derived.Test.YteglaedkhopbgaaML
namespace Go.Proofs.Yteglaedkhopbgaa
open Go.RowKit Go.Shelf
set_option linter.unusedVariables false
theorem make_elems (t e : TypeId) (z : Value) (bytes : Nat) (ht : Try.prog.underlying t = some (.slice e)) (hinf : (Try.prog.info? e).map (fun i => (i.zero, i.size, i.bytes)) = some (some z, 1, bytes)) (hz1 : z.cells = #[z]) (hby : bytes ≤ 1000) (k : Nat) (hk : k ≤ 65536) (w : World) :
    (Instr.makeSlice t (.int .i64 (k : Int)) (.int .i64 (k : Int))).run Try.prog w = .ok (.slice (some ⟨w.heap.size, 0, none⟩) k k) (w.alloc (.cells (List.replicate k z).toArray e)) := by
  obtain ⟨i0, hi0, hz0, hsz, hz2⟩ := info_parts hinf
  have hb : i0.bytes * k ≤ 1000 * 65536 := Nat.mul_le_mul (by omega) hk
  have hbi : (i0.bytes : Int) * (k : Int) ≤ 281474976710656 := by
    have h2 : ((i0.bytes * k : Nat) : Int) ≤ 65536000 := by omega
    rw [Int.natCast_mul] at h2
    omega
  have hr := run_make (P := Try.prog) w t e i0 _ ht hi0 hz0 .i64 .i64 k k (by omega) (by omega) hbi (by omega)
  rw [Int.toNat_natCast, hsz] at hr
  rw [hr, hz1, Nat.mul_one]
  have : madeCells #[z] k = (List.replicate k z).toArray := by
    apply Array.toList_inj.1
    rw [toList_madeCells_one]
  rw [this]
theorem strOf_app (l m : List (BitVec 8)) : strOf l ++ strOf m = strOf (l ++ m) := by
  apply ByteArray.ext
  apply Array.toList_inj.1
  rw [ByteArray.data_append, Array.toList_append, strOf_list, strOf_list, strOf_list, List.map_append]
def strA (D : Nat → SlotD) (n : Nat) : Array Value := (strs D n).toArray
def durA (D : Nat → SlotD) (n : Nat) : Array Value := (ints (durs D n)).toArray
theorem strA_at {D : Nat → SlotD} {n i : Nat} (h : i < n) : (strA D n)[i]? = some (.string (strOf (D i).bytes)) := by
  unfold strA
  rw [List.getElem?_toArray]
  exact strs_at h
theorem durA_at {D : Nat → SlotD} {n i : Nat} (h : i < n) : (durA D n)[i]? = some (.int .i64 ((D i).dur : Int)) := by
  unfold durA
  rw [List.getElem?_toArray]
  exact durs_at h
theorem strA_size (D : Nat → SlotD) (n : Nat) : (strA D n).size = n := by simp [strA, strs_length]
theorem durA_size (D : Nat → SlotD) (n : Nat) : (durA D n).size = n := by simp [durA, ints_length, durs_length]
theorem strA_set (D : Nat → SlotD) {n i : Nat} (h : i < n) (x : SlotD) : (strA D n).setIfInBounds i (.string (strOf x.bytes)) = strA (updF D i x) n := by
  apply Array.ext_getElem?
  intro q
  by_cases hq : q < n
  · rw [strA_at hq, Array.getElem?_setIfInBounds]
    by_cases e : i = q
    · subst e
      rw [if_pos rfl, if_pos (by rw [strA_size]; exact h), updF_same]
    · rw [if_neg e, strA_at hq, updF_other _ _ (fun h => e h.symm)]
  · rw [Array.getElem?_eq_none (by simp [strA_size]; omega), Array.getElem?_eq_none (by rw [strA_size]; omega)]
theorem durA_set (D : Nat → SlotD) {n i : Nat} (h : i < n) (x : SlotD) : (durA D n).setIfInBounds i (.int .i64 (x.dur : Int)) = durA (updF D i x) n := by
  apply Array.ext_getElem?
  intro q
  by_cases hq : q < n
  · rw [durA_at hq, Array.getElem?_setIfInBounds]
    by_cases e : i = q
    · subst e
      rw [if_pos rfl, if_pos (by rw [durA_size]; exact h), updF_same]
    · rw [if_neg e, durA_at hq, updF_other _ _ (fun h => e h.symm)]
  · rw [Array.getElem?_eq_none (by simp [durA_size]; omega), Array.getElem?_eq_none (by rw [durA_size]; omega)]
theorem durA_congr {D D' : Nat → SlotD} {n : Nat} (h : ∀ i, i < n → (D' i).dur = (D i).dur) : durA D' n = durA D n := by
  unfold durA durs
  congr 2
  apply List.map_congr_left
  intro i hi
  rw [h i (List.mem_range.1 hi)]
theorem strA_congr {D D' : Nat → SlotD} {n : Nat} (h : ∀ i, i < n → (D' i).bytes = (D i).bytes) : strA D' n = strA D n := by
  unfold strA
  rw [strs_congr h]
theorem strA_new (n sz : Nat) : (List.replicate (n + 2) (Value.string ByteArray.empty)).toArray = strA (newVD n sz).D (n + 2) := by
  unfold strA strs
  congr 1
  apply List.ext_getElem?
  intro i
  by_cases h : i < n + 2
  · simp [h, newVD, strOf]
  · simp [h]
theorem durA_new (n sz : Nat) : (List.replicate (n + 2) (Value.int .i64 0)).toArray = durA (newVD n sz).D (n + 2) := by
  unfold durA durs ints
  congr 1
  apply List.ext_getElem?
  intro i
  by_cases h : i < n + 2
  · simp [h, newVD]
  · simp [h]
end Go.Proofs.Yteglaedkhopbgaa
