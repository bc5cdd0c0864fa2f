/-
  The walks of the matrices of Combine and of the reference's Shift: apply, square. Condition: the matrix lies in memory, 32 words.
-/
import Derived.Test.YtpdlkdlciipdcaaCrcWalks
namespace Go.Proofs.Ytpdlkdlciipdcaa
open Go.RowKit Drum
set_option linter.unusedVariables false
theorem bit_decide {x : W32} {j : Nat} : ((x >>> j) &&& 1#32 = 1#32) ↔ x.getLsbD j = true := by
  rw [and_one]; simp
theorem cpart_yes {m : Nat → W32} {x : W32} {j : Nat} (h : (x >>> j) &&& 1#32 = 1#32) : cpart m x (j + 1) = cpart m x j ^^^ m j := by
  show _ ^^^ _ = _; rw [bit_decide.1 h]; rfl
theorem cpart_no {m : Nat → W32} {x : W32} {j : Nat} (h : ¬ (x >>> j) &&& 1#32 = 1#32) : cpart m x (j + 1) = cpart m x j := by
  show _ ^^^ _ = _; rw [show x.getLsbD j = false by simpa using fun e => h (bit_decide.2 e)]; simp
theorem shr_zero_of {x : W32} {j : Nat} (h : 32 ≤ j) : x >>> j = 0#32 := by
  apply BitVec.eq_of_getLsbD_eq
  intro i hi
  rw [BitVec.getLsbD_ushiftRight, BitVec.getLsbD_of_ge _ _ (by omega)]; simp
/-- 32 words lie from an address on. -/
def IsMat (w : World) (b : Nat) (m : Nat → W32) : Prop := ∀ i, i < 32 → w.cell? ⟨b, i, none⟩ = some (.int .u32 (n32 (m i)))
set_option maxHeartbeats 1000000 in
theorem apply_any (b : Nat) (m : Nat → W32) (x : W32) (w : World) (hmat : IsMat w b m) :
    Calls Try.prog 24 #[.pointer (some ⟨b, 0, none⟩), .int .u32 (n32 x)] w fun e w' => e = .returned (.int .u32 (n32 (capply m x))) ∧ w = w' := by
  have HM := Lib.hid hmat
  clear hmat
  go_enter Try.func24, Try.ntmps24
  go_wp2
  go_loopg [1, 5, 6] 33 (fun k v1 v5 v6 wr => ∃ j : Nat, j + k = 33 ∧ 1 ≤ k ∧ v6 = .int .i64 j ∧ v1 = .int .u32 (n32 (x >>> j)) ∧ v5 = .int .u32 (n32 (cpart m x j)) ∧ w = wr)
  case atStart => exact ⟨0, rfl, by omega, rfl, rfl, by unfold n32; rfl, rfl⟩
  case round =>
    obtain ⟨j, hj, hk1, rfl, rfl, rfl, rfl⟩ := hrel
    have hj' : j ≤ 32 := by omega
    have HJ := Lib.hid hj
    by_cases hz : x >>> j = 0#32
    · have hne : (n32 (x >>> j) != 0) = false := by rw [bneq_u32_zero, hz]; rfl
      have HF := Lib.hid (cpart_stop m x j hz 32 hj')
      clear hj hz
      go_wp2
      go_ret
      exact ⟨ret_u32 HF.out.symm, rfl⟩
    · have hne : (n32 (x >>> j) != 0) = true := by rw [bneq_u32_zero]; simpa using hz
      have hlt : j < 32 := by
        rcases Nat.lt_or_ge j 32 with h | h
        · exact h
        · exact absurd (shr_zero_of h) hz
      have hc := HM.out j hlt
      have HS : Hid (n32 (x >>> (j + 1)) = n32 (x >>> j) / (2 : Int)) := by
        show _ = _; rw [shr1_u32, BitVec.shiftRight_add]
      clear hj hz
      by_cases hod : (x >>> j) &&& 1#32 = 1#32
      · have hb : (bits .and .u32 (n32 (x >>> j)) 1 == 1) = true := by rw [odd_u32, hod]; rfl
        have HP := Lib.hid (cpart_yes (m := m) hod)
        clear hod
        go_wp2
        go_roundg (gk - 1)
        case measure => omega
        case rel => exact ⟨j + 1, by have := HJ.out; omega, by have := HJ.out; omega, by go_num, by rw [HS.out], u32_eq HP.out.symm, rfl⟩
      · have hb : (bits .and .u32 (n32 (x >>> j)) 1 == 1) = false := by rw [odd_u32]; simpa using hod
        have HP := Lib.hid (cpart_no (m := m) hod)
        clear hod
        go_wp2
        go_roundg (gk - 1)
        case measure => omega
        case rel => exact ⟨j + 1, by have := HJ.out; omega, by have := HJ.out; omega, by go_num, by rw [HS.out], u32_eq HP.out.symm, rfl⟩

/-- A matrix as cells, filled up to j. -/
def matTo (m : Nat → W32) (j : Nat) : Array Value := Array.ofFn (n := 32) fun i => if i.val < j then .int .u32 (n32 (m i.val)) else .int .u32 0
theorem matTo_size (m : Nat → W32) (j : Nat) : (matTo m j).size = 32 := by simp [matTo]
theorem matTo_at (m : Nat → W32) (j i : Nat) (hi : i < j) (h : i < 32) : (matTo m j)[i]? = some (.int .u32 (n32 (m i))) := by
  unfold matTo; rw [Array.getElem?_ofFn]; simp [hi, h]
theorem matTo_next (m : Nat → W32) (j : Nat) (h : j < 32) : (matTo m j)[j]? = some (.int .u32 0) := by
  unfold matTo; rw [Array.getElem?_ofFn]; simp [h]
theorem matTo_set (m : Nat → W32) (j : Nat) : (matTo m j).setIfInBounds j (.int .u32 (n32 (m j))) = matTo m (j + 1) := by
  apply Array.ext
  · simp [matTo]
  · intro i h1 h2
    rw [Array.getElem_setIfInBounds]
    · by_cases e : j = i
      · subst e; simp [matTo]
      · simp only [e, if_false]
        simp only [matTo, Array.getElem_ofFn]
        have : i < j ↔ i < j + 1 := by omega
        simp [this]
    · simpa [matTo] using h1
theorem matTo_zero (m m' : Nat → W32) : matTo m 0 = matTo m' 0 := by simp [matTo]
theorem IsMat.of_blk {w : World} {b : Nat} {t : TypeId} {m : Nat → W32} (h : Blk w b t (matTo m 32)) : IsMat w b m := fun i hi => by rw [h.cell, matTo_at m 32 i hi hi]
theorem IsMat.below {w w' : World} {b B : Nat} {m : Nat → W32} (h : IsMat w b m) (hb : Below B w w') (hB : b < B) : IsMat w' b m := fun i hi => by rw [hb.cell hB]; exact h i hi
theorem IsMat.lt {w : World} {b : Nat} {m : Nat → W32} (h : IsMat w b m) : b < w.heap.size := block_lt_of_cell (h 0 (by omega))
theorem zero_mat (w : World) : (zeroValue 46).run Try.prog w = .ok (.agg (matTo (fun _ => 0#32) 0)) w := by kernel_rfl
set_option maxHeartbeats 1000000 in
theorem square_any (b : Nat) (m : Nat → W32) (w : World) (hmat : IsMat w b m) :
    Calls Try.prog 23 #[.pointer (some ⟨b, 0, none⟩)] w fun e w' => ∃ g, e = .returned (.pointer (some ⟨g, 0, none⟩)) ∧ IsMat w' g (fun i => capply m (m i)) ∧ w.heap.size ≤ g ∧ Below w.heap.size w w' := by
  have hbl := hmat.lt
  have HM := Lib.hid hmat
  clear hmat
  have hz := zero_mat
  rw [matTo_zero _ (fun i => capply m (m i))] at hz
  go_enter Try.func23, Try.ntmps23
  go_wp2_with fail
  clear hz
  go_loopg [5] 32 (fun k v5 wr => ∃ j : Nat, j + k = 32 ∧ v5 = .int .i64 j ∧ Blk wr w.heap.size 46 (matTo (fun i => capply m (m i)) j) ∧ Below w.heap.size w wr)
  case atStart => exact ⟨0, rfl, rfl, Blk.new w _ _, by go_grown⟩
  case round =>
    obtain ⟨j, hj, rfl, hb1, hbel⟩ := hrel
    have hj' : j ≤ 32 := by omega
    have HJ := Lib.hid hj
    have HB1 := Lib.hid hb1
    have HBE := Lib.hid hbel
    by_cases hlt : j < 32
    · have hcell := hb1.cell j
      rw [matTo_next _ j hlt] at hcell
      have hfr := hb1.frozen j
      have hmc := (HM.out.below hbel hbl) j hlt
      have HMW := Lib.hid (HM.out.below hbel hbl)
      clear hj hb1 hbel
      go_wp2_with (go_at_call 24; refine (apply_any _ m _ _ HMW.out).mono ?_; rintro e w' ⟨rfl, rfl⟩)
      go_roundg (gk - 1)
      case measure => have := HJ.out; omega
      case rel =>
        refine ⟨j + 1, by have := HJ.out; omega, by go_num, ?_, HBE.out.setCell (Nat.le_refl _) _⟩
        rw [← matTo_set]; exact HB1.out.set_ j _
    · have e8 : j = 32 := by omega
      subst e8
      clear hj hb1 hbel
      go_wp2
      go_ret
      exact ⟨_, rfl, IsMat.of_blk HB1.out, Nat.le_refl _, HBE.out⟩
end Go.Proofs.Ytpdlkdlciipdcaa
