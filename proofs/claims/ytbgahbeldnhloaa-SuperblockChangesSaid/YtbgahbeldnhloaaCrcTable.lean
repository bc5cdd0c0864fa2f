/-
  The walk of the checksum's table: the array of 256 words that crc.Table returns. No condition.
-/
import Derived.Test.YtbgahbeldnhloaaCrcWalks
import Derived.Laws.CopyOwn
namespace Go.Proofs.Ytbgahbeldnhloaa
open Go.RowKit Drum
set_option linter.unusedVariables false
/-- The table, filled up to j. -/
def tblTo (j : Nat) : Array Value := Array.ofFn (n := 256) fun i => if i.val < j then .int .u32 (n32 (ctab (BitVec.ofNat 8 i.val))) else .int .u32 0
theorem tblTo_size (j : Nat) : (tblTo j).size = 256 := by simp [tblTo]
theorem tblTo_at (j i : Nat) (hi : i < j) (h : i < 256) : (tblTo j)[i]? = some (.int .u32 (n32 (ctab (BitVec.ofNat 8 i)))) := by
  unfold tblTo; rw [Array.getElem?_ofFn]; simp [hi, h]
theorem tblTo_set (j : Nat) : (tblTo j).setIfInBounds j (.int .u32 (n32 (ctab (BitVec.ofNat 8 j)))) = tblTo (j + 1) := by
  apply Array.ext
  · simp [tblTo]
  · intro i h1 h2
    rw [Array.getElem_setIfInBounds]
    · by_cases e : j = i
      · subst e; simp [tblTo, BitVec.ofNat, Fin.ofNat]
      · simp only [e, if_false]
        simp only [tblTo, Array.getElem_ofFn]
        have : i < j ↔ i < j + 1 := by omega
        simp [this]
    · simpa [tblTo] using h1
theorem tblTo_next (j : Nat) (h : j < 256) : (tblTo j)[j]? = some (.int .u32 0) := by
  unfold tblTo; rw [Array.getElem?_ofFn]; simp [h]
theorem tblTo_one (j : Nat) : (tblTo j).all (·.oneCell') = true := by
  rw [Array.all_eq_true]
  intro i h
  simp only [tblTo, Array.getElem_ofFn]
  split <;> rfl
theorem zero_tbl (w : World) : (zeroValue 82).run Try.prog w = .ok (.agg (tblTo 0)) w := by kernel_rfl
theorem zwide (j : Nat) (h : j < 256) : (j : Int) = n32 (wide (BitVec.ofNat 8 j)) := by
  unfold n32 wide; simp; omega
set_option maxHeartbeats 400000 in
set_option maxRecDepth 100000 in
theorem table_any (w : World) :
    Calls Try.prog 46 #[] w fun e w' => e = .returned (.agg (tblTo 256)) ∧ Below w.heap.size w w' := by
  have hz := zero_tbl
  go_enter Try.func46, Try.ntmps46
  go_wp2_with fail
  clear hz
  go_loopg [4] 256 (fun k v4 wr => ∃ j : Nat, j + k = 256 ∧ v4 = .int .i64 j ∧ Blk wr (w.heap.size + 1) 82 (tblTo j) ∧ Blk wr w.heap.size 82 (tblTo 0) ∧ Below w.heap.size w wr)
  case atStart =>
    refine ⟨0, rfl, rfl, ?_, (Blk.new w _ _).alloc _, by go_grown⟩
    have := Blk.new (w.alloc (Obj.cells (tblTo 0) 82)) 82 (tblTo 0)
    simpa using this
  case round =>
    obtain ⟨j, hj, rfl, hb1, hb0, hbel⟩ := hrel
    have HJ := Lib.hid hj
    have HB1 := Lib.hid hb1
    have HB0 := Lib.hid hb0
    have HBE := Lib.hid hbel
    by_cases hlt : j < 256
    · clear hj hb1 hb0 hbel
      obtain ⟨wo, rfl⟩ : ∃ wo : World, wo = wr := ⟨_, rfl⟩
      obtain ⟨go, rfl⟩ : ∃ go : Nat, go = gk := ⟨_, rfl⟩
      go_wp2_with fail
      go_loopg [3, 9] 8 (fun k v3 v9 wr => ∃ i : Nat, i + k = 8 ∧ v9 = .int .i64 i ∧ v3 = .int .u32 (n32 (it cstep i (wide (BitVec.ofNat 8 j)))) ∧ wr = wo)
      case atStart => exact ⟨0, rfl, rfl, congrArg _ (zwide j hlt), rfl⟩
      case round =>
        obtain ⟨i, hi, rfl, rfl, rfl⟩ := hrel
        have HI := Lib.hid hi
        by_cases hlt8 : i < 8
        · clear hi
          by_cases hod : (it cstep i (wide (BitVec.ofNat 8 j))) &&& 1#32 = 1#32
          · obtain ⟨hb, H⟩ := step_hi hod
            clear hod
            go_wp2
            go_roundg (gk - 1)
            case measure => have := HI.out; omega
            case rel => exact ⟨i + 1, by have := HI.out; omega, by go_num, u32_eq (by rw [it_succ', H.out]), rfl⟩
          · obtain ⟨hb, H⟩ := step_lo hod
            clear hod
            go_wp2
            go_roundg (gk - 1)
            case measure => have := HI.out; omega
            case rel => exact ⟨i + 1, by have := HI.out; omega, by go_num, by rw [it_succ', H.out], rfl⟩
        · have e8 : i = 8 := by omega
          subst e8
          clear hi
          have hcell := HB1.out.cell j
          rw [show (tblTo j)[j]? = some (Value.int .u32 0) from tblTo_next j hlt] at hcell
          have hfr := HB1.out.frozen j
          go_wp2
          go_roundg (go - 1)
          case measure => have := HJ.out; omega
          case rel =>
            refine ⟨j + 1, by have := HJ.out; omega, by go_num, ?_, ?_, ?_⟩
            · rw [← tblTo_set j]; exact HB1.out.set_ j _
            · exact HB0.out.far (by simp) _
            · exact HBE.out.setCell (by simp) _
    · have e8 : j = 256 := by omega
      subst e8
      clear hj hb1 hb0 hbel
      go_wp2_with (first
        | (refine wpList_load_row rfl 82 _ rfl (w.heap.size + 1) rfl 82 (tblTo 256) (0, 0) _ HB1.out Try.underlying82 rfl (by rw [tblTo_size]; kernel_rfl) ?_)
        | (refine wpList_store_row rfl 82 _ _ rfl w.heap.size (tblTo 256) rfl rfl 82 (tblTo 0) HB0.out (by rw [tblTo_size]; kernel_rfl) (by rw [tblTo_size, tblTo_size]) (tblTo_one _) ?_))
      have hb2 : (wr.setRow w.heap.size (tblTo 256)).heap[w.heap.size]? = some (.cells (tblTo 256) 82 (0, 0)) := setRow_heap _ _ _ _ _ _ HB0.out
      exact bodyPost_ret (results_cell_row rfl _ _ w.heap.size 82 (tblTo 256) (0, 0) _ rfl hb2 Try.underlying82 rfl (by rw [tblTo_size]; kernel_rfl)) rfl ⟨rfl, below_setRow HBE.out (Nat.le_refl _) _⟩
end Go.Proofs.Ytbgahbeldnhloaa
