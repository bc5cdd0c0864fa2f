/-
  The walk of the law ImageNil: it returns true and writes nothing that was there. No condition.
-/
import Derived.Test.YtbblbeppiblndaaImgFill
namespace Go.Proofs.Ytbblbeppiblndaa
open Go.RowKit
set_option linter.unusedVariables false
set_option maxHeartbeats 4000000 in
theorem ImageNil_w (off n : Int) (w : World) :
    Calls Try.prog 8 #[.int .i64 off, .int .i64 n] w fun e w' => e = .returned (.bool true) ∧ Below w.heap.size w w' := by
  go_enter Try.func8, Try.ntmps8
  go_wp2_with fail
  go_loopg [15] 2 (fun q v15 wr => ∃ j : Nat, j + q = 2 ∧ v15 = .int .i64 j ∧ NoImg wr (.pointer (some ⟨w.heap.size, 0, none⟩)) ∧ Blk wr (w.heap.size + 1) 24 #[.pointer none, .pointer (some ⟨w.heap.size, 0, none⟩)] ∧ Below w.heap.size w wr)
  case atStart =>
    have h1 := Blk.new w 56 #[.slice none 0 0, .int .i64 0, .int .i64 0]
    have h2 := h1.alloc (.cells #[Value.pointer none, Value.pointer (some { block := w.heap.size, off := 0 })] 24)
    have h3 := Blk.new (w.alloc (.cells #[.slice none 0 0, .int .i64 0, .int .i64 0] 56)) 24 #[Value.pointer none, Value.pointer (some { block := w.heap.size, off := 0 })]
    refine ⟨0, by omega, rfl, .inr ⟨_, rfl, by rw [h2.cell]; rfl⟩, by simpa using h3, ((Below.refl _ _).alloc (Nat.le_refl _) _).alloc (by simp) _⟩
  case round =>
    obtain ⟨j, hj, rfl, hno, hblk, hbel⟩ := hrel
    have HJ := Lib.hid hj
    have HN := Lib.hid hno
    have HB := Lib.hid hblk
    have HBE := Lib.hid hbel
    by_cases hlt : j < 2
    · obtain ⟨v, hv, hcell⟩ : ∃ v, NoImg wr v ∧ wr.cell? ⟨w.heap.size + 1, j, none⟩ = some v := by
        rw [hblk.cell]
        rcases (by omega : j = 0 ∨ j = 1) with rfl | rfl
        · exact ⟨_, .inl rfl, rfl⟩
        · exact ⟨_, hno, rfl⟩
      have HV := Lib.hid hv
      clear hj hno hblk hbel hv
      go_wp2_with fail
      refine (no_read HV.out off n).mono ?_
      rintro e w' ⟨rfl, rfl⟩
      go_wp2_with fail
      refine (no_sync HV.out).mono ?_
      rintro e w' ⟨rfl, rfl⟩
      go_wp2_with fail
      refine (no_erase HV.out).mono ?_
      rintro e w' ⟨rfl, rfl⟩
      go_wp2_with fail
      refine (no_append HV.out _ _ _).mono ?_
      rintro e w' ⟨rfl, rfl⟩
      go_wp2_with fail
      refine (no_crash HV.out n).mono ?_
      rintro e w' ⟨rfl, rfl⟩
      go_wp2_with fail
      refine (no_len HV.out).mono ?_
      rintro e w' ⟨rfl, rfl⟩
      go_wp2_with fail
      refine (no_durable HV.out).mono ?_
      rintro e w' ⟨rfl, rfl⟩
      go_wp2_with fail
      refine (no_room HV.out).mono ?_
      rintro e w' ⟨rfl, rfl⟩
      go_wp2_with fail
      refine (no_size HV.out).mono ?_
      rintro e w' ⟨rfl, rfl⟩
      go_wp2_with fail
      refine (no_copy HV.out).mono ?_
      rintro e w' ⟨rfl, rfl⟩
      go_wp2_with fail
      go_roundg (gk - 1)
      case measure => have := HJ.out; omega
      case rel => exact ⟨j + 1, by have := HJ.out; omega, by go_num, HN.out, HB.out, HBE.out⟩
    · go_wp2_with fail
      refine (works_any _).mono ?_
      rintro e w' ⟨rfl, hb⟩
      go_wp2
      go_ret
      exact ⟨rfl, bt HBE.out hb⟩
theorem ImageNil_walk (v0 v1 : Value) (w : World) (h0 : ArgIn Try.prog w 3 v0) (h1 : ArgIn Try.prog w 3 v1) :
    Calls Try.prog 8 #[v0, v1] w fun e w' => e = .returned (.bool true) ∧ Below w.heap.size w w' := by
  obtain ⟨n, rfl, w2⟩ := h0.int Try.underlying3
  obtain ⟨m, rfl, w3⟩ := h1.int Try.underlying3
  exact ImageNil_w n m w
end Go.Proofs.Ytbblbeppiblndaa
