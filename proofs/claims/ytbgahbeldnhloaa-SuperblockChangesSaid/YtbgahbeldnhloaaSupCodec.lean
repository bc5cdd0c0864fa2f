/-
  The walks of the codec's widths, Fits, Append and Uint at the widths that are used, and of slices.Index, Contains and Clone at them. Conditions: the width is 4 or 8; the bytes can be read; the number fits.
-/
import Derived.Test.YtbgahbeldnhloaaProg
import Derived.Test.YtbgahbeldnhloaaBytes
import Derived.Test.YtbgahbeldnhloaaCrcBits
import Derived.Test.YtbgahbeldnhloaaSupMath
import Derived.Handy
namespace Go.Proofs.Ytbgahbeldnhloaa
open Go.RowKit Drum
set_option linter.unusedVariables false
theorem u8_info : (Try.prog.info? 5).map (fun i => (i.zero, i.size, i.bytes)) = some (some (.int .u8 0), 1, 1) := by kernel_rfl
/-- The widths, in memory. -/
def widthCells : Array Value := #[.int .i64 1, .int .i64 2, .int .i64 4, .int .i64 8]
set_option maxHeartbeats 400000 in
theorem widths_any (w : World) :
    Calls Try.prog 39 #[] w fun e w' => e = .returned (.slice (some ⟨w.heap.size, 0, none⟩) 4 4) ∧ w' = w.alloc (.cells widthCells 3) := by
  go_enter Try.func39, Try.ntmps39
  go_wp2
  go_ret
  exact ⟨rfl, rfl⟩
set_option maxHeartbeats 1000000 in
theorem index_any (g : Nat) (k : Int) (j : Nat) (hj : (k = 4 ∧ j = 2) ∨ (k = 8 ∧ j = 3)) (w : World) (hb : Blk w g 3 widthCells) :
    Calls Try.prog 45 #[.slice (some ⟨g, 0, none⟩) 4 4, .int .i64 k] w fun e w' => e = .returned (.int .i64 (j : Int)) ∧ w = w' := by
  have h0 : w.cell? ⟨g, 0, none⟩ = some (.int .i64 1) := hb.cell 0
  have h1 : w.cell? ⟨g, 1, none⟩ = some (.int .i64 2) := hb.cell 1
  have h2 : w.cell? ⟨g, 2, none⟩ = some (.int .i64 4) := hb.cell 2
  have h3 : w.cell? ⟨g, 3, none⟩ = some (.int .i64 8) := hb.cell 3
  clear hb
  have hk : k = 4 ∨ k = 8 := by omega
  have hj3 : j ≤ 3 := by omega
  have HJ := Lib.hid hj
  clear hj
  go_enter Try.func45, Try.ntmps45
  go_wp2
  go_loopg [8] 4 (fun q v8 wr => ∃ i : Nat, i + q = 4 ∧ v8 = .int .i64 i ∧ i ≤ j ∧ w = wr)
  case atStart => exact ⟨0, rfl, rfl, by omega, rfl⟩
  case round =>
    obtain ⟨i, hi, rfl, hij, rfl⟩ := hrel
    have HI := Lib.hid hi
    clear hi
    rcases (show i = 0 ∨ i = 1 ∨ i = 2 ∨ i = 3 by omega) with rfl | rfl | rfl | rfl
    · rcases hk with rfl | rfl
      all_goals
        go_wp2
        go_roundg (gk - 1)
        case measure => have := HI.out; omega
        case rel => exact ⟨1, by have := HI.out; omega, by go_num, by have := HJ.out; omega, rfl⟩
    · rcases hk with rfl | rfl
      all_goals
        go_wp2
        go_roundg (gk - 1)
        case measure => have := HI.out; omega
        case rel => exact ⟨2, by have := HI.out; omega, by go_num, by have := HJ.out; omega, rfl⟩
    · rcases hk with rfl | rfl
      · go_wp2
        go_ret
        exact ⟨by rw [show j = 2 by have := HJ.out; omega]; rfl, rfl⟩
      · go_wp2
        go_roundg (gk - 1)
        case measure => have := HI.out; omega
        case rel => exact ⟨3, by have := HI.out; omega, by go_num, by have := HJ.out; omega, rfl⟩
    · rcases hk with rfl | rfl
      · exfalso; have := HJ.out; omega
      · go_wp2
        go_ret
        exact ⟨by rw [show j = 3 by have := HJ.out; omega]; rfl, rfl⟩
set_option maxHeartbeats 400000 in
theorem contains_any (g : Nat) (k : Int) (hk : k = 4 ∨ k = 8) (w : World) (hb : Blk w g 3 widthCells) :
    Calls Try.prog 38 #[.slice (some ⟨g, 0, none⟩) 4 4, .int .i64 k] w fun e w' => e = .returned (.bool true) ∧ w = w' := by
  obtain ⟨j, hj⟩ : ∃ j : Nat, (k = 4 ∧ j = 2) ∨ (k = 8 ∧ j = 3) := by
    rcases hk with rfl | rfl
    · exact ⟨2, .inl ⟨rfl, rfl⟩⟩
    · exact ⟨3, .inr ⟨rfl, rfl⟩⟩
  have H := Lib.hid (index_any g k j hj w hb)
  clear hj hb hk
  go_enter Try.func38, Try.ntmps38
  go_wp2_with fail
  refine H.out.mono ?_
  rintro e w1 ⟨rfl, rfl⟩
  go_wp2_with fail
  go_ret
  exact ⟨rfl, rfl⟩
set_option maxHeartbeats 400000 in
theorem fits_any (n : Nat) (k : Nat) (hk : k = 4 ∨ k = 8) (hn : n < 256 ^ k) (w : World) :
    Calls Try.prog 40 #[.int .u64 (n : Int), .int .i64 (k : Int)] w fun e w' => e = .returned (.bool true) ∧ Below w.heap.size w w' := by
  rcases hk with rfl | rfl
  · have hq : ((n : Int) / 4294967296 == 0) = true := by rw [beq_iff_eq]; omega
    clear hn
    go_enter Try.func40, Try.ntmps40
    go_wp2_with fail
    refine (widths_any _).mono ?_
    rintro e w1 ⟨rfl, rfl⟩
    go_wp2_with fail
    refine (contains_any w.heap.size 4 (.inl rfl) _ (Blk.new w _ _)).mono ?_
    rintro e w1 ⟨rfl, rfl⟩
    go_wp2_with fail
    go_ret
    exact ⟨rfl, by go_grown⟩
  · clear hn
    go_enter Try.func40, Try.ntmps40
    go_wp2_with fail
    refine (widths_any _).mono ?_
    rintro e w1 ⟨rfl, rfl⟩
    go_wp2_with fail
    refine (contains_any w.heap.size 8 (.inr rfl) _ (Blk.new w _ _)).mono ?_
    rintro e w1 ⟨rfl, rfl⟩
    go_wp2_with fail
    go_ret
    exact ⟨rfl, by go_grown⟩
set_option maxHeartbeats 400000 in
theorem clone_any (A : Option Addr) (n c B : Nat) (l : List (BitVec 8)) (w : World) (hr : Reads w B 1 A n (u8s l)) (hB : B ≤ w.heap.size) (hn : n ≤ 65536) (hz : A = none → c = 0) :
    Calls Try.prog 41 #[.slice A n c] w fun e w' => ∃ v, e = .returned v ∧ w'.ownsRow w.heap.size 5 1 v n (u8s l) ∧ Below w.heap.size w w' := by
  obtain ⟨i0, hi0, hz0, hz1, hz2⟩ := info_parts u8_info
  have HR := Lib.hid hr
  clear hr
  cases A with
  | none =>
    obtain rfl := hz rfl
    have hn0 : n = 0 := by
      rcases Nat.eq_zero_or_pos n with h | h
      · exact h
      · obtain ⟨ad, e, _⟩ := HR.out.2 h; cases e
    subst hn0
    have hl : u8s l = [] := List.eq_nil_of_length_eq_zero (by simpa using HR.out.1)
    have HL := Lib.hid hl
    clear hl
    have hq := fun W => Lib.run_eql_slice_nil (P := Try.prog) W 26 5 none 0 0 0 0 Try.underlying26
    go_enter Try.func41, Try.ntmps41
    go_wp2
    go_ret
    exact ⟨_, rfl, by rw [HL.out]; exact World.ownsRow_nil _ _ _ _, Below.refl _ _⟩
  | some a =>
    have hq := fun W => Lib.run_eql_slice_nil (P := Try.prog) W 26 5 (some a) n c 0 0 Try.underlying26
    have hown0 : (w.alloc (.cells #[] 5)).ownsRow w.heap.size 5 1 (.slice (some ⟨w.heap.size, 0, none⟩) 0 0) 0 [] := World.ownsRow_made w #[] 0 (Nat.le_refl _) (by unfold maxLen; omega) (by simp)
    have HO := Lib.hid hown0
    clear hown0
    have HBL : Hid (∀ p : Addr, p.block < B → (w.alloc (.cells #[] 5)).cell? p = w.cell? p) := fun p hp => World.cell?_alloc_lt w _ p (by omega)
    go_enter Try.func41, Try.ntmps41
    go_wp2_with (at_builtin
                 refine wpList_append_g _ rfl (.tmp 5) (.tmp 6) _ rfl w.heap.size 5 i0 _ 1 1 Try.underlying26 hi0 hz0 hz1 hz2 rfl (by omega) (.slice (some ⟨w.heap.size, 0, none⟩) 0 0) 0 [] rfl
                   HO.out B (some a) n c (u8s l) rfl (HR.out.keep (fun p hp => HBL.out p hp)) (u8s_one l) (by simp only [maxLen]; omega) (by omega) (by simp) ?_
                 intro v1 w4 hown1 hg1 hat1
                 have HO1 := Lib.hid hown1
                 have HB4 := Lib.hid (((Below.refl w.heap.size w).alloc (Nat.le_refl _) (.cells #[] 5)).grown hg1 (by simp) (by intro q hq; simp [Value.ownBlock] at hq; omega))
                 clear hown1 hg1 hat1)
    go_ret
    exact ⟨_, rfl, by simpa using HO1.out, HB4.out⟩
end Go.Proofs.Ytbgahbeldnhloaa
