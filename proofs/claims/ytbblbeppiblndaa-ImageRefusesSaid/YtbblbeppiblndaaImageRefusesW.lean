/-
  The walk of the law ImageRefuses: it returns true and writes nothing that was there. No condition.
-/
import Derived.Test.YtbblbeppiblndaaImgFill
namespace Go.Proofs.Ytbblbeppiblndaa
open Go.RowKit
set_option linter.unusedVariables false
/-- The pairs that are refused. -/
def pairs (k : Int) (n : Nat) : Array Value :=
  #[.int .i64 (-1 - k), .int .i64 1, .int .i64 0, .int .i64 (-1 - k), .int .i64 ((n : Int) + 1 + k), .int .i64 0, .int .i64 0, .int .i64 ((n : Int) + 1 + k), .int .i64 n, .int .i64 1,
    .int .i64 9223372036854775807, .int .i64 1, .int .i64 1, .int .i64 9223372036854775807, .int .i64 (-9223372036854775808), .int .i64 9223372036854775807]
theorem pairs_bad (k : Int) (n : Nat) (h0 : 0 ≤ k) (h1 : k < 65536) (hn : n ≤ 300) (j : Nat) (hj : j < 8) :
    ∃ x y, (pairs k n)[j * 2]? = some (.int .i64 x) ∧ (pairs k n)[j * 2 + 1]? = some (.int .i64 y) ∧ badRead n x y := by
  unfold badRead
  rcases (by omega : j = 0 ∨ j = 1 ∨ j = 2 ∨ j = 3 ∨ j = 4 ∨ j = 5 ∨ j = 6 ∨ j = 7) with rfl | rfl | rfl | rfl | rfl | rfl | rfl | rfl <;> exact ⟨_, _, rfl, rfl, by omega⟩
attribute [irreducible] pairs
set_option maxHeartbeats 4000000 in
theorem ImageRefuses_w (A : Option Addr) (n c : Nat) (k : Int) (w : World) (hm : MovesAt w w.heap.size A n) (hn : n ≤ c) (hc : c ≤ maxLen) (hk0 : 0 ≤ k) (hk1 : k < 65536) :
    Calls Try.prog 5 #[.slice A n c, .int .u16 k] w fun e w' => e = .returned (.bool true) ∧ Below w.heap.size w w' := by
  have HM := Lib.hid hm
  clear hm
  go_enter Try.func5, Try.ntmps5
  go_wp2_with fail
  refine (filled_any HM.out hn hc).mono ?_
  rintro e w1 ⟨g, fb, l, dur, v, rfl, hs⟩
  have H1 := Lib.hid hs
  have hnum := hs.img.nums
  obtain ⟨A8, c8, rfl, hA8, hc8, hr8⟩ := own_slice (hs.get (.head _))
  unfold maxLen at hc8
  clear hs hr8
  go_wp2_with fail
  go_loopg [55] 8 (fun q v55 wr => ∃ j : Nat, j + q = 8 ∧ v55 = .int .i64 j ∧ Blk wr w1.heap.size 37 (pairs k l.length) ∧ St w.heap.size w wr g fb l 300 dur [(.slice A8 l.length c8, l)])
  case atStart =>
    refine ⟨0, by omega, rfl, ?_, H1.out.alloc _⟩
    unfold pairs
    exact Blk.new _ _ _
  case round =>
    obtain ⟨j, hj, rfl, hblk, hs⟩ := hrel
    have HJ := Lib.hid hj
    have HS := Lib.hid hs
    have HB := Lib.hid hblk
    clear hj hs hblk
    by_cases hlt : j < 8
    · obtain ⟨x, y, hx, hy, hbad⟩ := pairs_bad k l.length hk0 hk1 (by omega) j hlt
      have c0 : wr.cell? ⟨w1.heap.size, j * 2, none⟩ = some (.int .i64 x) := by rw [HB.out.cell]; exact hx
      have c1 : wr.cell? ⟨w1.heap.size, j * 2 + 1, none⟩ = some (.int .i64 y) := by rw [HB.out.cell]; exact hy
      have HBAD := Lib.hid hbad
      clear hx hy hbad
      go_wp2_with fail
      refine (st_read_bad (HS.out.alloc _) x y HBAD.out).mono ?_
      rintro e w' ⟨rfl, rfl⟩
      go_wp2_with fail
      go_roundg (gk - 1)
      case measure => have := HJ.out; omega
      case rel => exact ⟨j + 1, by have := HJ.out; omega, by go_num, HB.out.alloc _, HS.out.alloc _⟩
    · have e8 : j = 8 := by have := HJ.out; omega
      subst e8
      clear HB HJ
      obtain ⟨wo, rfl⟩ : ∃ wo : World, wo = wr := ⟨_, rfl⟩
      obtain ⟨ko, rfl⟩ : ∃ ko : Nat, ko = gk := ⟨_, rfl⟩
      go_wp2_with fail
      go_loopg [82] 2 (fun q v82 wr => ∃ j : Nat, j + q = 2 ∧ v82 = .int .i64 j ∧ Blk wr wo.heap.size 3 #[.int .i64 (-k), .int .i64 (8193 + k)] ∧ St w.heap.size w wr g fb l 300 dur [(.slice A8 l.length c8, l)])
      case atStart => exact ⟨0, by omega, rfl, Blk.new _ _ _, HS.out.alloc _⟩
      case round =>
        obtain ⟨j, hj, rfl, hblk, hs⟩ := hrel
        have HJ := Lib.hid hj
        have HS := Lib.hid hs
        have HB := Lib.hid hblk
        clear hj hs
        by_cases hlt : j < 2
        · obtain ⟨x, c0, hx⟩ : ∃ x, wr.cell? ⟨wo.heap.size, j, none⟩ = some (.int .i64 x) ∧ (x < 1 ∨ (1 ≤ x ∧ 8192 < x)) := by
            rw [hblk.cell]
            rcases (by omega : j = 0 ∨ j = 1) with rfl | rfl
            · exact ⟨_, rfl, by omega⟩
            · exact ⟨_, rfl, by omega⟩
          have HX := Lib.hid hx
          clear hx hblk
          go_wp2_with fail
          refine (new_img_err x _ HX.out).mono ?_
          rintro e w' ⟨rfl, rfl⟩
          go_wp2_with fail
          go_roundg (gk - 1)
          case measure => have := HJ.out; omega
          case rel => exact ⟨j + 1, by have := HJ.out; omega, by go_num, HB.out, HS.out⟩
        · clear hblk
          go_wp2_with fail
          refine (st_crash_neg HS.out (-1 - k) (by omega)).mono ?_
          rintro e w' ⟨rfl, rfl⟩
          go_wp2_with fail
          refine (has_any HS.out (HS.out.get (.head _)).holds).mono ?_
          rintro e w7 ⟨rfl, hs, _⟩
          have H7 := Lib.hid hs
          clear hs
          go_wp2_with fail
          refine (st_durable H7.out).mono ?_
          rintro e w8 ⟨rfl, rfl⟩
          go_wp2_with fail
          refine (works_any _).mono ?_
          rintro e w9 ⟨rfl, hb⟩
          go_wp2
          go_ret
          exact ⟨rfl, bt H7.out.bel hb⟩
theorem ImageRefuses_walk (v0 v1 : Value) (w : World) (h0 : ArgIn Try.prog w 22 v0) (h1 : ArgIn Try.prog w 23 v1) :
    Calls Try.prog 5 #[v0, v1] w fun e w' => e = .returned (.bool true) ∧ Below w.heap.size w w' := by
  obtain ⟨A, n, c, rfl, hn, hc, hm⟩ := moves_arg h0
  obtain ⟨a, rfl, w2⟩ := h1.int Try.underlying23
  have := u16_of_wf w2
  exact ImageRefuses_w A n c a w hm hn hc (by omega) (by omega)
end Go.Proofs.Ytbblbeppiblndaa
