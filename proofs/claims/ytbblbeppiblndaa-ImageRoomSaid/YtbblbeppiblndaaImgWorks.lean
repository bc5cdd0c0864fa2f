/-
  The walk of the image laws' examples (works): it returns true and writes nothing that was there. No condition.
-/
import Derived.Test.YtbblbeppiblndaaImgLaw
namespace Go.Proofs.Ytbblbeppiblndaa
open Go.RowKit
set_option linter.unusedVariables false
theorem a12 : #[Value.int .u8 1, .int .u8 2] = (u8s [1#8, 2#8]).toArray := by simp [u8s, u8v, n8_nat]
theorem a345 : #[Value.int .u8 3, .int .u8 4, .int .u8 5] = (u8s [3#8, 4#8, 5#8]).toArray := by simp [u8s, u8v, n8_nat]
theorem a67 : #[Value.int .u8 6, .int .u8 7] = (u8s [6#8, 7#8]).toArray := by simp [u8s, u8v, n8_nat]
theorem a8 : #[Value.int .u8 8] = (u8s [8#8]).toArray := by simp [u8s, u8v, n8_nat]
theorem a234 : #[Value.int .u8 2, .int .u8 3, .int .u8 4] = (u8s [2#8, 3#8, 4#8]).toArray := by simp [u8s, u8v, n8_nat]
theorem a123 : #[Value.int .u8 1, .int .u8 2, .int .u8 3] = (u8s [1#8, 2#8, 3#8]).toArray := by simp [u8s, u8v, n8_nat]
theorem st_len' {B : Nat} {w0 w : World} {g : Nat} {fb : Option Nat} {l : List (BitVec 8)} {size dur : Nat} {vs : List (Value × List (BitVec 8))} (h : St B w0 w g fb l size dur vs) (n : Int) (hn : (l.length : Int) = n) : Calls Try.prog 31 #[.pointer (some ⟨g, 0, none⟩)] w fun e w' => e = .returned (.int .i64 n) ∧ w = w' := by
  rw [← hn]; exact st_len h
theorem st_durable' {B : Nat} {w0 w : World} {g : Nat} {fb : Option Nat} {l : List (BitVec 8)} {size dur : Nat} {vs : List (Value × List (BitVec 8))} (h : St B w0 w g fb l size dur vs) (n : Int) (hn : (dur : Int) = n) : Calls Try.prog 12 #[.pointer (some ⟨g, 0, none⟩)] w fun e w' => e = .returned (.int .i64 n) ∧ w = w' := by
  rw [← hn]; exact st_durable h
theorem st_room' {B : Nat} {w0 w : World} {g : Nat} {fb : Option Nat} {l : List (BitVec 8)} {size dur : Nat} {vs : List (Value × List (BitVec 8))} (h : St B w0 w g fb l size dur vs) (n : Int) (hn : (size : Int) - (l.length : Int) = n) : Calls Try.prog 30 #[.pointer (some ⟨g, 0, none⟩)] w fun e w' => e = .returned (.int .i64 n) ∧ St B w0 w' g fb l size dur vs ∧ Below w.heap.size w w' := by
  rw [← hn]; exact st_room h
theorem st_new' (w : World) : Calls Try.prog 17 #[.int .i64 6] w fun e w' => ∃ g, e = .returned (.tuple #[.pointer (some ⟨g, 0, none⟩), .int .i64 0]) ∧ St w.heap.size w w' g none [] 6 0 [] := st_new w 6 (by omega) (by omega)
set_option maxHeartbeats 4000000 in
set_option maxRecDepth 100000 in
theorem works_any (w : World) :
    Calls Try.prog 14 #[] w fun e w' => e = .returned (.bool true) ∧ Below w.heap.size w w' := by
  go_enter Try.func14, Try.ntmps14
  go_wp2_with fail
  refine (st_new' _).mono ?_
  rintro e w1 ⟨g, rfl, hs⟩
  have H := Lib.hid hs
  clear hs
  go_wp2_with fail
  refine (st_append (H.out.alloc _) (holds_new _ _ _ [1#8, 2#8] 2 2 rfl (by omega) (by omega) a12) (by decide)).mono ?_
  rintro e w2 ⟨rfl, f1, hs, _, _⟩
  have H : Hid (St w.heap.size w w2 g f1 [1#8, 2#8] 6 0 []) := hs
  clear hs
  go_wp2_with fail
  refine (st_sync H.out).mono ?_
  rintro e w3 ⟨rfl, hs, _⟩
  have H : Hid (St w.heap.size w w3 g f1 [1#8, 2#8] 6 2 []) := hs
  clear hs
  go_wp2_with fail
  refine (st_append (H.out.alloc _) (holds_new _ _ _ [3#8, 4#8, 5#8] 3 3 rfl (by omega) (by omega) a345) (by decide)).mono ?_
  rintro e w4 ⟨rfl, f2, hs, _, _⟩
  have H : Hid (St w.heap.size w w4 g f2 [1#8, 2#8, 3#8, 4#8, 5#8] 6 2 []) := hs
  clear hs
  go_wp2_with fail
  refine (st_len' H.out 5 rfl).mono ?_
  rintro e w5 ⟨rfl, rfl⟩
  go_wp2_with fail
  refine (st_durable' H.out 2 rfl).mono ?_
  rintro e w6 ⟨rfl, rfl⟩
  go_wp2_with fail
  refine (st_room' H.out 1 rfl).mono ?_
  rintro e w7 ⟨rfl, hs, _⟩
  have H := Lib.hid hs
  clear hs
  go_wp2_with fail
  refine (st_append_full (H.out.alloc _) (holds_new _ _ _ [6#8, 7#8] 2 2 rfl (by omega) (by omega) a67) (by decide)).mono ?_
  rintro e w8 ⟨rfl, hs, _⟩
  have H := Lib.hid hs
  clear hs
  go_wp2_with fail
  refine (st_read H.out _ _ 1 3 rfl rfl (by decide)).mono ?_
  rintro e w9 ⟨va, rfl, hs, _, _⟩
  have H : Hid (St w.heap.size w w9 g f2 [1#8, 2#8, 3#8, 4#8, 5#8] 6 2 [(va, [2#8, 3#8, 4#8])]) := hs
  clear hs
  go_wp2_with fail
  refine (st_read_bad H.out _ _ (.inr (.inr (.inr ⟨by omega, by omega, by decide, by decide⟩)))).mono ?_
  rintro e w10 ⟨rfl, rfl⟩
  go_wp2_with fail
  refine (st_crash H.out 1 (by omega) (by omega) 3 (by decide)).mono ?_
  rintro e w11 ⟨rfl, hs, _⟩
  have H : Hid (St w.heap.size w w11 g f2 [1#8, 2#8, 3#8] 6 3 [(va, [2#8, 3#8, 4#8])]) := hs
  clear hs
  go_wp2_with fail
  refine (st_read H.out _ _ 0 3 rfl rfl (by decide)).mono ?_
  rintro e w12 ⟨vb, rfl, hs, _, _⟩
  have H : Hid (St w.heap.size w w12 g f2 [1#8, 2#8, 3#8] 6 3 [(vb, [1#8, 2#8, 3#8]), (va, [2#8, 3#8, 4#8])]) := hs
  clear hs
  go_wp2_with fail
  refine (st_append (H.out.alloc _) (holds_new _ _ _ [8#8] 1 1 rfl (by omega) (by omega) a8) (by decide)).mono ?_
  rintro e w13 ⟨rfl, f3, hs, _, _⟩
  have H : Hid (St w.heap.size w w13 g f3 [1#8, 2#8, 3#8, 8#8] 6 3 [(vb, [1#8, 2#8, 3#8]), (va, [2#8, 3#8, 4#8])]) := hs
  clear hs
  go_wp2_with fail
  refine (st_crash_neg H.out (-1) (by omega)).mono ?_
  rintro e w14 ⟨rfl, rfl⟩
  go_wp2_with fail
  refine (st_crash H.out 0 (by omega) (by omega) 3 (by decide)).mono ?_
  rintro e w15 ⟨rfl, hs, _⟩
  have H : Hid (St w.heap.size w w15 g f3 [1#8, 2#8, 3#8] 6 3 [(vb, [1#8, 2#8, 3#8]), (va, [2#8, 3#8, 4#8])]) := hs
  clear hs
  go_wp2_with fail
  have H' := Lib.hid (H.out.alloc (.cells #[Value.int .u8 2, .int .u8 3, .int .u8 4] 5))
  refine (eq_holds (H'.out.get (.tail _ (.head _))).holds (holds_new _ _ _ [2#8, 3#8, 4#8] 3 3 rfl (by omega) (by omega) a234)).mono ?_
  rw [decide_eq_true (rfl : [2#8, 3#8, 4#8] = [2#8, 3#8, 4#8])]
  rintro e wx ⟨rfl, rfl⟩
  go_wp2_with fail
  have H2 := Lib.hid (H'.out.alloc (.cells #[Value.int .u8 1, .int .u8 2, .int .u8 3] 5))
  have HB := Lib.hid (holds_new (w15.alloc (.cells #[Value.int .u8 2, .int .u8 3, .int .u8 4] 5)) (0, 0) #[Value.int .u8 1, .int .u8 2, .int .u8 3] [1#8, 2#8, 3#8] 3 3 rfl (by omega) (by omega) a123)
  rw [show (w15.alloc (.cells #[Value.int .u8 2, .int .u8 3, .int .u8 4] 5)).heap.size = w15.heap.size + 1 from by simp] at HB
  refine (eq_holds (H2.out.get (.head _)).holds HB.out).mono ?_
  rw [decide_eq_true (rfl : [1#8, 2#8, 3#8] = [1#8, 2#8, 3#8])]
  rintro e wy ⟨rfl, rfl⟩
  go_wp2_with fail
  refine (st_len' H2.out 3 rfl).mono ?_
  rintro e wz ⟨rfl, rfl⟩
  go_wp2_with fail
  refine (st_durable' H2.out 3 rfl).mono ?_
  rintro e wz ⟨rfl, rfl⟩
  go_wp2_with fail
  go_ret
  exact ⟨rfl, H2.out.bel⟩
end Go.Proofs.Ytbblbeppiblndaa
