/-
  The walk of the law ImageApart: it returns true and writes nothing that was there. No condition.
-/
import Derived.Test.YtbblbeppiblndaaImgFill
namespace Go.Proofs.Ytbblbeppiblndaa
open Go.RowKit
set_option linter.unusedVariables false
theorem st_copied {B : Nat} {w0 w : World} {g : Nat} {fb : Option Nat} {l : List (BitVec 8)} {size dur : Nat} {vs : List (Value × List (BitVec 8))} (h : St B w0 w g fb l size dur vs) :
    Calls Try.prog 26 #[.pointer (some ⟨g, 0, none⟩)] w fun e w' => ∃ g' fb', e = .returned (.pointer (some ⟨g', 0, none⟩)) ∧ St w.heap.size w w' g' fb' l size dur [] :=
  (copy_img h.img).mono fun e w' ⟨g', fb', h1, h2, h3, h4, h5⟩ => ⟨g', fb', h1, h2, fun k hk => by
    rcases hk with rfl | hk
    · exact h3
    · exact h4 k hk, h5, h5.size, fun p hp => by cases hp⟩
set_option maxHeartbeats 4000000 in
theorem ImageApart_w (A : Option Addr) (n c : Nat) (what : BitVec 8) (w : World) (hm : MovesAt w w.heap.size A n) (hn : n ≤ c) (hc : c ≤ maxLen) :
    Calls Try.prog 7 #[.slice A n c, .int .u8 (n8 what)] w fun e w' => e = .returned (.bool true) ∧ Below w.heap.size w w' := by
  have HM := Lib.hid hm
  clear hm
  have hmk : ∀ W, (Instr.makeSlice 25 (.int .i64 300) (.int .i64 300)).run Try.prog W = .ok (.slice (some ⟨W.heap.size, 0, none⟩) 300 300) (W.alloc (.cells (u8s (zbytes 300)).toArray 5)) := fun W => make_bytes .i64 300 (by omega) W
  obtain ⟨hw1, hw2⟩ := n8_bd what
  go_enter Try.func7, Try.ntmps7
  go_wp2_with fail
  refine (filled_any HM.out hn hc).mono ?_
  rintro e w1 ⟨g, fb, l, dur, v, rfl, hs⟩
  have H1 := Lib.hid hs
  have hnum := hs.img.nums
  obtain ⟨A8, c8, rfl, hA8, hc8, hr8⟩ := own_slice (hs.get (.head _))
  unfold maxLen at hc8
  clear hs hr8
  go_wp2_with fail
  refine (st_copied H1.out).mono ?_
  rintro e w2 ⟨g2, fb2, rfl, hs⟩
  have H2 := Lib.hid hs
  have HV := Lib.hid (show Holds w2 (.slice A8 l.length c8) l from (H1.out.get (.head _)).holds.below hs.bel)
  clear hs
  go_wp2_with fail
  refine (has_any H2.out HV.out).mono ?_
  rintro e w3 ⟨rfl, hs, _⟩
  have H3 := Lib.hid hs
  clear hs
  go_wp2_with fail
  refine (st_durable H3.out).mono ?_
  rintro e w4 ⟨rfl, rfl⟩
  go_wp2_with fail
  refine (st_size H3.out).mono ?_
  rintro e w4 ⟨rfl, rfl⟩
  rcases (by omega : n8 what % 4 = 0 ∨ n8 what % 4 = 1 ∨ n8 what % 4 = 2 ∨ n8 what % 4 = 3) with hq | hq | hq | hq
  · go_wp2_with fail
    refine (st_erase H3.out).mono ?_
    rintro e w4 ⟨rfl, hs, _⟩
    have H4 := Lib.hid hs
    clear hs
    have H5 := Lib.hid (H1.out.below H4.out.bel)
    clear H4
    go_wp2_with fail
    refine (has_any H5.out (H5.out.get (.head _)).holds).mono ?_
    rintro e w6 ⟨rfl, hs, _⟩
    have H6 := Lib.hid hs
    clear hs
    go_wp2_with fail
    refine (st_durable H6.out).mono ?_
    rintro e w7 ⟨rfl, rfl⟩
    go_wp2_with fail
    refine (st_erase H6.out).mono ?_
    rintro e w8 ⟨rfl, hs, _⟩
    have H8 := Lib.hid hs
    clear hs
    go_wp2_with fail
    refine (has_any H8.out (holds_nil _)).mono ?_
    rintro e w9 ⟨rfl, hs, _⟩
    have H9 := Lib.hid hs
    clear hs
    go_wp2_with fail
    refine (st_durable H9.out).mono ?_
    rintro e w10 ⟨rfl, rfl⟩
    go_wp2_with fail
    refine (st_room H9.out).mono ?_
    rintro e w11 ⟨rfl, hs, _⟩
    have H11 := Lib.hid hs
    clear hs
    go_wp2_with fail
    refine (st_append (H11.out.alloc _) (holds_new _ _ _ (zbytes 300) 300 300 (zbytes_length _).symm (by omega) (by omega) rfl) (by rw [zbytes_length]; decide)).mono ?_
    rintro e w12 ⟨rfl, f3, hs, _, _⟩
    have H12 := Lib.hid hs
    clear hs
    go_wp2_with fail
    refine (works_any _).mono ?_
    rintro e w13 ⟨rfl, hb⟩
    go_wp2
    go_ret
    exact ⟨rfl, bt H12.out.bel hb⟩
  · go_wp2_with fail
    refine (st_sync H3.out).mono ?_
    rintro e w4 ⟨rfl, hs, _⟩
    have H4 := Lib.hid hs
    clear hs
    have H5 := Lib.hid (H1.out.below H4.out.bel)
    clear H4
    go_wp2_with fail
    refine (has_any H5.out (H5.out.get (.head _)).holds).mono ?_
    rintro e w6 ⟨rfl, hs, _⟩
    have H6 := Lib.hid hs
    clear hs
    go_wp2_with fail
    refine (st_durable H6.out).mono ?_
    rintro e w7 ⟨rfl, rfl⟩
    go_wp2_with fail
    refine (st_erase H6.out).mono ?_
    rintro e w8 ⟨rfl, hs, _⟩
    have H8 := Lib.hid hs
    clear hs
    go_wp2_with fail
    refine (has_any H8.out (holds_nil _)).mono ?_
    rintro e w9 ⟨rfl, hs, _⟩
    have H9 := Lib.hid hs
    clear hs
    go_wp2_with fail
    refine (st_durable H9.out).mono ?_
    rintro e w10 ⟨rfl, rfl⟩
    go_wp2_with fail
    refine (st_room H9.out).mono ?_
    rintro e w11 ⟨rfl, hs, _⟩
    have H11 := Lib.hid hs
    clear hs
    go_wp2_with fail
    refine (st_append (H11.out.alloc _) (holds_new _ _ _ (zbytes 300) 300 300 (zbytes_length _).symm (by omega) (by omega) rfl) (by rw [zbytes_length]; decide)).mono ?_
    rintro e w12 ⟨rfl, f3, hs, _, _⟩
    have H12 := Lib.hid hs
    clear hs
    go_wp2_with fail
    refine (works_any _).mono ?_
    rintro e w13 ⟨rfl, hb⟩
    go_wp2
    go_ret
    exact ⟨rfl, bt H12.out.bel hb⟩
  · go_wp2_with fail
    refine (st_crash H3.out 0 (by omega) (by omega) dur (by simp)).mono ?_
    rintro e w4 ⟨rfl, hs, _⟩
    have H4 := Lib.hid hs
    clear hs
    have H5 := Lib.hid (H1.out.below H4.out.bel)
    clear H4
    go_wp2_with fail
    refine (has_any H5.out (H5.out.get (.head _)).holds).mono ?_
    rintro e w6 ⟨rfl, hs, _⟩
    have H6 := Lib.hid hs
    clear hs
    go_wp2_with fail
    refine (st_durable H6.out).mono ?_
    rintro e w7 ⟨rfl, rfl⟩
    go_wp2_with fail
    refine (st_erase H6.out).mono ?_
    rintro e w8 ⟨rfl, hs, _⟩
    have H8 := Lib.hid hs
    clear hs
    go_wp2_with fail
    refine (has_any H8.out (holds_nil _)).mono ?_
    rintro e w9 ⟨rfl, hs, _⟩
    have H9 := Lib.hid hs
    clear hs
    go_wp2_with fail
    refine (st_durable H9.out).mono ?_
    rintro e w10 ⟨rfl, rfl⟩
    go_wp2_with fail
    refine (st_room H9.out).mono ?_
    rintro e w11 ⟨rfl, hs, _⟩
    have H11 := Lib.hid hs
    clear hs
    go_wp2_with fail
    refine (st_append (H11.out.alloc _) (holds_new _ _ _ (zbytes 300) 300 300 (zbytes_length _).symm (by omega) (by omega) rfl) (by rw [zbytes_length]; decide)).mono ?_
    rintro e w12 ⟨rfl, f3, hs, _, _⟩
    have H12 := Lib.hid hs
    clear hs
    go_wp2_with fail
    refine (works_any _).mono ?_
    rintro e w13 ⟨rfl, hb⟩
    go_wp2
    go_ret
    exact ⟨rfl, bt H12.out.bel hb⟩
  · go_wp2_with fail
    by_cases hfit : l.length + 3 ≤ 300
    · refine (st_append (H3.out.alloc _) (holds_new _ _ _ [1#8, 2#8, 3#8] 3 3 rfl (by omega) (by omega) a123) (by simp only [List.length_cons, List.length_nil]; omega)).mono ?_
      rintro e w4 ⟨rfl, f3, hs, _, _⟩
      have H4 := Lib.hid hs
      clear hs
      have H5 := Lib.hid (H1.out.below H4.out.bel)
      clear H4
      go_wp2_with fail
      refine (has_any H5.out (H5.out.get (.head _)).holds).mono ?_
      rintro e w6 ⟨rfl, hs, _⟩
      have H6 := Lib.hid hs
      clear hs
      go_wp2_with fail
      refine (st_durable H6.out).mono ?_
      rintro e w7 ⟨rfl, rfl⟩
      go_wp2_with fail
      refine (st_erase H6.out).mono ?_
      rintro e w8 ⟨rfl, hs, _⟩
      have H8 := Lib.hid hs
      clear hs
      go_wp2_with fail
      refine (has_any H8.out (holds_nil _)).mono ?_
      rintro e w9 ⟨rfl, hs, _⟩
      have H9 := Lib.hid hs
      clear hs
      go_wp2_with fail
      refine (st_durable H9.out).mono ?_
      rintro e w10 ⟨rfl, rfl⟩
      go_wp2_with fail
      refine (st_room H9.out).mono ?_
      rintro e w11 ⟨rfl, hs, _⟩
      have H11 := Lib.hid hs
      clear hs
      go_wp2_with fail
      refine (st_append (H11.out.alloc _) (holds_new _ _ _ (zbytes 300) 300 300 (zbytes_length _).symm (by omega) (by omega) rfl) (by rw [zbytes_length]; decide)).mono ?_
      rintro e w12 ⟨rfl, f3, hs, _, _⟩
      have H12 := Lib.hid hs
      clear hs
      go_wp2_with fail
      refine (works_any _).mono ?_
      rintro e w13 ⟨rfl, hb⟩
      go_wp2
      go_ret
      exact ⟨rfl, bt H12.out.bel hb⟩
    · refine (st_append_full (H3.out.alloc _) (holds_new _ _ _ [1#8, 2#8, 3#8] 3 3 rfl (by omega) (by omega) a123) (by simp only [List.length_cons, List.length_nil]; omega)).mono ?_
      rintro e w4 ⟨rfl, hs, _⟩
      have H4 := Lib.hid hs
      clear hs
      have H5 := Lib.hid (H1.out.below H4.out.bel)
      clear H4
      go_wp2_with fail
      refine (has_any H5.out (H5.out.get (.head _)).holds).mono ?_
      rintro e w6 ⟨rfl, hs, _⟩
      have H6 := Lib.hid hs
      clear hs
      go_wp2_with fail
      refine (st_durable H6.out).mono ?_
      rintro e w7 ⟨rfl, rfl⟩
      go_wp2_with fail
      refine (st_erase H6.out).mono ?_
      rintro e w8 ⟨rfl, hs, _⟩
      have H8 := Lib.hid hs
      clear hs
      go_wp2_with fail
      refine (has_any H8.out (holds_nil _)).mono ?_
      rintro e w9 ⟨rfl, hs, _⟩
      have H9 := Lib.hid hs
      clear hs
      go_wp2_with fail
      refine (st_durable H9.out).mono ?_
      rintro e w10 ⟨rfl, rfl⟩
      go_wp2_with fail
      refine (st_room H9.out).mono ?_
      rintro e w11 ⟨rfl, hs, _⟩
      have H11 := Lib.hid hs
      clear hs
      go_wp2_with fail
      refine (st_append (H11.out.alloc _) (holds_new _ _ _ (zbytes 300) 300 300 (zbytes_length _).symm (by omega) (by omega) rfl) (by rw [zbytes_length]; decide)).mono ?_
      rintro e w12 ⟨rfl, f3, hs, _, _⟩
      have H12 := Lib.hid hs
      clear hs
      go_wp2_with fail
      refine (works_any _).mono ?_
      rintro e w13 ⟨rfl, hb⟩
      go_wp2
      go_ret
      exact ⟨rfl, bt H12.out.bel hb⟩
theorem ImageApart_walk (v0 v1 : Value) (w : World) (h0 : ArgIn Try.prog w 22 v0) (h1 : ArgIn Try.prog w 5 v1) :
    Calls Try.prog 7 #[v0, v1] w fun e w' => e = .returned (.bool true) ∧ Below w.heap.size w w' := by
  obtain ⟨A, n, c, rfl, hn, hc, hm⟩ := moves_arg h0
  obtain ⟨a, rfl, w2⟩ := h1.int Try.underlying5
  obtain ⟨b, rfl⟩ := u8_of_wf w2
  exact ImageApart_w A n c b w hm hn hc
end Go.Proofs.Ytbblbeppiblndaa
