/-
  The walks of the document's image (drumlinref09.Image): Read, Append, Crash, Copy. Conditions: the image is as the methods leave it.
-/
import Derived.Test.YtbblbeppiblndaaRefImg
namespace Go.Proofs.Ytbblbeppiblndaa
open Go.RowKit
set_option linter.unusedVariables false
theorem RImg.reads {w : World} {g : Nat} {A : Option Addr} {n c : Nat} {l : List (BitVec 8)} {size dur : Nat} (h : RImg w g A n c l size dur) : Reads w w.heap.size 1 A n (u8s l) := Reads.of_own h.own
theorem made0 (w : World) : (w.alloc (.cells #[] 5)).ownsRow w.heap.size 5 1 (.slice (some ⟨w.heap.size, 0, none⟩) 0 0) 0 [] := World.ownsRow_made w #[] 0 (Nat.le_refl _) (by unfold maxLen; omega) (by simp)
set_option maxHeartbeats 1000000 in
theorem read_ref {w : World} {g : Nat} {fb : Option Nat} {l : List (BitVec 8)} {size dur : Nat} (h : IsRef w g fb l size dur) (off n : Nat) (hin : off + n ≤ l.length) :
    Calls Try.prog 39 #[.pointer (some ⟨g, 0, none⟩), .int .i64 (off : Int), .int .i64 (n : Int)] w fun e w' => ∃ v, e = .returned (.tuple #[v, .int .i64 0]) ∧ w'.ownsRow w.heap.size 5 1 v n (u8s ((l.drop off).take n)) ∧ Below w.heap.size w w' := by
  obtain ⟨A, k, c, h, rfl⟩ := h
  have c0 : w.cell? ⟨g, 0, none⟩ = some (.slice A k c) := by rw [h.blk.cell]; rfl
  have H := Lib.hid h
  have hl := h.len
  have h2 := h.h2
  have h4 := h.h4
  obtain ⟨hc1, hc2⟩ := h.cap
  clear h
  subst hl
  have d1 : decide ((off : Int) < 0) = false := by simp
  have d2 : decide ((n : Int) < 0) = false := by simp
  have d3 : decide ((l.length : Int) < (n : Int)) = false := by simp; omega
  have d4 : decide ((l.length : Int) - (n : Int) < (off : Int)) = false := by simp; omega
  have hgb : g < w.heap.size := H.out.blk.lt
  obtain ⟨i0, hi0, hz0, hz1, hz2⟩ := info_parts u8_info
  have HO := Lib.hid (made0 w)
  rcases Nat.eq_zero_or_pos n with hn0 | hpos
  · subst hn0
    have HR : Hid (∀ A2, Reads (w.alloc (.cells #[] 5)) w.heap.size 1 A2 0 (u8s [])) := fun A2 => ⟨rfl, fun h => absurd h (by omega)⟩
    rw [List.take_zero]
    cases A with
    | none =>
      go_enter Try.func39, Try.ntmps39
      go_wp2_with (first
        | (go_at_call 37; refine (valid_ref H.out).mono ?_; rintro e w' ⟨rfl, rfl⟩)
        | (at_builtin
           refine wpList_append_g _ rfl (.tmp 37) (.tmp 46) _ rfl w.heap.size 5 i0 _ 1 1 Try.underlying25 hi0 hz0 hz1 hz2 rfl (by omega) (.slice (some ⟨w.heap.size, 0, none⟩) 0 0) 0 [] rfl
             HO.out w.heap.size _ 0 _ (u8s []) rfl (HR.out _) (u8s_one _) (by simp only [maxLen]; omega) (by omega) (by simp) ?_
           intro v1 w4 hown1 hg1 hat1
           have HO1 := Lib.hid hown1
           have HB4 := Lib.hid (((Below.refl w.heap.size w).alloc (Nat.le_refl _) (.cells #[] 5)).grown hg1 (by simp) (by intro q hq; simp [Value.ownBlock] at hq; omega))
           clear hown1 hg1 hat1))
      all_goals
        go_ret2
        exact ⟨_, rfl, by simpa using HO1.out, HB4.out⟩
    | some a =>
      go_enter Try.func39, Try.ntmps39
      go_wp2_with (first
        | (go_at_call 37; refine (valid_ref H.out).mono ?_; rintro e w' ⟨rfl, rfl⟩)
        | (at_builtin
           refine wpList_append_g _ rfl (.tmp 37) (.tmp 46) _ rfl w.heap.size 5 i0 _ 1 1 Try.underlying25 hi0 hz0 hz1 hz2 rfl (by omega) (.slice (some ⟨w.heap.size, 0, none⟩) 0 0) 0 [] rfl
             HO.out w.heap.size _ 0 _ (u8s []) rfl (HR.out _) (u8s_one _) (by simp only [maxLen]; omega) (by omega) (by simp) ?_
           intro v1 w4 hown1 hg1 hat1
           have HO1 := Lib.hid hown1
           have HB4 := Lib.hid (((Below.refl w.heap.size w).alloc (Nat.le_refl _) (.cells #[] 5)).grown hg1 (by simp) (by intro q hq; simp [Value.ownBlock] at hq; omega))
           clear hown1 hg1 hat1))
      all_goals
        go_ret2
        exact ⟨_, rfl, by simpa using HO1.out, HB4.out⟩
  · have hn0 : ¬ n = 0 := by omega
    have hc0 : ¬ c = off := by omega
    have hr : Reads w w.heap.size 1 (Option.map (fun x => x.add off) A) n (u8s ((l.drop off).take n)) := by
      have h1 := H.out.reads.cut (k := off) (cap := l.length + off + 1) (by omega) (by omega)
      rw [if_neg (by omega), Nat.mul_one, ← u8s_drop] at h1
      exact h1.take (by omega)
    cases A with
    | none => obtain ⟨ad, e, _⟩ := hr.2 hpos; cases e
    | some a =>
      obtain ⟨ll, hll⟩ : ∃ ll, ll = (l.drop off).take n := ⟨_, rfl⟩
      rw [← hll] at hr ⊢
      have HR : Hid (Reads (w.alloc (.cells #[] 5)) w.heap.size 1 (some (a.add off)) n (u8s ll)) := hr.alloc (Nat.le_refl _) _
      clear hll
      clear hr
      go_enter Try.func39, Try.ntmps39
      go_wp2_with (first
        | (go_at_call 37; refine (valid_ref H.out).mono ?_; rintro e w' ⟨rfl, rfl⟩)
        | (at_builtin
           refine wpList_append_g _ rfl (.tmp 37) (.tmp 46) _ rfl w.heap.size 5 i0 _ 1 1 Try.underlying25 hi0 hz0 hz1 hz2 rfl (by omega) (.slice (some ⟨w.heap.size, 0, none⟩) 0 0) 0 [] rfl
             HO.out w.heap.size (some (a.add off)) n (c - off) (u8s ll) (show Value.slice (some (a.add off)) (off + n - off) (c - off) = _ by rw [Nat.add_sub_cancel_left]) HR.out (u8s_one _) (by simp only [maxLen]; omega) (by omega) (by simp) ?_
           intro v1 w4 hown1 hg1 hat1
           have HO1 := Lib.hid hown1
           have HB4 := Lib.hid (((Below.refl w.heap.size w).alloc (Nat.le_refl _) (.cells #[] 5)).grown hg1 (by simp) (by intro q hq; simp [Value.ownBlock] at hq; omega))
           clear hown1 hg1 hat1))
      go_ret2
      exact ⟨_, rfl, by simpa using HO1.out, HB4.out⟩
set_option maxHeartbeats 1000000 in
theorem read_ref_bad {w : World} {g : Nat} {fb : Option Nat} {l : List (BitVec 8)} {size dur : Nat} (h : IsRef w g fb l size dur) (off n : Int) (hbad : badRead l.length off n) :
    Calls Try.prog 39 #[.pointer (some ⟨g, 0, none⟩), .int .i64 off, .int .i64 n] w fun e w' => e = .returned (.tuple #[.slice none 0 0, .int .i64 3]) ∧ w = w' := by
  obtain ⟨A, k, c, h, rfl⟩ := h
  have c0 : w.cell? ⟨g, 0, none⟩ = some (.slice A k c) := by rw [h.blk.cell]; rfl
  have H := Lib.hid h
  have hl := h.len
  have h2 := h.h2
  have h4 := h.h4
  clear h
  subst hl
  rcases hbad with h | ⟨h, h'⟩ | ⟨h, h', h''⟩ | ⟨h, h', h'', h3⟩
  · have d1 : decide (off < 0) = true := by simpa using h
    go_enter Try.func39, Try.ntmps39
    go_wp2_with (go_at_call 37; refine (valid_ref H.out).mono ?_; rintro e w' ⟨rfl, rfl⟩)
    go_ret2
    exact ⟨rfl, rfl⟩
  · have d1 : decide (off < 0) = false := by simp; omega
    have d2 : decide (n < 0) = true := by simpa using h'
    go_enter Try.func39, Try.ntmps39
    go_wp2_with (go_at_call 37; refine (valid_ref H.out).mono ?_; rintro e w' ⟨rfl, rfl⟩)
    go_ret2
    exact ⟨rfl, rfl⟩
  · have d1 : decide (off < 0) = false := by simp; omega
    have d2 : decide (n < 0) = false := by simp; omega
    have d3 : decide ((l.length : Int) < n) = true := by simpa using h''
    go_enter Try.func39, Try.ntmps39
    go_wp2_with (go_at_call 37; refine (valid_ref H.out).mono ?_; rintro e w' ⟨rfl, rfl⟩)
    go_ret2
    exact ⟨rfl, rfl⟩
  · have d1 : decide (off < 0) = false := by simp; omega
    have d2 : decide (n < 0) = false := by simp; omega
    have d3 : decide ((l.length : Int) < n) = false := by simp; omega
    have d4 : decide ((l.length : Int) - n < off) = true := by simpa using h3
    go_enter Try.func39, Try.ntmps39
    go_wp2_with (go_at_call 37; refine (valid_ref H.out).mono ?_; rintro e w' ⟨rfl, rfl⟩)
    go_ret2
    exact ⟨rfl, rfl⟩
set_option maxHeartbeats 400000 in
theorem append_ref_full {w : World} {g : Nat} {fb : Option Nat} {l : List (BitVec 8)} {size dur : Nat} (h : IsRef w g fb l size dur) (A2 : Option Addr) (n2 c2 : Nat) (hf : size < l.length + n2) (hm : n2 ≤ maxLen) :
    Calls Try.prog 20 #[.pointer (some ⟨g, 0, none⟩), .slice A2 n2 c2] w fun e w' => e = .returned (.int .i64 4) ∧ ∃ q, w' = w.drewN q := by
  unfold maxLen at hm
  have h0 := Lib.hid h
  have hnum := h.nums
  obtain ⟨A, n, c, h, rfl⟩ := h
  have H := Lib.hid h
  clear h
  go_enter Try.func20, Try.ntmps20
  go_wp2_with (go_at_call 37; refine (valid_ref H.out).mono ?_; rintro e w' ⟨rfl, rfl⟩)
  refine (room_ref h0.out).mono ?_
  rintro e w1 ⟨rfl, q, rfl⟩
  go_wp2
  go_ret
  exact ⟨rfl, _, rfl⟩
end Go.Proofs.Ytbblbeppiblndaa
