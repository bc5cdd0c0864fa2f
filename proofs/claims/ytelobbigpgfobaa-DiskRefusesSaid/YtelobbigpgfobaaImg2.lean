/-
  The walks of the image's methods that write: Append, Sync, Erase, Crash, New. Conditions: the image is as the methods leave it.
-/
import Derived.Test.YtelobbigpgfobaaImg
import Derived.Deep.RegionHeld3
import Derived.StillTailTactics
namespace Go.Proofs.Ytelobbigpgfobaa
open Go.RowKit
set_option linter.unusedVariables false
theorem u8_info : (Try.prog.info? 5).map (fun i => (i.zero, i.size, i.bytes)) = some (some (.int .u8 0), 1, 1) := by kernel_rfl
theorem Blk.frozen' {w : World} {g : Nat} {t : TypeId} {cs : Array Value} (h : Blk w g t cs) (i : Nat) : w.frozen? ⟨g, i, none⟩ = false := h.frozen i
theorem foot_self (g : Nat) (fb : Option Nat) : foot g fb g := .inl rfl
set_option maxHeartbeats 400000 in
theorem sync_img {w : World} {g : Nat} {fb : Option Nat} {l : List (BitVec 8)} {size dur : Nat} (h : IsImg w g fb l size dur) :
    Calls Try.prog 45 #[.pointer (some ⟨g, 0, none⟩)] w fun e w' => e = .returned (.tuple #[]) ∧ IsImg w' g fb l size l.length ∧ Chg (foot g fb) w w' := by
  obtain ⟨A, n, c, h, rfl⟩ := h
  have c0 : w.cell? ⟨g, 0, none⟩ = some (.slice A n c) := by rw [h.blk.cell]; rfl
  have c2 : w.cell? ⟨g, 2, none⟩ = some (.int .i64 (dur : Int)) := by rw [h.blk.cell]; rfl
  have f2 : w.frozen? ⟨g, 2, none⟩ = false := h.blk.frozen 2
  have H := Lib.hid h
  clear h
  go_enter Try.func45, Try.ntmps45
  go_wp2_with (go_at_call 65; refine (made_img H.out).mono ?_; rintro e w' ⟨rfl, rfl⟩)
  go_end0
  refine ⟨rfl, ⟨A, n, c, ⟨?_, own_chg H.out.own (F := foot g none) ((Chg.refl _ w).setCell (.inl (.inl rfl)) _) (fun k hk e => ?_), H.out.apart, ?_, H.out.h2, H.out.h3, H.out.h4⟩, rfl⟩, (Chg.refl _ w).setCell (.inl (.inl rfl)) _⟩
  · have := H.out.blk.set_ 2 (.int .i64 (n : Int))
    rw [← H.out.len]; exact this
  · rcases e with rfl | e
    · exact H.out.apart hk
    · cases e
  · rw [← H.out.len]; exact Nat.le_refl _
set_option maxHeartbeats 400000 in
theorem erase_img {w : World} {g : Nat} {fb : Option Nat} {l : List (BitVec 8)} {size dur : Nat} (h : IsImg w g fb l size dur) :
    Calls Try.prog 47 #[.pointer (some ⟨g, 0, none⟩)] w fun e w' => e = .returned (.tuple #[]) ∧ IsImg w' g none [] size 0 ∧ Chg (foot g fb) w w' := by
  obtain ⟨A, n, c, h, rfl⟩ := h
  have c0 : w.cell? ⟨g, 0, none⟩ = some (.slice A n c) := by rw [h.blk.cell]; rfl
  have c2 : w.cell? ⟨g, 2, none⟩ = some (.int .i64 (dur : Int)) := by rw [h.blk.cell]; rfl
  have f0 : w.frozen? ⟨g, 0, none⟩ = false := h.blk.frozen 0
  have f2 : w.frozen? ⟨g, 2, none⟩ = false := h.blk.frozen 2
  have H := Lib.hid h
  clear h
  go_enter Try.func47, Try.ntmps47
  go_wp2_with (go_at_call 65; refine (made_img H.out).mono ?_; rintro e w' ⟨rfl, rfl⟩)
  go_end0
  refine ⟨rfl, ⟨none, 0, 0, ⟨?_, World.ownsRow_nil _ _ _ _, by simp [Value.ownBlock], Nat.le_refl _, Nat.zero_le _, H.out.h3, H.out.h4⟩, rfl⟩, ((Chg.refl _ w).setCell (.inl (.inl rfl)) _).setCell (.inl (.inl rfl)) _⟩
  exact (H.out.blk.set_ 0 (.slice none 0 0)).set_ 2 (.int .i64 0)
theorem img_info : (Try.prog.info? 94).map (·.size) = some 3 := by kernel_rfl
set_option maxHeartbeats 400000 in
theorem new_img (size : Nat) (w : World) (h1 : 1 ≤ size) (h2 : size ≤ 8192) :
    Calls Try.prog 48 #[.int .i64 (size : Int)] w fun e w' => ∃ g, e = .returned (.tuple #[.pointer (some ⟨g, 0, none⟩), .int .i64 0]) ∧ IsImg w' g none [] size 0 ∧ w.heap.size ≤ g ∧ Below w.heap.size w w' := by
  have d1 : decide ((size : Int) < 1) = false := by simp; omega
  have d2 : decide (8192 < (size : Int)) = false := by simp; omega
  go_enter Try.func48, Try.ntmps48
  go_wp2
  go_ret2
  exact ⟨_, rfl, ⟨none, 0, 0, ⟨Blk.new w _ _, World.ownsRow_nil _ _ _ _, by simp [Value.ownBlock], Nat.le_refl _, Nat.zero_le _, h1, h2⟩, rfl⟩, Nat.le_refl _, by go_grown⟩
theorem new_img_err (size : Int) (w : World) (h : size < 1 ∨ (1 ≤ size ∧ 8192 < size)) :
    Calls Try.prog 48 #[.int .i64 size] w fun e w' => e = .returned (.tuple #[.pointer none, .int .i64 2]) ∧ w = w' := by
  rcases h with h | ⟨h, h'⟩
  · have d1 : decide (size < 1) = true := by simpa using h
    go_enter Try.func48, Try.ntmps48
    go_wp2
    go_ret2
    exact ⟨rfl, rfl⟩
  · have d1 : decide (size < 1) = false := by simp; omega
    have d2 : decide (8192 < size) = true := by simpa using h'
    go_enter Try.func48, Try.ntmps48
    go_wp2
    go_ret2
    exact ⟨rfl, rfl⟩
set_option maxHeartbeats 400000 in
theorem append_img_full {w : World} {g : Nat} {fb : Option Nat} {l : List (BitVec 8)} {size dur : Nat} (h : IsImg w g fb l size dur) (A2 : Option Addr) (n2 c2 : Nat) (hf : size < l.length + n2) (hm : n2 ≤ maxLen) :
    Calls Try.prog 43 #[.pointer (some ⟨g, 0, none⟩), .slice A2 n2 c2] w fun e w' => e = .returned (.int .i64 4) ∧ ∃ q, w' = w.drewN q := by
  unfold maxLen at hm
  obtain ⟨A, n, c, h, rfl⟩ := h
  have c0 : w.cell? ⟨g, 0, none⟩ = some (.slice A n c) := by rw [h.blk.cell]; rfl
  have c1 : w.cell? ⟨g, 1, none⟩ = some (.int .i64 (size : Int)) := by rw [h.blk.cell]; rfl
  have H := Lib.hid h
  have hl := h.len
  have h2 := h.h2
  have h4 := h.h4
  clear h
  subst hl
  go_enter Try.func43, Try.ntmps43
  go_wp2_with (go_at_call 65; refine (made_img H.out).mono ?_; rintro e w' ⟨rfl, rfl⟩)
  go_quiet (fail)
  go_wp2
  go_ret
  exact ⟨rfl, _, rfl⟩
set_option maxHeartbeats 800000 in
theorem append_img {w : World} {g : Nat} {fb : Option Nat} {l : List (BitVec 8)} {size dur : Nat} (h : IsImg w g fb l size dur) (A2 : Option Addr) (n2 c2 B : Nat) (b : List (BitVec 8)) (hr : Reads w B 1 A2 n2 (u8s b)) (hf : l.length + n2 ≤ size) :
    Calls Try.prog 43 #[.pointer (some ⟨g, 0, none⟩), .slice A2 n2 c2] w fun e w' => e = .returned (.int .i64 0) ∧ ∃ fb', IsImg w' g fb' (l ++ b) size dur ∧ Chg (foot g fb) w w' ∧ (fb' = fb ∨ ∃ k, fb' = some k ∧ w.heap.size ≤ k) := by
  obtain ⟨A, n, c, h, rfl⟩ := h
  have c0 : w.cell? ⟨g, 0, none⟩ = some (.slice A n c) := by rw [h.blk.cell]; rfl
  have c1 : w.cell? ⟨g, 1, none⟩ = some (.int .i64 (size : Int)) := by rw [h.blk.cell]; rfl
  have H := Lib.hid h
  have hl := h.len
  have h2 := h.h2
  have h4 := h.h4
  have HR := Lib.hid hr
  clear h hr
  subst hl
  obtain ⟨i0, hi0, hz0, hz1, hz2⟩ := info_parts u8_info
  go_enter Try.func43, Try.ntmps43
  go_wp2_with (go_at_call 65; refine (made_img H.out).mono ?_; rintro e w' ⟨rfl, rfl⟩)
  go_quiet (fail)
  go_wp2_with (at_builtin
               refine wpList_append_g _ rfl (.tmp 27) (.tmp 28) _ rfl 0 5 i0 _ 1 1 Try.underlying36 hi0 hz0 hz1 hz2 rfl (by omega) (.slice A l.length c) l.length (u8s l) rfl
                 (own_chg H.out.own (F := fun _ => False) ((Chg.refl _ w).drewN nq) (fun _ _ h => h)) B A2 n2 c2 (u8s b) rfl (HR.out.drewN nq) (u8s_one b) (by simp only [maxLen]; omega) (by omega) (Nat.zero_le _) ?_
               intro v1 w4 hown1 hg1 hat1
               obtain ⟨A3, c3, rfl, _, _, _⟩ := own_slice hown1
               have hlt := H.out.blk.lt
               have d0 : w4.cell? ⟨g, 0, none⟩ = some (.slice A l.length c) := by rw [hg1.cell_far _ hlt (fun e => H.out.apart e.symm)]; exact c0
               have f0 : w4.frozen? ⟨g, 0, none⟩ = false := by rw [hg1.frozen_far _ hlt (fun e => H.out.apart e.symm)]; exact H.out.blk.frozen 0
               have HO := Lib.hid hown1
               have HG := Lib.hid hg1
               have HAT := Lib.hid hat1
               clear hown1 hg1 hat1)
  go_ret
  have hnb : (Value.slice A3 (l.length + n2) c3).ownBlock ≠ some g := by
    rcases HAT.out with e | e
    · rw [e]; exact H.out.apart
    · rw [e]; intro h; have := H.out.blk.lt; injection h with h; have h' : w.heap.size = g := h; omega
  have hch : Chg (foot g (Value.slice A l.length c).ownBlock) w w4 := ((Chg.refl _ w).drewN nq).grown HG.out (fun q hq => .inl (.inr hq))
  refine ⟨rfl, _, ⟨A3, l.length + n2, c3, ⟨?_, ?_, hnb, by have := H.out.h1; omega, hf, H.out.h3, H.out.h4⟩, rfl⟩, hch.setCell (.inl (.inl rfl)) _, ?_⟩
  · have hb4 : Blk w4 g 94 #[.slice A l.length c, .int .i64 (size : Int), .int .i64 (dur : Int)] :=
      (HG.out.block g (by exact H.out.blk.lt) (fun e => H.out.apart e.symm)).trans H.out.blk
    exact hb4.set_ 0 _
  · refine own_chg (F := fun k => k = g) ?_ ((Chg.refl (fun k => k = g) w4).setCell (p := ⟨g, 0, none⟩) (.inl rfl) _) (fun k hk e => hnb (by rw [hk, e]))
    rw [← u8s_append]; exact HO.out
  · rcases HAT.out with e | e
    · exact .inl e
    · exact .inr ⟨_, e, Nat.le_refl _⟩
end Go.Proofs.Ytelobbigpgfobaa
