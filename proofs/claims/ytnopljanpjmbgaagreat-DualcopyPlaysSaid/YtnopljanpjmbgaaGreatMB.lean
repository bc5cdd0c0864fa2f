/-
  The walks of the image's methods (image.Image): what each call does to an image in memory; The walks of the image's methods that write: Append, Sync, Erase, Crash, New; The walks of the image's Crash, Read, Copy; slices.Clone and bytes.Equal at bytes; The walks of the image's Read and Copy, and of bytes.Equal at bytes; The walks of the image's methods at errors, and at an image that is nil or was not made by New; An image of a call's own, together with byte slices of the call's own that stay apart from it: the image's methods once more, in that form; Move.data.
-/
import Derived.Test.YtnopljanpjmbgaaGreatProg
import Derived.Test.YtnopljanpjmbgaaGreatMA
import Derived.Deep.QuietTactic
import Derived.BigQuiet
import Derived.BigRegion
import Derived.Deep.RegionHeld3
import Derived.StillTailTactics
import Derived.Laws.BytesString
import Derived.Laws.Strings
namespace Go.Proofs.YtnopljanpjmbgaaGreat
open Go.RowKit
set_option linter.unusedVariables false
/-- An image in memory: its bytes, its size, how many bytes are durable. -/
structure Img (w : World) (g : Nat) (A : Option Addr) (n c : Nat) (l : List (BitVec 8)) (size dur : Nat) : Prop where
  blk : Blk w g 161 #[.slice A n c, .int .i64 (size : Int), .int .i64 (dur : Int)]
  own : w.ownsRow 0 5 1 (.slice A n c) n (u8s l)
  apart : (Value.slice A n c).ownBlock ≠ some g
  h1 : dur ≤ n
  h2 : n ≤ size
  h3 : 1 ≤ size
  h4 : size ≤ 8192
theorem Img.len {w : World} {g : Nat} {A : Option Addr} {n c : Nat} {l : List (BitVec 8)} {size dur : Nat} (h : Img w g A n c l size dur) : n = l.length := by
  have := h.own.1
  rw [u8s_length] at this; omega
theorem Img.cap {w : World} {g : Nat} {A : Option Addr} {n c : Nat} {l : List (BitVec 8)} {size dur : Nat} (h : Img w g A n c l size dur) : n ≤ c ∧ c ≤ 9223372036854775807 := by
  obtain ⟨A', c', e, h1, h2, _⟩ := own_slice h.own
  injection e with e1 e2 e3
  subst e3
  exact ⟨h1, by simpa [maxLen] using h2⟩
/-- The blocks of an image. -/
def foot (g : Nat) (fb : Option Nat) : Nat → Prop := fun k => k = g ∨ fb = some k
def IsImg (w : World) (g : Nat) (fb : Option Nat) (l : List (BitVec 8)) (size dur : Nat) : Prop := ∃ A n c, Img w g A n c l size dur ∧ fb = (Value.slice A n c).ownBlock
theorem Img.chg {F : Nat → Prop} {w w' : World} {g : Nat} {A : Option Addr} {n c : Nat} {l : List (BitVec 8)} {size dur : Nat} (h : Img w g A n c l size dur) (hc : Chg F w w') (hg : ¬ F g)
    (hf : ∀ k, (Value.slice A n c).ownBlock = some k → ¬ F k) : Img w' g A n c l size dur := ⟨h.blk.chg hc hg, own_chg h.own hc hf, h.apart, h.h1, h.h2, h.h3, h.h4⟩
theorem IsImg.chg {F : Nat → Prop} {w w' : World} {g : Nat} {fb : Option Nat} {l : List (BitVec 8)} {size dur : Nat} (h : IsImg w g fb l size dur) (hc : Chg F w w') (hd : ∀ k, foot g fb k → ¬ F k) : IsImg w' g fb l size dur := by
  obtain ⟨A, n, c, hi, rfl⟩ := h
  exact ⟨A, n, c, hi.chg hc (hd _ (.inl rfl)) (fun k hk => hd _ (.inr hk)), rfl⟩
theorem IsImg.drewN {w : World} {g : Nat} {fb : Option Nat} {l : List (BitVec 8)} {size dur : Nat} (h : IsImg w g fb l size dur) (q : Nat) : IsImg (w.drewN q) g fb l size dur :=
  h.chg (F := fun _ => False) ((Chg.refl _ w).drewN q) (fun _ _ h => h)
theorem IsImg.drew {w : World} {g : Nat} {fb : Option Nat} {l : List (BitVec 8)} {size dur : Nat} (h : IsImg w g fb l size dur) : IsImg w.drew g fb l size dur :=
  h.chg (F := fun _ => False) (Chg.refl _ w).drew (fun _ _ h => h)
theorem IsImg.lt {w : World} {g : Nat} {fb : Option Nat} {l : List (BitVec 8)} {size dur : Nat} (h : IsImg w g fb l size dur) : ∀ k, foot g fb k → k < w.heap.size := by
  obtain ⟨A, n, c, hi, rfl⟩ := h
  intro k hk
  rcases hk with rfl | hk
  · exact hi.blk.lt
  · exact (hi.own.lt k hk).2
theorem IsImg.nums {w : World} {g : Nat} {fb : Option Nat} {l : List (BitVec 8)} {size dur : Nat} (h : IsImg w g fb l size dur) : dur ≤ l.length ∧ l.length ≤ size ∧ 1 ≤ size ∧ size ≤ 8192 := by
  obtain ⟨A, n, c, hi, rfl⟩ := h
  have := hi.len
  exact ⟨by have := hi.h1; omega, by have := hi.h2; omega, hi.h3, hi.h4⟩

set_option maxHeartbeats 400000 in
theorem made_img {w : World} {g : Nat} {A : Option Addr} {n c : Nat} {l : List (BitVec 8)} {size dur : Nat} (h : Img w g A n c l size dur) :
    Calls Tryz.prog 128 #[.pointer (some ⟨g, 0, none⟩)] w fun e w' => e = .returned (.bool true) ∧ w = w' := by
  have c1 : w.cell? ⟨g, 1, none⟩ = some (.int .i64 (size : Int)) := by rw [h.blk.cell]; rfl
  have hs := h.h3
  have hs4 := h.h4
  clear h
  go_enter Tryz.func128, Tryz.ntmps128
  go_wp2
  go_ret
  exact ⟨by simp; omega, rfl⟩
set_option maxHeartbeats 400000 in
theorem len_img {w : World} {g : Nat} {fb : Option Nat} {l : List (BitVec 8)} {size dur : Nat} (h : IsImg w g fb l size dur) :
    Calls Tryz.prog 133 #[.pointer (some ⟨g, 0, none⟩)] w fun e w' => e = .returned (.int .i64 (l.length : Int)) ∧ w = w' := by
  obtain ⟨A, n, c, h, rfl⟩ := h
  have c1 : w.cell? ⟨g, 0, none⟩ = some (.slice A n c) := by rw [h.blk.cell]; rfl
  have H := Lib.hid h
  have hl := h.len
  clear h
  subst hl
  go_enter Tryz.func133, Tryz.ntmps133
  go_wp2_with (go_at_call 128; refine (made_img H.out).mono ?_; rintro e w' ⟨rfl, rfl⟩)
  go_ret
  exact ⟨rfl, rfl⟩
set_option maxHeartbeats 400000 in
theorem durable_img {w : World} {g : Nat} {fb : Option Nat} {l : List (BitVec 8)} {size dur : Nat} (h : IsImg w g fb l size dur) :
    Calls Tryz.prog 95 #[.pointer (some ⟨g, 0, none⟩)] w fun e w' => e = .returned (.int .i64 (dur : Int)) ∧ w = w' := by
  obtain ⟨A, n, c, h, rfl⟩ := h
  have c1 : w.cell? ⟨g, 2, none⟩ = some (.int .i64 (dur : Int)) := by rw [h.blk.cell]; rfl
  have H := Lib.hid h
  clear h
  go_enter Tryz.func95, Tryz.ntmps95
  go_wp2_with (go_at_call 128; refine (made_img H.out).mono ?_; rintro e w' ⟨rfl, rfl⟩)
  go_ret
  exact ⟨rfl, rfl⟩
set_option maxHeartbeats 400000 in
theorem room_img {w : World} {g : Nat} {fb : Option Nat} {l : List (BitVec 8)} {size dur : Nat} (h : IsImg w g fb l size dur) :
    Calls Tryz.prog 84 #[.pointer (some ⟨g, 0, none⟩)] w fun e w' => e = .returned (.int .i64 ((size : Int) - (l.length : Int))) ∧ ∃ q, w' = w.drewN q := by
  obtain ⟨A, n, c, h, rfl⟩ := h
  have c0 : w.cell? ⟨g, 0, none⟩ = some (.slice A n c) := by rw [h.blk.cell]; rfl
  have c1 : w.cell? ⟨g, 1, none⟩ = some (.int .i64 (size : Int)) := by rw [h.blk.cell]; rfl
  have H := Lib.hid h
  have hl := h.len
  have h2 := h.h2
  have h4 := h.h4
  clear h
  subst hl
  go_enter Tryz.func84, Tryz.ntmps84
  go_wp2_with (go_at_call 128; refine (made_img H.out).mono ?_; rintro e w' ⟨rfl, rfl⟩)
  go_quiet (fail)
  go_wp2
  go_ret
  exact ⟨rfl, _, rfl⟩
end Go.Proofs.YtnopljanpjmbgaaGreat
namespace Go.Proofs.YtnopljanpjmbgaaGreat
open Go.RowKit
set_option linter.unusedVariables false
theorem u8_info : (Tryz.prog.info? 5).map (fun i => (i.zero, i.size, i.bytes)) = some (some (.int .u8 0), 1, 1) := by kernel_rfl
theorem Blk.frozen' {w : World} {g : Nat} {t : TypeId} {cs : Array Value} (h : Blk w g t cs) (i : Nat) : w.frozen? ⟨g, i, none⟩ = false := h.frozen i
theorem foot_self (g : Nat) (fb : Option Nat) : foot g fb g := .inl rfl
set_option maxHeartbeats 400000 in
theorem sync_img {w : World} {g : Nat} {fb : Option Nat} {l : List (BitVec 8)} {size dur : Nat} (h : IsImg w g fb l size dur) :
    Calls Tryz.prog 140 #[.pointer (some ⟨g, 0, none⟩)] w fun e w' => e = .returned (.tuple #[]) ∧ IsImg w' g fb l size l.length ∧ Chg (foot g fb) w w' := by
  obtain ⟨A, n, c, h, rfl⟩ := h
  have c0 : w.cell? ⟨g, 0, none⟩ = some (.slice A n c) := by rw [h.blk.cell]; rfl
  have c2 : w.cell? ⟨g, 2, none⟩ = some (.int .i64 (dur : Int)) := by rw [h.blk.cell]; rfl
  have f2 : w.frozen? ⟨g, 2, none⟩ = false := h.blk.frozen 2
  have H := Lib.hid h
  clear h
  go_enter Tryz.func140, Tryz.ntmps140
  go_wp2_with (go_at_call 128; refine (made_img H.out).mono ?_; rintro e w' ⟨rfl, rfl⟩)
  go_end0
  refine ⟨rfl, ⟨A, n, c, ⟨?_, own_chg H.out.own (F := foot g none) ((Chg.refl _ w).setCell (.inl (.inl rfl)) _) (fun k hk e => ?_), H.out.apart, ?_, H.out.h2, H.out.h3, H.out.h4⟩, rfl⟩, (Chg.refl _ w).setCell (.inl (.inl rfl)) _⟩
  · have := H.out.blk.set_ 2 (.int .i64 (n : Int))
    rw [← H.out.len]; exact this
  · rcases e with rfl | e
    · exact H.out.apart hk
    · cases e
  · rw [← H.out.len]; exact Nat.le_refl _
set_option maxHeartbeats 400000 in
theorem erase_img {w : World} {g : Nat} {fb : Option Nat} {l : List (BitVec 8)} {size dur : Nat} (h : IsImg w g fb l size dur) :
    Calls Tryz.prog 125 #[.pointer (some ⟨g, 0, none⟩)] w fun e w' => e = .returned (.tuple #[]) ∧ IsImg w' g none [] size 0 ∧ Chg (foot g fb) w w' := by
  obtain ⟨A, n, c, h, rfl⟩ := h
  have c0 : w.cell? ⟨g, 0, none⟩ = some (.slice A n c) := by rw [h.blk.cell]; rfl
  have c2 : w.cell? ⟨g, 2, none⟩ = some (.int .i64 (dur : Int)) := by rw [h.blk.cell]; rfl
  have f0 : w.frozen? ⟨g, 0, none⟩ = false := h.blk.frozen 0
  have f2 : w.frozen? ⟨g, 2, none⟩ = false := h.blk.frozen 2
  have H := Lib.hid h
  clear h
  go_enter Tryz.func125, Tryz.ntmps125
  go_wp2_with (go_at_call 128; refine (made_img H.out).mono ?_; rintro e w' ⟨rfl, rfl⟩)
  go_end0
  refine ⟨rfl, ⟨none, 0, 0, ⟨?_, World.ownsRow_nil _ _ _ _, by simp [Value.ownBlock], Nat.le_refl _, Nat.zero_le _, H.out.h3, H.out.h4⟩, rfl⟩, ((Chg.refl _ w).setCell (.inl (.inl rfl)) _).setCell (.inl (.inl rfl)) _⟩
  exact (H.out.blk.set_ 0 (.slice none 0 0)).set_ 2 (.int .i64 0)
theorem img_info : (Tryz.prog.info? 161).map (·.size) = some 3 := by kernel_rfl
set_option maxHeartbeats 400000 in
theorem new_img (size : Nat) (w : World) (h1 : 1 ≤ size) (h2 : size ≤ 8192) :
    Calls Tryz.prog 101 #[.int .i64 (size : Int)] w fun e w' => ∃ g, e = .returned (.tuple #[.pointer (some ⟨g, 0, none⟩), .int .i64 0]) ∧ IsImg w' g none [] size 0 ∧ w.heap.size ≤ g ∧ Below w.heap.size w w' := by
  have d1 : decide ((size : Int) < 1) = false := by simp; omega
  have d2 : decide (8192 < (size : Int)) = false := by simp; omega
  go_enter Tryz.func101, Tryz.ntmps101
  go_wp2
  go_ret2
  exact ⟨_, rfl, ⟨none, 0, 0, ⟨Blk.new w _ _, World.ownsRow_nil _ _ _ _, by simp [Value.ownBlock], Nat.le_refl _, Nat.zero_le _, h1, h2⟩, rfl⟩, Nat.le_refl _, by go_grown⟩
theorem new_img_err (size : Int) (w : World) (h : size < 1 ∨ (1 ≤ size ∧ 8192 < size)) :
    Calls Tryz.prog 101 #[.int .i64 size] w fun e w' => e = .returned (.tuple #[.pointer none, .int .i64 2]) ∧ w = w' := by
  rcases h with h | ⟨h, h'⟩
  · have d1 : decide (size < 1) = true := by simpa using h
    go_enter Tryz.func101, Tryz.ntmps101
    go_wp2
    go_ret2
    exact ⟨rfl, rfl⟩
  · have d1 : decide (size < 1) = false := by simp; omega
    have d2 : decide (8192 < size) = true := by simpa using h'
    go_enter Tryz.func101, Tryz.ntmps101
    go_wp2
    go_ret2
    exact ⟨rfl, rfl⟩
set_option maxHeartbeats 400000 in
theorem append_img_full {w : World} {g : Nat} {fb : Option Nat} {l : List (BitVec 8)} {size dur : Nat} (h : IsImg w g fb l size dur) (A2 : Option Addr) (n2 c2 : Nat) (hf : size < l.length + n2) (hm : n2 ≤ maxLen) :
    Calls Tryz.prog 89 #[.pointer (some ⟨g, 0, none⟩), .slice A2 n2 c2] w fun e w' => e = .returned (.int .i64 4) ∧ ∃ q, w' = w.drewN q := by
  unfold maxLen at hm
  obtain ⟨A, n, c, h, rfl⟩ := h
  have c0 : w.cell? ⟨g, 0, none⟩ = some (.slice A n c) := by rw [h.blk.cell]; rfl
  have c1 : w.cell? ⟨g, 1, none⟩ = some (.int .i64 (size : Int)) := by rw [h.blk.cell]; rfl
  have H := Lib.hid h
  have hl := h.len
  have h2 := h.h2
  have h4 := h.h4
  clear h
  subst hl
  go_enter Tryz.func89, Tryz.ntmps89
  go_wp2_with (go_at_call 128; refine (made_img H.out).mono ?_; rintro e w' ⟨rfl, rfl⟩)
  go_quiet (fail)
  go_wp2
  go_ret
  exact ⟨rfl, _, rfl⟩
set_option maxRecDepth 100000 in
set_option maxHeartbeats 800000 in
theorem append_img {w : World} {g : Nat} {fb : Option Nat} {l : List (BitVec 8)} {size dur : Nat} (h : IsImg w g fb l size dur) (A2 : Option Addr) (n2 c2 B : Nat) (b : List (BitVec 8)) (hr : Reads w B 1 A2 n2 (u8s b)) (hf : l.length + n2 ≤ size) :
    Calls Tryz.prog 89 #[.pointer (some ⟨g, 0, none⟩), .slice A2 n2 c2] w fun e w' => e = .returned (.int .i64 0) ∧ ∃ fb', IsImg w' g fb' (l ++ b) size dur ∧ Chg (foot g fb) w w' ∧ (fb' = fb ∨ ∃ k, fb' = some k ∧ w.heap.size ≤ k) := by
  obtain ⟨A, n, c, h, rfl⟩ := h
  have c0 : w.cell? ⟨g, 0, none⟩ = some (.slice A n c) := by rw [h.blk.cell]; rfl
  have c1 : w.cell? ⟨g, 1, none⟩ = some (.int .i64 (size : Int)) := by rw [h.blk.cell]; rfl
  have H := Lib.hid h
  have hl := h.len
  have h2 := h.h2
  have h4 := h.h4
  have HR := Lib.hid hr
  clear h hr
  subst hl
  obtain ⟨i0, hi0, hz0, hz1, hz2⟩ := info_parts u8_info
  go_enter Tryz.func89, Tryz.ntmps89
  go_wp2_with (go_at_call 128; refine (made_img H.out).mono ?_; rintro e w' ⟨rfl, rfl⟩)
  go_quiet (fail)
  go_wp2_with (at_builtin
               refine wpList_append_g _ rfl (.tmp 27) (.tmp 28) _ rfl 0 5 i0 _ 1 1 Tryz.underlying23 hi0 hz0 hz1 hz2 rfl (by omega) (.slice A l.length c) l.length (u8s l) rfl
                 (own_chg H.out.own (F := fun _ => False) ((Chg.refl _ w).drewN nq) (fun _ _ h => h)) B A2 n2 c2 (u8s b) rfl (HR.out.drewN nq) (u8s_one b) (by simp only [maxLen]; omega) (by omega) (Nat.zero_le _) ?_
               intro v1 w4 hown1 hg1 hat1
               obtain ⟨A3, c3, rfl, _, _, _⟩ := own_slice hown1
               have hlt := H.out.blk.lt
               have d0 : w4.cell? ⟨g, 0, none⟩ = some (.slice A l.length c) := by rw [hg1.cell_far _ hlt (fun e => H.out.apart e.symm)]; exact c0
               have f0 : w4.frozen? ⟨g, 0, none⟩ = false := by rw [hg1.frozen_far _ hlt (fun e => H.out.apart e.symm)]; exact H.out.blk.frozen 0
               have HO := Lib.hid hown1
               have HG := Lib.hid hg1
               have HAT := Lib.hid hat1
               clear hown1 hg1 hat1)
  go_ret
  have hnb : (Value.slice A3 (l.length + n2) c3).ownBlock ≠ some g := by
    rcases HAT.out with e | e
    · rw [e]; exact H.out.apart
    · rw [e]; intro h; have := H.out.blk.lt; injection h with h; have h' : w.heap.size = g := h; omega
  have hch : Chg (foot g (Value.slice A l.length c).ownBlock) w w4 := ((Chg.refl _ w).drewN nq).grown HG.out (fun q hq => .inl (.inr hq))
  refine ⟨rfl, _, ⟨A3, l.length + n2, c3, ⟨?_, ?_, hnb, by have := H.out.h1; omega, hf, H.out.h3, H.out.h4⟩, rfl⟩, hch.setCell (.inl (.inl rfl)) _, ?_⟩
  · have hb4 : Blk w4 g 161 #[.slice A l.length c, .int .i64 (size : Int), .int .i64 (dur : Int)] :=
      (HG.out.block g (by exact H.out.blk.lt) (fun e => H.out.apart e.symm)).trans H.out.blk
    exact hb4.set_ 0 _
  · refine own_chg (F := fun k => k = g) ?_ ((Chg.refl (fun k => k = g) w4).setCell (p := ⟨g, 0, none⟩) (.inl rfl) _) (fun k hk e => hnb (by rw [hk, e]))
    rw [← u8s_append]; exact HO.out
  · rcases HAT.out with e | e
    · exact .inl e
    · exact .inr ⟨_, e, Nat.le_refl _⟩
end Go.Proofs.YtnopljanpjmbgaaGreat
namespace Go.Proofs.YtnopljanpjmbgaaGreat
open Go.RowKit
set_option linter.unusedVariables false
theorem own_take {w : World} {base : Nat} {e : TypeId} {A : Option Addr} {n c k : Nat} {l : List (BitVec 8)} (h : w.ownsRow base e 1 (.slice A n c) n (u8s l)) (hk : k ≤ n) : w.ownsRow base e 1 (.slice A k c) k (u8s (l.take k)) := by
  have hl := h.1
  refine ⟨by rw [u8s_length, List.length_take]; rw [u8s_length] at hl; omega, ?_⟩
  rcases h.2 with ⟨h1, h2⟩ | ⟨g, cap, cur, h1, h2, h3, h4, h5, h6, h7⟩
  · left
    injection h1 with a1 a2 a3
    subst a1 a3
    have : k = 0 := by omega
    subst this
    exact ⟨rfl, rfl⟩
  · right
    injection h1 with a1 a2 a3
    subst a1 a3
    refine ⟨g, c, cur, rfl, h2, h3, by omega, h5, h6, ?_⟩
    rw [u8s_take, ← h7, List.take_take]
    congr 1
    omega
theorem Img.cut {w : World} {g : Nat} {A : Option Addr} {n c : Nat} {l : List (BitVec 8)} {size dur : Nat} (h : Img w g A n c l size dur) {k : Nat} (hk : k ≤ n) (hd : dur ≤ k) :
    IsImg (w.setCell ⟨g, 0, none⟩ (.slice A k c)) g (Value.slice A n c).ownBlock (l.take k) size dur := by
  have hob : (Value.slice A k c).ownBlock = (Value.slice A n c).ownBlock := by cases A <;> rfl
  refine ⟨A, k, c, ⟨?_, ?_, by rw [hob]; exact h.apart, hd, by have := h.h2; omega, h.h3, h.h4⟩, hob.symm⟩
  · exact h.blk.set_ 0 _
  · refine own_chg (F := fun x => x = g) (own_take h.own hk) ((Chg.refl (fun x => x = g) w).setCell (p := ⟨g, 0, none⟩) (.inl rfl) _) (fun x hx e => h.apart (by rw [← hob, hx, e]))
set_option maxHeartbeats 1000000 in
theorem crash_img {w : World} {g : Nat} {fb : Option Nat} {l : List (BitVec 8)} {size dur : Nat} (h : IsImg w g fb l size dur) (keep : Int) (hk : 0 ≤ keep) (hk2 : keep ≤ 9223372036854775807) :
    Calls Tryz.prog 149 #[.pointer (some ⟨g, 0, none⟩), .int .i64 keep] w fun e w' => e = .returned (.int .i64 0) ∧ IsImg w' g fb (l.take (dur + min keep.toNat (l.length - dur))) size (dur + min keep.toNat (l.length - dur)) ∧ Chg (foot g fb) w w' := by
  obtain ⟨A, n, c, h, rfl⟩ := h
  obtain ⟨keep, rfl⟩ := Int.eq_ofNat_of_zero_le hk
  rw [Int.toNat_natCast]
  have c0 : w.cell? ⟨g, 0, none⟩ = some (.slice A n c) := by rw [h.blk.cell]; rfl
  have c2 : w.cell? ⟨g, 2, none⟩ = some (.int .i64 (dur : Int)) := by rw [h.blk.cell]; rfl
  have f0 : w.frozen? ⟨g, 0, none⟩ = false := h.blk.frozen 0
  have H := Lib.hid h
  have hl := h.len
  have h1 := h.h1
  have h2 := h.h2
  have h4 := h.h4
  obtain ⟨hc1, hc2⟩ := h.cap
  clear h
  subst hl
  by_cases hm : keep < l.length - dur
  · have hmi : (keep : Int) < (l.length : Int) - (dur : Int) := by omega
    have hmn : ¬ ((l.length : Int) - (dur : Int) < (keep : Int)) := by omega
    have HC := Lib.hid (H.out.cut (k := dur + keep) (by omega) (by omega)).drew
    have HCH := Lib.hid (((Chg.refl (foot g (Value.slice A l.length c).ownBlock) w).setCell (p := ⟨g, 0, none⟩) (.inl (.inl rfl)) (.slice A (dur + keep) c)).drew)
    have HMIN := Lib.hid (show dur + min keep (l.length - dur) = dur + keep by omega)
    rw [HMIN.out]
    go_enter Tryz.func149, Tryz.ntmps149
    go_wp2_with (go_at_call 128; refine (made_img H.out).mono ?_; rintro e w' ⟨rfl, rfl⟩)
    go_region
    go_wp2_with fail
    refine (sync_img HC.out).mono ?_
    rintro e w1 ⟨rfl, hi, hc⟩
    have HI := Lib.hid hi
    have HCC := Lib.hid hc
    clear hi hc
    go_wp2_with fail
    go_ret
    have hl : (l.take (dur + keep)).length = dur + keep := by rw [List.length_take]; omega
    have h5 := HI.out
    rw [hl] at h5
    exact ⟨rfl, h5, HCH.out.trans HCC.out (fun _ _ h => h)⟩
  · have hdl : (dur : Int) + ((l.length : Int) - (dur : Int)) = (l.length : Int) := by omega
    rcases Nat.eq_or_lt_of_le (by omega : l.length - dur ≤ keep) with he | hlt
    · have hmn : ¬ ((l.length : Int) - (dur : Int) < (keep : Int)) := by omega
      have HK : Hid (dur + keep = l.length) := by show _ = _; omega
      have HC := Lib.hid (H.out.cut (k := dur + keep) (by omega) (by omega)).drew
      have HCH := Lib.hid (((Chg.refl (foot g (Value.slice A l.length c).ownBlock) w).setCell (p := ⟨g, 0, none⟩) (.inl (.inl rfl)) (.slice A (dur + keep) c)).drew)
      have HMIN := Lib.hid (show dur + min keep (l.length - dur) = dur + keep by omega)
      rw [HMIN.out]
      go_enter Tryz.func149, Tryz.ntmps149
      go_wp2_with (go_at_call 128; refine (made_img H.out).mono ?_; rintro e w' ⟨rfl, rfl⟩)
      go_region
      go_wp2_with fail
      refine (sync_img HC.out).mono ?_
      rintro e w1 ⟨rfl, hi, hc⟩
      have HI := Lib.hid hi
      have HCC := Lib.hid hc
      clear hi hc
      go_wp2_with fail
      go_ret
      have hl : (l.take (dur + keep)).length = dur + keep := by rw [List.length_take]; omega
      have h5 := HI.out
      rw [hl] at h5
      exact ⟨rfl, h5, HCH.out.trans HCC.out (fun _ _ h => h)⟩
    · have hmn : ((l.length : Int) - (dur : Int) < (keep : Int)) := by omega
      have HC := Lib.hid (H.out.cut (k := l.length) (by omega) (by omega)).drew
      have HCH := Lib.hid (((Chg.refl (foot g (Value.slice A l.length c).ownBlock) w).setCell (p := ⟨g, 0, none⟩) (.inl (.inl rfl)) (.slice A (l.length) c)).drew)
      have HMIN := Lib.hid (show dur + min keep (l.length - dur) = l.length by omega)
      rw [HMIN.out]
      go_enter Tryz.func149, Tryz.ntmps149
      go_wp2_with (go_at_call 128; refine (made_img H.out).mono ?_; rintro e w' ⟨rfl, rfl⟩)
      go_region
      go_wp2_with fail
      refine (sync_img HC.out).mono ?_
      rintro e w1 ⟨rfl, hi, hc⟩
      have HI := Lib.hid hi
      have HCC := Lib.hid hc
      clear hi hc
      go_wp2_with fail
      go_ret
      have hl : (l.take (l.length)).length = l.length := by rw [List.length_take]; omega
      have h5 := HI.out
      rw [hl] at h5
      exact ⟨rfl, h5, HCH.out.trans HCC.out (fun _ _ h => h)⟩
set_option maxHeartbeats 400000 in
theorem crash_img_neg {w : World} {g : Nat} {fb : Option Nat} {l : List (BitVec 8)} {size dur : Nat} (h : IsImg w g fb l size dur) (keep : Int) (hk : keep < 0) :
    Calls Tryz.prog 149 #[.pointer (some ⟨g, 0, none⟩), .int .i64 keep] w fun e w' => e = .returned (.int .i64 2) ∧ w = w' := by
  obtain ⟨A, n, c, h, rfl⟩ := h
  have H := Lib.hid h
  clear h
  go_enter Tryz.func149, Tryz.ntmps149
  go_wp2_with (go_at_call 128; refine (made_img H.out).mono ?_; rintro e w' ⟨rfl, rfl⟩)
  go_ret
  exact ⟨rfl, rfl⟩
set_option maxHeartbeats 400000 in
theorem clone_any (A : Option Addr) (n c B : Nat) (l : List (BitVec 8)) (w : World) (hr : Reads w B 1 A n (u8s l)) (hB : B ≤ w.heap.size) (hn : n ≤ 65536) (hz : A = none → c = 0) :
    Calls Tryz.prog 99 #[.slice A n c] w fun e w' => ∃ v, e = .returned v ∧ w'.ownsRow w.heap.size 5 1 v n (u8s l) ∧ Below w.heap.size w w' := by
  obtain ⟨i0, hi0, hz0, hz1, hz2⟩ := info_parts u8_info
  have HR := Lib.hid hr
  clear hr
  cases A with
  | none =>
    obtain rfl := hz rfl
    have hn0 : n = 0 := by
      rcases Nat.eq_zero_or_pos n with h | h
      · exact h
      · obtain ⟨ad, e, _⟩ := HR.out.2 h; cases e
    subst hn0
    have hl : u8s l = [] := List.eq_nil_of_length_eq_zero (by simpa using HR.out.1)
    have HL := Lib.hid hl
    clear hl
    have hq := fun W => Lib.run_eql_slice_nil (P := Tryz.prog) W 23 5 none 0 0 0 0 Tryz.underlying23
    go_enter Tryz.func99, Tryz.ntmps99
    go_wp2
    go_ret
    exact ⟨_, rfl, by rw [HL.out]; exact World.ownsRow_nil _ _ _ _, Below.refl _ _⟩
  | some a =>
    have hq := fun W => Lib.run_eql_slice_nil (P := Tryz.prog) W 23 5 (some a) n c 0 0 Tryz.underlying23
    have hown0 : (w.alloc (.cells #[] 5)).ownsRow w.heap.size 5 1 (.slice (some ⟨w.heap.size, 0, none⟩) 0 0) 0 [] := World.ownsRow_made w #[] 0 (Nat.le_refl _) (by unfold maxLen; omega) (by simp)
    have HO := Lib.hid hown0
    clear hown0
    have HBL : Hid (∀ p : Addr, p.block < B → (w.alloc (.cells #[] 5)).cell? p = w.cell? p) := fun p hp => World.cell?_alloc_lt w _ p (by omega)
    go_enter Tryz.func99, Tryz.ntmps99
    go_wp2_with (at_builtin
                 refine wpList_append_g _ rfl (.tmp 5) (.tmp 6) _ rfl w.heap.size 5 i0 _ 1 1 Tryz.underlying23 hi0 hz0 hz1 hz2 rfl (by omega) (.slice (some ⟨w.heap.size, 0, none⟩) 0 0) 0 [] rfl
                   HO.out B (some a) n c (u8s l) rfl (HR.out.keep (fun p hp => HBL.out p hp)) (u8s_one l) (by simp only [maxLen]; omega) (by omega) (by simp) ?_
                 intro v1 w4 hown1 hg1 hat1
                 have HO1 := Lib.hid hown1
                 have HB4 := Lib.hid (((Below.refl w.heap.size w).alloc (Nat.le_refl _) (.cells #[] 5)).grown hg1 (by simp) (by intro q hq; simp [Value.ownBlock] at hq; omega))
                 clear hown1 hg1 hat1)
    go_ret
    exact ⟨_, rfl, by simpa using HO1.out, HB4.out⟩
end Go.Proofs.YtnopljanpjmbgaaGreat
namespace Go.Proofs.YtnopljanpjmbgaaGreat
open Go.RowKit
set_option linter.unusedVariables false
theorem Img.reads {w : World} {g : Nat} {A : Option Addr} {n c : Nat} {l : List (BitVec 8)} {size dur : Nat} (h : Img w g A n c l size dur) : Reads w w.heap.size 1 A n (u8s l) := Reads.of_own h.own
set_option maxHeartbeats 1000000 in
theorem read_img {w : World} {g : Nat} {fb : Option Nat} {l : List (BitVec 8)} {size dur : Nat} (h : IsImg w g fb l size dur) (off n : Nat) (hin : off + n ≤ l.length) :
    Calls Tryz.prog 93 #[.pointer (some ⟨g, 0, none⟩), .int .i64 (off : Int), .int .i64 (n : Int)] w fun e w' => ∃ v, e = .returned (.tuple #[v, .int .i64 0]) ∧ w'.ownsRow w.heap.size 5 1 v n (u8s ((l.drop off).take n)) ∧ Below w.heap.size w w' := by
  obtain ⟨A, k, c, h, rfl⟩ := h
  have c0 : w.cell? ⟨g, 0, none⟩ = some (.slice A k c) := by rw [h.blk.cell]; rfl
  have H := Lib.hid h
  have hl := h.len
  have h2 := h.h2
  have h4 := h.h4
  obtain ⟨hc1, hc2⟩ := h.cap
  clear h
  subst hl
  have d1 : decide ((off : Int) < 0) = false := by simp
  have d2 : decide ((n : Int) < 0) = false := by simp
  have d3 : decide ((l.length : Int) < (n : Int)) = false := by simp; omega
  have d4 : decide ((l.length : Int) - (n : Int) < (off : Int)) = false := by simp; omega
  rcases Nat.eq_zero_or_pos n with hn0 | hpos
  · subst hn0
    have HR : Hid (Reads w w.heap.size 1 A 0 (u8s ((l.drop off).take 0))) := by
      show Reads _ _ _ _ _ _
      rw [List.take_zero]
      exact ⟨rfl, fun h => absurd h (by omega)⟩
    go_enter Tryz.func93, Tryz.ntmps93
    go_wp2_with (go_at_call 128; refine (made_img H.out).mono ?_; rintro e w' ⟨rfl, rfl⟩)
    refine (clone_any _ _ _ _ _ _ HR.out (Nat.le_refl _) (by omega) (fun _ => rfl)).mono ?_
    rintro e w1 ⟨v, rfl, ho, hb⟩
    have HO := Lib.hid ho
    have HB := Lib.hid hb
    clear ho hb
    go_wp2
    go_ret2
    exact ⟨_, rfl, HO.out, HB.out⟩
  · have hn0 : ¬ n = 0 := by omega
    have HR : Hid (Reads w w.heap.size 1 (Option.map (fun x => x.add off) A) n (u8s ((l.drop off).take n))) := by
      have h1 := H.out.reads.cut (k := off) (cap := l.length + off + 1) (by omega) (by omega)
      rw [if_neg (by omega), Nat.mul_one, ← u8s_drop] at h1
      exact h1.take (by omega)
    have HZ : Hid (Option.map (fun x => x.add off) A = none → n = 0) := by
      intro e
      obtain ⟨ad, h, _⟩ := HR.out.2 hpos
      rw [h] at e; cases e
    go_enter Tryz.func93, Tryz.ntmps93
    go_wp2_with (go_at_call 128; refine (made_img H.out).mono ?_; rintro e w' ⟨rfl, rfl⟩)
    refine (clone_any _ _ _ _ _ _ HR.out (Nat.le_refl _) (by omega) HZ.out).mono ?_
    rintro e w1 ⟨v, rfl, ho, hb⟩
    have HO := Lib.hid ho
    have HB := Lib.hid hb
    clear ho hb
    go_wp2
    go_ret2
    exact ⟨_, rfl, HO.out, HB.out⟩
/-- Bytes as a string. -/
def strOf (l : List (BitVec 8)) : ByteArray := (l.map n8).foldl (fun r n => r.push (UInt8.ofNat n.toNat)) ByteArray.empty
theorem strOf_list (l : List (BitVec 8)) : (strOf l).data.toList = l.map fun b => UInt8.ofNat b.toNat := by
  have h : ∀ (l : List (BitVec 8)) (s : ByteArray), ((l.map n8).foldl (fun r n => r.push (UInt8.ofNat n.toNat)) s).data.toList = s.data.toList ++ l.map fun b => UInt8.ofNat b.toNat := by
    intro l
    induction l with
    | nil => intro s; simp
    | cons b l ih =>
      intro s
      simp only [List.map_cons, List.foldl_cons]
      rw [ih]
      have e : (n8 b).toNat = b.toNat := by unfold n8; rfl
      rw [e]
      simp [ByteArray.push]
  have := h l ByteArray.empty
  unfold strOf
  rw [this]
  simp
theorem strOf_inj {l m : List (BitVec 8)} (h : strOf l = strOf m) : l = m := by
  have h1 := congrArg (fun s : ByteArray => s.data.toList) h
  simp only [strOf_list] at h1
  have hi : ∀ (l m : List (BitVec 8)), (l.map fun b => UInt8.ofNat b.toNat) = (m.map fun b => UInt8.ofNat b.toNat) → l = m := by
    intro l
    induction l with
    | nil => intro m h; cases m with
      | nil => rfl
      | cons b m => simp at h
    | cons a l ih => intro m h; cases m with
      | nil => simp at h
      | cons b m =>
        simp only [List.map_cons, List.cons.injEq] at h
        have e : a = b := by
          have := congrArg UInt8.toNat h.1
          simp only [UInt8.toNat_ofNat'] at this
          apply BitVec.eq_of_toNat_eq
          have h1 := a.isLt; have h2 := b.isLt
          omega
        rw [e, ih m h.2]
  exact hi l m h1
theorem str_beq (l m : List (BitVec 8)) : ((strOf l).toList == (strOf m).toList) = decide (l = m) := by
  by_cases h : l = m
  · subst h; simp
  · rw [decide_eq_false h, beq_eq_false_iff_ne]
    intro e
    apply h
    apply strOf_inj
    rw [ByteArray.toList_eq, ByteArray.toList_eq] at e
    exact ByteArray.ext (Array.toList_inj.1 e)
theorem str_bytes {w : World} {B : Nat} {A : Option Addr} {n c : Nat} {l : List (BitVec 8)} (h : Reads w B 1 A n (u8s l)) :
    (convert 23 9 (.slice A n c)).run Tryz.prog w = .ok (.string (strOf l)) w := by
  rw [run_convert_bytes_string w 23 9 5 A n c Tryz.underlying23 Tryz.underlying5 Tryz.underlying9]
  have hl := h.1
  rw [u8s_length, Nat.mul_one] at hl
  cases A with
  | none =>
    have hn0 : n = 0 := by
      rcases Nat.eq_zero_or_pos n with h0 | h0
      · exact h0
      · obtain ⟨ad, e, _⟩ := h.2 h0; cases e
    have : l = [] := List.eq_nil_of_length_eq_zero (by omega)
    subst this
    rfl
  | some a =>
    refine run_bytesToString w a n c (l.map n8) ?_
    have e : (l.map n8).map (Value.int .u8) = u8s l := by simp [u8s, u8v, Function.comp_def]
    rw [e]
    have hr := run_loadCells_list (P := Tryz.prog) w a (u8s l) (fun j v hv => by
      rcases Nat.eq_zero_or_pos n with h0 | h0
      · obtain ⟨hk, _⟩ := u8s_at hv; omega
      · obtain ⟨ad, e, _, hc⟩ := h.2 h0
        injection e with e
        subst e
        exact hc j v hv)
    rw [u8s_length, hl] at hr
    exact hr
end Go.Proofs.YtnopljanpjmbgaaGreat
namespace Go.Proofs.YtnopljanpjmbgaaGreat
open Go.RowKit
set_option linter.unusedVariables false
/-- A value that holds bytes. -/
def Holds (w : World) (v : Value) (l : List (BitVec 8)) : Prop := ∃ A n c, v = .slice A n c ∧ n = l.length ∧ n ≤ c ∧ c ≤ maxLen ∧ Reads w w.heap.size 1 A n (u8s l)
theorem Holds.of_own {w : World} {base n : Nat} {e : TypeId} {v : Value} {l : List (BitVec 8)} (h : w.ownsRow base e 1 v n (u8s l)) : Holds w v l := by
  obtain ⟨A, c, rfl, h1, h2, h3⟩ := own_slice h
  have := h.1
  rw [u8s_length] at this
  exact ⟨A, n, c, rfl, by omega, h1, h2, h3⟩
theorem Holds.below {w w' : World} {v : Value} {l : List (BitVec 8)} (h : Holds w v l) (hb : Below w.heap.size w w') : Holds w' v l := by
  obtain ⟨A, n, c, rfl, h0, h1, h2, h3⟩ := h
  exact ⟨A, n, c, rfl, h0, h1, h2, (h3.below hb).more hb.size⟩
theorem Holds.chg {F : Nat → Prop} {w w' : World} {v : Value} {l : List (BitVec 8)} (h : Holds w v l) (hc : Chg F w w') (hF : ∀ k, v.ownBlock = some k → ¬ F k) : Holds w' v l := by
  obtain ⟨A, n, c, rfl, h0, h1, h2, h3⟩ := h
  refine ⟨A, n, c, rfl, h0, h1, h2, h3.1, fun hn => ?_⟩
  obtain ⟨ad, e, hb, hcell⟩ := h3.2 hn
  subst e
  refine ⟨ad, rfl, Nat.lt_of_lt_of_le hb hc.size, fun j u hu => ?_⟩
  rw [World.cell?_of_block (w := w)]
  · exact hcell j u hu
  · rw [block_of_add]; exact hc.block _ hb (hF _ rfl)
/-- Numbers that Read refuses. -/
def badRead (len : Nat) (off n : Int) : Prop := off < 0 ∨ (0 ≤ off ∧ n < 0) ∨ (0 ≤ off ∧ 0 ≤ n ∧ (len : Int) < n) ∨ (0 ≤ off ∧ 0 ≤ n ∧ n ≤ (len : Int) ∧ (len : Int) - n < off)
theorem bad_or (len : Nat) (off n : Int) : badRead len off n ∨ ∃ a b : Nat, off = a ∧ n = b ∧ a + b ≤ len := by
  by_cases h1 : off < 0
  · exact .inl (.inl h1)
  by_cases h2 : n < 0
  · exact .inl (.inr (.inl ⟨by omega, h2⟩))
  by_cases h3 : (len : Int) < n
  · exact .inl (.inr (.inr (.inl ⟨by omega, by omega, h3⟩)))
  by_cases h4 : (len : Int) - n < off
  · exact .inl (.inr (.inr (.inr ⟨by omega, by omega, by omega, h4⟩)))
  exact .inr ⟨off.toNat, n.toNat, by omega, by omega, by omega⟩
set_option maxHeartbeats 1000000 in
theorem read_img_bad {w : World} {g : Nat} {fb : Option Nat} {l : List (BitVec 8)} {size dur : Nat} (h : IsImg w g fb l size dur) (off n : Int) (hbad : badRead l.length off n) :
    Calls Tryz.prog 93 #[.pointer (some ⟨g, 0, none⟩), .int .i64 off, .int .i64 n] w fun e w' => e = .returned (.tuple #[.slice none 0 0, .int .i64 3]) ∧ w = w' := by
  obtain ⟨A, k, c, h, rfl⟩ := h
  have c0 : w.cell? ⟨g, 0, none⟩ = some (.slice A k c) := by rw [h.blk.cell]; rfl
  have H := Lib.hid h
  have hl := h.len
  have h2 := h.h2
  have h4 := h.h4
  clear h
  subst hl
  rcases hbad with h | ⟨h, h'⟩ | ⟨h, h', h''⟩ | ⟨h, h', h'', h3⟩
  · have d1 : decide (off < 0) = true := by simpa using h
    go_enter Tryz.func93, Tryz.ntmps93
    go_wp2_with (go_at_call 128; refine (made_img H.out).mono ?_; rintro e w' ⟨rfl, rfl⟩)
    go_ret2
    exact ⟨rfl, rfl⟩
  · have d1 : decide (off < 0) = false := by simp; omega
    have d2 : decide (n < 0) = true := by simpa using h'
    go_enter Tryz.func93, Tryz.ntmps93
    go_wp2_with (go_at_call 128; refine (made_img H.out).mono ?_; rintro e w' ⟨rfl, rfl⟩)
    go_ret2
    exact ⟨rfl, rfl⟩
  · have d1 : decide (off < 0) = false := by simp; omega
    have d2 : decide (n < 0) = false := by simp; omega
    have d3 : decide ((l.length : Int) < n) = true := by simpa using h''
    go_enter Tryz.func93, Tryz.ntmps93
    go_wp2_with (go_at_call 128; refine (made_img H.out).mono ?_; rintro e w' ⟨rfl, rfl⟩)
    go_ret2
    exact ⟨rfl, rfl⟩
  · have d1 : decide (off < 0) = false := by simp; omega
    have d2 : decide (n < 0) = false := by simp; omega
    have d3 : decide ((l.length : Int) < n) = false := by simp; omega
    have d4 : decide ((l.length : Int) - n < off) = true := by simpa using h3
    go_enter Tryz.func93, Tryz.ntmps93
    go_wp2_with (go_at_call 128; refine (made_img H.out).mono ?_; rintro e w' ⟨rfl, rfl⟩)
    go_ret2
    exact ⟨rfl, rfl⟩
/-! ### nil, and an image that was not made by New -/
def NoImg (w : World) (v : Value) : Prop := v = .pointer none ∨ ∃ g, v = .pointer (some ⟨g, 0, none⟩) ∧ w.cell? ⟨g, 1, none⟩ = some (.int .i64 0)
theorem made_no {w : World} {v : Value} (h : NoImg w v) :
    Calls Tryz.prog 128 #[v] w fun e w' => e = .returned (.bool false) ∧ w = w' := by
  rcases h with rfl | ⟨g, rfl, c1⟩
  · go_enter Tryz.func128, Tryz.ntmps128
    go_wp2
    go_ret
    exact ⟨rfl, rfl⟩
  · go_enter Tryz.func128, Tryz.ntmps128
    go_wp2
    go_ret
    exact ⟨rfl, rfl⟩
set_option maxHeartbeats 400000 in
theorem no_append {w : World} {v : Value} (h : NoImg w v) (A : Option Addr) (n c : Nat) :
    Calls Tryz.prog 89 #[v, .slice A n c] w fun e w' => e = .returned (.int .i64 1) ∧ w = w' := by
  have H := Lib.hid h
  clear h
  go_enter Tryz.func89, Tryz.ntmps89
  go_wp2_with (go_at_call 128; refine (made_no H.out).mono ?_; rintro e w' ⟨rfl, rfl⟩)
  go_ret
  exact ⟨rfl, rfl⟩
theorem no_sync {w : World} {v : Value} (h : NoImg w v) :
    Calls Tryz.prog 140 #[v] w fun e w' => e = .returned (.tuple #[]) ∧ w = w' := by
  have H := Lib.hid h
  clear h
  go_enter Tryz.func140, Tryz.ntmps140
  go_wp2_with (go_at_call 128; refine (made_no H.out).mono ?_; rintro e w' ⟨rfl, rfl⟩)
  go_end0
  exact ⟨rfl, rfl⟩
theorem no_erase {w : World} {v : Value} (h : NoImg w v) :
    Calls Tryz.prog 125 #[v] w fun e w' => e = .returned (.tuple #[]) ∧ w = w' := by
  have H := Lib.hid h
  clear h
  go_enter Tryz.func125, Tryz.ntmps125
  go_wp2_with (go_at_call 128; refine (made_no H.out).mono ?_; rintro e w' ⟨rfl, rfl⟩)
  go_end0
  exact ⟨rfl, rfl⟩
theorem no_crash {w : World} {v : Value} (h : NoImg w v) (k : Int) :
    Calls Tryz.prog 149 #[v, .int .i64 k] w fun e w' => e = .returned (.int .i64 1) ∧ w = w' := by
  have H := Lib.hid h
  clear h
  go_enter Tryz.func149, Tryz.ntmps149
  go_wp2_with (go_at_call 128; refine (made_no H.out).mono ?_; rintro e w' ⟨rfl, rfl⟩)
  go_ret
  exact ⟨rfl, rfl⟩
set_option maxHeartbeats 400000 in
theorem no_read {w : World} {v : Value} (h : NoImg w v) (off n : Int) :
    Calls Tryz.prog 93 #[v, .int .i64 off, .int .i64 n] w fun e w' => e = .returned (.tuple #[.slice none 0 0, .int .i64 1]) ∧ w = w' := by
  have H := Lib.hid h
  clear h
  go_enter Tryz.func93, Tryz.ntmps93
  go_wp2_with (go_at_call 128; refine (made_no H.out).mono ?_; rintro e w' ⟨rfl, rfl⟩)
  go_ret2
  exact ⟨rfl, rfl⟩
theorem no_len {w : World} {v : Value} (h : NoImg w v) :
    Calls Tryz.prog 133 #[v] w fun e w' => e = .returned (.int .i64 0) ∧ w = w' := by
  have H := Lib.hid h
  clear h
  go_enter Tryz.func133, Tryz.ntmps133
  go_wp2_with (go_at_call 128; refine (made_no H.out).mono ?_; rintro e w' ⟨rfl, rfl⟩)
  go_ret
  exact ⟨rfl, rfl⟩
theorem no_durable {w : World} {v : Value} (h : NoImg w v) :
    Calls Tryz.prog 95 #[v] w fun e w' => e = .returned (.int .i64 0) ∧ w = w' := by
  have H := Lib.hid h
  clear h
  go_enter Tryz.func95, Tryz.ntmps95
  go_wp2_with (go_at_call 128; refine (made_no H.out).mono ?_; rintro e w' ⟨rfl, rfl⟩)
  go_ret
  exact ⟨rfl, rfl⟩
theorem no_room {w : World} {v : Value} (h : NoImg w v) :
    Calls Tryz.prog 84 #[v] w fun e w' => e = .returned (.int .i64 0) ∧ w = w' := by
  have H := Lib.hid h
  clear h
  go_enter Tryz.func84, Tryz.ntmps84
  go_wp2_with (go_at_call 128; refine (made_no H.out).mono ?_; rintro e w' ⟨rfl, rfl⟩)
  go_ret
  exact ⟨rfl, rfl⟩
end Go.Proofs.YtnopljanpjmbgaaGreat
namespace Go.Proofs.YtnopljanpjmbgaaGreat
open Go.RowKit
set_option linter.unusedVariables false
/-- A byte slice of a call's own. -/
def Own8 (w : World) (B : Nat) (v : Value) (l : List (BitVec 8)) : Prop := w.ownsRow B 5 1 v l.length (u8s l)
theorem Own8.of {w : World} {B n : Nat} {v : Value} {l : List (BitVec 8)} (h : w.ownsRow B 5 1 v n (u8s l)) : Own8 w B v l ∧ n = l.length := by
  have := h.1
  rw [u8s_length, Nat.mul_one] at this
  exact ⟨by unfold Own8; rw [this]; exact h, this.symm⟩
theorem Own8.holds {w : World} {B : Nat} {v : Value} {l : List (BitVec 8)} (h : Own8 w B v l) : Holds w v l := Holds.of_own h
/-- An image and byte slices, all from block B on, apart from each other; what was there before the world w0 is as it was. -/
structure St (B : Nat) (w0 w : World) (g : Nat) (fb : Option Nat) (l : List (BitVec 8)) (size dur : Nat) (vs : List (Value × List (BitVec 8))) : Prop where
  img : IsImg w g fb l size dur
  base : ∀ k, foot g fb k → B ≤ k
  bel : Below B w0 w
  big : B ≤ w.heap.size
  held : ∀ p, p ∈ vs → Own8 w B p.1 p.2 ∧ ∀ k, p.1.ownBlock = some k → ¬ foot g fb k
section
variable {B : Nat} {w0 w : World} {g : Nat} {fb : Option Nat} {l : List (BitVec 8)} {size dur : Nat} {vs : List (Value × List (BitVec 8))}
theorem St.below {w' : World} (h : St B w0 w g fb l size dur vs) (hb : Below w.heap.size w w') : St B w0 w' g fb l size dur vs :=
  ⟨h.img.chg (F := fun _ => False) (Chg.of_below hb) (fun _ _ h => h), h.base, h.bel.trans (hb.mono h.big), Nat.le_trans h.big hb.size, fun p hp => ⟨own_below' (h.held p hp).1 hb, (h.held p hp).2⟩⟩
theorem St.drewN (h : St B w0 w g fb l size dur vs) (q : Nat) : St B w0 (w.drewN q) g fb l size dur vs := h.below ⟨rfl, rfl, rfl, Nat.le_refl _, fun _ _ => rfl⟩
theorem St.drew (h : St B w0 w g fb l size dur vs) : St B w0 w.drew g fb l size dur vs := h.below ⟨rfl, rfl, rfl, Nat.le_refl _, fun _ _ => rfl⟩
theorem St.alloc (h : St B w0 w g fb l size dur vs) (o : Obj) : St B w0 (w.alloc o) g fb l size dur vs := h.below ((Below.refl _ _).alloc (Nat.le_refl _) o)
theorem St.add {v : Value} {m : List (BitVec 8)} (h : St B w0 w g fb l size dur vs) (ho : Own8 w B v m) (hd : ∀ k, v.ownBlock = some k → ¬ foot g fb k) : St B w0 w g fb l size dur ((v, m) :: vs) :=
  ⟨h.img, h.base, h.bel, h.big, fun p hp => by
    rcases List.mem_cons.1 hp with rfl | hp
    · exact ⟨ho, hd⟩
    · exact h.held p hp⟩
theorem St.get {v : Value} {m : List (BitVec 8)} (h : St B w0 w g fb l size dur vs) (hm : (v, m) ∈ vs) : Own8 w B v m := (h.held _ hm).1
theorem St.none (h : St B w0 w g fb l size dur vs) : St B w0 w g fb l size dur [] := ⟨h.img, h.base, h.bel, h.big, fun p hp => by cases hp⟩
theorem St.chg {w' : World} {fb' : Option Nat} {l' : List (BitVec 8)} {size' dur' : Nat} (h : St B w0 w g fb l size dur vs) (hi : IsImg w' g fb' l' size' dur') (hc : Chg (foot g fb) w w') (hf : ∀ k, fb' = some k → fb = some k ∨ w.heap.size ≤ k) : St B w0 w' g fb' l' size' dur' vs := by
  have hbase : ∀ k, foot g fb' k → B ≤ k := by
    intro k hk
    rcases hk with rfl | hk
    · exact h.base _ (.inl rfl)
    · rcases hf k hk with e | e
      · exact h.base _ (.inr e)
      · have := h.big; omega
  refine ⟨hi, hbase, h.bel.trans ⟨hc.os, hc.tape, hc.output, hc.size, fun k hk => hc.block k (by have := h.big; omega) (fun e => by have := h.base k e; omega)⟩, Nat.le_trans h.big hc.size, fun p hp => ?_⟩
  obtain ⟨ho, hd⟩ := h.held p hp
  refine ⟨own_chg ho hc hd, fun k hk e => ?_⟩
  rcases e with rfl | e
  · exact hd _ hk (.inl rfl)
  · rcases hf k e with e' | e'
    · exact hd _ hk (.inr e')
    · have := (ho.lt k hk).2
      omega
theorem fresh_of {fb' : Option Nat} {n : Nat} (h : fb' = fb ∨ ∃ k, fb' = some k ∧ n ≤ k) : ∀ k, fb' = some k → fb = some k ∨ n ≤ k := by
  intro k hk
  rcases h with rfl | ⟨k', e, hk'⟩
  · exact .inl hk
  · rw [e] at hk; injection hk with hk; exact .inr (by omega)
theorem st_len (h : St B w0 w g fb l size dur vs) : Calls Tryz.prog 133 #[.pointer (some ⟨g, 0, none⟩)] w fun e w' => e = .returned (.int .i64 (l.length : Int)) ∧ w = w' := len_img h.img
theorem st_durable (h : St B w0 w g fb l size dur vs) : Calls Tryz.prog 95 #[.pointer (some ⟨g, 0, none⟩)] w fun e w' => e = .returned (.int .i64 (dur : Int)) ∧ w = w' := durable_img h.img
theorem st_room (h : St B w0 w g fb l size dur vs) : Calls Tryz.prog 84 #[.pointer (some ⟨g, 0, none⟩)] w fun e w' => e = .returned (.int .i64 ((size : Int) - (l.length : Int))) ∧ St B w0 w' g fb l size dur vs ∧ Below w.heap.size w w' :=
  (room_img h.img).mono fun e w' ⟨h1, q, h2⟩ => ⟨h1, by rw [h2]; exact h.drewN q, by rw [h2]; exact ⟨rfl, rfl, rfl, Nat.le_refl _, fun _ _ => rfl⟩⟩
theorem st_sync (h : St B w0 w g fb l size dur vs) : Calls Tryz.prog 140 #[.pointer (some ⟨g, 0, none⟩)] w fun e w' => e = .returned (.tuple #[]) ∧ St B w0 w' g fb l size l.length vs ∧ Chg (foot g fb) w w' :=
  (sync_img h.img).mono fun e w' ⟨h1, h2, h3⟩ => ⟨h1, h.chg h2 h3 (fun _ => .inl), h3⟩
theorem st_erase (h : St B w0 w g fb l size dur vs) : Calls Tryz.prog 125 #[.pointer (some ⟨g, 0, none⟩)] w fun e w' => e = .returned (.tuple #[]) ∧ St B w0 w' g none [] size 0 vs ∧ Chg (foot g fb) w w' :=
  (erase_img h.img).mono fun e w' ⟨h1, h2, h3⟩ => ⟨h1, h.chg h2 h3 (fun k hk => by cases hk), h3⟩
theorem st_crash (h : St B w0 w g fb l size dur vs) (keep : Int) (hk : 0 ≤ keep) (hk2 : keep ≤ 9223372036854775807) (m : Nat) (hm : m = dur + min keep.toNat (l.length - dur)) :
    Calls Tryz.prog 149 #[.pointer (some ⟨g, 0, none⟩), .int .i64 keep] w fun e w' => e = .returned (.int .i64 0) ∧ St B w0 w' g fb (l.take m) size m vs ∧ Chg (foot g fb) w w' := by
  subst hm
  exact (crash_img h.img keep hk hk2).mono fun e w' ⟨h1, h2, h3⟩ => ⟨h1, h.chg h2 h3 (fun _ => .inl), h3⟩
theorem st_crash_neg (h : St B w0 w g fb l size dur vs) (keep : Int) (hk : keep < 0) :
    Calls Tryz.prog 149 #[.pointer (some ⟨g, 0, none⟩), .int .i64 keep] w fun e w' => e = .returned (.int .i64 2) ∧ w = w' := crash_img_neg h.img keep hk
theorem st_append (h : St B w0 w g fb l size dur vs) {v : Value} {b : List (BitVec 8)} (hv : Holds w v b) (hf : l.length + b.length ≤ size) :
    Calls Tryz.prog 89 #[.pointer (some ⟨g, 0, none⟩), v] w fun e w' => e = .returned (.int .i64 0) ∧ ∃ fb', St B w0 w' g fb' (l ++ b) size dur vs ∧ Chg (foot g fb) w w' ∧ (fb' = fb ∨ ∃ k, fb' = some k ∧ w.heap.size ≤ k) := by
  obtain ⟨A, n, c, rfl, hn, _, _, hr⟩ := hv
  exact (append_img h.img A n c _ b hr (by omega)).mono fun e w' ⟨h1, fb', h2, h3, h4⟩ => ⟨h1, fb', h.chg h2 h3 (fresh_of h4), h3, h4⟩
theorem st_append_full (h : St B w0 w g fb l size dur vs) {v : Value} {b : List (BitVec 8)} (hv : Holds w v b) (hf : size < l.length + b.length) :
    Calls Tryz.prog 89 #[.pointer (some ⟨g, 0, none⟩), v] w fun e w' => e = .returned (.int .i64 4) ∧ St B w0 w' g fb l size dur vs ∧ Below w.heap.size w w' := by
  obtain ⟨A, n, c, rfl, hn, h1, h2, hr⟩ := hv
  exact (append_img_full h.img A n c (by omega) (by omega)).mono fun e w' ⟨h1, q, h2⟩ => ⟨h1, by rw [h2]; exact h.drewN q, by rw [h2]; exact ⟨rfl, rfl, rfl, Nat.le_refl _, fun _ _ => rfl⟩⟩
theorem st_read (h : St B w0 w g fb l size dur vs) (off n : Int) (a b : Nat) (ha : off = a) (hb : n = b) (hin : a + b ≤ l.length) :
    Calls Tryz.prog 93 #[.pointer (some ⟨g, 0, none⟩), .int .i64 off, .int .i64 n] w fun e w' => ∃ v, e = .returned (.tuple #[v, .int .i64 0]) ∧ St B w0 w' g fb l size dur ((v, (l.drop a).take b) :: vs) ∧ w'.ownsRow w.heap.size 5 1 v b (u8s ((l.drop a).take b)) ∧ Below w.heap.size w w' := by
  subst ha hb
  refine (read_img h.img a b hin).mono fun e w' ⟨v, h1, h2, h3⟩ => ⟨v, h1, ?_, h2, h3⟩
  refine (h.below h3).add ?_ ?_
  · have h4 := own_base h2 (base' := B) (fun k hk => by have := (h2.lt k hk).1; have := h.big; omega)
    exact (Own8.of h4).1
  · intro k hk e
    have h4 := h.img.lt k e
    have h5 := (h2.lt k hk).1
    omega
theorem st_read_bad (h : St B w0 w g fb l size dur vs) (off n : Int) (hbad : badRead l.length off n) :
    Calls Tryz.prog 93 #[.pointer (some ⟨g, 0, none⟩), .int .i64 off, .int .i64 n] w fun e w' => e = .returned (.tuple #[.slice none 0 0, .int .i64 3]) ∧ w = w' := read_img_bad h.img off n hbad
theorem st_new (w : World) (size : Nat) (h1 : 1 ≤ size) (h2 : size ≤ 8192) :
    Calls Tryz.prog 101 #[.int .i64 (size : Int)] w fun e w' => ∃ g, e = .returned (.tuple #[.pointer (some ⟨g, 0, none⟩), .int .i64 0]) ∧ St w.heap.size w w' g none [] size 0 [] :=
  (new_img size w h1 h2).mono fun e w' ⟨g, h1, h2, h3, h4⟩ => by
    refine ⟨g, h1, ⟨h2, fun k hk => ?_, h4, h4.size, fun p hp => by cases hp⟩⟩
    rcases hk with rfl | hk
    · exact h3
    · cases hk
end
theorem holds_new (W : World) (fr : Nat × Nat) (cs : Array Value) (l : List (BitVec 8)) (n c : Nat) (hn : n = l.length) (hc : n ≤ c) (hm : c ≤ 65536) (hcs : cs = (u8s l).toArray) :
    Holds (W.alloc (.cells cs 5 fr)) (.slice (some ⟨W.heap.size, 0, none⟩) n c) l :=
  ⟨_, n, c, rfl, hn, hc, by unfold maxLen; omega, by have := reads_new W 5 cs fr l n hn hcs; simpa using this⟩
theorem holds_nil (w : World) : Holds w (.slice none 0 0) [] := ⟨none, 0, 0, rfl, rfl, Nat.le_refl _, Nat.zero_le _, Reads.none_⟩
/-! ### the bytes of a move -/
def moveData (n b : BitVec 8) : List (BitVec 8) := (List.range (n.toNat % 40)).map fun i => b + BitVec.ofNat 8 i
theorem moveData_length (n b : BitVec 8) : (moveData n b).length = n.toNat % 40 := by simp [moveData]
theorem n8_nat (b : BitVec 8) : n8 b = (b.toNat : Int) := by unfold n8; rfl
theorem n8_add (b : BitVec 8) (i : Nat) (hi : i < 256) : (n8 b + (i : Int)) % (256 : Int) = n8 (b + BitVec.ofNat 8 i) := by
  rw [n8_nat, n8_nat, BitVec.toNat_add, BitVec.toNat_ofNat]
  omega
/-- Bytes, filled up to j. -/
def bTo (l : List (BitVec 8)) (j : Nat) : Array Value := (u8s (l.take j) ++ u8s (zbytes (l.length - j))).toArray
theorem bTo_zero (l : List (BitVec 8)) : bTo l 0 = (u8s (zbytes l.length)).toArray := by simp [bTo, u8s]
theorem bTo_all (l : List (BitVec 8)) : bTo l l.length = (u8s l).toArray := by simp [bTo, u8s, zbytes]
theorem bTo_next (x : List (BitVec 8)) (j : Nat) (h : j < x.length) : (bTo x j)[j]? = some (.int .u8 0) := by
  have e : ∃ q, x.length - j = q + 1 := ⟨x.length - j - 1, by omega⟩
  obtain ⟨q, hq⟩ := e
  simp only [bTo, hq, List.getElem?_toArray]
  rw [List.getElem?_append_right (by rw [u8s_length, List.length_take]; omega), u8s_length, List.length_take, show j - min j x.length = 0 by omega]
  simp [u8s, zbytes, u8v, n8, List.replicate_succ]
theorem bTo_set (x : List (BitVec 8)) (j : Nat) (h : j < x.length) : (bTo x j).setIfInBounds j (.int .u8 (n8 x[j])) = bTo x (j + 1) := by
  have e : ∃ q, x.length - j = q + 1 := ⟨x.length - j - 1, by omega⟩
  obtain ⟨q, hq⟩ := e
  have hq2 : x.length - (j + 1) = q := by omega
  simp only [bTo, hq, hq2, List.setIfInBounds_toArray]
  congr 1
  have hz : u8s (zbytes (q + 1)) = .int .u8 0 :: u8s (zbytes q) := by simp [u8s, zbytes, u8v, n8, List.replicate_succ]
  have hl : (u8s (x.take j)).length = j := by rw [u8s_length, List.length_take]; omega
  rw [hz, List.set_append, if_neg (by omega), hl, Nat.sub_self, take_snoc x j h, ← u8s_append, List.append_assoc]
  rfl
theorem make_bytes (kl : IntKind) (k : Nat) (hk : k ≤ 65536) (w : World) : (Instr.makeSlice 23 (.int kl (k : Int)) (.int kl (k : Int))).run Tryz.prog w = .ok (.slice (some ⟨w.heap.size, 0, none⟩) k k) (w.alloc (.cells (u8s (zbytes k)).toArray 5)) := by
  obtain ⟨i0, hi0, hz0, hz1, hz2⟩ := info_parts u8_info
  have hr := run_make (P := Tryz.prog) w 23 5 i0 _ Tryz.underlying23 hi0 hz0 kl kl k k (by omega) (by omega) (by rw [hz2]; omega) (by omega)
  rw [Int.toNat_natCast, hz1] at hr
  rw [hr, ← zcells]
end Go.Proofs.YtnopljanpjmbgaaGreat
