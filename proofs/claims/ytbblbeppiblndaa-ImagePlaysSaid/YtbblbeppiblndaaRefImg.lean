/-
  The walks of the document's image (drumlinref09.Image): New, Append, Sync, Erase, Read, Len, Durable, Room, Size. Conditions: the image is as the methods leave it.
-/
import Derived.Test.YtbblbeppiblndaaImgSt
import Derived.Test.YtbblbeppiblndaaSep
namespace Go.Proofs.Ytbblbeppiblndaa
open Go.RowKit
set_option linter.unusedVariables false
structure RImg (w : World) (g : Nat) (A : Option Addr) (n c : Nat) (l : List (BitVec 8)) (size dur : Nat) : Prop where
  blk : Blk w g 65 #[.slice A n c, .int .i64 (dur : Int), .int .i64 (size : Int)]
  own : w.ownsRow 0 5 1 (.slice A n c) n (u8s l)
  apart : (Value.slice A n c).ownBlock ≠ some g
  h1 : dur ≤ n
  h2 : n ≤ size
  h3 : 1 ≤ size
  h4 : size ≤ 8192
theorem RImg.len {w : World} {g : Nat} {A : Option Addr} {n c : Nat} {l : List (BitVec 8)} {size dur : Nat} (h : RImg w g A n c l size dur) : n = l.length := by
  have := h.own.1
  rw [u8s_length] at this; omega
theorem RImg.cap {w : World} {g : Nat} {A : Option Addr} {n c : Nat} {l : List (BitVec 8)} {size dur : Nat} (h : RImg w g A n c l size dur) : n ≤ c ∧ c ≤ 9223372036854775807 := by
  obtain ⟨A', c', e, h1, h2, _⟩ := own_slice h.own
  injection e with e1 e2 e3
  subst e3
  exact ⟨h1, by simpa [maxLen] using h2⟩
def IsRef (w : World) (g : Nat) (fb : Option Nat) (l : List (BitVec 8)) (size dur : Nat) : Prop := ∃ A n c, RImg w g A n c l size dur ∧ fb = (Value.slice A n c).ownBlock
theorem RImg.chg {F : Nat → Prop} {w w' : World} {g : Nat} {A : Option Addr} {n c : Nat} {l : List (BitVec 8)} {size dur : Nat} (h : RImg w g A n c l size dur) (hc : Chg F w w') (hg : ¬ F g)
    (hf : ∀ k, (Value.slice A n c).ownBlock = some k → ¬ F k) : RImg w' g A n c l size dur := ⟨h.blk.chg hc hg, own_chg h.own hc hf, h.apart, h.h1, h.h2, h.h3, h.h4⟩
theorem IsRef.chg {F : Nat → Prop} {w w' : World} {g : Nat} {fb : Option Nat} {l : List (BitVec 8)} {size dur : Nat} (h : IsRef w g fb l size dur) (hc : Chg F w w') (hd : ∀ k, foot g fb k → ¬ F k) : IsRef w' g fb l size dur := by
  obtain ⟨A, n, c, hi, rfl⟩ := h
  exact ⟨A, n, c, hi.chg hc (hd _ (.inl rfl)) (fun k hk => hd _ (.inr hk)), rfl⟩
theorem IsRef.lt {w : World} {g : Nat} {fb : Option Nat} {l : List (BitVec 8)} {size dur : Nat} (h : IsRef w g fb l size dur) : ∀ k, foot g fb k → k < w.heap.size := by
  obtain ⟨A, n, c, hi, rfl⟩ := h
  intro k hk
  rcases hk with rfl | hk
  · exact hi.blk.lt
  · exact (hi.own.lt k hk).2
theorem IsRef.nums {w : World} {g : Nat} {fb : Option Nat} {l : List (BitVec 8)} {size dur : Nat} (h : IsRef w g fb l size dur) : dur ≤ l.length ∧ l.length ≤ size ∧ 1 ≤ size ∧ size ≤ 8192 := by
  obtain ⟨A, n, c, hi, rfl⟩ := h
  have := hi.len
  exact ⟨by have := hi.h1; omega, by have := hi.h2; omega, hi.h3, hi.h4⟩
/-- The two kinds of image as objects. -/
def imgOb (g : Nat) (fb : Option Nat) (l : List (BitVec 8)) (size dur : Nat) : Ob where
  P w := IsImg w g fb l size dur
  F := foot g fb
  keep hc hF h := h.chg hc hF
  lt h k hk := h.lt k hk
def refOb (g : Nat) (fb : Option Nat) (l : List (BitVec 8)) (size dur : Nat) : Ob where
  P w := IsRef w g fb l size dur
  F := foot g fb
  keep hc hF h := h.chg hc hF
  lt h k hk := h.lt k hk
set_option maxHeartbeats 400000 in
theorem valid_ref {w : World} {g : Nat} {A : Option Addr} {n c : Nat} {l : List (BitVec 8)} {size dur : Nat} (h : RImg w g A n c l size dur) :
    Calls Try.prog 37 #[.pointer (some ⟨g, 0, none⟩)] w fun e w' => e = .returned (.bool true) ∧ w = w' := by
  have c1 : w.cell? ⟨g, 2, none⟩ = some (.int .i64 (size : Int)) := by rw [h.blk.cell]; rfl
  have hs := h.h3
  have hs4 := h.h4
  clear h
  go_enter Try.func37, Try.ntmps37
  go_wp2
  go_ret
  exact ⟨by simp; omega, rfl⟩
set_option maxHeartbeats 400000 in
theorem len_ref {w : World} {g : Nat} {fb : Option Nat} {l : List (BitVec 8)} {size dur : Nat} (h : IsRef w g fb l size dur) :
    Calls Try.prog 40 #[.pointer (some ⟨g, 0, none⟩)] w fun e w' => e = .returned (.int .i64 (l.length : Int)) ∧ w = w' := by
  obtain ⟨A, n, c, h, rfl⟩ := h
  have c1 : w.cell? ⟨g, 0, none⟩ = some (.slice A n c) := by rw [h.blk.cell]; rfl
  have H := Lib.hid h
  have hl := h.len
  clear h
  subst hl
  go_enter Try.func40, Try.ntmps40
  go_wp2_with (go_at_call 37; refine (valid_ref H.out).mono ?_; rintro e w' ⟨rfl, rfl⟩)
  go_ret
  exact ⟨rfl, rfl⟩
set_option maxHeartbeats 400000 in
theorem durable_ref {w : World} {g : Nat} {fb : Option Nat} {l : List (BitVec 8)} {size dur : Nat} (h : IsRef w g fb l size dur) :
    Calls Try.prog 41 #[.pointer (some ⟨g, 0, none⟩)] w fun e w' => e = .returned (.int .i64 (dur : Int)) ∧ w = w' := by
  obtain ⟨A, n, c, h, rfl⟩ := h
  have c1 : w.cell? ⟨g, 1, none⟩ = some (.int .i64 (dur : Int)) := by rw [h.blk.cell]; rfl
  have H := Lib.hid h
  clear h
  go_enter Try.func41, Try.ntmps41
  go_wp2_with (go_at_call 37; refine (valid_ref H.out).mono ?_; rintro e w' ⟨rfl, rfl⟩)
  go_ret
  exact ⟨rfl, rfl⟩
set_option maxHeartbeats 400000 in
theorem size_ref {w : World} {g : Nat} {fb : Option Nat} {l : List (BitVec 8)} {size dur : Nat} (h : IsRef w g fb l size dur) :
    Calls Try.prog 42 #[.pointer (some ⟨g, 0, none⟩)] w fun e w' => e = .returned (.int .i64 (size : Int)) ∧ w = w' := by
  obtain ⟨A, n, c, h, rfl⟩ := h
  have c1 : w.cell? ⟨g, 2, none⟩ = some (.int .i64 (size : Int)) := by rw [h.blk.cell]; rfl
  have H := Lib.hid h
  clear h
  go_enter Try.func42, Try.ntmps42
  go_wp2_with (go_at_call 37; refine (valid_ref H.out).mono ?_; rintro e w' ⟨rfl, rfl⟩)
  go_ret
  exact ⟨rfl, rfl⟩
set_option maxHeartbeats 400000 in
theorem room_ref {w : World} {g : Nat} {fb : Option Nat} {l : List (BitVec 8)} {size dur : Nat} (h : IsRef w g fb l size dur) :
    Calls Try.prog 38 #[.pointer (some ⟨g, 0, none⟩)] w fun e w' => e = .returned (.int .i64 ((size : Int) - (l.length : Int))) ∧ ∃ q, w' = w.drewN q := by
  obtain ⟨A, n, c, h, rfl⟩ := h
  have c0 : w.cell? ⟨g, 0, none⟩ = some (.slice A n c) := by rw [h.blk.cell]; rfl
  have c1 : w.cell? ⟨g, 2, none⟩ = some (.int .i64 (size : Int)) := by rw [h.blk.cell]; rfl
  have H := Lib.hid h
  have hl := h.len
  have h2 := h.h2
  have h4 := h.h4
  clear h
  subst hl
  go_enter Try.func38, Try.ntmps38
  go_wp2_with (go_at_call 37; refine (valid_ref H.out).mono ?_; rintro e w' ⟨rfl, rfl⟩)
  go_quiet (fail)
  go_wp2
  go_ret
  exact ⟨rfl, _, rfl⟩
set_option maxHeartbeats 400000 in
theorem sync_ref {w : World} {g : Nat} {fb : Option Nat} {l : List (BitVec 8)} {size dur : Nat} (h : IsRef w g fb l size dur) :
    Calls Try.prog 22 #[.pointer (some ⟨g, 0, none⟩)] w fun e w' => e = .returned (.tuple #[]) ∧ IsRef w' g fb l size l.length ∧ Chg (foot g fb) w w' := by
  obtain ⟨A, n, c, h, rfl⟩ := h
  have c0 : w.cell? ⟨g, 0, none⟩ = some (.slice A n c) := by rw [h.blk.cell]; rfl
  have c2 : w.cell? ⟨g, 1, none⟩ = some (.int .i64 (dur : Int)) := by rw [h.blk.cell]; rfl
  have f2 : w.frozen? ⟨g, 1, none⟩ = false := h.blk.frozen 1
  have H := Lib.hid h
  clear h
  go_enter Try.func22, Try.ntmps22
  go_wp2_with (go_at_call 37; refine (valid_ref H.out).mono ?_; rintro e w' ⟨rfl, rfl⟩)
  go_end0
  refine ⟨rfl, ⟨A, n, c, ⟨?_, own_chg H.out.own (F := foot g none) ((Chg.refl _ w).setCell (.inl (.inl rfl)) _) (fun k hk e => ?_), H.out.apart, ?_, H.out.h2, H.out.h3, H.out.h4⟩, rfl⟩, (Chg.refl _ w).setCell (.inl (.inl rfl)) _⟩
  · have := H.out.blk.set_ 1 (.int .i64 (n : Int))
    rw [← H.out.len]; exact this
  · rcases e with rfl | e
    · exact H.out.apart hk
    · cases e
  · rw [← H.out.len]; exact Nat.le_refl _
set_option maxHeartbeats 400000 in
theorem erase_ref {w : World} {g : Nat} {fb : Option Nat} {l : List (BitVec 8)} {size dur : Nat} (h : IsRef w g fb l size dur) :
    Calls Try.prog 25 #[.pointer (some ⟨g, 0, none⟩)] w fun e w' => e = .returned (.tuple #[]) ∧ IsRef w' g none [] size 0 ∧ Chg (foot g fb) w w' := by
  obtain ⟨A, n, c, h, rfl⟩ := h
  have c0 : w.cell? ⟨g, 0, none⟩ = some (.slice A n c) := by rw [h.blk.cell]; rfl
  have c2 : w.cell? ⟨g, 1, none⟩ = some (.int .i64 (dur : Int)) := by rw [h.blk.cell]; rfl
  have f0 : w.frozen? ⟨g, 0, none⟩ = false := h.blk.frozen 0
  have f2 : w.frozen? ⟨g, 1, none⟩ = false := h.blk.frozen 1
  have H := Lib.hid h
  clear h
  go_enter Try.func25, Try.ntmps25
  go_wp2_with (go_at_call 37; refine (valid_ref H.out).mono ?_; rintro e w' ⟨rfl, rfl⟩)
  go_end0
  refine ⟨rfl, ⟨none, 0, 0, ⟨?_, World.ownsRow_nil _ _ _ _, by simp [Value.ownBlock], Nat.le_refl _, Nat.zero_le _, H.out.h3, H.out.h4⟩, rfl⟩, ((Chg.refl _ w).setCell (.inl (.inl rfl)) _).setCell (.inl (.inl rfl)) _⟩
  exact (H.out.blk.set_ 0 (.slice none 0 0)).set_ 1 (.int .i64 0)
set_option maxHeartbeats 400000 in
theorem new_ref (size : Nat) (w : World) (h1 : 1 ≤ size) (h2 : size ≤ 8192) :
    Calls Try.prog 18 #[.int .i64 (size : Int)] w fun e w' => ∃ g, e = .returned (.tuple #[.pointer (some ⟨g, 0, none⟩), .int .i64 0]) ∧ IsRef w' g none [] size 0 ∧ w.heap.size ≤ g ∧ Below w.heap.size w w' := by
  have d1 : decide ((size : Int) < 1) = false := by simp; omega
  have d2 : decide (8192 < (size : Int)) = false := by simp; omega
  go_enter Try.func18, Try.ntmps18
  go_wp2
  go_ret2
  exact ⟨_, rfl, ⟨none, 0, 0, ⟨Blk.new _ _ _, World.ownsRow_nil _ _ _ _, by simp [Value.ownBlock], Nat.le_refl _, Nat.zero_le _, h1, h2⟩, rfl⟩, Nat.le_refl _, by go_grown⟩
theorem new_ref_err (size : Int) (w : World) (h : size < 1 ∨ (1 ≤ size ∧ 8192 < size)) :
    Calls Try.prog 18 #[.int .i64 size] w fun e w' => e = .returned (.tuple #[.pointer none, .int .i64 2]) ∧ w = w' := by
  rcases h with h | ⟨h, h'⟩
  · have d1 : decide (size < 1) = true := by simpa using h
    go_enter Try.func18, Try.ntmps18
    go_wp2
    go_ret2
    exact ⟨rfl, rfl⟩
  · have d1 : decide (size < 1) = false := by simp; omega
    have d2 : decide (8192 < size) = true := by simpa using h'
    go_enter Try.func18, Try.ntmps18
    go_wp2
    go_ret2
    exact ⟨rfl, rfl⟩
end Go.Proofs.Ytbblbeppiblndaa
