/-
  The walks of the image's methods (image.Image): what each call does to an image in memory. Conditions: the image is as the methods leave it.
-/
import Derived.Test.YtelobbigpgfobaaProg
import Derived.Test.YtelobbigpgfobaaBytes
import Derived.Test.YtelobbigpgfobaaLaws
import Derived.Deep.QuietTactic
import Derived.BigQuiet
import Derived.BigRegion
namespace Go.Proofs.Ytelobbigpgfobaa
open Go.RowKit
set_option linter.unusedVariables false
/-- An image in memory: its bytes, its size, how many bytes are durable. -/
structure Img (w : World) (g : Nat) (A : Option Addr) (n c : Nat) (l : List (BitVec 8)) (size dur : Nat) : Prop where
  blk : Blk w g 94 #[.slice A n c, .int .i64 (size : Int), .int .i64 (dur : Int)]
  own : w.ownsRow 0 5 1 (.slice A n c) n (u8s l)
  apart : (Value.slice A n c).ownBlock ≠ some g
  h1 : dur ≤ n
  h2 : n ≤ size
  h3 : 1 ≤ size
  h4 : size ≤ 8192
theorem Img.len {w : World} {g : Nat} {A : Option Addr} {n c : Nat} {l : List (BitVec 8)} {size dur : Nat} (h : Img w g A n c l size dur) : n = l.length := by
  have := h.own.1
  rw [u8s_length] at this; omega
theorem Img.cap {w : World} {g : Nat} {A : Option Addr} {n c : Nat} {l : List (BitVec 8)} {size dur : Nat} (h : Img w g A n c l size dur) : n ≤ c ∧ c ≤ 9223372036854775807 := by
  obtain ⟨A', c', e, h1, h2, _⟩ := own_slice h.own
  injection e with e1 e2 e3
  subst e3
  exact ⟨h1, by simpa [maxLen] using h2⟩
/-- The blocks of an image. -/
def foot (g : Nat) (fb : Option Nat) : Nat → Prop := fun k => k = g ∨ fb = some k
def IsImg (w : World) (g : Nat) (fb : Option Nat) (l : List (BitVec 8)) (size dur : Nat) : Prop := ∃ A n c, Img w g A n c l size dur ∧ fb = (Value.slice A n c).ownBlock
theorem Img.chg {F : Nat → Prop} {w w' : World} {g : Nat} {A : Option Addr} {n c : Nat} {l : List (BitVec 8)} {size dur : Nat} (h : Img w g A n c l size dur) (hc : Chg F w w') (hg : ¬ F g)
    (hf : ∀ k, (Value.slice A n c).ownBlock = some k → ¬ F k) : Img w' g A n c l size dur := ⟨h.blk.chg hc hg, own_chg h.own hc hf, h.apart, h.h1, h.h2, h.h3, h.h4⟩
theorem IsImg.chg {F : Nat → Prop} {w w' : World} {g : Nat} {fb : Option Nat} {l : List (BitVec 8)} {size dur : Nat} (h : IsImg w g fb l size dur) (hc : Chg F w w') (hd : ∀ k, foot g fb k → ¬ F k) : IsImg w' g fb l size dur := by
  obtain ⟨A, n, c, hi, rfl⟩ := h
  exact ⟨A, n, c, hi.chg hc (hd _ (.inl rfl)) (fun k hk => hd _ (.inr hk)), rfl⟩
theorem IsImg.drewN {w : World} {g : Nat} {fb : Option Nat} {l : List (BitVec 8)} {size dur : Nat} (h : IsImg w g fb l size dur) (q : Nat) : IsImg (w.drewN q) g fb l size dur :=
  h.chg (F := fun _ => False) ((Chg.refl _ w).drewN q) (fun _ _ h => h)
theorem IsImg.drew {w : World} {g : Nat} {fb : Option Nat} {l : List (BitVec 8)} {size dur : Nat} (h : IsImg w g fb l size dur) : IsImg w.drew g fb l size dur :=
  h.chg (F := fun _ => False) (Chg.refl _ w).drew (fun _ _ h => h)
theorem IsImg.lt {w : World} {g : Nat} {fb : Option Nat} {l : List (BitVec 8)} {size dur : Nat} (h : IsImg w g fb l size dur) : ∀ k, foot g fb k → k < w.heap.size := by
  obtain ⟨A, n, c, hi, rfl⟩ := h
  intro k hk
  rcases hk with rfl | hk
  · exact hi.blk.lt
  · exact (hi.own.lt k hk).2
theorem IsImg.nums {w : World} {g : Nat} {fb : Option Nat} {l : List (BitVec 8)} {size dur : Nat} (h : IsImg w g fb l size dur) : dur ≤ l.length ∧ l.length ≤ size ∧ 1 ≤ size ∧ size ≤ 8192 := by
  obtain ⟨A, n, c, hi, rfl⟩ := h
  have := hi.len
  exact ⟨by have := hi.h1; omega, by have := hi.h2; omega, hi.h3, hi.h4⟩

set_option maxHeartbeats 400000 in
theorem made_img {w : World} {g : Nat} {A : Option Addr} {n c : Nat} {l : List (BitVec 8)} {size dur : Nat} (h : Img w g A n c l size dur) :
    Calls Try.prog 65 #[.pointer (some ⟨g, 0, none⟩)] w fun e w' => e = .returned (.bool true) ∧ w = w' := by
  have c1 : w.cell? ⟨g, 1, none⟩ = some (.int .i64 (size : Int)) := by rw [h.blk.cell]; rfl
  have hs := h.h3
  have hs4 := h.h4
  clear h
  go_enter Try.func65, Try.ntmps65
  go_wp2
  go_ret
  exact ⟨by simp; omega, rfl⟩
set_option maxHeartbeats 400000 in
theorem len_img {w : World} {g : Nat} {fb : Option Nat} {l : List (BitVec 8)} {size dur : Nat} (h : IsImg w g fb l size dur) :
    Calls Try.prog 39 #[.pointer (some ⟨g, 0, none⟩)] w fun e w' => e = .returned (.int .i64 (l.length : Int)) ∧ w = w' := by
  obtain ⟨A, n, c, h, rfl⟩ := h
  have c1 : w.cell? ⟨g, 0, none⟩ = some (.slice A n c) := by rw [h.blk.cell]; rfl
  have H := Lib.hid h
  have hl := h.len
  clear h
  subst hl
  go_enter Try.func39, Try.ntmps39
  go_wp2_with (go_at_call 65; refine (made_img H.out).mono ?_; rintro e w' ⟨rfl, rfl⟩)
  go_ret
  exact ⟨rfl, rfl⟩
set_option maxHeartbeats 400000 in
theorem durable_img {w : World} {g : Nat} {fb : Option Nat} {l : List (BitVec 8)} {size dur : Nat} (h : IsImg w g fb l size dur) :
    Calls Try.prog 40 #[.pointer (some ⟨g, 0, none⟩)] w fun e w' => e = .returned (.int .i64 (dur : Int)) ∧ w = w' := by
  obtain ⟨A, n, c, h, rfl⟩ := h
  have c1 : w.cell? ⟨g, 2, none⟩ = some (.int .i64 (dur : Int)) := by rw [h.blk.cell]; rfl
  have H := Lib.hid h
  clear h
  go_enter Try.func40, Try.ntmps40
  go_wp2_with (go_at_call 65; refine (made_img H.out).mono ?_; rintro e w' ⟨rfl, rfl⟩)
  go_ret
  exact ⟨rfl, rfl⟩
set_option maxHeartbeats 400000 in
theorem room_img {w : World} {g : Nat} {fb : Option Nat} {l : List (BitVec 8)} {size dur : Nat} (h : IsImg w g fb l size dur) :
    Calls Try.prog 41 #[.pointer (some ⟨g, 0, none⟩)] w fun e w' => e = .returned (.int .i64 ((size : Int) - (l.length : Int))) ∧ ∃ q, w' = w.drewN q := by
  obtain ⟨A, n, c, h, rfl⟩ := h
  have c0 : w.cell? ⟨g, 0, none⟩ = some (.slice A n c) := by rw [h.blk.cell]; rfl
  have c1 : w.cell? ⟨g, 1, none⟩ = some (.int .i64 (size : Int)) := by rw [h.blk.cell]; rfl
  have H := Lib.hid h
  have hl := h.len
  have h2 := h.h2
  have h4 := h.h4
  clear h
  subst hl
  go_enter Try.func41, Try.ntmps41
  go_wp2_with (go_at_call 65; refine (made_img H.out).mono ?_; rintro e w' ⟨rfl, rfl⟩)
  go_quiet (fail)
  go_wp2
  go_ret
  exact ⟨rfl, _, rfl⟩
end Go.Proofs.Ytelobbigpgfobaa
