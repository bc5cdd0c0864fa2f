/-
  The walks of the image's methods at errors, and at an image that is nil or was not made by New. No condition beside what each theorem names.
-/
import Derived.Test.YtelobbigpgfobaaImg4
namespace Go.Proofs.Ytelobbigpgfobaa
open Go.RowKit
set_option linter.unusedVariables false
/-- A value that holds bytes. -/
def Holds (w : World) (v : Value) (l : List (BitVec 8)) : Prop := ∃ A n c, v = .slice A n c ∧ n = l.length ∧ n ≤ c ∧ c ≤ maxLen ∧ Reads w w.heap.size 1 A n (u8s l)
theorem Holds.of_own {w : World} {base n : Nat} {e : TypeId} {v : Value} {l : List (BitVec 8)} (h : w.ownsRow base e 1 v n (u8s l)) : Holds w v l := by
  obtain ⟨A, c, rfl, h1, h2, h3⟩ := own_slice h
  have := h.1
  rw [u8s_length] at this
  exact ⟨A, n, c, rfl, by omega, h1, h2, h3⟩
theorem Holds.below {w w' : World} {v : Value} {l : List (BitVec 8)} (h : Holds w v l) (hb : Below w.heap.size w w') : Holds w' v l := by
  obtain ⟨A, n, c, rfl, h0, h1, h2, h3⟩ := h
  exact ⟨A, n, c, rfl, h0, h1, h2, (h3.below hb).more hb.size⟩
theorem Holds.chg {F : Nat → Prop} {w w' : World} {v : Value} {l : List (BitVec 8)} (h : Holds w v l) (hc : Chg F w w') (hF : ∀ k, v.ownBlock = some k → ¬ F k) : Holds w' v l := by
  obtain ⟨A, n, c, rfl, h0, h1, h2, h3⟩ := h
  refine ⟨A, n, c, rfl, h0, h1, h2, h3.1, fun hn => ?_⟩
  obtain ⟨ad, e, hb, hcell⟩ := h3.2 hn
  subst e
  refine ⟨ad, rfl, Nat.lt_of_lt_of_le hb hc.size, fun j u hu => ?_⟩
  rw [World.cell?_of_block (w := w)]
  · exact hcell j u hu
  · rw [block_of_add]; exact hc.block _ hb (hF _ rfl)
/-- Numbers that Read refuses. -/
def badRead (len : Nat) (off n : Int) : Prop := off < 0 ∨ (0 ≤ off ∧ n < 0) ∨ (0 ≤ off ∧ 0 ≤ n ∧ (len : Int) < n) ∨ (0 ≤ off ∧ 0 ≤ n ∧ n ≤ (len : Int) ∧ (len : Int) - n < off)
theorem bad_or (len : Nat) (off n : Int) : badRead len off n ∨ ∃ a b : Nat, off = a ∧ n = b ∧ a + b ≤ len := by
  by_cases h1 : off < 0
  · exact .inl (.inl h1)
  by_cases h2 : n < 0
  · exact .inl (.inr (.inl ⟨by omega, h2⟩))
  by_cases h3 : (len : Int) < n
  · exact .inl (.inr (.inr (.inl ⟨by omega, by omega, h3⟩)))
  by_cases h4 : (len : Int) - n < off
  · exact .inl (.inr (.inr (.inr ⟨by omega, by omega, by omega, h4⟩)))
  exact .inr ⟨off.toNat, n.toNat, by omega, by omega, by omega⟩
set_option maxHeartbeats 1000000 in
theorem read_img_bad {w : World} {g : Nat} {fb : Option Nat} {l : List (BitVec 8)} {size dur : Nat} (h : IsImg w g fb l size dur) (off n : Int) (hbad : badRead l.length off n) :
    Calls Try.prog 37 #[.pointer (some ⟨g, 0, none⟩), .int .i64 off, .int .i64 n] w fun e w' => e = .returned (.tuple #[.slice none 0 0, .int .i64 3]) ∧ w = w' := by
  obtain ⟨A, k, c, h, rfl⟩ := h
  have c0 : w.cell? ⟨g, 0, none⟩ = some (.slice A k c) := by rw [h.blk.cell]; rfl
  have H := Lib.hid h
  have hl := h.len
  have h2 := h.h2
  have h4 := h.h4
  clear h
  subst hl
  rcases hbad with h | ⟨h, h'⟩ | ⟨h, h', h''⟩ | ⟨h, h', h'', h3⟩
  · have d1 : decide (off < 0) = true := by simpa using h
    go_enter Try.func37, Try.ntmps37
    go_wp2_with (go_at_call 65; refine (made_img H.out).mono ?_; rintro e w' ⟨rfl, rfl⟩)
    go_ret2
    exact ⟨rfl, rfl⟩
  · have d1 : decide (off < 0) = false := by simp; omega
    have d2 : decide (n < 0) = true := by simpa using h'
    go_enter Try.func37, Try.ntmps37
    go_wp2_with (go_at_call 65; refine (made_img H.out).mono ?_; rintro e w' ⟨rfl, rfl⟩)
    go_ret2
    exact ⟨rfl, rfl⟩
  · have d1 : decide (off < 0) = false := by simp; omega
    have d2 : decide (n < 0) = false := by simp; omega
    have d3 : decide ((l.length : Int) < n) = true := by simpa using h''
    go_enter Try.func37, Try.ntmps37
    go_wp2_with (go_at_call 65; refine (made_img H.out).mono ?_; rintro e w' ⟨rfl, rfl⟩)
    go_ret2
    exact ⟨rfl, rfl⟩
  · have d1 : decide (off < 0) = false := by simp; omega
    have d2 : decide (n < 0) = false := by simp; omega
    have d3 : decide ((l.length : Int) < n) = false := by simp; omega
    have d4 : decide ((l.length : Int) - n < off) = true := by simpa using h3
    go_enter Try.func37, Try.ntmps37
    go_wp2_with (go_at_call 65; refine (made_img H.out).mono ?_; rintro e w' ⟨rfl, rfl⟩)
    go_ret2
    exact ⟨rfl, rfl⟩
/-! ### nil, and an image that was not made by New -/
def NoImg (w : World) (v : Value) : Prop := v = .pointer none ∨ ∃ g, v = .pointer (some ⟨g, 0, none⟩) ∧ w.cell? ⟨g, 1, none⟩ = some (.int .i64 0)
theorem made_no {w : World} {v : Value} (h : NoImg w v) :
    Calls Try.prog 65 #[v] w fun e w' => e = .returned (.bool false) ∧ w = w' := by
  rcases h with rfl | ⟨g, rfl, c1⟩
  · go_enter Try.func65, Try.ntmps65
    go_wp2
    go_ret
    exact ⟨rfl, rfl⟩
  · go_enter Try.func65, Try.ntmps65
    go_wp2
    go_ret
    exact ⟨rfl, rfl⟩
set_option maxHeartbeats 400000 in
theorem no_append {w : World} {v : Value} (h : NoImg w v) (A : Option Addr) (n c : Nat) :
    Calls Try.prog 43 #[v, .slice A n c] w fun e w' => e = .returned (.int .i64 1) ∧ w = w' := by
  have H := Lib.hid h
  clear h
  go_enter Try.func43, Try.ntmps43
  go_wp2_with (go_at_call 65; refine (made_no H.out).mono ?_; rintro e w' ⟨rfl, rfl⟩)
  go_ret
  exact ⟨rfl, rfl⟩
theorem no_sync {w : World} {v : Value} (h : NoImg w v) :
    Calls Try.prog 45 #[v] w fun e w' => e = .returned (.tuple #[]) ∧ w = w' := by
  have H := Lib.hid h
  clear h
  go_enter Try.func45, Try.ntmps45
  go_wp2_with (go_at_call 65; refine (made_no H.out).mono ?_; rintro e w' ⟨rfl, rfl⟩)
  go_end0
  exact ⟨rfl, rfl⟩
theorem no_erase {w : World} {v : Value} (h : NoImg w v) :
    Calls Try.prog 47 #[v] w fun e w' => e = .returned (.tuple #[]) ∧ w = w' := by
  have H := Lib.hid h
  clear h
  go_enter Try.func47, Try.ntmps47
  go_wp2_with (go_at_call 65; refine (made_no H.out).mono ?_; rintro e w' ⟨rfl, rfl⟩)
  go_end0
  exact ⟨rfl, rfl⟩
theorem no_crash {w : World} {v : Value} (h : NoImg w v) (k : Int) :
    Calls Try.prog 52 #[v, .int .i64 k] w fun e w' => e = .returned (.int .i64 1) ∧ w = w' := by
  have H := Lib.hid h
  clear h
  go_enter Try.func52, Try.ntmps52
  go_wp2_with (go_at_call 65; refine (made_no H.out).mono ?_; rintro e w' ⟨rfl, rfl⟩)
  go_ret
  exact ⟨rfl, rfl⟩
set_option maxHeartbeats 400000 in
theorem no_read {w : World} {v : Value} (h : NoImg w v) (off n : Int) :
    Calls Try.prog 37 #[v, .int .i64 off, .int .i64 n] w fun e w' => e = .returned (.tuple #[.slice none 0 0, .int .i64 1]) ∧ w = w' := by
  have H := Lib.hid h
  clear h
  go_enter Try.func37, Try.ntmps37
  go_wp2_with (go_at_call 65; refine (made_no H.out).mono ?_; rintro e w' ⟨rfl, rfl⟩)
  go_ret2
  exact ⟨rfl, rfl⟩
theorem no_len {w : World} {v : Value} (h : NoImg w v) :
    Calls Try.prog 39 #[v] w fun e w' => e = .returned (.int .i64 0) ∧ w = w' := by
  have H := Lib.hid h
  clear h
  go_enter Try.func39, Try.ntmps39
  go_wp2_with (go_at_call 65; refine (made_no H.out).mono ?_; rintro e w' ⟨rfl, rfl⟩)
  go_ret
  exact ⟨rfl, rfl⟩
theorem no_durable {w : World} {v : Value} (h : NoImg w v) :
    Calls Try.prog 40 #[v] w fun e w' => e = .returned (.int .i64 0) ∧ w = w' := by
  have H := Lib.hid h
  clear h
  go_enter Try.func40, Try.ntmps40
  go_wp2_with (go_at_call 65; refine (made_no H.out).mono ?_; rintro e w' ⟨rfl, rfl⟩)
  go_ret
  exact ⟨rfl, rfl⟩
theorem no_room {w : World} {v : Value} (h : NoImg w v) :
    Calls Try.prog 41 #[v] w fun e w' => e = .returned (.int .i64 0) ∧ w = w' := by
  have H := Lib.hid h
  clear h
  go_enter Try.func41, Try.ntmps41
  go_wp2_with (go_at_call 65; refine (made_no H.out).mono ?_; rintro e w' ⟨rfl, rfl⟩)
  go_ret
  exact ⟨rfl, rfl⟩
theorem no_copy {w : World} {v : Value} (h : NoImg w v) :
    Calls Try.prog 56 #[v] w fun e w' => e = .returned (.pointer none) ∧ w = w' := by
  have H := Lib.hid h
  clear h
  go_enter Try.func56, Try.ntmps56
  go_wp2_with (go_at_call 65; refine (made_no H.out).mono ?_; rintro e w' ⟨rfl, rfl⟩)
  go_ret
  exact ⟨rfl, rfl⟩
end Go.Proofs.Ytelobbigpgfobaa
