/-
  The walks of the checksum's leaf functions, of the reference and of the program: step, Feed, Update. No condition beside the lengths that every row bears.
-/
import Derived.Test.YtbgahbeldnhloaaProg
import Derived.Test.YtbgahbeldnhloaaCrcBits
namespace Go.Proofs.Ytbgahbeldnhloaa
open Go.RowKit Drum
set_option linter.unusedVariables false

theorem step_hi {x : W32} (h : x &&& 1#32 = 1#32) : (bits .and .u32 (n32 x) 1 == 1) = true ∧ Hid (cstep x = (x >>> 1) ^^^ cpoly) :=
  ⟨by rw [odd_u32, h]; rfl, by unfold Hid cstep; rw [if_pos h]⟩
theorem step_lo {x : W32} (h : ¬ x &&& 1#32 = 1#32) : (bits .and .u32 (n32 x) 1 == 1) = false ∧ Hid (n32 (cstep x) = n32 x / (2 : Int)) :=
  ⟨by rw [odd_u32]; simpa using h, by unfold Hid cstep; rw [if_neg h, shr1_u32]⟩
set_option maxHeartbeats 400000 in
theorem step_any (x : W32) (w : World) :
    Calls Try.prog 48 #[.int .u32 (n32 x)] w fun e w' => e = .returned (.int .u32 (n32 (cstep x))) ∧ w = w' := by
  by_cases h : x &&& 1#32 = 1#32
  · obtain ⟨hb, H⟩ := step_hi h
    clear h
    go_enter Try.func48, Try.ntmps48
    go_wp2
    go_ret
    exact ⟨by rw [H.out]; rfl, rfl⟩
  · obtain ⟨hb, H⟩ := step_lo h
    clear h
    go_enter Try.func48, Try.ntmps48
    go_wp2
    go_ret
    exact ⟨by rw [H.out]; rfl, rfl⟩

set_option maxHeartbeats 400000 in
theorem feed_any (x : W32) (b : BitVec 8) (w : World) :
    Calls Try.prog 47 #[.int .u32 (n32 x), .int .u8 (n8 b)] w fun e w' => e = .returned (.int .u32 (n32 (cfeed x b))) ∧ w = w' := by
  obtain ⟨hb1, hb2⟩ := n8_bd b
  go_enter Try.func47, Try.ntmps47
  go_wp2
  go_loopg [0, 5] 8 (fun k v0 v5 wr => ∃ j : Nat, j + k = 8 ∧ v5 = .int .i64 j ∧ v0 = .int .u32 (n32 (it cstep j (x ^^^ wide b))) ∧ w = wr)
  case atStart => exact ⟨0, rfl, rfl, rfl, rfl⟩
  case round =>
    obtain ⟨j, hj, rfl, rfl, rfl⟩ := hrel
    have hj' : j ≤ 8 := by omega
    by_cases hlt : j < 8
    · have HJ := Lib.hid hj
      clear hj
      go_wp2_with (go_at_call 48; refine (step_any _ _).mono ?_; rintro e w' ⟨rfl, rfl⟩)
      go_roundg (gk - 1)
      case measure => have := HJ.out; omega
      case rel => exact ⟨j + 1, by have := HJ.out; omega, by go_num, u32_eq (by rw [it_succ']), rfl⟩
    · have e8 : j = 8 := by omega
      subst e8
      go_wp2
      go_ret
      exact ⟨rfl, rfl⟩

set_option maxHeartbeats 400000 in
theorem refUpdate_any (s : W32) (A : Option Addr) (n c B : Nat) (l : List (BitVec 8)) (w : World) (hr : Reads w B 1 A n (u8s l)) (hn : n = l.length) (hm : n ≤ maxLen) :
    Calls Try.prog 43 #[.int .u32 (n32 s), .slice A n c] w fun e w' => e = .returned (.int .u32 (n32 (cupd s l))) ∧ w = w' := by
  unfold maxLen at hm
  have HN := Lib.hid hn
  have HR := Lib.hid hr
  have hnl : n ≤ l.length := by omega
  clear hn hr
  go_enter Try.func43, Try.ntmps43
  go_wp2
  go_loopg [5, 6] n (fun k v5 v6 wr => ∃ j : Nat, j + k = n ∧ v6 = .int .i64 j ∧ v5 = .int .u32 (n32 (craw (s ^^^ 0xFFFFFFFF#32) (l.take j))) ∧ w = wr)
  case atStart => exact ⟨0, by omega, rfl, rfl, rfl⟩
  case round =>
    obtain ⟨j, hj, rfl, rfl, rfl⟩ := hrel
    have hj' : j ≤ n := by omega
    have HJ := Lib.hid hj
    clear hj
    by_cases hlt : j < n
    · have hjl : j < l.length := by omega
      obtain ⟨ad, u, rfl, _, hx, hc⟩ := HR.out.at_ hlt
      obtain ⟨_, rfl⟩ := u8s_at hx
      have HT := Lib.hid (take_snoc l j hjl)
      clear hx
      go_wp2_with (go_at_call 47; refine (feed_any _ _ _).mono ?_; rintro e w' ⟨rfl, rfl⟩)
      go_roundg (gk - 1)
      case measure => have := HJ.out; omega
      case rel => exact ⟨j + 1, by have := HJ.out; omega, by go_num, u32_eq (by rw [HT.out, craw_append]; rfl), rfl⟩
    · have hjn : j = n := by omega
      subst hjn
      go_wp2
      go_ret
      exact ⟨by rw [HN.out, List.take_length]; rfl, rfl⟩
end Go.Proofs.Ytbgahbeldnhloaa
