/-
  The walks of slices.Equal at bytes, and of the document's Same. Condition: the bytes can be read.
-/
import Derived.Test.YtbgahbeldnhloaaSupEnc2
namespace Go.Proofs.Ytbgahbeldnhloaa
open Go.RowKit Drum
set_option linter.unusedVariables false
theorem take_eq_all {l m : List (BitVec 8)} (hn : l.length = m.length) (h : ∀ i (h1 : i < l.length) (h2 : i < m.length), l[i] = m[i]) : l = m := List.ext_getElem hn fun i h1 h2 => h i h1 h2
set_option maxHeartbeats 1000000 in
theorem equal_len (A A' : Option Addr) (n c n' c' : Nat) (hne : n ≠ n') (hn : n ≤ maxLen) (hn' : n' ≤ maxLen) (w : World) :
    Calls Try.prog 35 #[.slice A n c, .slice A' n' c'] w fun e w' => e = .returned (.bool false) ∧ w = w' := by
  unfold maxLen at hn hn'
  go_enter Try.func35, Try.ntmps35
  go_wp2_with fail
  go_ret
  exact ⟨rfl, rfl⟩
set_option maxHeartbeats 2000000 in
theorem equal_same (A A' : Option Addr) (n c c' B B' : Nat) (l m : List (BitVec 8)) (w : World) (hl : n = l.length) (hm : n = m.length) (hn : n ≤ maxLen) (hr : Reads w B 1 A n (u8s l)) (hr' : Reads w B' 1 A' n (u8s m)) :
    Calls Try.prog 35 #[.slice A n c, .slice A' n c'] w fun e w' => e = .returned (.bool (decide (l = m))) ∧ (∃ q, w' = w.drewN q) := by
  unfold maxLen at hn
  have HR := Lib.hid hr
  have HR' := Lib.hid hr'
  have HL := Lib.hid hl
  have HM := Lib.hid hm
  clear hr hr' hl hm
  go_enter Try.func35, Try.ntmps35
  go_wp2_with fail
  go_loopg [13] n (fun q v13 wr => ∃ j : Nat, j + q = n ∧ v13 = .int .i64 j ∧ (∀ i (h1 : i < l.length) (h2 : i < m.length), i < j → l[i] = m[i]) ∧ (∃ q, wr = w.drewN q))
  case atStart => exact ⟨0, by omega, rfl, fun i _ _ h => by omega, 0, rfl⟩
  case round =>
    obtain ⟨j, hj, rfl, hs, q, rfl⟩ := hrel
    have HJ := Lib.hid hj
    have HS := Lib.hid hs
    have hj' : j ≤ n := by omega
    clear hj hs
    by_cases hlt : j < n
    · have hR := HR.out
      have hR' := HR'.out
      obtain ⟨ad, u, rfl, _, hx, hc⟩ := hR.at_ hlt
      obtain ⟨ad', u', rfl, _, hx', hc'⟩ := hR'.at_ hlt
      obtain ⟨hjl, rfl⟩ := u8s_at hx
      obtain ⟨hjm, rfl⟩ := u8s_at hx'
      clear hx hx' hR hR'
      by_cases he : l[j] = m[j]
      · have hb : (n8 l[j] != n8 m[j]) = false := by rw [he]; simp
        have HE := Lib.hid he
        clear he
        go_wp2_with fail
        go_region
        all_goals go_wp2_with fail
        all_goals go_roundg (gk - 1)
        case measure => have := HJ.out; omega
        case rel =>
          refine ⟨j + 1, by have := HJ.out; omega, by go_num, fun i h1 h2 hi => ?_, q + 1, rfl⟩
          by_cases e : i = j
          · subst e; exact HE.out
          · exact HS.out i h1 h2 (by omega)
      · have hb : (n8 l[j] != n8 m[j]) = true := by simp only [bne_iff_ne, ne_eq]; exact fun h => he (n8_eq.1 h)
        have HE : Hid (decide (l = m) = false) := decide_eq_false fun h => he (by subst h; rfl)
        clear he
        go_wp2_with fail
        go_region
        all_goals go_wp2_with fail
        all_goals go_ret
        exact ⟨by rw [HE.out]; rfl, q + 1, rfl⟩
    · have e8 : j = n := by omega
      subst e8
      have HE : Hid (decide (l = m) = true) := decide_eq_true (take_eq_all (by rw [← HL.out, ← HM.out]) (fun i h1 h2 => HS.out i h1 h2 (by have := HL.out; omega)))
      go_wp2_with fail
      go_ret
      exact ⟨by rw [HE.out]; rfl, q, rfl⟩
theorem equal_any (A A' : Option Addr) (n c n' c' B B' : Nat) (l m : List (BitVec 8)) (w : World) (hl : n = l.length) (hm : n' = m.length) (hn : n ≤ maxLen) (hn' : n' ≤ maxLen) (hr : Reads w B 1 A n (u8s l)) (hr' : Reads w B' 1 A' n' (u8s m)) :
    Calls Try.prog 35 #[.slice A n c, .slice A' n' c'] w fun e w' => e = .returned (.bool (decide (l = m))) ∧ (∃ q, w' = w.drewN q) := by
  by_cases h : n = n'
  · subst h
    exact equal_same A A' n c c' B B' l m w hl hm hn hr hr'
  · rw [decide_eq_false (p := l = m) (fun e => h (by rw [hl, hm, e]))]
    exact (equal_len A A' n c n' c' h hn hn' w).mono fun e w' ⟨h1, h2⟩ => ⟨h1, 0, h2.symm⟩
set_option maxHeartbeats 1000000 in
theorem same_len (A A' : Option Addr) (n c n' c' : Nat) (hne : n ≠ n') (hn : n ≤ maxLen) (hn' : n' ≤ maxLen) (w : World) :
    Calls Try.prog 16 #[.slice A n c, .slice A' n' c'] w fun e w' => e = .returned (.bool false) ∧ w = w' := by
  unfold maxLen at hn hn'
  go_enter Try.func16, Try.ntmps16
  go_wp2_with fail
  go_ret
  exact ⟨rfl, rfl⟩
set_option maxHeartbeats 2000000 in
theorem same_same (A A' : Option Addr) (n c c' B B' : Nat) (l m : List (BitVec 8)) (w : World) (hl : n = l.length) (hm : n = m.length) (hn : n ≤ maxLen) (hr : Reads w B 1 A n (u8s l)) (hr' : Reads w B' 1 A' n (u8s m)) :
    Calls Try.prog 16 #[.slice A n c, .slice A' n c'] w fun e w' => e = .returned (.bool (decide (l = m))) ∧ (∃ q, w' = w.drewN q) := by
  unfold maxLen at hn
  have HR := Lib.hid hr
  have HR' := Lib.hid hr'
  have HL := Lib.hid hl
  have HM := Lib.hid hm
  clear hr hr' hl hm
  go_enter Try.func16, Try.ntmps16
  go_wp2_with fail
  go_loopg [5] n (fun q v13 wr => ∃ j : Nat, j + q = n ∧ v13 = .int .i64 j ∧ (∀ i (h1 : i < l.length) (h2 : i < m.length), i < j → l[i] = m[i]) ∧ (∃ q, wr = w.drewN q))
  case atStart => exact ⟨0, by omega, rfl, fun i _ _ h => by omega, 0, rfl⟩
  case round =>
    obtain ⟨j, hj, rfl, hs, q, rfl⟩ := hrel
    have HJ := Lib.hid hj
    have HS := Lib.hid hs
    have hj' : j ≤ n := by omega
    clear hj hs
    by_cases hlt : j < n
    · have hR := HR.out
      have hR' := HR'.out
      obtain ⟨ad, u, rfl, _, hx, hc⟩ := hR.at_ hlt
      obtain ⟨ad', u', rfl, _, hx', hc'⟩ := hR'.at_ hlt
      obtain ⟨hjl, rfl⟩ := u8s_at hx
      obtain ⟨hjm, rfl⟩ := u8s_at hx'
      clear hx hx' hR hR'
      by_cases he : l[j] = m[j]
      · have hb : (n8 l[j] != n8 m[j]) = false := by rw [he]; simp
        have HE := Lib.hid he
        clear he
        go_wp2_with fail
        go_region
        all_goals go_wp2_with fail
        all_goals go_roundg (gk - 1)
        case measure => have := HJ.out; omega
        case rel =>
          refine ⟨j + 1, by have := HJ.out; omega, by go_num, fun i h1 h2 hi => ?_, q + 1, rfl⟩
          by_cases e : i = j
          · subst e; exact HE.out
          · exact HS.out i h1 h2 (by omega)
      · have hb : (n8 l[j] != n8 m[j]) = true := by simp only [bne_iff_ne, ne_eq]; exact fun h => he (n8_eq.1 h)
        have HE : Hid (decide (l = m) = false) := decide_eq_false fun h => he (by subst h; rfl)
        clear he
        go_wp2_with fail
        go_region
        all_goals go_wp2_with fail
        all_goals go_ret
        exact ⟨by rw [HE.out]; rfl, q + 1, rfl⟩
    · have e8 : j = n := by omega
      subst e8
      have HE : Hid (decide (l = m) = true) := decide_eq_true (take_eq_all (by rw [← HL.out, ← HM.out]) (fun i h1 h2 => HS.out i h1 h2 (by have := HL.out; omega)))
      go_wp2_with fail
      go_ret
      exact ⟨by rw [HE.out]; rfl, q, rfl⟩
theorem same_any (A A' : Option Addr) (n c n' c' B B' : Nat) (l m : List (BitVec 8)) (w : World) (hl : n = l.length) (hm : n' = m.length) (hn : n ≤ maxLen) (hn' : n' ≤ maxLen) (hr : Reads w B 1 A n (u8s l)) (hr' : Reads w B' 1 A' n' (u8s m)) :
    Calls Try.prog 16 #[.slice A n c, .slice A' n' c'] w fun e w' => e = .returned (.bool (decide (l = m))) ∧ (∃ q, w' = w.drewN q) := by
  by_cases h : n = n'
  · subst h
    exact same_same A A' n c c' B B' l m w hl hm hn hr hr'
  · rw [decide_eq_false (p := l = m) (fun e => h (by rw [hl, hm, e]))]
    exact (same_len A A' n c n' c' h hn hn' w).mono fun e w' ⟨h1, h2⟩ => ⟨h1, 0, h2.symm⟩
end Go.Proofs.Ytbgahbeldnhloaa
