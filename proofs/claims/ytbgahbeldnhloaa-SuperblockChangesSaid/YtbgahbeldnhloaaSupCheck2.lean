/-
  The walks of superblock.Check, and of the document's checks. Condition: the numbers are ints.
-/
import Derived.Test.YtbgahbeldnhloaaSupCheck
namespace Go.Proofs.Ytbgahbeldnhloaa
open Go.RowKit Drum
set_option linter.unusedVariables false
/-- A superblock's cells. -/
def bkv (b : Bk) : Array Value := #[.int .i64 b.epoch, .int .i64 b.conf.slots, .int .i64 b.conf.size, .int .i64 b.conf.reserve, .int .i64 b.conf.work, .int .i64 b.conf.key, .int .i64 b.conf.value, .int .i64 b.conf.policy]
def okN (p : Prop) [Decidable p] : Int := if p then 0 else 2
theorem okN_yes {p : Prop} [Decidable p] (h : p) : okN p = 0 := if_pos h
theorem okN_no {p : Prop} [Decidable p] (h : ¬ p) : okN p = 2 := if_neg h
theorem cfCheck_ok (c : Cf) (hc : c.wf) (w : World) : Calls Try.prog 23 #[.agg (cfv c)] w fun e w' => e = .returned (.int .i64 (okN c.ok)) ∧ Below w.heap.size w w' := cfCheck_any c hc w
set_option maxHeartbeats 1000000 in
theorem check_any (b : Bk) (hb : b.wf) (w : World) :
    Calls Try.prog 14 #[.agg (bkv b)] w fun e w' => e = .returned (.int .i64 (okN b.ok)) ∧ Below w.heap.size w w' := by
  have HC := Lib.hid (fun W => cfCheck_ok b.conf hb.2 W)
  clear hb
  unfold cfv at HC
  unfold bkv
  by_cases h1 : b.epoch < 1
  · have HE : Hid (okN b.ok = 2) := okN_no (fun h => by have := h.1.1; omega)
    clear HC
    go_enter Try.func14, Try.ntmps14
    go_wp2_with fail
    go_ret
    exact ⟨by rw [HE.out]; rfl, by go_grown⟩
  · by_cases h2 : 1099511627776 < b.epoch
    · have HE : Hid (okN b.ok = 2) := okN_no (fun h => by have := h.1.2; omega)
      clear HC
      go_enter Try.func14, Try.ntmps14
      go_wp2_with fail
      go_ret
      exact ⟨by rw [HE.out]; rfl, by go_grown⟩
    · by_cases h3 : b.conf.ok
      · have HE : Hid (okN b.ok = 0) := okN_yes ⟨by omega, h3⟩
        have HC' := HC.out
        rw [okN_yes h3] at HC'
        have HC2 := Lib.hid HC'
        clear HC HC' h3
        go_enter Try.func14, Try.ntmps14
        go_wp2_with fail
        refine (HC2.out _).mono ?_
        rintro e w1 ⟨rfl, hb1⟩
        have HB := Lib.hid (bt (ba (Below.refl w.heap.size w) _) hb1)
        clear hb1
        go_wp2_with fail
        go_ret
        exact ⟨by rw [HE.out]; rfl, HB.out⟩
      · have HE : Hid (okN b.ok = 2) := okN_no (fun h => h3 h.2)
        have HC' := HC.out
        rw [okN_no h3] at HC'
        have HC2 := Lib.hid HC'
        clear HC HC' h3
        go_enter Try.func14, Try.ntmps14
        go_wp2_with fail
        refine (HC2.out _).mono ?_
        rintro e w1 ⟨rfl, hb1⟩
        have HB := Lib.hid (bt (ba (Below.refl w.heap.size w) _) hb1)
        clear hb1
        go_wp2_with fail
        go_ret
        exact ⟨by rw [HE.out]; rfl, HB.out⟩
set_option maxHeartbeats 400000 in
theorem in_yes (n lo hi : Int) (h : lo ≤ n ∧ n ≤ hi) (w : World) :
    Calls Try.prog 44 #[.int .i64 n, .int .i64 lo, .int .i64 hi] w fun e w' => e = .returned (.bool true) ∧ w = w' := by
  obtain ⟨h1, h2⟩ := h
  go_enter Try.func44, Try.ntmps44
  go_wp2_with fail
  go_ret
  exact ⟨rfl, rfl⟩
set_option maxHeartbeats 400000 in
theorem in_no (n lo hi : Int) (h : ¬ (lo ≤ n ∧ n ≤ hi)) (w : World) :
    Calls Try.prog 44 #[.int .i64 n, .int .i64 lo, .int .i64 hi] w fun e w' => e = .returned (.bool false) ∧ w = w' := by
  by_cases h1 : n < lo
  · go_enter Try.func44, Try.ntmps44
    go_wp2_with fail
    go_ret
    exact ⟨rfl, rfl⟩
  · have h2 : hi < n := by omega
    have hd : decide (n ≤ hi) = false := by simp; omega
    clear h
    go_enter Try.func44, Try.ntmps44
    go_wp2_with fail
    go_ret
    exact ⟨by first | rfl | (rw [← hd]; rfl), rfl⟩
theorem in_any (n lo hi : Int) (w : World) :
    Calls Try.prog 44 #[.int .i64 n, .int .i64 lo, .int .i64 hi] w fun e w' => e = .returned (.bool (decide (lo ≤ n ∧ n ≤ hi))) ∧ w = w' := by
  by_cases h : lo ≤ n ∧ n ≤ hi
  · rw [decide_eq_true h]; exact in_yes n lo hi h w
  · rw [decide_eq_false h]; exact in_no n lo hi h w
set_option maxHeartbeats 4000000 in
theorem refCfCheck_any (c : Cf) (hc : c.wf) (w : World) :
    Calls Try.prog 30 #[.agg (cfv c)] w fun e w' => e = .returned (.int .i64 (okN c.ok)) ∧ Below w.heap.size w w' := by
  have hb : -9223372036854775808 ≤ c.reserve ∧ c.reserve ≤ 9223372036854775807 := hc _ (by simp [Cf.nums])
  clear hc
  unfold cfv
  by_cases h0 : 2 ≤ c.reserve ∧ c.reserve ≤ 8
  · by_cases h1 : c.reserve + 2 ≤ c.slots ∧ c.slots ≤ 32
    · by_cases h2 : 1 ≤ c.key ∧ c.key ≤ 32
      · by_cases h3 : 0 ≤ c.value ∧ c.value ≤ 512
        · by_cases h4 : 32 + c.key + c.value ≤ c.size ∧ c.size ≤ 8192
          · by_cases h5 : 2 * (32 + c.key + c.value) ≤ c.work ∧ c.work ≤ 65536
            · by_cases h6 : 1 ≤ c.policy ∧ c.policy ≤ 2
              · have HE : Hid (okN c.ok = 0) := okN_yes ⟨h0, h1, h2, h3, h4, h5, h6⟩
                go_enter Try.func30, Try.ntmps30
                go_wp2_with (go_at_call 44; first | (refine (in_yes _ _ _ (by omega) _).mono ?_; rintro e w1 ⟨rfl, rfl⟩) | (refine (in_no _ _ _ (by omega) _).mono ?_; rintro e w1 ⟨rfl, rfl⟩))
                go_ret
                exact ⟨by rw [HE.out]; rfl, by go_grown⟩
              · have HE : Hid (okN c.ok = 2) := okN_no (fun h => h6 h.2.2.2.2.2.2)
                go_enter Try.func30, Try.ntmps30
                go_wp2_with (go_at_call 44; first | (refine (in_yes _ _ _ (by omega) _).mono ?_; rintro e w1 ⟨rfl, rfl⟩) | (refine (in_no _ _ _ (by omega) _).mono ?_; rintro e w1 ⟨rfl, rfl⟩))
                go_ret
                exact ⟨by rw [HE.out]; rfl, by go_grown⟩
            · have HE : Hid (okN c.ok = 2) := okN_no (fun h => h5 h.2.2.2.2.2.1)
              go_enter Try.func30, Try.ntmps30
              go_wp2_with (go_at_call 44; first | (refine (in_yes _ _ _ (by omega) _).mono ?_; rintro e w1 ⟨rfl, rfl⟩) | (refine (in_no _ _ _ (by omega) _).mono ?_; rintro e w1 ⟨rfl, rfl⟩))
              go_ret
              exact ⟨by rw [HE.out]; rfl, by go_grown⟩
          · have HE : Hid (okN c.ok = 2) := okN_no (fun h => h4 h.2.2.2.2.1)
            go_enter Try.func30, Try.ntmps30
            go_wp2_with (go_at_call 44; first | (refine (in_yes _ _ _ (by omega) _).mono ?_; rintro e w1 ⟨rfl, rfl⟩) | (refine (in_no _ _ _ (by omega) _).mono ?_; rintro e w1 ⟨rfl, rfl⟩))
            go_ret
            exact ⟨by rw [HE.out]; rfl, by go_grown⟩
        · have HE : Hid (okN c.ok = 2) := okN_no (fun h => h3 h.2.2.2.1)
          go_enter Try.func30, Try.ntmps30
          go_wp2_with (go_at_call 44; first | (refine (in_yes _ _ _ (by omega) _).mono ?_; rintro e w1 ⟨rfl, rfl⟩) | (refine (in_no _ _ _ (by omega) _).mono ?_; rintro e w1 ⟨rfl, rfl⟩))
          go_ret
          exact ⟨by rw [HE.out]; rfl, by go_grown⟩
      · have HE : Hid (okN c.ok = 2) := okN_no (fun h => h2 h.2.2.1)
        go_enter Try.func30, Try.ntmps30
        go_wp2_with (go_at_call 44; first | (refine (in_yes _ _ _ (by omega) _).mono ?_; rintro e w1 ⟨rfl, rfl⟩) | (refine (in_no _ _ _ (by omega) _).mono ?_; rintro e w1 ⟨rfl, rfl⟩))
        go_ret
        exact ⟨by rw [HE.out]; rfl, by go_grown⟩
    · have HE : Hid (okN c.ok = 2) := okN_no (fun h => h1 h.2.1)
      go_enter Try.func30, Try.ntmps30
      go_wp2_with (go_at_call 44; first | (refine (in_yes _ _ _ (by omega) _).mono ?_; rintro e w1 ⟨rfl, rfl⟩) | (refine (in_no _ _ _ (by omega) _).mono ?_; rintro e w1 ⟨rfl, rfl⟩))
      go_ret
      exact ⟨by rw [HE.out]; rfl, by go_grown⟩
  · have HE : Hid (okN c.ok = 2) := okN_no (fun h => h0 h.1)
    go_enter Try.func30, Try.ntmps30
    go_wp2_with (go_at_call 44; first | (refine (in_yes _ _ _ (by omega) _).mono ?_; rintro e w1 ⟨rfl, rfl⟩) | (refine (in_no _ _ _ (by omega) _).mono ?_; rintro e w1 ⟨rfl, rfl⟩))
    go_ret
    exact ⟨by rw [HE.out]; rfl, by go_grown⟩
set_option maxHeartbeats 1000000 in
theorem refCheck_any (b : Bk) (hb : b.wf) (w : World) :
    Calls Try.prog 15 #[.agg (bkv b)] w fun e w' => e = .returned (.int .i64 (okN b.ok)) ∧ Below w.heap.size w w' := by
  have HC := Lib.hid (fun W => refCfCheck_any b.conf hb.2 W)
  clear hb
  unfold cfv at HC
  unfold bkv
  by_cases h1 : b.epoch < 1
  · have HE : Hid (okN b.ok = 2) := okN_no (fun h => by have := h.1.1; omega)
    clear HC
    go_enter Try.func15, Try.ntmps15
    go_wp2_with fail
    go_ret
    exact ⟨by rw [HE.out]; rfl, by go_grown⟩
  · by_cases h2 : 1099511627776 < b.epoch
    · have HE : Hid (okN b.ok = 2) := okN_no (fun h => by have := h.1.2; omega)
      clear HC
      go_enter Try.func15, Try.ntmps15
      go_wp2_with fail
      go_ret
      exact ⟨by rw [HE.out]; rfl, by go_grown⟩
    · by_cases h3 : b.conf.ok
      · have HE : Hid (okN b.ok = 0) := okN_yes ⟨by omega, h3⟩
        have HC' := HC.out
        rw [okN_yes h3] at HC'
        have HC2 := Lib.hid HC'
        clear HC HC' h3
        go_enter Try.func15, Try.ntmps15
        go_wp2_with fail
        refine (HC2.out _).mono ?_
        rintro e w1 ⟨rfl, hb1⟩
        have HB := Lib.hid (bt (ba (Below.refl w.heap.size w) _) hb1)
        clear hb1
        go_wp2_with fail
        go_ret
        exact ⟨by rw [HE.out]; rfl, HB.out⟩
      · have HE : Hid (okN b.ok = 2) := okN_no (fun h => h3 h.2)
        have HC' := HC.out
        rw [okN_no h3] at HC'
        have HC2 := Lib.hid HC'
        clear HC HC' h3
        go_enter Try.func15, Try.ntmps15
        go_wp2_with fail
        refine (HC2.out _).mono ?_
        rintro e w1 ⟨rfl, hb1⟩
        have HB := Lib.hid (bt (ba (Below.refl w.heap.size w) _) hb1)
        clear hb1
        go_wp2_with fail
        go_ret
        exact ⟨by rw [HE.out]; rfl, HB.out⟩
end Go.Proofs.Ytbgahbeldnhloaa
