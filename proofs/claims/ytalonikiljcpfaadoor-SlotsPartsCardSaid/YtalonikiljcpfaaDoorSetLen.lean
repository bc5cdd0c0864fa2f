/-
  A set's Len: how many slots it has. Conditions: the set is as New makes it, and no bit behind its size is set.
-/
import Derived.Test.YtalonikiljcpfaaDoorSetPop
import Derived.Test.YtalonikiljcpfaaDoorSetSame
import Derived.Laws.Bits128
namespace Go.Proofs.YtalonikiljcpfaaDoor
open Go.RowKit Go.Shelf
set_option linter.unusedVariables false
theorem wrap64_mod128 (v : Int) : wrap64 v % 128 = v % 128 := by unfold wrap64; omega
set_option maxRecDepth 100000 in
set_option maxHeartbeats 4000000 in
theorem ones_count (x : Nat) (hx : x < 18446744073709551616) (w : World) :
    Calls Tryd.prog 59 #[.int .u64 (x : Int)] w fun e w' => e = .returned (.int .i64 ((((List.range 64).filter fun i => x.testBit i).length : Nat) : Int)) ∧ w = w' := by
  obtain ⟨y1, y2, y3, z, u, h1, l1, h2, l2, l3, h3, l4, h4, l5, h5, l6, l7, h7⟩ := pop_steps x hx
  obtain ⟨n, hn⟩ : ∃ n, n = ((List.range 64).filter fun i => x.testBit i).length := ⟨_, rfl⟩
  rw [← hn] at h7 ⊢
  have a1 : bits .and .u64 ((x : Int) / 2) 6148914691236517205 = (((x / 2) &&& 6148914691236517205 : Nat) : Int) := by
    have := u64_and_nat (x / 2) 6148914691236517205 (by omega) (by decide)
    simpa using this
  have a2 : bits .and .u64 (x : Int) 6148914691236517205 = ((x &&& 6148914691236517205 : Nat) : Int) := by
    have := u64_and_nat x 6148914691236517205 hx (by decide)
    simpa using this
  have wr : ∀ k : Nat, k < 18446744073709551616 → IntKind.u64.wrap (k : Int) = (k : Int) := fun k hk => by
    rw [IntKind.wrap_u64]; omega
  have a3 : IntKind.u64.wrap (((x / 2 &&& 6148914691236517205 : Nat) : Int) + ((x &&& 6148914691236517205 : Nat) : Int)) = (y1 : Int) := by
    rw [h1, ← Int.natCast_add]; rw [h1] at l1; exact wr _ l1
  have b1 : bits .and .u64 ((y1 : Int) / 4) 3689348814741910323 = (((y1 / 4) &&& 3689348814741910323 : Nat) : Int) := by
    have := u64_and_nat (y1 / 4) 3689348814741910323 (by omega) (by decide)
    simpa using this
  have b2 : bits .and .u64 (y1 : Int) 3689348814741910323 = ((y1 &&& 3689348814741910323 : Nat) : Int) := by
    have := u64_and_nat y1 3689348814741910323 l1 (by decide)
    simpa using this
  have b3 : IntKind.u64.wrap (((y1 / 4 &&& 3689348814741910323 : Nat) : Int) + ((y1 &&& 3689348814741910323 : Nat) : Int)) = (y2 : Int) := by
    rw [h2, ← Int.natCast_add]; rw [h2] at l2; exact wr _ l2
  obtain ⟨s3, hs3⟩ : ∃ s, s = y2 / 16 + y2 := ⟨_, rfl⟩
  rw [← hs3] at l3 h3
  have c1 : IntKind.u64.wrap ((y2 : Int) / 16 + (y2 : Int)) = (s3 : Int) := by
    have := wr s3 l3
    rw [hs3] at this ⊢
    simpa using this
  have c2 : bits .and .u64 (s3 : Int) 1085102592571150095 = (y3 : Int) := by
    have := u64_and_nat s3 1085102592571150095 l3 (by decide)
    rw [← h3] at this
    simpa using this
  have d1 : IntKind.u64.wrap ((y3 : Int) + (y3 : Int) / 256) = (z : Int) := by
    have := wr z l5
    rw [h4] at this ⊢
    simpa using this
  have d2 : IntKind.u64.wrap ((z : Int) + (z : Int) / 65536) = (u : Int) := by
    have := wr u l6
    rw [h5] at this ⊢
    simpa using this
  obtain ⟨v, hv⟩ : ∃ v, v = u + u / 4294967296 := ⟨_, rfl⟩
  rw [← hv] at l7 h7
  have d3 : IntKind.u64.wrap ((u : Int) + (u : Int) / 4294967296) = (v : Int) := by
    have := wr v l7
    rw [hv] at this ⊢
    simpa using this
  have d4 : bits .and .i64 (wrap64 (v : Int)) 127 = (n : Int) := by
    rw [i64_and127]
    have : (v : Int) % 128 = (n : Int) := by omega
    rw [← this]
    exact wrap64_mod128 _
  clear h1 h2 h3 h4 h5 hs3 hv h7 hn wr
  go_enter Tryd.func59, Tryd.ntmps59
  go_wp2_with fail
  go_ret
  exact ⟨rfl, rfl⟩
theorem testBit_w (b : W64) (i : Nat) : b.toNat.testBit i = b.getLsbD i := rfl
theorem elems_ext (b : W64) {k m : Nat} (h : k ≤ m) (hz : ∀ i, k ≤ i → b.getLsbD i = false) : elems b m = elems b k := by
  induction m with
  | zero =>
    have e : k = 0 := Nat.le_zero.1 h
    rw [e]
  | succ m ih =>
    by_cases e : k = m + 1
    · rw [e]
    · rw [elems_succ, hz m (by omega), ih (by omega)]
      rfl
set_option maxHeartbeats 400000 in
theorem len_says : LenSays := by
  intro w g size b h hs hs34 hz
  have q1 : w.cell? ⟨g, 1, none⟩ = some (.int .u64 (n64 b)) := h.cell 1
  have H := Lib.hid h
  have hc := fun w => ones_count b.toNat b.isLt w
  have e : ((List.range 64).filter fun i => b.toNat.testBit i) = elems b size := (elems_ext b (by omega) hz)
  rw [e] at hc
  have hn : (b.toNat : Int) = n64 b := by unfold n64; rfl
  rw [hn] at hc
  have HC := Lib.hid hc
  clear hc h e hn hz
  go_enter Tryd.func39, Tryd.ntmps39
  go_wp2_with (first
    | (go_at_call 58; refine (valid_set H.out hs).mono ?_; rintro e w' ⟨rfl, rfl⟩)
    | (go_at_call 59; refine (HC.out _).mono ?_; rintro e w' ⟨rfl, rfl⟩))
  go_ret
  exact ⟨rfl, rfl⟩
end Go.Proofs.YtalonikiljcpfaaDoor
